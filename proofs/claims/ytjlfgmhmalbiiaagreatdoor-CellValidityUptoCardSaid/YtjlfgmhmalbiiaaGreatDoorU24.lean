import Derived.Test.YtjlfgmhmalbiiaaGreatDoorU23
set_option linter.all false
namespace Geo
def lowB (g:H) (vs:List V):Bool:=vs.any fun v=>decide (g.at v<0)
def cutSides (g:H) (c:List Sd):List Sd:=c.filterMap fun s=>if lowB g s.vs then some ⟨s.h,part g s.vs⟩else none
def HE (g:H) (c:List Sd):List (V × V):=(E (cutSides g c)).filter fun e=>!off g e
theorem lowB_iff {g:H} {vs:List V}:lowB g vs=true↔∃ v∈vs,g.at v<0:=by simp[lowB]
theorem mem_cut {g:H} {c:List Sd} {t:Sd}:t∈cutSides g c↔∃ s∈c,lowB g s.vs=true∧t=⟨s.h,part g s.vs⟩:=by
 unfold cutSides
 rw[List.mem_filterMap]
 constructor
 ·rintro ⟨s,hs,e⟩
  split at e
  ·exact ⟨s,hs,by assumption,by simpa using e.symm⟩
  ·simp at e
 ·rintro ⟨s,hs,h,rfl⟩
  exact ⟨s,hs,by simp[h]⟩
theorem trim_sw (g:H) (e:V × V):trim g (sw e)=(trim g e).map sw:=by
 unfold trim sw
 simp only
 by_cases h1:g.at e.1≤0∧g.at e.2≤0
 ·rw[if_pos h1,if_pos h1.symm]
  by_cases h2:g.at e.1=0∧g.at e.2=0
  ·rw[if_pos h2,if_pos h2.symm];rfl
  ·rw[if_neg h2,if_neg (fun h=>h2 h.symm)];rfl
 ·rw[if_neg h1,if_neg (fun h=>h1 h.symm)]
  by_cases h2:g.at e.1<0
  ·have h3:¬ g.at e.2<0:=by grind
   rw[if_pos h2,if_neg h3,if_pos h2,X_symm (by grind)];rfl
  ·by_cases h3:g.at e.2<0
   ·rw[if_pos h3,if_neg h2,if_pos h3,X_symm (by grind)];rfl
   ·rw[if_neg h2,if_neg h3,if_neg h3,if_neg h2];rfl
theorem trim_ori {g:H} {e0 e:V × V} (h:trim g e0=some e) (n:V):∃ k:Rat,0<k∧∀ p,ori n e.1 e.2 p=k*ori n e0.1 e0.2 p:=by
 unfold trim at h
 split at h
 ·split at h
  ·simp at h
  ·simp at h;subst h;exact ⟨1,by grind,fun p=>by grind⟩
 ·rename_i h1
  split at h
  ·rename_i h2
   simp at h;subst h
   obtain ⟨t,_,_,t2,_,te⟩:=X_w (g:=g) (a:=e0.1) (b:=e0.2) (Rat.le_of_lt h2) (by grind)
   exact ⟨t,t2 h2,fun p=>by simp only;rw[te,ori_sub_snd]⟩
  ·split at h
   ·rename_i h2 h3
    simp at h;subst h
    have hp:0<g.at e0.1:=by
     have:¬ g.at e0.1≤0:=fun h=>h1 ⟨h,Rat.le_of_lt h3⟩
     grind
    obtain ⟨t,_,t1,t2,_,te⟩:=X_w (g:=g) (a:=e0.2) (b:=e0.1) (Rat.le_of_lt h3) hp
    refine ⟨t,t2 h3,fun p=>?_⟩
    simp only
    rw[← X_symm (g:=g) (a:=e0.1) (b:=e0.2) (by grind),te,← lerp_flip,ori_sub_fst]
    grind
   ·simp at h
namespace Cell
variable {c:List Sd} {g:H}
theorem part_of (C:Cell c) {t:Sd} (ht:t∈cutSides g c):∃ s∈c,t.h=s.h∧PartOk s.h g s.vs t.vs:=by
 obtain ⟨s,hs,hl,rfl⟩:=mem_cut.1 ht
 exact ⟨s,hs,rfl,part_ok (C.pv s hs) (C.pl s hs) (lowB_iff.1 hl)⟩
theorem off_perm (C:Cell c):((E (cutSides g c)).filter (off g)).Perm ((E c).filterMap (trim g)):=by
 have key:∀ l:List Sd,(∀ s∈l,PV s.h.n s.vs∧∀ v∈s.vs,s.h.at v=0)→((E (cutSides g l)).filter (off g)).Perm ((E l).filterMap (trim g)):=by
  intro l
  induction l with
  | nil=>intro _;exact List.Perm.refl _
  | cons s l ih =>
   intro h
   have ih:=ih fun s hs=>h s (by simp[hs])
   obtain ⟨pv,pl⟩:=h s (by simp)
   have e1:E (s::l)=edges s.vs++E l:=rfl
   rw[e1,List.filterMap_append]
   by_cases hl:lowB g s.vs=true
   ·have e2:cutSides g (s::l)=⟨s.h,part g s.vs⟩::cutSides g l:=by simp[cutSides,hl]
    have e3:E (cutSides g (s::l))=edges (part g s.vs)++E (cutSides g l):=by rw[e2];rfl
    rw[e3,List.filter_append]
    exact ((part_ok pv pl (lowB_iff.1 hl)).off).append ih
   ·have e2:cutSides g (s::l)=cutSides g l:=by simp[cutSides,hl]
    rw[e2]
    have e4:(edges s.vs).filterMap (trim g)=[]:=by
     rw[List.filterMap_eq_nil_iff]
     intro e he
     have hno:∀ v∈s.vs,0≤g.at v:=fun v hv=>by
      apply Rat.not_lt.1
      intro hlt
      exact hl (lowB_iff.2 ⟨v,hv,hlt⟩)
     have a1:=hno _ (mem_fst he)
     have a2:=hno _ (mem_snd he)
     unfold trim
     by_cases h1:g.at e.1≤0∧g.at e.2≤0
     ·rw[if_pos h1,if_pos (by grind)]
     ·rw[if_neg h1,if_neg (by grind),if_neg (by grind)]
    rw[e4];exact ih
 exact key c fun s hs=>⟨C.pv s hs,C.pl s hs⟩
theorem trim_closed (C:Cell c):((E c).filterMap (trim g)).Perm (((E c).filterMap (trim g)).map sw):=by
 have h:=C.cl.filterMap (trim g)
 rw[List.filterMap_map]at h
 rw[List.map_filterMap]
 refine h.trans ?_
 have:(trim g∘sw)=fun e=>(trim g e).map sw:=by funext e;exact trim_sw g e
 rw[this]
theorem off_closed (C:Cell c):((E (cutSides g c)).filter (off g)).Perm (((E (cutSides g c)).filter (off g)).map sw) :=
 (C.off_perm.trans C.trim_closed).trans (C.off_perm.map sw).symm
theorem cut_pv (C:Cell c) {t:Sd} (ht:t∈cutSides g c):PV t.h.n t.vs:=by obtain ⟨s,hs,e,P⟩:=C.part_of ht;rw[e];exact P.pv
theorem cut_pl (C:Cell c) {t:Sd} (ht:t∈cutSides g c):∀ v∈t.vs,t.h.at v=0:=by obtain ⟨s,hs,e,P⟩:=C.part_of ht;rw[e];exact P.pl
theorem cut_le (C:Cell c) {t:Sd} (ht:t∈cutSides g c):∀ v∈t.vs,g.at v≤0:=by obtain ⟨s,hs,e,P⟩:=C.part_of ht;exact P.le
theorem cut_low (C:Cell c) {t:Sd} (ht:t∈cutSides g c):∃ v∈t.vs,g.at v<0:=by obtain ⟨s,hs,e,P⟩:=C.part_of ht;exact P.low
theorem cut_cl (C:Cell c) {t:Sd} (ht:t∈cutSides g c) {v:V} (hv:v∈t.vs):Cl c v:=by
 obtain ⟨s,hs,e,P⟩:=C.part_of ht
 intro u hu
 exact P.hull u.h (fun w hw=>C.le u hu s hs w hw) v hv
theorem cut_h (C:Cell c) {t:Sd} (ht:t∈cutSides g c):∃ s∈c,t.h=s.h:=by obtain ⟨s,hs,e,P⟩:=C.part_of ht;exact ⟨s,hs,e⟩
theorem cut_face (C:Cell c) {t:Sd} (ht:t∈cutSides g c) {e:V × V} (he:e∈edges t.vs) {p:V} (hp:Cl c p) (gp:g.at p≤0) (h0:t.h.at p=0):0≤ori t.h.n e.1 e.2 p:=by
 obtain ⟨s,hs,eh,P⟩:=C.part_of ht
 rw[eh]at h0 ⊢
 by_cases ho:off g e=true
 ·have h1:=P.off.mem_iff.1 (List.mem_filter.2 ⟨he,ho⟩)
  obtain ⟨e0,he0,htr⟩:=List.mem_filterMap.1 h1
  obtain ⟨k,hk,hf⟩:=trim_ori htr s.h.n
  rw[hf]
  exact Rat.mul_nonneg (Rat.le_of_lt hk) (C.face hs he0 hp h0)
 ·have hz:g.at e.1=0∧g.at e.2=0:=by simpa [off]using ho
  obtain ⟨w,hw,gw⟩:=P.low
  have hw1:w≠e.1:=fun h=>by rw[h,hz.1]at gw;grind
  have hw2:w≠e.2:=fun h=>by rw[h,hz.2]at gw;grind
  have ow:=P.pv.lf e he w hw hw1 hw2
  have a1:=P.pl _ (mem_fst he)
  have a2:=P.pl _ (mem_snd he)
  have l1:=ori_line (z:=w) a1 a2 hz.1 hz.2 (P.pl w hw)
  have l2:=ori_line (z:=p) a1 a2 hz.1 hz.2 h0
  have hN:0<dot (cross s.h.n g.n) (cross s.h.n g.n):=cross_pos (a:=e.1) (w:=w) P.pv.n_ne (by rw[a1,P.pl w hw]) (by rw[hz.1];grind)
  have hnn:=nn_pos P.pv.n_ne
  generalize dot (cross s.h.n g.n) (cross s.h.n g.n)=N at *
  generalize dot (e.2 - e.1) (cross s.h.n g.n)=D at *
  have hD:0<D:=mul_pos_neg (b:=dot s.h.n s.h.n * - g.at w) (by have:=Rat.mul_pos hN ow;grind) (Rat.mul_pos hnn (by grind))
  have p1:=Rat.mul_nonneg (Rat.le_of_lt hD) (Rat.mul_nonneg (Rat.le_of_lt hnn) (show 0≤- g.at p by grind))
  apply Rat.not_lt.1
  intro hlt
  have:=Rat.mul_pos hN (show 0 < - ori s.h.n e.1 e.2 p by grind)
  grind
theorem cut_extreme (C : Cell c) {t : Sd} (ht : t ∈ cutSides g c) {v p q : V} (hv : v ∈ t.vs) {τ : Rat} (t0 : 0 < τ) (t1 : τ < 1) (e : v = lerp τ p q)
  (hp:Cl c p) (gp:g.at p≤0) (hq:Cl c q) (gq:g.at q≤0):p=v∧q=v:=by
 obtain ⟨s,hs,eh⟩:=C.cut_h ht
 have h0:t.h.at v=0:=C.cut_pl ht v hv
 have a:t.h.at p≤0:=by rw[eh];exact hp s hs
 have b:t.h.at q≤0:=by rw[eh];exact hq s hs
 have e2:(1 - τ) * - t.h.at p+τ * - t.h.at q=0:=by rw[e,at_lerp]at h0;grind
 obtain ⟨z1,z2⟩:=half_zero t0 t1 (by grind) (by grind) e2
 have z1:t.h.at p=0:=by grind
 have z2:t.h.at q=0:=by grind
 exact (C.cut_pv ht).extreme (C.cut_pl ht) hv t0 t1 e z1 z2 (fun e he=>C.cut_face ht he hp gp z1) (fun e he=>C.cut_face ht he hq gq z2)
end Cell
theorem phi_inj {h g:H} {p q:V} (hN:0<dot (cross h.n g.n) (cross h.n g.n)) (hp:h.at p=0) (hq:h.at q=0) (gp:g.at p=0) (gq:g.at q=0) (e:dot p (cross h.n g.n)=dot q (cross h.n g.n)):p=q:=by
 have hpar:=par (e:=p - q) (n:=h.n) (g:=g.n) (by rw[dot_comm,at_sub,hp,hq];grind) (by rw[dot_comm,at_sub,gp,gq];grind)
 have e2:dot (p - q) (cross h.n g.n)=0:=by
  have:dot (p - q) (cross h.n g.n)=dot p (cross h.n g.n) - dot q (cross h.n g.n):=by simp only[dot,sub_x,sub_y,sub_z];grind
  rw[this,e];grind
 rw[e2]at hpar
 have z:∀ a b:Rat,dot (cross h.n g.n) (cross h.n g.n)*a=0*b→a=0:=fun a b hh=>by
  rcases Rat.mul_eq_zero.1 (show dot (cross h.n g.n) (cross h.n g.n)*a=0 by rw[hh];grind)with h|h
  ·grind
  ·exact h
 have hx:=z _ _ (congrArg V.x hpar)
 have hy:=z _ _ (congrArg V.y hpar)
 have hz:=z _ _ (congrArg V.z hpar)
 simp only[sub_x,sub_y,sub_z]at hx hy hz
 exact V.ext (by grind) (by grind) (by grind)
theorem between {h g : H} {p q x : V} (hN : 0 < dot (cross h.n g.n) (cross h.n g.n)) (hp : h.at p = 0) (hq : h.at q = 0) (gp : g.at p = 0) (gq : g.at q = 0) (hx : h.at x = 0) (gx : g.at x = 0)
  (h1:dot p (cross h.n g.n)<dot x (cross h.n g.n)) (h2:dot x (cross h.n g.n)<dot q (cross h.n g.n)):∃ t:Rat,0<t∧t<1∧x=lerp t p q:=by
 have hd:0<dot q (cross h.n g.n) - dot p (cross h.n g.n):=by grind
 have hi:=Rat.inv_pos.2 hd
 have hc:(dot q (cross h.n g.n) - dot p (cross h.n g.n))*(dot q (cross h.n g.n) - dot p (cross h.n g.n))⁻¹=1:=Rat.mul_inv_cancel _ (by grind)
 refine ⟨(dot x (cross h.n g.n) - dot p (cross h.n g.n))*(dot q (cross h.n g.n) - dot p (cross h.n g.n))⁻¹,Rat.mul_pos (by grind) hi,?_,?_⟩
 ·have:=Rat.mul_pos (show 0<dot q (cross h.n g.n) - dot x (cross h.n g.n) by grind) hi
  grind
 ·refine phi_inj hN hx ?_ gx ?_ ?_
  ·exact lerp_at_zero hp hq
  ·exact lerp_at_zero gp gq
  ·have:∀ t:Rat,dot (lerp t p q) (cross h.n g.n)=dot p (cross h.n g.n)+t*(dot q (cross h.n g.n) - dot p (cross h.n g.n)):=by
    intro t;simp only[dot,lerp,add_x,add_y,add_z,sub_x,sub_y,sub_z,smul_x,smul_y,smul_z];grind
   rw[this]
   generalize (dot q (cross h.n g.n) - dot p (cross h.n g.n))⁻¹=i at *
   generalize dot q (cross h.n g.n) - dot p (cross h.n g.n)=d at *
   have:(dot x (cross h.n g.n) - dot p (cross h.n g.n))*i*d=dot x (cross h.n g.n) - dot p (cross h.n g.n):=by
    have:(dot x (cross h.n g.n) - dot p (cross h.n g.n))*i*d=(dot x (cross h.n g.n) - dot p (cross h.n g.n))*(d*i):=by grind
    rw[this,hc];grind
   rw[this];grind
end Geo
namespace Geo
structure Spl (c:List Sd) (g:H):Prop where
 C:Cell c
 lo:∃ s∈c,∃ v∈s.vs,g.at v<0
 hi:∃ s∈c,∃ v∈s.vs,0<g.at v
theorem lt3 {a b c:Rat} {P:Prop} (h1:a<b) (h2:b<c) (h3:c<a):P:=by exfalso;grind
namespace Spl
variable {c:List Sd} {g:H}
theorem inner (S:Spl c g):∃ y,Inn c y∧g.at y=0:=by
 obtain ⟨m,hm⟩:=S.C.exists_inn
 obtain ⟨s,hs,v,hv,gv⟩:=S.lo
 obtain ⟨s',hs',v',hv',gv'⟩:=S.hi
 let f:H:=⟨(-1:Rat)*g.n,- g.d⟩
 have hf:∀ x,f.at x=- g.at x:=fun x=>by simp only[f,H.at,dot,smul_x,smul_y,smul_z];grind
 obtain ⟨a,ha,fa⟩:=nudge (S.C.cl_vert hs hv) hm (f:=f) (by rw[hf];grind)
 obtain ⟨b,hb,fb⟩:=nudge (S.C.cl_vert hs' hv') hm (f:=g) gv'
 rw[hf]at fa
 obtain ⟨t,t0,t1,t2,_,te⟩:=X_w (g:=g) (a:=a) (b:=b) (by grind) fb
 refine ⟨X g a b,fun u hu=>?_,X_at (by grind)⟩
 rw[te]
 exact lerp_neg (Rat.le_of_lt (ha u hu)) (hb u hu) (t2 (by grind)) (Rat.le_of_lt t1)
theorem front (S:Spl c g):∃ y,Inn c y∧0<g.at y:=by
 obtain ⟨m,hm⟩:=S.C.exists_inn
 obtain ⟨s',hs',v',hv',gv'⟩:=S.hi
 exact nudge (S.C.cl_vert hs' hv') hm gv'
theorem edge_on (S : Spl c g) {t : Sd} (ht : t ∈ cutSides g c) {e : V × V} (he : e ∈ edges t.vs) (z1 : g.at e.1 = 0) (z2 : g.at e.2 = 0) :
  0<dot (cross t.h.n g.n) (cross t.h.n g.n)∧∃ k:Rat,0<k∧∀ x,g.at x=0→ori g.n e.2 e.1 x=k * - t.h.at x:=by
 have pv:=S.C.cut_pv ht
 have pl:=S.C.cut_pl ht
 obtain ⟨w,hw,gw⟩:=S.C.cut_low ht
 have hw1:w≠e.1:=fun h=>by rw[h,z1]at gw;grind
 have hw2:w≠e.2:=fun h=>by rw[h,z2]at gw;grind
 have ow:=pv.lf e he w hw hw1 hw2
 exact ⟨cross_pos (a:=e.1) (w:=w) pv.n_ne (by rw[pl _ (mem_fst he),pl w hw]) (by rw[z1];grind),
  edge_formula (pl _ (mem_fst he)) (pl _ (mem_snd he)) z1 z2 (pl w hw) gw ow⟩
theorem strict (S : Spl c g) {t : Sd} (ht : t ∈ cutSides g c) {e : V × V} (he : e ∈ edges t.vs) (z1 : g.at e.1 = 0) (z2 : g.at e.2 = 0)
  {t':Sd} (ht':t'∈cutSides g c) {x:V} (hx:x∈t'.vs) (gx:g.at x=0) (n1:x≠e.1) (n2:x≠e.2):t.h.at x<0:=by
 obtain ⟨s,hs,eh⟩:=S.C.cut_h ht
 have hcx:=S.C.cut_cl ht' hx
 have hle:t.h.at x≤0:=by rw[eh];exact hcx s hs
 rcases lt_or_eq hle with h|h0
 ·exact h
 exfalso
 obtain ⟨hN,_⟩:=S.edge_on ht he z1 z2
 have pl:=S.C.cut_pl ht
 have a0:=pl _ (mem_fst he)
 have b0:=pl _ (mem_snd he)
 have ca:=S.C.cut_cl ht (mem_fst he)
 have cb:=S.C.cut_cl ht (mem_snd he)
 have nab:=(S.C.cut_pv ht).ne he
 have le:∀ {q:Rat},q=0→q≤0:=fun h=>by rw[h];exact Rat.le_refl
 have inj:∀ {p q:V},t.h.at p=0→t.h.at q=0→g.at p=0→g.at q=0→p≠q→dot p (cross t.h.n g.n)<dot q (cross t.h.n g.n)∨dot q (cross t.h.n g.n)<dot p (cross t.h.n g.n):=by
  intro p q hp hq gp gq hne
  rcases Rat.le_total (a:=dot p (cross t.h.n g.n)) (b:=dot q (cross t.h.n g.n))with h|h
  ·rcases lt_or_eq h with h|h
   ·exact .inl h
   ·exact absurd (phi_inj hN hp hq gp gq h) hne
  ·rcases lt_or_eq h with h|h
   ·exact .inr h
   ·exact absurd (phi_inj hN hp hq gp gq h.symm) hne
 have mid : ∀ {p q m : V} {u : Sd}, u ∈ cutSides g c → m ∈ u.vs → t.h.at p = 0 → t.h.at q = 0 → t.h.at m = 0 → g.at p = 0 → g.at q = 0 → g.at m = 0 → Cl c p → Cl c q → p ≠ m →
   dot p (cross t.h.n g.n)<dot m (cross t.h.n g.n)→dot m (cross t.h.n g.n)<dot q (cross t.h.n g.n)→False:=by
  intro p q m u hu hm hp hq hm0 gp gq gm cp cq hne h1 h2
  obtain ⟨τ,τ0,τ1,e⟩:=between hN hp hq gp gq hm0 gm h1 h2
  exact hne (S.C.cut_extreme hu hm τ0 τ1 e cp (le gp) cq (le gq)).1
 have ma:=mem_fst he
 have mb:=mem_snd he
 rcases inj a0 b0 z1 z2 nab with ab|ab<;>rcases inj a0 h0 z1 gx (Ne.symm n1)with ax|ax<;>rcases inj b0 h0 z2 gx (Ne.symm n2)with bx|bx
 ·exact mid ht mb a0 h0 b0 z1 gx z2 ca hcx nab ab bx
 ·exact mid ht' hx a0 b0 h0 z1 z2 gx ca cb (Ne.symm n1) ax bx
 ·exact lt3 ab bx ax
 ·exact mid ht ma h0 b0 a0 gx z2 z1 hcx cb n1 ax ab
 ·exact mid ht ma b0 h0 a0 z2 gx z1 cb hcx (Ne.symm nab) ab ax
 ·exact lt3 ab ax bx
 ·exact mid ht' hx b0 a0 h0 z2 z1 gx cb ca (Ne.symm n2) bx ax
 ·exact mid ht mb h0 a0 b0 gx z1 z2 hcx ca n2 bx ab
theorem mem_HE {e:V × V}:e∈HE g c↔∃ t∈cutSides g c,e∈edges t.vs∧g.at e.1=0∧g.at e.2=0:=by
 unfold HE E
 rw[List.mem_filter,List.mem_flatMap]
 constructor
 ·rintro ⟨⟨t,ht,he⟩,ho⟩
  exact ⟨t,ht,he,by simpa [off]using ho⟩
 ·rintro ⟨t,ht,he,hz⟩
  exact ⟨⟨t,ht,he⟩,by simpa [off]using hz⟩
theorem one_side (S:Spl c g) {s t:Sd} (hs:s∈cutSides g c) (ht:t∈cutSides g c) {e:V × V} (h1:e∈edges s.vs) (h2:e∈edges t.vs):s.h=t.h:=by
 obtain ⟨s0,hs0,es⟩:=S.C.cut_h hs
 obtain ⟨t0,ht0,et⟩:=S.C.cut_h ht
 obtain ⟨m,hm⟩:=S.C.exists_inn
 obtain ⟨w,hw,w1,w2⟩:=(S.C.cut_pv hs).other h1
 obtain ⟨w',hw',w1',w2'⟩:=(S.C.cut_pv ht).other h2
 have p:Prp s.h t.h:=shared (m:=m) (S.C.cut_pl hs _ (mem_fst h1)) (S.C.cut_pl hs _ (mem_snd h1)) (S.C.cut_pl ht _ (mem_fst h2)) (S.C.cut_pl ht _ (mem_snd h2))
  (S.C.cut_pl hs w hw) ((S.C.cut_pv hs).lf e h1 w hw w1 w2) (by rw[et];exact S.C.cut_cl hs hw t0 ht0) (S.C.cut_pl ht w' hw') ((S.C.cut_pv ht).lf e h2 w' hw' w1' w2') (by rw[es];exact S.C.cut_cl ht hw' s0 hs0) (by rw[es];exact hm s0 hs0) (by rw[et];exact hm t0 ht0)
 rw[es,et]at p
 rcases S.C.sep hs0 ht0 with h|h
 ·rw[es,et,h]
 ·exact absurd p h
theorem dist_of (S:Spl c g):(cutSides g c).Pairwise fun s t=>¬ Prp s.h t.h:=by
 have key:∀ l:List Sd,(l.Pairwise fun s t=>¬ Prp s.h t.h)→(cutSides g l).Pairwise fun s t=>¬ Prp s.h t.h:=by
  intro l
  induction l with
  | nil=>intro _;exact List.Pairwise.nil
  | cons s l ih =>
   intro h
   rw[List.pairwise_cons]at h
   have ih:=ih h.2
   by_cases hl:lowB g s.vs=true
   ·have e:cutSides g (s::l)=⟨s.h,part g s.vs⟩::cutSides g l:=by simp[cutSides,hl]
    rw[e,List.pairwise_cons]
    refine ⟨fun t ht=>?_,ih⟩
    obtain ⟨u,hu,_,rfl⟩:=mem_cut.1 ht
    exact h.1 u hu
   ·have e:cutSides g (s::l)=cutSides g l:=by simp[cutSides,hl]
    rw[e];exact ih
 exact key c S.C.dist
theorem prp_refl (h:H):Prp h h:=⟨1,by grind,fun x=>by grind⟩
theorem E_nodup (S:Spl c g):(E (cutSides g c)).Nodup:=by
 have key:∀ l:List Sd,(∀ s∈l,s∈cutSides g c)→(l.Pairwise fun s t=>¬ Prp s.h t.h)→(E l).Nodup:=by
  intro l
  induction l with
  | nil=>intro _ _;simp[E]
  | cons s l ih =>
   intro hm h
   rw[List.pairwise_cons]at h
   have e:E (s::l)=edges s.vs++E l:=rfl
   rw[e,List.nodup_append]
   refine ⟨edges_nodup (S.C.cut_pv (hm s (by simp))).nd,ih (fun t ht=>hm t (by simp[ht])) h.2,?_⟩
   intro a ha b hb hab
   subst hab
   obtain ⟨t,ht,hbt⟩:=List.mem_flatMap.1 hb
   have:=S.one_side (hm s (by simp)) (hm t (by simp[ht])) ha hbt
   exact h.1 t ht (by rw[this];exact prp_refl _)
 exact key _ (fun s hs=>hs) S.dist_of
theorem map_perm_fst_snd {l:List (V × V)} (h:l.Perm (l.map sw)):(l.map (·.1)).Perm (l.map (·.2)):=by
 have:=h.map (·.1)
 rw[List.map_map]at this
 exact this
theorem E_io (L:List Sd):((E L).map (·.1)).Perm ((E L).map (·.2)):=by
 induction L with
 | nil=>exact List.Perm.refl _
 | cons s l ih =>
  have e:E (s::l)=edges s.vs++E l:=rfl
  rw[e,List.map_append,List.map_append]
  refine List.Perm.append ?_ ih
  rw[edges_fst]
  exact (edges_snd s.vs).symm
theorem cyc (S:Spl c g):Cyc g ((HE g c).map sw):=by
 obtain ⟨y,hy,gy⟩:=S.inner
 have hon:∀ e∈HE g c,g.at e.1=0∧g.at e.2=0:=fun e he=>by obtain ⟨t,_,_,h⟩:=mem_HE.1 he;exact h
 have hio0:((HE g c).map (·.1)).Perm ((HE g c).map (·.2)):=by
  have h1:=E_io (cutSides g c)
  have h2:=map_perm_fst_snd (S.C.off_closed (g:=g))
  have hp:=List.filter_append_perm (off g) (E (cutSides g c))
  have a1:=(hp.map (·.1))
  have a2:=(hp.map (·.2))
  rw[List.map_append]at a1 a2
  have h3:=(a1.trans h1).trans a2.symm
  have h4:=(List.Perm.append_right ((HE g c).map (·.1)) h2.symm).trans h3
  exact (List.perm_append_left_iff _).1 h4
 have hlf:∀ e∈HE g c,∀ e'∈HE g c,e'.2≠e.2→e'.2≠e.1→0<ori g.n e.2 e.1 e'.2:=by
  intro e he e' he' n1 n2
  obtain ⟨t,ht,h1,z1,z2⟩:=mem_HE.1 he
  obtain ⟨t',ht',h1',z1',z2'⟩:=mem_HE.1 he'
  obtain ⟨_,k,hk,hf⟩:=S.edge_on ht h1 z1 z2
  rw[hf _ z2']
  exact Rat.mul_pos hk (by have:=S.strict ht h1 z1 z2 ht' (mem_snd h1') z2' n2 n1;grind)
 refine ⟨?_,?_,?_,?_,?_,⟨y,?_⟩⟩
 ·intro e he
  obtain ⟨e0,he0,rfl⟩:=List.mem_map.1 he
  exact (hon e0 he0).symm
 ·intro e he x hx n1 n2
  obtain ⟨e0,he0,rfl⟩:=List.mem_map.1 he
  rw[List.map_map]at hx
  obtain ⟨e1,he1,rfl⟩:=List.mem_map.1 hx
  exact hlf e0 he0 e1 he1 n1 n2
 ·rw[List.map_map,List.map_map]
  exact hio0.symm
 ·rw[List.map_map]
  have nd:(HE g c).Nodup:=S.E_nodup.filter _
  have:∀ l:List (V × V),l.Nodup→(∀ e∈l,e∈HE g c)→(l.map (·.2)).Nodup:=by
   intro l
   induction l with
   | nil=>intro _ _;simp
   | cons e l ih =>
    intro hn hm
    rw[List.nodup_cons]at hn
    rw[List.map_cons,List.nodup_cons]
    refine ⟨fun hmem=>?_,ih hn.2 fun e he=>hm e (by simp[he])⟩
    obtain ⟨e',he',heq⟩:=List.mem_map.1 hmem
    have m1:=hm e (by simp)
    have m2:=hm e' (by simp[he'])
    obtain ⟨t,ht,h1,z1,z2⟩:=mem_HE.1 m1
    obtain ⟨t',ht',h1',z1',z2'⟩:=mem_HE.1 m2
    have hb:e'.1=e.1:=by
     apply Classical.byContradiction
     intro hne
     obtain ⟨_,k,hk,hf⟩:=S.edge_on ht h1 z1 z2
     obtain ⟨_,k',hk',hf'⟩:=S.edge_on ht' h1' z1' z2'
     have n1:e'.1≠e.2:=fun h=>(S.C.cut_pv ht').ne h1' (h.trans heq.symm)
     have n2:e.1≠e'.2:=fun h=>(S.C.cut_pv ht).ne h1 (h.trans heq)
     have q1:=S.strict ht h1 z1 z2 ht' (mem_fst h1') z1' hne n1
     have q2:=S.strict ht' h1' z1' z2' ht (mem_fst h1) z1 (Ne.symm hne) n2
     have f1:=hf _ z1'
     have f2:=hf' _ z1
     have p1:=Rat.mul_pos hk (show 0 < - t.h.at e'.1 by grind)
     have p2:=Rat.mul_pos hk' (show 0 < - t'.h.at e.1 by grind)
     rw[heq]at f2
     have:ori g.n e.2 e'.1 e.1=- ori g.n e.2 e.1 e'.1:=by simp only[ori,dot,cross,sub_x,sub_y,sub_z];grind
     grind
    have:e'=e:=Prod.ext hb heq
    exact hn.1 (this▸he')
  exact this _ nd fun e he=>he
 ·intro e he
  obtain ⟨e0,he0,rfl⟩:=List.mem_map.1 he
  obtain ⟨t,ht,h1,_⟩:=mem_HE.1 he0
  exact Ne.symm ((S.C.cut_pv ht).ne h1)
 ·intro e he
  obtain ⟨e0,he0,rfl⟩:=List.mem_map.1 he
  obtain ⟨t,ht,h1,z1,z2⟩:=mem_HE.1 he0
  obtain ⟨_,k,hk,hf⟩:=S.edge_on ht h1 z1 z2
  show 0<ori g.n e0.2 e0.1 y
  rw[hf y gy]
  obtain ⟨s,hs,eh⟩:=S.C.cut_h ht
  exact Rat.mul_pos hk (by rw[eh];have:=hy s hs;grind)
theorem cut_ne (S:Spl c g):cutSides g c≠[]:=by
 obtain ⟨s,hs,v,hv,gv⟩:=S.lo
 intro h
 have:(⟨s.h,part g s.vs⟩:Sd)∈cutSides g c:=mem_cut.2 ⟨s,hs,lowB_iff.2 ⟨v,hv,gv⟩,rfl⟩
 rw[h]at this;simp at this
theorem HE_ne (S:Spl c g):HE g c≠[]:=by
 intro h0
 obtain ⟨y,hy,gy⟩:=S.front
 have hall:(E (cutSides g c)).filter (off g)=E (cutSides g c):=by
  rw[List.filter_eq_self]
  intro e he
  apply Classical.byContradiction
  intro hne
  have:e∈HE g c:=List.mem_filter.2 ⟨he,by simpa using hne⟩
  rw[h0]at this;simp at this
 have hcl:=S.C.off_closed (g:=g)
 rw[hall]at hcl
 exact closed_hull (fun s hs=>S.C.cut_pv hs) (fun s hs=>S.C.cut_pl hs) hcl S.cut_ne (fun s hs=>by obtain ⟨u,hu,e⟩:=S.C.cut_h hs;rw[e];exact hy u hu) (fun s hs=>S.C.cut_le hs) gy
end Spl
end Geo
namespace Geo
namespace Spl
variable {c:List Sd} {g:H}
structure Cap (g:H) (c:List Sd) (cap:List V):Prop where
 pv:PV g.n cap
 ed:(edges cap).Perm ((HE g c).map sw)
theorem cap_of (S:Spl c g) {nx:V→V} (hnx:∀ e∈HE g c,nx e.2=e.1) {f:V} (hf:f∈(HE g c).map (·.2)):Cap g c (iter nx (HE g c).length f):=by
 have C:=S.cyc
 have:=C.cycle (nx:=nx) (fun e he=>by obtain ⟨e0,he0,rfl⟩:=List.mem_map.1 he;exact hnx e0 he0) (f:=f) (by rw[List.map_map];exact hf)
 rw[List.length_map]at this
 exact ⟨this.1,this.2⟩
theorem cap_mem (S:Spl c g) {cap:List V} (K:Cap g c cap) {v:V} (hv:v∈cap):g.at v=0∧∃ t∈cutSides g c,v∈t.vs:=by
 obtain ⟨b,hb⟩:=has_out hv
 obtain ⟨e0,he0,h⟩:=List.mem_map.1 (K.ed.mem_iff.1 hb)
 obtain ⟨t,ht,h1,z1,z2⟩:=mem_HE.1 he0
 have:v=e0.2:=(congrArg (·.1) h).symm
 rw[this]
 exact ⟨z2,t,ht,mem_snd h1⟩
theorem one_on (S:Spl c g) {t:Sd} (ht:t∈cutSides g c) {e e':V × V} (he:e∈edges t.vs) (he':e'∈edges t.vs) (z1:g.at e.1=0) (z2:g.at e.2=0) (z1':g.at e'.1=0) (z2':g.at e'.2=0):e=e':=by
 have pv:=S.C.cut_pv ht
 have pl:=S.C.cut_pl ht
 have two:∀ x∈t.vs,g.at x=0→x=e.1∨x=e.2:=by
  intro x hx gx
  by_cases h1:x=e.1
  ·exact .inl h1
  ·by_cases h2:x=e.2
   ·exact .inr h2
   ·have:=S.strict ht he z1 z2 ht hx gx h1 h2
    rw[pl x hx]at this;grind
 rcases two _ (mem_fst he') z1' with h|h
 ·have:(e.1,e'.2)∈edges t.vs:=h▸he'
  have h2:=out_unique pv.nd (show (e.1,e.2)∈edges t.vs from he) this
  exact Prod.ext h.symm h2
 ·rcases two _ (mem_snd he') z2' with h'|h'
  ·have:e'=sw e:=Prod.ext h h'
   exact (two_dirs pv he (this▸he')).elim
  ·exact absurd (h.trans h'.symm) (pv.ne he')
theorem HE_le (S:Spl c g):(HE g c).length≤(cutSides g c).length:=by
 have key:∀ l:List Sd,(∀ s∈l,s∈cutSides g c)→((E l).filter fun e=>!off g e).length≤l.length:=by
  intro l
  induction l with
  | nil=>intro _;simp[E]
  | cons s l ih =>
   intro hm
   have ih:=ih fun t ht=>hm t (by simp[ht])
   have e:E (s::l)=edges s.vs++E l:=rfl
   rw[e,List.filter_append,List.length_append,List.length_cons]
   have h1:((edges s.vs).filter fun e=>!off g e).length≤1:=by
    have nd:((edges s.vs).filter fun e=>!off g e).Nodup:=(edges_nodup (S.C.cut_pv (hm s (by simp))).nd).filter _
    match hq:(edges s.vs).filter fun e=>!off g e,nd with
    | [],_=>simp
    | [_],_=>simp
    | a::b::r,nd =>
     exfalso
     have ma:a∈(edges s.vs).filter fun e=>!off g e:=by rw[hq];simp
     have mb:b∈(edges s.vs).filter fun e=>!off g e:=by rw[hq];simp
     rw[List.mem_filter]at ma mb
     have za:g.at a.1=0∧g.at a.2=0:=by simpa [off]using ma.2
     have zb:g.at b.1=0∧g.at b.2=0:=by simpa [off]using mb.2
     have:=S.one_on (hm s (by simp)) ma.1 mb.1 za.1 za.2 zb.1 zb.2
     simp[this]at nd
   omega
 exact key _ fun s hs=>hs
theorem cell (S:Spl c g) {cap:List V} (K:Cap g c cap):Cell (cutSides g c++[⟨g,cap⟩]):=by
 have hmem:∀ {s:Sd},s∈cutSides g c++[⟨g,cap⟩]↔s∈cutSides g c∨s=⟨g,cap⟩:=by intro s;simp
 have hE:E (cutSides g c++[⟨g,cap⟩])=E (cutSides g c)++edges cap:=by unfold E;rw[List.flatMap_append];simp
 have hsplit:(E (cutSides g c)).Perm ((E (cutSides g c)).filter (off g)++HE g c):=(List.filter_append_perm (off g) (E (cutSides g c))).symm
 refine ⟨?_,?_,?_,?_,?_,?_,?_⟩
 ·intro s hs
  rcases hmem.1 hs with h|rfl
  ·exact S.C.cut_pv h
  ·exact K.pv
 ·intro s hs v hv
  rcases hmem.1 hs with h|rfl
  ·exact S.C.cut_pl h v hv
  ·exact (S.cap_mem K hv).1
 ·intro s hs t ht v hv
  obtain ⟨u,hu,hvu⟩:∃ u∈cutSides g c,v∈u.vs:=by
   rcases hmem.1 ht with h|rfl
   ·exact ⟨t,h,hv⟩
   ·exact (S.cap_mem K hv).2
  rcases hmem.1 hs with h|rfl
  ·obtain ⟨s0,hs0,e⟩:=S.C.cut_h h
   rw[e];exact S.C.cut_cl hu hvu s0 hs0
  ·exact S.C.cut_le hu v hvu
 ·rw[hE]
  have h1:=(hsplit.append K.ed)
  refine h1.trans ?_
  have h2:=h1.map sw
  refine List.Perm.trans ?_ h2.symm
  rw[List.map_append,List.map_append,List.map_map]
  have e1:(HE g c).map (sw∘sw)=HE g c:=by
   have:(sw∘sw:V × V→V × V)=id:=by funext e;rfl
   rw[this,List.map_id]
  rw[e1,List.append_assoc,List.append_assoc]
  exact List.Perm.append S.C.off_closed List.perm_append_comm
 ·rw[hE,List.nodup_append]
  refine ⟨S.E_nodup,edges_nodup K.pv.nd,?_⟩
  intro a ha b hb hab
  subst hab
  obtain ⟨e0,he0,h⟩:=List.mem_map.1 (K.ed.mem_iff.1 hb)
  obtain ⟨t,ht,h1,z1,z2⟩:=mem_HE.1 he0
  obtain ⟨t',ht',h1'⟩:=List.mem_flatMap.1 ha
  subst h
  obtain ⟨y,hy,gy⟩:=S.inner
  obtain ⟨_,k,hk,hf⟩:=S.edge_on ht h1 z1 z2
  obtain ⟨_,k',hk',hf'⟩:=S.edge_on ht' h1' z2 z1
  obtain ⟨s,hs,e⟩:=S.C.cut_h ht
  obtain ⟨s',hs',e'⟩:=S.C.cut_h ht'
  have p1:=Rat.mul_pos hk (show 0 < - t.h.at y by rw[e];have:=hy s hs;grind)
  have p2:=Rat.mul_pos hk' (show 0 < - t'.h.at y by rw[e'];have:=hy s' hs';grind)
  have f1:=hf y gy
  have f2:=hf' y gy
  rw[show (sw e0).1=e0.2 from rfl,show (sw e0).2=e0.1 from rfl,ori_swap]at f2
  grind
 ·have h1:=S.HE_le
  have h2:=K.ed.length_eq
  rw[edges_length,List.length_map]at h2
  have h3:=K.pv.len
  simp only[List.length_append,List.length_cons,List.length_nil]
  omega
 ·rw[List.pairwise_append]
  refine ⟨S.dist_of,by simp,?_⟩
  intro s hs t ht hp
  simp at ht;subst ht
  obtain ⟨k,hk,hf⟩:=hp
  obtain ⟨w,hw,gw⟩:=S.C.cut_low hs
  have h1:=hf w
  rw[S.C.cut_pl hs w hw]at h1
  have:=Rat.mul_pos hk (show 0 < - g.at w by grind)
  grind
end Spl
end Geo
namespace Geo
def neg (g:H):H:=⟨(-1:Rat)*g.n,- g.d⟩
theorem neg_at (g:H) (x:V):(neg g).at x=- g.at x:=by simp only[neg,H.at,dot,smul_x,smul_y,smul_z];grind
end Geo
namespace Geo
namespace Spl
variable {c:List Sd} {g:H}
theorem neg (S:Spl c g):Spl c (neg g):=by
 refine ⟨S.C,?_,?_⟩
 ·obtain ⟨s,hs,v,hv,gv⟩:=S.hi;exact ⟨s,hs,v,hv,by rw[neg_at];grind⟩
 ·obtain ⟨s,hs,v,hv,gv⟩:=S.lo;exact ⟨s,hs,v,hv,by rw[neg_at];grind⟩
end Spl
namespace Cell
variable {c:List Sd}
theorem mid (x d:V) (t:Rat):x=lerp (1/2) (x+t*d) (x+(-t)*d):=by
 apply V.ext<;>simp only[lerp,add_x,add_y,add_z,sub_x,sub_y,sub_z,smul_x,smul_y,smul_z]<;>grind
end Cell
end Geo
namespace Geo
theorem plane_rel {n a b c : V} (hn : n ≠ ⟨0, 0, 0⟩) (h1 : dot n a = 0) (h2 : dot n b = 0) (h3 : dot n c = 0) (g : V) :
  dot g a*dot n (cross b c)+dot g b*dot n (cross c a)+dot g c*dot n (cross a b)=0:=by
 have hd:det a b c=0:=by
  have e:dot n n*det a b c=dot n a*dot n (cross b c)+dot n b*dot n (cross c a)+dot n c*dot n (cross a b):=by simp only[dot,det,cross];grind
  rw[h1,h2,h3]at e
  have hnn:=nn_pos hn
  rcases Rat.mul_eq_zero.1 (show dot n n*det a b c=0 by rw[e];grind)with h|h
  ·grind
  ·exact h
 have k:dot g a*dot n (cross b c)+dot g b*dot n (cross c a)+dot g c*dot n (cross a b)=dot g n*det a b c:=by simp only[dot,det,cross];grind
 rw[k,hd];grind
theorem PV.corner {h:H} {vs:List V} (pv:PV h.n vs) (pl:∀ v∈vs,h.at v=0) {a v b x:V} (ha:(a,v)∈edges vs) (hb:(v,b)∈edges vs) (hx:h.at x=0) (o1:ori h.n a v x=0) (o2:ori h.n v b x=0):x=v:=by
 have hab:a≠b:=by
  intro h;subst h
  exact two_dirs pv hb ha
 have hva:a≠v:=pv.ne ha
 have hv:=mem_snd ha
 have ho:=pv.lf _ hb a (mem_fst ha) hva hab
 simp only at ho hv
 have d1:dot h.n (b - v)=0:=by rw[at_sub,pl v hv,pl b (mem_snd hb)];grind
 have d2:dot h.n (v - a)=0:=by rw[at_sub,pl v hv,pl a (mem_fst ha)];grind
 have d3:dot h.n (x - v)=0:=by rw[at_sub,pl v hv,hx];grind
 have p2:dot h.n (cross (v - a) (x - v))=0:=by
  rw[← o1];simp only[ori,dot,cross,sub_x,sub_y,sub_z];grind
 have p3:dot h.n (cross (v - a) (b - v))≠0:=by
  have:dot h.n (cross (v - a) (b - v))=ori h.n v b a:=by simp only[ori,dot,cross,sub_x,sub_y,sub_z];grind
  rw[this];grind
 have:=in_plane d1 d2 d3 pv.n_ne o2 p2 p3
 have hx:=congrArg V.x this
 have hy:=congrArg V.y this
 have hz:=congrArg V.z this
 simp only[sub_x,sub_y,sub_z]at hx hy hz
 exact V.ext (by grind) (by grind) (by grind)
theorem PV.hull {h:H} {vs:List V} (pv:PV h.n vs) (pl:∀ v∈vs,h.at v=0) {f:H} (hf:∀ v∈vs,f.at v≤0) {x:V} (hx:h.at x=0) (ho:∀ e∈edges vs,0≤ori h.n e.1 e.2 x):f.at x≤0:=by
 apply Rat.not_lt.1
 intro fx
 match hvs:vs,pv.len with
 | v0::t,hl =>
  have w:∀ v∈v0::t,0<(f.at x - f.at v)⁻¹:=fun v hv=>Rat.inv_pos.2 (by have:=hf v hv;grind)
  have wi:∀ v∈v0::t,(f.at x - f.at v)*(f.at x - f.at v)⁻¹=1:=fun v hv=>Rat.mul_inv_cancel _ (by have:=hf v hv;grind)
  let P:V→V:=fun v=>(f.at x - f.at v)⁻¹*(v - x)
  have hP:∀ v∈v0::t,dot h.n (P v)=0:=fun v hv=>by
   show dot h.n ((f.at x - f.at v)⁻¹*(v - x))=0
   rw[dot_smul_r,at_sub,pl v hv,hx];grind
  have hg:∀ v∈v0::t,dot f.n (P v)=-1:=fun v hv=>by
   show dot f.n ((f.at x - f.at v)⁻¹*(v - x))=-1
   rw[dot_smul_r,at_sub]
   have:=wi v hv
   grind
  let ψ:V→Rat:=fun v=>dot h.n (cross (P v0) (P v))
  have tel:∀ e∈edges (v0::t),dot h.n (cross (P e.1) (P e.2))=ψ e.2 + - ψ e.1:=by
   intro e he
   have m0:v0∈v0::t:=by simp
   have r:=plane_rel pv.n_ne (hP v0 m0) (hP _ (mem_fst he)) (hP _ (mem_snd he)) f.n
   rw[hg v0 m0,hg _ (mem_fst he),hg _ (mem_snd he)]at r
   show dot h.n (cross (P e.1) (P e.2))=dot h.n (cross (P v0) (P e.2)) + - dot h.n (cross (P v0) (P e.1))
   have:dot h.n (cross (P e.2) (P v0))=- dot h.n (cross (P v0) (P e.2)):=by simp only[dot,cross];grind
   grind
  have s0:sm (fun e=>dot h.n (cross (P e.1) (P e.2))) (edges (v0::t))=0:=by
   rw[sm_congr tel,sm_add]
   have a1:=sm_map ψ (fun e:V × V=>e.2) (edges (v0::t))
   have a2:=sm_map ψ (fun e:V × V=>e.1) (edges (v0::t))
   rw[sm_perm _ (edges_snd (v0::t))]at a1
   rw[edges_fst]at a2
   rw[sm_neg (F:=fun e:V × V=>- ψ e.1) (G:=fun e:V × V=>ψ e.1) fun _ _=>rfl,← a1,← a2]
   grind
  have val:∀ e:V × V,dot h.n (cross (P e.1) (P e.2))=(f.at x - f.at e.1)⁻¹*(f.at x - f.at e.2)⁻¹*ori h.n e.1 e.2 x:=by
   intro e
   show dot h.n (cross ((f.at x - f.at e.1)⁻¹*(e.1 - x)) ((f.at x - f.at e.2)⁻¹*(e.2 - x)))=_
   rw[cross_smul_l,cross_smul_r,dot_smul_r,dot_smul_r]
   have:dot h.n (cross (e.1 - x) (e.2 - x))=ori h.n e.1 e.2 x:=by simp only[ori,dot,cross,sub_x,sub_y,sub_z];grind
   rw[this];grind
  have nn:∀ e∈edges (v0::t),0≤dot h.n (cross (P e.1) (P e.2)):=fun e he=>by
   rw[val]
   exact Rat.mul_nonneg (Rat.le_of_lt (Rat.mul_pos (w _ (mem_fst he)) (w _ (mem_snd he)))) (ho e he)
  have z:∀ e∈edges (v0::t),ori h.n e.1 e.2 x=0:=by
   intro e he
   have h0:dot h.n (cross (P e.1) (P e.2))=0:=by
    apply Classical.byContradiction
    intro hne
    have hp:0<dot h.n (cross (P e.1) (P e.2)):=by
     have:=nn e he
     rcases lt_or_eq this with h|h
     ·exact h
     ·exact absurd h.symm hne
    have:=sm_lt (F:=fun e=>- dot h.n (cross (P e.1) (P e.2))) (l:=edges (v0::t)) (fun e he=>by have:=nn e he;grind) he (by grind)
    rw[sm_neg (F:=fun e:V × V=>- dot h.n (cross (P e.1) (P e.2))) (G:=fun e:V × V=>dot h.n (cross (P e.1) (P e.2))) fun _ _=>rfl,s0]at this
    grind
   rw[val]at h0
   have:=Rat.mul_pos (w _ (mem_fst he)) (w _ (mem_snd he))
   rcases Rat.mul_eq_zero.1 h0 with h|h
   ·rw[h]at this;grind
   ·exact h
  obtain ⟨b,hb⟩:=has_out (l:=v0::t) (a:=v0) (by simp)
  obtain ⟨a,ha⟩:=has_in (l:=v0::t) (a:=v0) (by simp)
  have:=pv.corner pl ha hb hx (z _ ha) (z _ hb)
  have:=hf v0 (by simp)
  grind
namespace Cell
variable {c:List Sd}
theorem three (C:Cell c) {s:Sd} (hs:s∈c) {v:V} (hv:v∈s.vs):∃ t∈c,∃ u∈c,t≠s∧u≠s∧t≠u∧t.h.at v=0∧u.h.at v=0:=by
 obtain ⟨b,hb⟩:=has_out hv
 obtain ⟨a,ha⟩:=has_in hv
 obtain ⟨t,ht,hts,hte,k,hk,hf⟩:=C.beside hs hb
 obtain ⟨u,hu,hus,hue,k',hk',hf'⟩:=C.beside hs ha
 have pv:=C.pv s hs
 refine ⟨t,ht,u,hu,hts,hus,?_,C.pl t ht _ (mem_snd hte),C.pl u hu _ (mem_fst hue)⟩
 intro e
 subst e
 have ha0:t.h.at a=0:=C.pl t ht _ (mem_snd hue)
 have hab:a≠b:=by
  intro h;subst h
  exact two_dirs pv hb ha
 have ho:=pv.lf _ hb a (mem_fst ha) (pv.ne ha) hab
 have:=hf a (C.pl s hs a (mem_fst ha))
 rw[ha0]at this
 simp only at ho this
 grind
end Cell
end Geo
