import Derived.Test.YtjlfgmhmalbiiaaGreatDoorV23
set_option linter.all false
namespace Geo
structure Spl (c:List Sd) (g:H):Prop where
 C:Cell c
 lo:∃ s∈c,∃ v∈s.vs,g.at v<0
 hi:∃ s∈c,∃ v∈s.vs,0<g.at v
theorem lt3 {a b c:Rat} {P:Prop} (h1:a<b) (h2:b<c) (h3:c<a):P:=by exfalso;grind
namespace Spl
variable {c:List Sd} {g:H}
theorem inner (S:Spl c g):∃ y,Inn c y∧g.at y=0:=by
 obtain⟨m,hm⟩:=S.C.exists_inn
 obtain⟨s,hs,v,hv,gv⟩:=S.lo
 obtain⟨s',hs',v',hv',gv'⟩:=S.hi
 let f:H:=⟨(-1:Rat)*g.n,- g.d⟩
 have hf:∀ x,f.at x=- g.at x:=fun x=>by simp only[f,H.at,dot,eK,eJ,eF];grind
 obtain⟨a,ha,fa⟩:=wA (S.C.cl_vert hs hv) hm (f:=f) (by rw[hf];grind)
 obtain⟨b,hb,fb⟩:=wA (S.C.cl_vert hs' hv') hm (f:=g) gv'
 rw[hf]at fa
 obtain⟨t,t0,t1,t2,_,te⟩:=X_w (g:=g) (a:=a) (b:=b) (by grind) fb
 refine⟨X g a b,fun u hu=>?_,tS (by grind)⟩
 rw[te]
 exact x7 (Rat.le_of_lt (ha u hu)) (hb u hu) (t2 (by grind)) (Rat.le_of_lt t1)
theorem front (S:Spl c g):∃ y,Inn c y∧0<g.at y:=by
 obtain⟨m,hm⟩:=S.C.exists_inn
 obtain⟨s',hs',v',hv',gv'⟩:=S.hi
 exact wA (S.C.cl_vert hs' hv') hm gv'
theorem edge_on (S : Spl c g) {t : Sd} (ht : t ∈ aW g c) {e : V × V} (he : e ∈ edges t.vs) (z1 : g.at e.1 = 0) (z2 : g.at e.2 = 0) :
  0<dot (aA t.h.n g.n) (aA t.h.n g.n)∧∃ k:Rat,0<k∧∀ x,g.at x=0→ori g.n e.2 e.1 x=k * - t.h.at x:=by
 have pv:=S.C.cut_pv ht
 have pl:=S.C.cut_pl ht
 obtain⟨w,hw,gw⟩:=S.C.cut_low ht
 have hw1:w≠e.1:=fun h=>by rw[h,z1]at gw;grind
 have hw2:w≠e.2:=fun h=>by rw[h,z2]at gw;grind
 have ow:=pv.lf e he w hw hw1 hw2
 exact⟨oT (a:=e.1) (w:=w) pv.n_ne (by rw[pl _ (bL he),pl w hw]) (by rw[z1];grind),
  a0f (pl _ (bL he)) (pl _ (bU he)) z1 z2 (pl w hw) gw ow⟩
theorem strict (S : Spl c g) {t : Sd} (ht : t ∈ aW g c) {e : V × V} (he : e ∈ edges t.vs) (z1 : g.at e.1 = 0) (z2 : g.at e.2 = 0)
  {t':Sd} (ht':t'∈aW g c) {x:V} (hx:x∈t'.vs) (gx:g.at x=0) (n1:x≠e.1) (n2:x≠e.2):t.h.at x<0:=by
 obtain⟨s,hs,eh⟩:=S.C.cut_h ht
 have hcx:=S.C.cut_cl ht' hx
 have hle:t.h.at x≤0:=by rw[eh];exact hcx s hs
 rcases fR hle with h|h0
 ·exact h
 exfalso
 obtain⟨hN,_⟩:=S.edge_on ht he z1 z2
 have pl:=S.C.cut_pl ht
 have a0:=pl _ (bL he)
 have b0:=pl _ (bU he)
 have ca:=S.C.cut_cl ht (bL he)
 have cb:=S.C.cut_cl ht (bU he)
 have nab:=(S.C.cut_pv ht).ne he
 have le:∀ {q:Rat},q=0→q≤0:=fun h=>by rw[h];exact Rat.le_refl
 have inj:∀ {p q:V},t.h.at p=0→t.h.at q=0→g.at p=0→g.at q=0→p≠q→dot p (aA t.h.n g.n)<dot q (aA t.h.n g.n)∨dot q (aA t.h.n g.n)<dot p (aA t.h.n g.n):=by
  intro p q hp hq gp gq hne
  rcases Rat.le_total (a:=dot p (aA t.h.n g.n)) (b:=dot q (aA t.h.n g.n))with h|h
  ·rcases fR h with h|h
   ·exact .inl h
   ·exact absurd (vF hN hp hq gp gq h) hne
  ·rcases fR h with h|h
   ·exact .inr h
   ·exact absurd (vF hN hp hq gp gq h.symm) hne
 have mid : ∀ {p q m : V} {u : Sd}, u ∈ aW g c → m ∈ u.vs → t.h.at p = 0 → t.h.at q = 0 → t.h.at m = 0 → g.at p = 0 → g.at q = 0 → g.at m = 0 → Cl c p → Cl c q → p ≠ m →
   dot p (aA t.h.n g.n)<dot m (aA t.h.n g.n)→dot m (aA t.h.n g.n)<dot q (aA t.h.n g.n)→False:=by
  intro p q m u hu hm hp hq hm0 gp gq gm cp cq hne h1 h2
  obtain⟨τ,τ0,τ1,e⟩:=a6c hN hp hq gp gq hm0 gm h1 h2
  exact hne (S.C.cut_extreme hu hm τ0 τ1 e cp (le gp) cq (le gq)).1
 have ma:=bL he
 have mb:=bU he
 rcases inj a0 b0 z1 z2 nab with ab|ab<;>rcases inj a0 h0 z1 gx (Ne.symm n1)with ax|ax<;>rcases inj b0 h0 z2 gx (Ne.symm n2)with bx|bx
 ·exact mid ht mb a0 h0 b0 z1 gx z2 ca hcx nab ab bx
 ·exact mid ht' hx a0 b0 h0 z1 z2 gx ca cb (Ne.symm n1) ax bx
 ·exact lt3 ab bx ax
 ·exact mid ht ma h0 b0 a0 gx z2 z1 hcx cb n1 ax ab
 ·exact mid ht ma b0 h0 a0 z2 gx z1 cb hcx (Ne.symm nab) ab ax
 ·exact lt3 ab ax bx
 ·exact mid ht' hx b0 a0 h0 z2 z1 gx cb ca (Ne.symm n2) bx ax
 ·exact mid ht mb h0 a0 b0 gx z1 z2 hcx ca n2 bx ab
theorem kU {e:V × V}:e∈HE g c↔∃ t∈aW g c,e∈edges t.vs∧g.at e.1=0∧g.at e.2=0:=by
 unfold HE E
 rw[List.mem_filter,List.mem_flatMap]
 constructor
 ·rintro⟨⟨t,ht,he⟩,ho⟩
  exact⟨t,ht,he,by simpa [off]using ho⟩
 ·rintro⟨t,ht,he,hz⟩
  exact⟨⟨t,ht,he⟩,by simpa [off]using hz⟩
theorem one_side (S:Spl c g) {s t:Sd} (hs:s∈aW g c) (ht:t∈aW g c) {e:V × V} (h1:e∈edges s.vs) (h2:e∈edges t.vs):s.h=t.h:=by
 obtain⟨s0,hs0,es⟩:=S.C.cut_h hs
 obtain⟨t0,ht0,et⟩:=S.C.cut_h ht
 obtain⟨m,hm⟩:=S.C.exists_inn
 obtain⟨w,hw,w1,w2⟩:=(S.C.cut_pv hs).other h1
 obtain⟨w',hw',w1',w2'⟩:=(S.C.cut_pv ht).other h2
 have p:Prp s.h t.h:=c4j (m:=m) (S.C.cut_pl hs _ (bL h1)) (S.C.cut_pl hs _ (bU h1)) (S.C.cut_pl ht _ (bL h2)) (S.C.cut_pl ht _ (bU h2))
  (S.C.cut_pl hs w hw) ((S.C.cut_pv hs).lf e h1 w hw w1 w2) (by rw[et];exact S.C.cut_cl hs hw t0 ht0) (S.C.cut_pl ht w' hw') ((S.C.cut_pv ht).lf e h2 w' hw' w1' w2') (by rw[es];exact S.C.cut_cl ht hw' s0 hs0) (by rw[es];exact hm s0 hs0) (by rw[et];exact hm t0 ht0)
 rw[es,et]at p
 rcases S.C.sep hs0 ht0 with h|h
 ·rw[es,et,h]
 ·exact absurd p h
theorem dist_of (S:Spl c g):(aW g c).Pairwise fun s t=>¬ Prp s.h t.h:=by
 have key:∀ l:List Sd,(l.Pairwise fun s t=>¬ Prp s.h t.h)→(aW g l).Pairwise fun s t=>¬ Prp s.h t.h:=by
  intro l
  induction l with
  | nil=>intro _;exact List.Pairwise.nil
  | cons s l ih =>
   intro h
   rw[List.pairwise_cons]at h
   have ih:=ih h.2
   by_cases hl:gY g s.vs=true
   ·have e:aW g (s::l)=⟨s.h,part g s.vs⟩::aW g l:=by simp[aW,hl]
    rw[e,List.pairwise_cons]
    refine⟨fun t ht=>?_,ih⟩
    obtain⟨u,hu,_,rfl⟩:=yS.1 ht
    exact h.1 u hu
   ·have e:aW g (s::l)=aW g l:=by simp[aW,hl]
    rw[e];exact ih
 exact key c S.C.dist
theorem b6p (h:H):Prp h h:=⟨1,by grind,fun x=>by grind⟩
theorem E_nodup (S:Spl c g):(E (aW g c)).Nodup:=by
 have key:∀ l:List Sd,(∀ s∈l,s∈aW g c)→(l.Pairwise fun s t=>¬ Prp s.h t.h)→(E l).Nodup:=by
  intro l
  induction l with
  | nil=>intro _ _;simp[E]
  | cons s l ih =>
   intro hm h
   rw[List.pairwise_cons]at h
   have e:E (s::l)=edges s.vs++E l:=rfl
   rw[e,List.nodup_append]
   refine⟨rJ (S.C.cut_pv (hm s (by simp))).nd,ih (fun t ht=>hm t (by simp[ht])) h.2,?_⟩
   intro a ha b hb hab
   subst hab
   obtain⟨t,ht,hbt⟩:=List.mem_flatMap.1 hb
   have:=S.one_side (hm s (by simp)) (hm t (by simp[ht])) ha hbt
   exact h.1 t ht (by rw[this];exact b6p _)
 exact key _ (fun s hs=>hs) S.dist_of
theorem a9e {l:List (V × V)} (h:l.Perm (l.map sw)):(l.map (·.1)).Perm (l.map (·.2)):=by
 have:=h.map (·.1)
 rw[List.map_map]at this
 exact this
theorem E_io (L:List Sd):((E L).map (·.1)).Perm ((E L).map (·.2)):=by
 induction L with
 | nil=>exact List.Perm.refl _
 | cons s l ih =>
  have e:E (s::l)=edges s.vs++E l:=rfl
  rw[e,List.map_append,List.map_append]
  refine List.Perm.append ?_ ih
  rw[i6]
  exact (xM s.vs).symm
theorem cyc (S:Spl c g):Cyc g ((HE g c).map sw):=by
 obtain⟨y,hy,gy⟩:=S.inner
 have hon:∀ e∈HE g c,g.at e.1=0∧g.at e.2=0:=fun e he=>by obtain⟨t,_,_,h⟩:=kU.1 he;exact h
 have hio0:((HE g c).map (·.1)).Perm ((HE g c).map (·.2)):=by
  have h1:=E_io (aW g c)
  have h2:=a9e (S.C.off_closed (g:=g))
  have hp:=List.filter_append_perm (off g) (E (aW g c))
  have a1:=(hp.map (·.1))
  have a2:=(hp.map (·.2))
  rw[List.map_append]at a1 a2
  have h3:=(a1.trans h1).trans a2.symm
  have h4:=(List.Perm.append_right ((HE g c).map (·.1)) h2.symm).trans h3
  exact (List.perm_append_left_iff _).1 h4
 have hlf:∀ e∈HE g c,∀ e'∈HE g c,e'.2≠e.2→e'.2≠e.1→0<ori g.n e.2 e.1 e'.2:=by
  intro e he e' he' n1 n2
  obtain⟨t,ht,h1,z1,z2⟩:=kU.1 he
  obtain⟨t',ht',h1',z1',z2'⟩:=kU.1 he'
  obtain⟨_,k,hk,hf⟩:=S.edge_on ht h1 z1 z2
  rw[hf _ z2']
  exact Rat.mul_pos hk (by have:=S.strict ht h1 z1 z2 ht' (bU h1') z2' n2 n1;grind)
 refine⟨?_,?_,?_,?_,?_,⟨y,?_⟩⟩
 ·intro e he
  obtain⟨e0,he0,rfl⟩:=List.mem_map.1 he
  exact (hon e0 he0).symm
 ·intro e he x hx n1 n2
  obtain⟨e0,he0,rfl⟩:=List.mem_map.1 he
  rw[List.map_map]at hx
  obtain⟨e1,he1,rfl⟩:=List.mem_map.1 hx
  exact hlf e0 he0 e1 he1 n1 n2
 ·rw[List.map_map,List.map_map]
  exact hio0.symm
 ·rw[List.map_map]
  have nd:(HE g c).Nodup:=S.E_nodup.filter _
  have:∀ l:List (V × V),l.Nodup→(∀ e∈l,e∈HE g c)→(l.map (·.2)).Nodup:=by
   intro l
   induction l with
   | nil=>intro _ _;simp
   | cons e l ih =>
    intro hn hm
    rw[List.nodup_cons]at hn
    rw[List.map_cons,List.nodup_cons]
    refine⟨fun hmem=>?_,ih hn.2 fun e he=>hm e (by simp[he])⟩
    obtain⟨e',he',heq⟩:=List.mem_map.1 hmem
    have m1:=hm e (by simp)
    have m2:=hm e' (by simp[he'])
    obtain⟨t,ht,h1,z1,z2⟩:=kU.1 m1
    obtain⟨t',ht',h1',z1',z2'⟩:=kU.1 m2
    have hb:e'.1=e.1:=by
     apply Classical.byContradiction
     intro hne
     obtain⟨_,k,hk,hf⟩:=S.edge_on ht h1 z1 z2
     obtain⟨_,k',hk',hf'⟩:=S.edge_on ht' h1' z1' z2'
     have n1:e'.1≠e.2:=fun h=>(S.C.cut_pv ht').ne h1' (h.trans heq.symm)
     have n2:e.1≠e'.2:=fun h=>(S.C.cut_pv ht).ne h1 (h.trans heq)
     have q1:=S.strict ht h1 z1 z2 ht' (bL h1') z1' hne n1
     have q2:=S.strict ht' h1' z1' z2' ht (bL h1) z1 (Ne.symm hne) n2
     have f1:=hf _ z1'
     have f2:=hf' _ z1
     have p1:=Rat.mul_pos hk (show 0 < - t.h.at e'.1 by grind)
     have p2:=Rat.mul_pos hk' (show 0 < - t'.h.at e.1 by grind)
     rw[heq]at f2
     have:ori g.n e.2 e'.1 e.1=- ori g.n e.2 e.1 e'.1:=by simp only[ori,dot,aA,dY,dT,dM];grind
     grind
    have:e'=e:=Prod.ext hb heq
    exact hn.1 (this▸he')
  exact this _ nd fun e he=>he
 ·intro e he
  obtain⟨e0,he0,rfl⟩:=List.mem_map.1 he
  obtain⟨t,ht,h1,_⟩:=kU.1 he0
  exact Ne.symm ((S.C.cut_pv ht).ne h1)
 ·intro e he
  obtain⟨e0,he0,rfl⟩:=List.mem_map.1 he
  obtain⟨t,ht,h1,z1,z2⟩:=kU.1 he0
  obtain⟨_,k,hk,hf⟩:=S.edge_on ht h1 z1 z2
  show 0<ori g.n e0.2 e0.1 y
  rw[hf y gy]
  obtain⟨s,hs,eh⟩:=S.C.cut_h ht
  exact Rat.mul_pos hk (by rw[eh];have:=hy s hs;grind)
theorem cut_ne (S:Spl c g):aW g c≠[]:=by
 obtain⟨s,hs,v,hv,gv⟩:=S.lo
 intro h
 have:(⟨s.h,part g s.vs⟩:Sd)∈aW g c:=yS.2 ⟨s,hs,kF.2 ⟨v,hv,gv⟩,rfl⟩
 rw[h]at this;simp at this
theorem HE_ne (S:Spl c g):HE g c≠[]:=by
 intro h0
 obtain⟨y,hy,gy⟩:=S.front
 have hall:(E (aW g c)).filter (off g)=E (aW g c):=by
  rw[List.filter_eq_self]
  intro e he
  apply Classical.byContradiction
  intro hne
  have:e∈HE g c:=List.mem_filter.2 ⟨he,by simpa using hne⟩
  rw[h0]at this;simp at this
 have hcl:=S.C.off_closed (g:=g)
 rw[hall]at hcl
 exact a0x (fun s hs=>S.C.cut_pv hs) (fun s hs=>S.C.cut_pl hs) hcl S.cut_ne (fun s hs=>by obtain⟨u,hu,e⟩:=S.C.cut_h hs;rw[e];exact hy u hu) (fun s hs=>S.C.cut_le hs) gy
end Spl
end Geo
namespace Geo
namespace Spl
variable {c:List Sd} {g:H}
structure Cap (g:H) (c:List Sd) (cap:List V):Prop where
 pv:PV g.n cap
 ed:(edges cap).Perm ((HE g c).map sw)
theorem cap_of (S:Spl c g) {nx:V→V} (hnx:∀ e∈HE g c,nx e.2=e.1) {f:V} (hf:f∈(HE g c).map (·.2)):Cap g c (cM nx (HE g c).length f):=by
 have C:=S.cyc
 have:=C.cycle (nx:=nx) (fun e he=>by obtain⟨e0,he0,rfl⟩:=List.mem_map.1 he;exact hnx e0 he0) (f:=f) (by rw[List.map_map];exact hf)
 rw[List.length_map]at this
 exact⟨this.1,this.2⟩
theorem cap_mem (S:Spl c g) {cap:List V} (K:Cap g c cap) {v:V} (hv:v∈cap):g.at v=0∧∃ t∈aW g c,v∈t.vs:=by
 obtain⟨b,hb⟩:=pH hv
 obtain⟨e0,he0,h⟩:=List.mem_map.1 (K.ed.mem_iff.1 hb)
 obtain⟨t,ht,h1,z1,z2⟩:=kU.1 he0
 have:v=e0.2:=(congrArg (·.1) h).symm
 rw[this]
 exact⟨z2,t,ht,bU h1⟩
theorem one_on (S:Spl c g) {t:Sd} (ht:t∈aW g c) {e e':V × V} (he:e∈edges t.vs) (he':e'∈edges t.vs) (z1:g.at e.1=0) (z2:g.at e.2=0) (z1':g.at e'.1=0) (z2':g.at e'.2=0):e=e':=by
 have pv:=S.C.cut_pv ht
 have pl:=S.C.cut_pl ht
 have two:∀ x∈t.vs,g.at x=0→x=e.1∨x=e.2:=by
  intro x hx gx
  by_cases h1:x=e.1
  ·exact .inl h1
  ·by_cases h2:x=e.2
   ·exact .inr h2
   ·have:=S.strict ht he z1 z2 ht hx gx h1 h2
    rw[pl x hx]at this;grind
 rcases two _ (bL he') z1' with h|h
 ·have:(e.1,e'.2)∈edges t.vs:=h▸he'
  have h2:=a1g pv.nd (show (e.1,e.2)∈edges t.vs from he) this
  exact Prod.ext h.symm h2
 ·rcases two _ (bU he') z2' with h'|h'
  ·have:e'=sw e:=Prod.ext h h'
   exact (uT pv he (this▸he')).elim
  ·exact absurd (h.trans h'.symm) (pv.ne he')
theorem HE_le (S:Spl c g):(HE g c).length≤(aW g c).length:=by
 have key:∀ l:List Sd,(∀ s∈l,s∈aW g c)→((E l).filter fun e=>!off g e).length≤l.length:=by
  intro l
  induction l with
  | nil=>intro _;simp[E]
  | cons s l ih =>
   intro hm
   have ih:=ih fun t ht=>hm t (by simp[ht])
   have e:E (s::l)=edges s.vs++E l:=rfl
   rw[e,List.filter_append,List.length_append,List.length_cons]
   have h1:((edges s.vs).filter fun e=>!off g e).length≤1:=by
    have nd:((edges s.vs).filter fun e=>!off g e).Nodup:=(rJ (S.C.cut_pv (hm s (by simp))).nd).filter _
    match hq:(edges s.vs).filter fun e=>!off g e,nd with
    | [],_=>simp
    | [_],_=>simp
    | a::b::r,nd =>
     exfalso
     have ma:a∈(edges s.vs).filter fun e=>!off g e:=by rw[hq];simp
     have mb:b∈(edges s.vs).filter fun e=>!off g e:=by rw[hq];simp
     rw[List.mem_filter]at ma mb
     have za:g.at a.1=0∧g.at a.2=0:=by simpa [off]using ma.2
     have zb:g.at b.1=0∧g.at b.2=0:=by simpa [off]using mb.2
     have:=S.one_on (hm s (by simp)) ma.1 mb.1 za.1 za.2 zb.1 zb.2
     simp[this]at nd
   omega
 exact key _ fun s hs=>hs
theorem cell (S:Spl c g) {cap:List V} (K:Cap g c cap):Cell (aW g c++[⟨g,cap⟩]):=by
 have hmem:∀ {s:Sd},s∈aW g c++[⟨g,cap⟩]↔s∈aW g c∨s=⟨g,cap⟩:=by intro s;simp
 have hE:E (aW g c++[⟨g,cap⟩])=E (aW g c)++edges cap:=by unfold E;rw[List.flatMap_append];simp
 have hsplit:(E (aW g c)).Perm ((E (aW g c)).filter (off g)++HE g c):=(List.filter_append_perm (off g) (E (aW g c))).symm
 refine⟨?_,?_,?_,?_,?_,?_,?_⟩
 ·intro s hs
  rcases hmem.1 hs with h|rfl
  ·exact S.C.cut_pv h
  ·exact K.pv
 ·intro s hs v hv
  rcases hmem.1 hs with h|rfl
  ·exact S.C.cut_pl h v hv
  ·exact (S.cap_mem K hv).1
 ·intro s hs t ht v hv
  obtain⟨u,hu,hvu⟩:∃ u∈aW g c,v∈u.vs:=by
   rcases hmem.1 ht with h|rfl
   ·exact⟨t,h,hv⟩
   ·exact (S.cap_mem K hv).2
  rcases hmem.1 hs with h|rfl
  ·obtain⟨s0,hs0,e⟩:=S.C.cut_h h
   rw[e];exact S.C.cut_cl hu hvu s0 hs0
  ·exact S.C.cut_le hu v hvu
 ·rw[hE]
  have h1:=(hsplit.append K.ed)
  refine h1.trans ?_
  have h2:=h1.map sw
  refine List.Perm.trans ?_ h2.symm
  rw[List.map_append,List.map_append,List.map_map]
  have e1:(HE g c).map (sw∘sw)=HE g c:=by
   have:(sw∘sw:V × V→V × V)=id:=by funext e;rfl
   rw[this,List.map_id]
  rw[e1,List.append_assoc,List.append_assoc]
  exact List.Perm.append S.C.off_closed List.perm_append_comm
 ·rw[hE,List.nodup_append]
  refine⟨S.E_nodup,rJ K.pv.nd,?_⟩
  intro a ha b hb hab
  subst hab
  obtain⟨e0,he0,h⟩:=List.mem_map.1 (K.ed.mem_iff.1 hb)
  obtain⟨t,ht,h1,z1,z2⟩:=kU.1 he0
  obtain⟨t',ht',h1'⟩:=List.mem_flatMap.1 ha
  subst h
  obtain⟨y,hy,gy⟩:=S.inner
  obtain⟨_,k,hk,hf⟩:=S.edge_on ht h1 z1 z2
  obtain⟨_,k',hk',hf'⟩:=S.edge_on ht' h1' z2 z1
  obtain⟨s,hs,e⟩:=S.C.cut_h ht
  obtain⟨s',hs',e'⟩:=S.C.cut_h ht'
  have p1:=Rat.mul_pos hk (show 0 < - t.h.at y by rw[e];have:=hy s hs;grind)
  have p2:=Rat.mul_pos hk' (show 0 < - t'.h.at y by rw[e'];have:=hy s' hs';grind)
  have f1:=hf y gy
  have f2:=hf' y gy
  rw[show (sw e0).1=e0.2 from rfl,show (sw e0).2=e0.1 from rfl,uX]at f2
  grind
 ·have h1:=S.HE_le
  have h2:=K.ed.length_eq
  rw[gC,List.length_map]at h2
  have h3:=K.pv.len
  simp only[List.length_append,List.length_cons,List.length_nil]
  omega
 ·rw[List.pairwise_append]
  refine⟨S.dist_of,by simp,?_⟩
  intro s hs t ht hp
  simp at ht;subst ht
  obtain⟨k,hk,hf⟩:=hp
  obtain⟨w,hw,gw⟩:=S.C.cut_low hs
  have h1:=hf w
  rw[S.C.cut_pl hs w hw]at h1
  have:=Rat.mul_pos hk (show 0 < - g.at w by grind)
  grind
end Spl
end Geo
namespace Geo
def neg (g:H):H:=⟨(-1:Rat)*g.n,- g.d⟩
theorem vR (g:H) (x:V):(neg g).at x=- g.at x:=by simp only[neg,H.at,dot,eK,eJ,eF];grind
end Geo
namespace Geo
namespace Spl
variable {c:List Sd} {g:H}
theorem neg (S:Spl c g):Spl c (neg g):=by
 refine⟨S.C,?_,?_⟩
 ·obtain⟨s,hs,v,hv,gv⟩:=S.hi;exact⟨s,hs,v,hv,by rw[vR];grind⟩
 ·obtain⟨s,hs,v,hv,gv⟩:=S.lo;exact⟨s,hs,v,hv,by rw[vR];grind⟩
theorem not_on (S:Spl c g) {s:Sd} (hs:s∈c):gY g s.vs=true∨gY (Geo.neg g) s.vs=true:=by
 apply Classical.byContradiction
 intro hno
 have h0:∀ v∈s.vs,g.at v=0:=by
  intro v hv
  have a:¬ g.at v<0:=fun h=>hno (.inl (kF.2 ⟨v,hv,h⟩))
  have b:¬ 0<g.at v:=fun h=>hno (.inr (kF.2 ⟨v,hv,by rw[vR];grind⟩))
  grind
 obtain⟨k,hk⟩:=yQ (S.C.pv s hs) (S.C.pl s hs) h0
 obtain⟨t,ht,v,hv,gv⟩:=S.lo
 obtain⟨t',ht',v',hv',gv'⟩:=S.hi
 have a:=S.C.le s hs t ht v hv
 have b:=S.C.le s hs t' ht' v' hv'
 rw[hk]at gv gv'
 have p:0<k:=by
  apply Rat.not_le.1
  intro h
  have:=Rat.mul_nonneg (a:=-k) (b:=- s.h.at v) (by grind) (by grind)
  grind
 have:=Rat.mul_nonneg (Rat.le_of_lt p) (show 0≤- s.h.at v' by grind)
 grind
end Spl
def Ext (c:List Sd) (x:V):Prop:=Cl c x∧∀ p q:V,∀ t:Rat,0<t→t<1→Cl c p→Cl c q→x=bX t p q→p=x∧q=x
namespace Cell
variable {c:List Sd}
theorem vert_ext (C:Cell c) {s:Sd} (hs:s∈c) {v:V} (hv:v∈s.vs):Ext c v:=by
 refine⟨C.cl_vert hs hv,fun p q t t0 t1 hp hq e=>?_⟩
 have h0:=C.pl s hs v hv
 have e2:(1 - t) * - s.h.at p+t * - s.h.at q=0:=by rw[e,jR]at h0;grind
 obtain⟨z1,z2⟩:=uO t0 t1 (by have:=hp s hs;grind) (by have:=hq s hs;grind) e2
 have z1:s.h.at p=0:=by grind
 have z2:s.h.at q=0:=by grind
 exact (C.pv s hs).extreme (C.pl s hs) hv t0 t1 e z1 z2 (fun e he=>C.face hs he hp z1) (fun e he=>C.face hs he hq z2)
theorem mid (x d:V) (t:Rat):x=bX (1/2) (x+t*d) (x+(-t)*d):=by
 apply V.ext<;>simp only[bX,iE,iD,iC,dY,dT,dM,eK,eJ,eF]<;>grind
theorem yY (h:H) (x d:V) (t:Rat):h.at (x+t*d)=h.at x+t*dot h.n d:=by simp only[H.at,dot,iE,iD,iC,eK,eJ,eF];grind
theorem b4o {l:List Sd} {x d:V} (h:∀ s∈l,s.h.at x<0∨(s.h.at x=0∧dot s.h.n d=0)):∃ t:Rat,0<t∧(∀ s∈l,s.h.at (x+t*d)≤0)∧∀ s∈l,s.h.at (x+(-t)*d)≤0:=by
 have key:∃ t:Rat,0<t∧∀ u:Rat,-t≤u→u≤t→∀ s∈l,s.h.at (x+u*d)≤0:=by
  induction l with
  | nil=>exact⟨1,by grind,fun u _ _ s hs=>by simp at hs⟩
  | cons s l ih =>
   obtain⟨t,t0,ht⟩:=ih fun s hs=>h s (by simp[hs])
   rcases h s (by simp)with hs|⟨hs,hd⟩
   ·
    obtain⟨r,r0,hr⟩:∃ r:Rat,0<r∧∀ u:Rat,-r≤u→u≤r→s.h.at (x+u*d)≤0:=by
     by_cases hz:dot s.h.n d=0
     ·exact⟨1,by grind,fun u _ _=>by rw[yY,hz];grind⟩
     ·have hq:0<dot s.h.n d*dot s.h.n d:=by
       have:=jJ (dot s.h.n d)
       rcases fR this with h|h
       ·exact h
       ·rcases Rat.mul_eq_zero.1 h.symm with h|h<;>exact absurd h hz
      have hi:0<1+dot s.h.n d*dot s.h.n d:=by grind
      have hii:=Rat.inv_pos.2 hi
      have hc:(1+dot s.h.n d*dot s.h.n d)*(1+dot s.h.n d*dot s.h.n d)⁻¹=1:=Rat.mul_inv_cancel _ (by grind)
      refine⟨- s.h.at x*(1+dot s.h.n d*dot s.h.n d)⁻¹,Rat.mul_pos (by grind) hii,fun u u1 u2=>?_⟩
      rw[yY]
      generalize dot s.h.n d=D at *
      generalize (1+D*D)⁻¹=i at *
      generalize s.h.at x=X at *
      have a1:D≤1+D*D:=by have:=jJ (D - 1);have:=jJ D;grind
      have a2:-D≤1+D*D:=by have:=jJ (D+1);have:=jJ D;grind
      have r0:0 < -X*i:=Rat.mul_pos (by grind) hii
      have r1:-X*i*(1+D*D)=-X:=by
       have:-X*i*(1+D*D)=-X*((1+D*D)*i):=by grind
       rw[this,hc];grind
      generalize -X*i=r at *
      rcases Rat.le_total (a:=0) (b:=D)with hD|hD
      ·have p1:=Rat.mul_nonneg (show 0≤r - u by grind) hD
       have p2:=Rat.mul_nonneg (Rat.le_of_lt r0) (show 0≤1+D*D - D by grind)
       grind
      ·have p1:=Rat.mul_nonneg (show 0≤r+u by grind) (show 0≤-D by grind)
       have p2:=Rat.mul_nonneg (Rat.le_of_lt r0) (show 0≤1+D*D+D by grind)
       grind
    by_cases hle:t≤r
    ·exact⟨t,t0,fun u u1 u2 v hv=>by
      rcases List.mem_cons.1 hv with rfl|hv
      ·exact hr u (by grind) (by grind)
      ·exact ht u u1 u2 v hv⟩
    ·exact⟨r,r0,fun u u1 u2 v hv=>by
      rcases List.mem_cons.1 hv with rfl|hv
      ·exact hr u u1 u2
      ·exact ht u (by grind) (by grind) v hv⟩
   ·exact⟨t,t0,fun u u1 u2 v hv=>by
     rcases List.mem_cons.1 hv with rfl|hv
     ·rw[yY,hs,hd];grind
     ·exact ht u u1 u2 v hv⟩
 obtain⟨t,t0,ht⟩:=key
 exact⟨t,t0,ht t (by grind) (by grind),ht (-t) (by grind) (by grind)⟩
end Cell
end Geo
namespace Geo
namespace Cell
variable {c:List Sd}
theorem c2b {x d:V} (hx:Ext c x) (hd:d≠⟨0,0,0⟩) (h:∃ t:Rat,0<t∧Cl c (x+t*d)∧Cl c (x+(-t)*d)):False:=by
 obtain⟨t,t0,h1,h2⟩:=h
 obtain⟨e,_⟩:=hx.2 _ _ (1/2) (by grind) (by grind) h1 h2 (mid x d t)
 have ex:=congrArg V.x e
 have ey:=congrArg V.y e
 have ez:=congrArg V.z e
 simp only[iE,iD,iC,eK,eJ,eF]at ex ey ez
 have z:∀ q:Rat,t*q=0→q=0:=fun q hq=>by
  rcases Rat.mul_eq_zero.1 hq with h|h
  ·grind
  ·exact h
 exact hd (V.ext (z _ (by grind)) (z _ (by grind)) (z _ (by grind)))
end Cell
end Geo
namespace Go.Sx
open Geo (H V)
set_option linter.unusedVariables false
def tH (b:Pl):H:=⟨⟨(b.a:Rat),(b.b:Rat),(b.c:Rat)⟩,(b.d:Rat)⟩
theorem nZ {p:Pt} (hp:0<p.w):(p.w:Rat)≠0:=by
 have:(0:Rat)<(p.w:Rat):=Rat.intCast_pos.2 hp
 grind
theorem wI (b:Pl) {p:Pt} (hp:0<p.w):(tH b).at (tv p)=(abv b p:Rat) / (p.w:Rat):=by
 have hw:=nZ hp
 have hi:(p.w:Rat)*(p.w:Rat)⁻¹=1:=Rat.mul_inv_cancel _ hw
 simp only[H.at,Geo.dot,tH,tv,abv,Rat.intCast_sub,Rat.intCast_add,Rat.intCast_mul,Rat.div_def]
 grind
theorem mS (b:Pl) {p:Pt} (hp:0<p.w):(tH b).at (tv p)<0↔abv b p<0:=by
 rw[wI b hp,Rat.div_lt_iff (Rat.intCast_pos.2 hp),Rat.zero_mul]
 exact Rat.intCast_lt_intCast (b:=0)
theorem qJ (b:Pl) {p:Pt} (hp:0<p.w):0<(tH b).at (tv p)↔0<abv b p:=by
 rw[wI b hp,Rat.lt_div_iff (Rat.intCast_pos.2 hp),Rat.zero_mul]
 exact Rat.intCast_lt_intCast (a:=0)
theorem qK (b:Pl) {p:Pt} (hp:0<p.w):(tH b).at (tv p)=0↔abv b p=0:=by
 have h1:=mS b hp
 have h2:=qJ b hp
 constructor
 ·intro h
  have k1:¬ abv b p<0:=fun hh=>by have:=h1.2 hh;grind
  have k2:¬ 0<abv b p:=fun hh=>by have:=h2.2 hh;grind
  omega
 ·intro h
  have k1:¬ (tH b).at (tv p)<0:=fun hh=>by have:=h1.1 hh;omega
  have k2:¬ 0<(tH b).at (tv p):=fun hh=>by have:=h2.1 hh;omega
  grind
theorem a4s {b:Pl} {p:Pt}:aB b p=-1↔abv b p<0:=by unfold aB;rcases gD (abv b p)with⟨e,h⟩|⟨e,h⟩|⟨e,h⟩<;>omega
theorem yJ {b:Pl} {p:Pt}:aB b p=0↔abv b p=0:=by unfold aB;rcases gD (abv b p)with⟨e,h⟩|⟨e,h⟩|⟨e,h⟩<;>omega
theorem a4t {b:Pl} {p:Pt}:aB b p=1↔0<abv b p:=by unfold aB;rcases gD (abv b p)with⟨e,h⟩|⟨e,h⟩|⟨e,h⟩<;>omega
theorem r7 (b:Pl) (p:Pt):aB (bH b) p=- aB b p:=by
 unfold aB
 rw[yZ]
 rcases gD (abv b p)with⟨e,h⟩|⟨e,h⟩|⟨e,h⟩<;>rcases gD (- abv b p)with⟨e',h'⟩|⟨e',h'⟩|⟨e',h'⟩<;>omega
theorem yO {b:Pl} {p q:Pt} (hp:0<p.w) (hq:0<q.w):aB b p*aB b q<0↔(tH b).at (tv p)*(tH b).at (tv q)<0:=by
 have p1:=mS b hp
 have p2:=qJ b hp
 have q1:=mS b hq
 have q2:=qJ b hq
 generalize (tH b).at (tv p)=x at *
 generalize (tH b).at (tv q)=y at *
 constructor
 ·intro h
  rcases opp h with⟨h1,h2⟩|⟨h1,h2⟩
  ·have a1:=p1.2 h1;have a2:=q2.2 h2
   exact (Geo.m0 a2).2 a1
  ·have a1:=p2.2 h1;have a2:=q1.2 h2
   rw[Rat.mul_comm];exact (Geo.m0 a1).2 a2
 ·intro h
  unfold aB
  rcases gD (abv b p)with⟨e,h1⟩|⟨e,h1⟩|⟨e,h1⟩<;>rcases gD (abv b q)with⟨e',h2⟩|⟨e',h2⟩|⟨e',h2⟩<;>rw[e,e']<;>first|decide|exfalso
  ·exact Geo.sU (Rat.le_of_lt (p1.2 h1)) (Rat.le_of_lt (q1.2 h2)) h
  ·have:y=0:=by
    have k1:¬ y<0:=fun hh=>by have:=q1.1 hh;omega
    have k2:¬ 0<y:=fun hh=>by have:=q2.1 hh;omega
    grind
   rw[this]at h;grind
  ·have:x=0:=by
    have k1:¬ x<0:=fun hh=>by have:=p1.1 hh;omega
    have k2:¬ 0<x:=fun hh=>by have:=p2.1 hh;omega
    grind
   rw[this]at h;grind
  ·have:x=0:=by
    have k1:¬ x<0:=fun hh=>by have:=p1.1 hh;omega
    have k2:¬ 0<x:=fun hh=>by have:=p2.1 hh;omega
    grind
   rw[this]at h;grind
  ·have:x=0:=by
    have k1:¬ x<0:=fun hh=>by have:=p1.1 hh;omega
    have k2:¬ 0<x:=fun hh=>by have:=p2.1 hh;omega
    grind
   rw[this]at h;grind
  ·have:y=0:=by
    have k1:¬ y<0:=fun hh=>by have:=q1.1 hh;omega
    have k2:¬ 0<y:=fun hh=>by have:=q2.1 hh;omega
    grind
   rw[this]at h;grind
  ·exact Geo.a7c (Rat.le_of_lt (p2.2 h1)) (Rat.le_of_lt (q2.2 h2)) h
theorem xS {x w g:Int} (hg:g≠0) (hw:w≠0) (hx:g∣x) (hd:g∣w):(turn w (x / g):Rat) / (turn w (w / g):Rat)=(x:Rat) / (w:Rat):=by
 obtain⟨x',rfl⟩:=hx
 obtain⟨w',rfl⟩:=hd
 rw[Int.mul_ediv_cancel_left _ hg,Int.mul_ediv_cancel_left _ hg]
 have hw':w'≠0:=fun h=>hw (by rw[h];simp)
 have a1:(g:Rat)≠0:=by exact_mod_cast hg
 have a2:(w':Rat)≠0:=by exact_mod_cast hw'
 have i1:(g:Rat)*(g:Rat)⁻¹=1:=Rat.mul_inv_cancel _ a1
 have i2:(w':Rat)*(w':Rat)⁻¹=1:=Rat.mul_inv_cancel _ a2
 have e:((g*x':Int):Rat) / ((g*w':Int):Rat)=(x':Rat) / (w':Rat):=by
  rw[Rat.intCast_mul,Rat.intCast_mul]
  grind
 rw[e]
 unfold turn
 split
 ·rw[Rat.intCast_neg,Rat.intCast_neg];grind
 ·rfl
theorem y8 {x y z w:Int} (hw:w≠0):tv (nrm x y z w)=⟨(x:Rat) / (w:Rat),(y:Rat) / (w:Rat),(z:Rat) / (w:Rat)⟩:=by
 have hz:nz w=w:=if_neg hw
 have hp:=sX (x:=x) (y:=y) (z:=z) hw
 have hg:(g4 x y z w:Int)≠0:=by omega
 obtain⟨d1,d2,d3,d4⟩:=kV x y z w
 unfold nrm tv
 rw[hz]
 apply V.ext
 ·exact xS hg hw d1 d4
 ·exact xS hg hw d2 d4
 ·exact xS hg hw d3 d4
theorem mix {ax aw bx bw A B:Rat} (ha:aw≠0) (hb:bw≠0) (hD:aw*B - bw*A≠0):(ax*B - bx*A) / (aw*B - bw*A)=ax / aw+(A / aw) / ((A / aw) - (B / bw))*(bx / bw - ax / aw):=by
 have h1:A / aw - B / bw≠0:=by
  intro h
  apply hD
  have i1:aw*aw⁻¹=1:=Rat.mul_inv_cancel _ ha
  have i2:bw*bw⁻¹=1:=Rat.mul_inv_cancel _ hb
  rw[Rat.div_def,Rat.div_def]at h
  grind
 grind
theorem a5j {b:Pl} {p q:Pt} (hp:0<p.w) (hq:0<q.w) (h:aB b p*aB b q<0):tv (bW b p q)=Geo.X (tH b) (tv p) (tv q):=by
 have hD:=fE hp hq h
 have hD':(p.w:Rat)*(abv b q:Rat) - (q.w:Rat)*(abv b p:Rat)≠0:=by
  rw[← Rat.intCast_mul,← Rat.intCast_mul,← Rat.intCast_sub]
  exact_mod_cast hD
 unfold bW
 rw[y8 hD]
 simp only[Rat.intCast_sub,Rat.intCast_mul]
 unfold Geo.X Geo.bX
 rw[wI b hp,wI b hq]
 apply V.ext
 ·exact mix (nZ hp) (nZ hq) hD'
 ·exact mix (nZ hp) (nZ hq) hD'
 ·exact mix (nZ hp) (nZ hq) hD'
theorem c1g {x y z w:Int} (hw:w≠0):nrm (-x) (-y) (-z) (-w)=nrm x y z w:=by
 have hz:nz w=w:=if_neg hw
 have hz':nz (-w)=-w:=if_neg (by omega)
 have hg:g4 (-x) (-y) (-z) (-w)=g4 x y z w:=by unfold g4;simp
 obtain⟨d1,d2,d3,d4⟩:=kV x y z w
 have key:∀ a:Int,(g4 x y z w:Int)∣a→turn (-w) (-a / (g4 x y z w:Int))=turn w (a / (g4 x y z w:Int)):=by
  intro a ha
  rw[Int.neg_ediv_of_dvd ha]
  unfold turn
  split
  ·rw[if_neg (by omega)];omega
  ·rw[if_pos (by omega)]
 unfold nrm
 rw[hz,hz',hg,key x d1,key y d2,key z d3,key w d4]
theorem b7d {b:Pl} {p q:Pt} (hp:0<p.w) (hq:0<q.w) (h:aB b p*aB b q<0):bW (bH b) p q=bW b p q:=by
 have hD:=fE hp hq h
 unfold bW
 rw[yZ,yZ]
 have e:∀ x y:Int,x * -abv b q - y * -abv b p=-(x*abv b q - y*abv b p):=fun x y=>by
  rw[Int.mul_neg,Int.mul_neg];omega
 rw[e,e,e,e,c1g hD]
theorem c4x {b:Pl} {p q:Pt} (hp:0<p.w) (hq:0<q.w):pc 1 b p q=pc (-1) (bH b) p q:=by
 unfold pc
 rw[r7,r7]
 have e:- aB b p * - aB b q=aB b p*aB b q:=Int.neg_mul_neg _ _
 rw[e]
 congr 1
 ·by_cases h:aB b p=-1
  ·rw[if_neg (by omega),if_neg (by omega)]
  ·rw[if_pos (by omega),if_pos (by omega)]
 ·split
  ·rename_i h;rw[b7d hp hq h]
  ·rfl
theorem b3c {b:Pl} {vs:List Pt} (h:∀ v∈vs,0<v.w):bD 1 b vs=bD (-1) (bH b) vs:=by
 unfold bD
 have key:∀ l:List (Pt × Pt),(∀ e∈l,0<e.1.w∧0<e.2.w)→(l.flatMap fun e=>pc 1 b e.1 e.2)=l.flatMap fun e=>pc (-1) (bH b) e.1 e.2:=by
  intro l
  induction l with
  | nil=>intro _;rfl
  | cons a l ih =>
   intro hl
   obtain⟨h1,h2⟩:=hl a (by simp)
   rw[List.flatMap_cons,List.flatMap_cons,c4x h1 h2,ih fun e he=>hl e (by simp[he])]
 exact key _ fun e he=>⟨h _ (Geo.bL he),h _ (Geo.bU he)⟩
theorem b2j (b:Pl) (vs:List Pt) (n:Nat):bG 1 b vs n=bG (-1) (bH b) vs n:=by
 unfold bG
 congr 1
 funext v
 rw[r7]
 congr 1
 simp only[eq_iff_iff]
 omega
theorem pc_tv {b:Pl} {p q:Pt} (hp:0<p.w) (hq:0<q.w):(pc (-1) b p q).map tv=Geo.eB (tH b) (tv p,tv q):=by
 unfold pc Geo.eB
 rw[List.map_append]
 have hgt:=qJ b hp
 congr 1
 ·by_cases h:aB b p=1
  ·have:=hgt.2 (a4t.1 h)
   rw[if_neg (by omega),if_neg (by grind)]
   rfl
  ·have:¬ 0<(tH b).at (tv p):=fun hh=>h (a4t.2 (hgt.1 hh))
   rw[if_pos (by omega),if_pos (by grind)]
   rfl
 ·by_cases h:aB b p*aB b q<0
  ·rw[if_pos h,if_pos ((yO hp hq).1 h)]
   simp only[List.map_cons,List.map_nil,a5j hp hq h]
  ·rw[if_neg h,if_neg (fun hh=>h ((yO hp hq).2 hh))]
   rfl
theorem a3j {b:Pl} {vs:List Pt} (h:∀ v∈vs,0<v.w):(bD (-1) b vs).map tv=Geo.part (tH b) (vs.map tv):=by
 unfold bD Geo.part
 rw[Geo.a2s]
 have key:∀ l:List (Pt × Pt),(∀ e∈l,0<e.1.w∧0<e.2.w)→(l.flatMap fun e=>pc (-1) b e.1 e.2).map tv=(l.map fun e=>(tv e.1,tv e.2)).flatMap (Geo.eB (tH b)):=by
  intro l
  induction l with
  | nil=>intro _;rfl
  | cons a l ih =>
   intro hl
   obtain⟨h1,h2⟩:=hl a (by simp)
   rw[List.flatMap_cons,List.map_append,List.map_cons,List.flatMap_cons,pc_tv h1 h2,ih fun e he=>hl e (by simp[he])]
 exact key _ fun e he=>⟨h _ (Geo.bL he),h _ (Geo.bU he)⟩
theorem b3d {h:Int} {b:Pl} {vs:List Pt} (hc:∀ v∈vs,CanP v):∀ v∈bD h b vs,CanP v:=by
 intro v hv
 unfold bD at hv
 obtain⟨e,he,hv⟩:=List.mem_flatMap.1 hv
 unfold pc at hv
 rcases List.mem_append.1 hv with hv|hv
 ·split at hv
  ·obtain rfl:v=e.1:=by simpa using hv
   exact hc _ (Geo.bL he)
  ·simp at hv
 ·split at hv
  ·obtain rfl:v=_:=by simpa using hv
   exact a3l _ _ _
  ·simp at hv
theorem a3c {b:Pl} {vs:List Pt} (h:∀ v∈vs,0<v.w):bG (-1) b vs vs.length=Geo.gY (tH b) (vs.map tv):=by
 unfold bG Geo.gY
 rw[List.take_length,List.any_map]
 apply Bool.eq_iff_iff.2
 simp only[List.any_eq_true,Function.comp,decide_eq_true_eq]
 constructor
 ·rintro⟨v,hv,e⟩;exact⟨v,hv,(mS b (h v hv)).2 (a4s.1 e)⟩
 ·rintro⟨v,hv,e⟩;exact⟨v,hv,a4s.2 ((mS b (h v hv)).1 e)⟩
end Go.Sx
