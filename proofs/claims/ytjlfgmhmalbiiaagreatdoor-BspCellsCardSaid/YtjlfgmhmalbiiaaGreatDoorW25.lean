import Derived.Test.YtjlfgmhmalbiiaaGreatDoorW24
set_option linter.all false
open Bool renaming eq_iff_iff → A8
open Int renaming mul_ediv_cancel_left → Ap, mul_neg → Be
open List renaming map_map → Aa, any_eq_true → Ab, mem_map → Ad, mem_map_of_mem → Ae, mem_cons → Ah, flatMap_cons → Aj, map_append → Ak, mem_append → Al, length_map → An, mem_of_find?_eq_some → Ao, map_cons → Aq, mem_flatMap → Ar, mem_filter → At, filterMap_cons → Ax, length_append → Ay, find?_eq_none → Az, append_assoc → A3, nodup_append → A4, length_cons → A5, find?_some → A9, Perm → Bf
open Rat renaming le_of_lt → Ac, mul_inv_cancel → Af, mul_nonneg → Ag, intCast_mul → Ai, mul_pos → Am, intCast_lt_intCast → As, intCast_neg → Au, intCast_pos → Av, intCast_sub → Aw, div_def → A6, mul_eq_zero → A7, zero_mul → Ba, inv_pos → Bb, le_refl → Bc
namespace Geo
theorem c9f {c:List Sd} {x:V} (hx:Inn c x) (d:V):∃ t:Rat,0<t∧Inn c (x+t*d):=by
 have mv:∀ (h:H) (t:Rat),h.at (x+t*d)=h.at x+t*dot h.n d:=fun h t=>by simp only[H.at,dot,gO,gN,gM,c9,c8,c7];grind
 have key:∀ l:List Sd,(∀ s∈l,s.h.at x<0)→∃ t:Rat,0<t∧∀ u:Rat,0≤u→u≤t→∀ s∈l,s.h.at (x+u*d)<0:=by
  intro l
  induction l with
  | nil=>intro _;exact⟨1,by grind,fun u _ _ s hs=>by simp at hs⟩
  | cons s l ih =>
   intro h
   obtain⟨t,t0,ht⟩:=ih fun s hs=>h s (by simp[hs])
   have hs:=h s (by simp)
   by_cases hd:dot s.h.n d≤0
   ·refine⟨t,t0,fun u u0 u1 v hv=>?_⟩
    rcases Ah.1 hv with rfl|hv
    ·rw[mv]
     have:=Ag u0 (show 0≤- dot v.h.n d by grind)
     grind
    ·exact ht u u0 u1 v hv
   ·have hd:0<dot s.h.n d:=by grind
    have hi:=Bb.2 hd
    have hc:dot s.h.n d*(dot s.h.n d)⁻¹=1:=Af _ (by grind)
    have hq:0 < - s.h.at x*(dot s.h.n d)⁻¹ / 2:=by
     have:=Am (show 0 < - s.h.at x by grind) hi
     grind
    have key2:∀ u:Rat,0≤u→u≤- s.h.at x*(dot s.h.n d)⁻¹ / 2→s.h.at (x+u*d)<0:=by
     intro u u0 u1
     rw[mv]
     have:=Ag (show 0≤- s.h.at x*(dot s.h.n d)⁻¹ / 2 - u by grind) (Ac hd)
     generalize (dot s.h.n d)⁻¹=i at *
     generalize dot s.h.n d=D at *
     have e:(- s.h.at x*i / 2 - u)*D=- s.h.at x / 2*(D*i) - u*D:=by grind
     rw[e,hc]at this
     grind
    by_cases hle:t≤- s.h.at x*(dot s.h.n d)⁻¹ / 2
    ·refine⟨t,t0,fun u u0 u1 v hv=>?_⟩
     rcases Ah.1 hv with rfl|hv
     ·exact key2 u u0 (by grind)
     ·exact ht u u0 u1 v hv
    ·refine⟨_,hq,fun u u0 u1 v hv=>?_⟩
     rcases Ah.1 hv with rfl|hv
     ·exact key2 u u0 u1
     ·exact ht u u0 (by grind) v hv
 obtain⟨t,t0,ht⟩:=key c hx
 exact⟨t,t0,fun s hs=>ht t (Ac t0) Bc s hs⟩
theorem vW {c:List Sd} {x:V} (hx:Inn c x) {f:H} (hn:f.n≠⟨0,0,0⟩) (hf:∀ y,Inn c y→f.at y≤0):f.at x<0:=by
 rcases fD (hf x hx)with h|h
 ·exact h
 ·obtain⟨t,t0,hy⟩:=c9f hx f.n
  have h1:=hf _ hy
  have mv:f.at (x+t*f.n)=f.at x+t*dot f.n f.n:=by simp only[H.at,dot,gO,gN,gM,c9,c8,c7];grind
  rw[mv,h]at h1
  have:=Am t0 (fP hn)
  grind
namespace Spl
variable {c:List Sd} {g:H}
structure Cap (g:H) (c:List Sd) (cap:List V):Prop where
 pv:PV g.n cap
 ed:(edges cap).Perm ((HE g c).map sw)
theorem cap_of (S:Spl c g) {nx:V→V} (hnx:∀ e∈HE g c,nx e.2=e.1) {f:V} (hf:f∈(HE g c).map (·.2)):Cap g c (cI nx (HE g c).length f):=by
 have C:=S.cyc
 have:=C.cycle (nx:=nx) (fun e he=>by obtain⟨e0,he0,rfl⟩:=Ad.1 he;exact hnx e0 he0) (f:=f) (by rw[Aa];exact hf)
 rw[An]at this
 exact⟨this.1,this.2⟩
theorem cap_mem (S:Spl c g) {cap:List V} (K:Cap g c cap) {v:V} (hv:v∈cap):g.at v=0∧∃ t∈aS g c,v∈t.vs:=by
 obtain⟨b,hb⟩:=oD hv
 obtain⟨e0,he0,h⟩:=Ad.1 (K.ed.mem_iff.1 hb)
 obtain⟨t,ht,h1,z1,z2⟩:=lP.1 he0
 have:v=e0.2:=(congrArg (·.1) h).symm
 rw[this]
 exact⟨z2,t,ht,bL h1⟩
theorem one_on (S:Spl c g) {t:Sd} (ht:t∈aS g c) {e e':V × V} (he:e∈edges t.vs) (he':e'∈edges t.vs) (z1:g.at e.1=0) (z2:g.at e.2=0) (z1':g.at e'.1=0) (z2':g.at e'.2=0):e=e':=by
 have pv:=S.C.cut_pv ht
 have pl:=S.C.cut_pl ht
 have two:∀ x∈t.vs,g.at x=0→x=e.1∨x=e.2:=by
  intro x hx gx
  by_cases h1:x=e.1
  ·exact .inl h1
  ·by_cases h2:x=e.2
   ·exact .inr h2
   ·have:=S.strict ht he z1 z2 ht hx gx h1 h2
    rw[pl x hx]at this;grind
 rcases two _ (bD he') z1' with h|h
 ·have:(e.1,e'.2)∈edges t.vs:=h▸he'
  have h2:=a3n pv.nd (show (e.1,e.2)∈edges t.vs from he) this
  exact Prod.ext h.symm h2
 ·rcases two _ (bL he') z2' with h'|h'
  ·have:e'=sw e:=Prod.ext h h'
   exact (sZ pv he (this▸he')).elim
  ·exact absurd (h.trans h'.symm) (pv.ne he')
theorem HE_le (S:Spl c g):(HE g c).length≤(aS g c).length:=by
 have key:∀ l:List Sd,(∀ s∈l,s∈aS g c)→((E l).filter fun e=>!off g e).length≤l.length:=by
  intro l
  induction l with
  | nil=>intro _;simp[E]
  | cons s l ih =>
   intro hm
   have ih:=ih fun t ht=>hm t (by simp[ht])
   have e:E (s::l)=edges s.vs++E l:=rfl
   rw[e,List.filter_append,Ay,A5]
   have h1:((edges s.vs).filter fun e=>!off g e).length≤1:=by
    have nd:((edges s.vs).filter fun e=>!off g e).Nodup:=(sJ (S.C.cut_pv (hm s (by simp))).nd).filter _
    match hq:(edges s.vs).filter fun e=>!off g e,nd with
    | [],_=>simp
    | [_],_=>simp
    | a::b::r,nd =>
     exfalso
     have ma:a∈(edges s.vs).filter fun e=>!off g e:=by rw[hq];simp
     have mb:b∈(edges s.vs).filter fun e=>!off g e:=by rw[hq];simp
     rw[At]at ma mb
     have za:g.at a.1=0∧g.at a.2=0:=by simpa [off]using ma.2
     have zb:g.at b.1=0∧g.at b.2=0:=by simpa [off]using mb.2
     have:=S.one_on (hm s (by simp)) ma.1 mb.1 za.1 za.2 zb.1 zb.2
     simp[this]at nd
   omega
 exact key _ fun s hs=>hs
theorem cell (S:Spl c g) {cap:List V} (K:Cap g c cap):Cell (aS g c++[⟨g,cap⟩]):=by
 have hmem:∀ {s:Sd},s∈aS g c++[⟨g,cap⟩]↔s∈aS g c∨s=⟨g,cap⟩:=by intro s;simp
 have hE:E (aS g c++[⟨g,cap⟩])=E (aS g c)++edges cap:=by unfold E;rw[List.flatMap_append];simp
 have hsplit:(E (aS g c)).Perm ((E (aS g c)).filter (off g)++HE g c):=(List.filter_append_perm (off g) (E (aS g c))).symm
 refine⟨?_,?_,?_,?_,?_,?_,?_⟩
 ·intro s hs
  rcases hmem.1 hs with h|rfl
  ·exact S.C.cut_pv h
  ·exact K.pv
 ·intro s hs v hv
  rcases hmem.1 hs with h|rfl
  ·exact S.C.cut_pl h v hv
  ·exact (S.cap_mem K hv).1
 ·intro s hs t ht v hv
  obtain⟨u,hu,hvu⟩:∃ u∈aS g c,v∈u.vs:=by
   rcases hmem.1 ht with h|rfl
   ·exact⟨t,h,hv⟩
   ·exact (S.cap_mem K hv).2
  rcases hmem.1 hs with h|rfl
  ·obtain⟨s0,hs0,e⟩:=S.C.cut_h h
   rw[e];exact S.C.cut_cl hu hvu s0 hs0
  ·exact S.C.cut_le hu v hvu
 ·rw[hE]
  have h1:=(hsplit.append K.ed)
  refine h1.trans ?_
  have h2:=h1.map sw
  refine Bf.trans ?_ h2.symm
  rw[Ak,Ak,Aa]
  have e1:(HE g c).map (sw∘sw)=HE g c:=by
   have:(sw∘sw:V × V→V × V)=id:=by funext e;rfl
   rw[this,List.map_id]
  rw[e1,A3,A3]
  exact Bf.append S.C.off_closed List.perm_append_comm
 ·rw[hE,A4]
  refine⟨S.E_nodup,sJ K.pv.nd,?_⟩
  intro a ha b hb hab
  subst hab
  obtain⟨e0,he0,h⟩:=Ad.1 (K.ed.mem_iff.1 hb)
  obtain⟨t,ht,h1,z1,z2⟩:=lP.1 he0
  obtain⟨t',ht',h1'⟩:=Ar.1 ha
  subst h
  obtain⟨y,hy,gy⟩:=S.inner
  obtain⟨_,k,hk,hf⟩:=S.edge_on ht h1 z1 z2
  obtain⟨_,k',hk',hf'⟩:=S.edge_on ht' h1' z2 z1
  obtain⟨s,hs,e⟩:=S.C.cut_h ht
  obtain⟨s',hs',e'⟩:=S.C.cut_h ht'
  have p1:=Am hk (show 0 < - t.h.at y by rw[e];have:=hy s hs;grind)
  have p2:=Am hk' (show 0 < - t'.h.at y by rw[e'];have:=hy s' hs';grind)
  have f1:=hf y gy
  have f2:=hf' y gy
  rw[show (sw e0).1=e0.2 from rfl,show (sw e0).2=e0.1 from rfl,wK]at f2
  grind
 ·have h1:=S.HE_le
  have h2:=K.ed.length_eq
  rw[fN,An]at h2
  have h3:=K.pv.len
  simp only[Ay,A5,List.length_nil]
  omega
 ·rw[List.pairwise_append]
  refine⟨S.dist_of,by simp,?_⟩
  intro s hs t ht hp
  simp at ht;subst ht
  obtain⟨k,hk,hf⟩:=hp
  obtain⟨w,hw,gw⟩:=S.C.cut_low hs
  have h1:=hf w
  rw[S.C.cut_pl hs w hw]at h1
  have:=Am hk (show 0 < - g.at w by grind)
  grind
theorem cl_iff (S:Spl c g) {cap:List V} (K:Cap g c cap) {x:V}:Cl (aS g c++[⟨g,cap⟩]) x↔Cl c x∧g.at x≤0:=by
 have D:=S.cell K
 constructor
 ·intro h
  refine⟨fun s hs=>?_,h ⟨g,cap⟩ (by simp)⟩
  refine D.hull (fun t ht v hv=>?_) h
  obtain⟨u,hu,hvu⟩:∃ u∈aS g c,v∈u.vs:=by
   rcases Al.1 ht with h|h
   ·exact⟨t,h,hv⟩
   ·simp at h;subst h
    exact (S.cap_mem K hv).2
  exact S.C.cut_cl hu hvu s hs
 ·rintro⟨h1,h2⟩ s hs
  rcases Al.1 hs with h|h
  ·obtain⟨u,hu,e⟩:=S.C.cut_h h
   rw[e];exact h1 u hu
  ·simp at h;subst h;exact h2
theorem inn_iff (S:Spl c g) {cap:List V} (K:Cap g c cap) {x:V}:Inn (aS g c++[⟨g,cap⟩]) x↔Inn c x∧g.at x<0:=by
 constructor
 ·intro h
  refine⟨fun s hs=>?_,h ⟨g,cap⟩ (by simp)⟩
  refine vW h (S.C.pv s hs).n_ne fun y hy=>?_
  exact ((S.cl_iff K).1 fun t ht=>Ac (hy t ht)).1 s hs
 ·rintro⟨h1,h2⟩ s hs
  rcases Al.1 hs with h|h
  ·obtain⟨u,hu,e⟩:=S.C.cut_h h
   rw[e];exact h1 u hu
  ·simp at h;subst h;exact h2
end Spl
end Geo
namespace Geo
def neg (g:H):H:=⟨(-1:Rat)*g.n,- g.d⟩
theorem m8 (g:H) (x:V):(neg g).at x=- g.at x:=by simp only[neg,H.at,dot,c9,c8,c7];grind
end Geo
namespace Geo
namespace Spl
variable {c:List Sd} {g:H}
theorem neg (S:Spl c g):Spl c (neg g):=by
 refine⟨S.C,?_,?_⟩
 ·obtain⟨s,hs,v,hv,gv⟩:=S.hi;exact⟨s,hs,v,hv,by rw[m8];grind⟩
 ·obtain⟨s,hs,v,hv,gv⟩:=S.lo;exact⟨s,hs,v,hv,by rw[m8];grind⟩
theorem not_on (S:Spl c g) {s:Sd} (hs:s∈c):g8 g s.vs=true∨g8 (Geo.neg g) s.vs=true:=by
 apply Classical.byContradiction
 intro hno
 have h0:∀ v∈s.vs,g.at v=0:=by
  intro v hv
  have a:¬ g.at v<0:=fun h=>hno (.inl (kX.2 ⟨v,hv,h⟩))
  have b:¬ 0<g.at v:=fun h=>hno (.inr (kX.2 ⟨v,hv,by rw[m8];grind⟩))
  grind
 obtain⟨k,hk⟩:=a0l (S.C.pv s hs) (S.C.pl s hs) h0
 obtain⟨t,ht,v,hv,gv⟩:=S.lo
 obtain⟨t',ht',v',hv',gv'⟩:=S.hi
 have a:=S.C.le s hs t ht v hv
 have b:=S.C.le s hs t' ht' v' hv'
 rw[hk]at gv gv'
 have p:0<k:=by
  apply Rat.not_le.1
  intro h
  have:=Ag (a:=-k) (b:=- s.h.at v) (by grind) (by grind)
  grind
 have:=Ag (Ac p) (show 0≤- s.h.at v' by grind)
 grind
end Spl
def Ext (c:List Sd) (x:V):Prop:=Cl c x∧∀ p q:V,∀ t:Rat,0<t→t<1→Cl c p→Cl c q→x=bP t p q→p=x∧q=x
namespace Cell
variable {c:List Sd}
theorem vert_ext (C:Cell c) {s:Sd} (hs:s∈c) {v:V} (hv:v∈s.vs):Ext c v:=by
 refine⟨C.cl_vert hs hv,fun p q t t0 t1 hp hq e=>?_⟩
 have h0:=C.pl s hs v hv
 have e2:(1 - t) * - s.h.at p+t * - s.h.at q=0:=by rw[e,j0]at h0;grind
 obtain⟨z1,z2⟩:=vX t0 t1 (by have:=hp s hs;grind) (by have:=hq s hs;grind) e2
 have z1:s.h.at p=0:=by grind
 have z2:s.h.at q=0:=by grind
 exact (C.pv s hs).extreme (C.pl s hs) hv t0 t1 e z1 z2 (fun e he=>C.face hs he hp z1) (fun e he=>C.face hs he hq z2)
theorem mid (x d:V) (t:Rat):x=bP (1/2) (x+t*d) (x+(-t)*d):=by
 apply V.ext<;>simp only[bP,gO,gN,gM,dM,dL,dK,c9,c8,c7]<;>grind
theorem a0t (h:H) (x d:V) (t:Rat):h.at (x+t*d)=h.at x+t*dot h.n d:=by simp only[H.at,dot,gO,gN,gM,c9,c8,c7];grind
theorem b7x {l:List Sd} {x d:V} (h:∀ s∈l,s.h.at x<0∨(s.h.at x=0∧dot s.h.n d=0)):∃ t:Rat,0<t∧(∀ s∈l,s.h.at (x+t*d)≤0)∧∀ s∈l,s.h.at (x+(-t)*d)≤0:=by
 have key:∃ t:Rat,0<t∧∀ u:Rat,-t≤u→u≤t→∀ s∈l,s.h.at (x+u*d)≤0:=by
  induction l with
  | nil=>exact⟨1,by grind,fun u _ _ s hs=>by simp at hs⟩
  | cons s l ih =>
   obtain⟨t,t0,ht⟩:=ih fun s hs=>h s (by simp[hs])
   rcases h s (by simp)with hs|⟨hs,hd⟩
   ·
    obtain⟨r,r0,hr⟩:∃ r:Rat,0<r∧∀ u:Rat,-r≤u→u≤r→s.h.at (x+u*d)≤0:=by
     by_cases hz:dot s.h.n d=0
     ·exact⟨1,by grind,fun u _ _=>by rw[a0t,hz];grind⟩
     ·have hq:0<dot s.h.n d*dot s.h.n d:=by
       have:=jS (dot s.h.n d)
       rcases fD this with h|h
       ·exact h
       ·rcases A7.1 h.symm with h|h<;>exact absurd h hz
      have hi:0<1+dot s.h.n d*dot s.h.n d:=by grind
      have hii:=Bb.2 hi
      have hc:(1+dot s.h.n d*dot s.h.n d)*(1+dot s.h.n d*dot s.h.n d)⁻¹=1:=Af _ (by grind)
      refine⟨- s.h.at x*(1+dot s.h.n d*dot s.h.n d)⁻¹,Am (by grind) hii,fun u u1 u2=>?_⟩
      rw[a0t]
      generalize dot s.h.n d=D at *
      generalize (1+D*D)⁻¹=i at *
      generalize s.h.at x=X at *
      have a1:D≤1+D*D:=by have:=jS (D - 1);have:=jS D;grind
      have a2:-D≤1+D*D:=by have:=jS (D+1);have:=jS D;grind
      have r0:0 < -X*i:=Am (by grind) hii
      have r1:-X*i*(1+D*D)=-X:=by
       have:-X*i*(1+D*D)=-X*((1+D*D)*i):=by grind
       rw[this,hc];grind
      generalize -X*i=r at *
      rcases Rat.le_total (a:=0) (b:=D)with hD|hD
      ·have p1:=Ag (show 0≤r - u by grind) hD
       have p2:=Ag (Ac r0) (show 0≤1+D*D - D by grind)
       grind
      ·have p1:=Ag (show 0≤r+u by grind) (show 0≤-D by grind)
       have p2:=Ag (Ac r0) (show 0≤1+D*D+D by grind)
       grind
    by_cases hle:t≤r
    ·exact⟨t,t0,fun u u1 u2 v hv=>by
      rcases Ah.1 hv with rfl|hv
      ·exact hr u (by grind) (by grind)
      ·exact ht u u1 u2 v hv⟩
    ·exact⟨r,r0,fun u u1 u2 v hv=>by
      rcases Ah.1 hv with rfl|hv
      ·exact hr u u1 u2
      ·exact ht u (by grind) (by grind) v hv⟩
   ·exact⟨t,t0,fun u u1 u2 v hv=>by
     rcases Ah.1 hv with rfl|hv
     ·rw[a0t,hs,hd];grind
     ·exact ht u u1 u2 v hv⟩
 obtain⟨t,t0,ht⟩:=key
 exact⟨t,t0,ht t (by grind) (by grind),ht (-t) (by grind) (by grind)⟩
end Cell
end Geo
namespace Geo
namespace Cell
variable {c:List Sd}
theorem c6g {x d:V} (hx:Ext c x) (hd:d≠⟨0,0,0⟩) (h:∃ t:Rat,0<t∧Cl c (x+t*d)∧Cl c (x+(-t)*d)):False:=by
 obtain⟨t,t0,h1,h2⟩:=h
 obtain⟨e,_⟩:=hx.2 _ _ (1/2) (by grind) (by grind) h1 h2 (mid x d t)
 have ex:=congrArg V.x e
 have ey:=congrArg V.y e
 have ez:=congrArg V.z e
 simp only[gO,gN,gM,c9,c8,c7]at ex ey ez
 have z:∀ q:Rat,t*q=0→q=0:=fun q hq=>by
  rcases A7.1 hq with h|h
  ·grind
  ·exact h
 exact hd (V.ext (z _ (by grind)) (z _ (by grind)) (z _ (by grind)))
theorem three (C:Cell c) {s:Sd} (hs:s∈c) {v:V} (hv:v∈s.vs):∃ t∈c,∃ u∈c,t≠s∧u≠s∧t≠u∧t.h.at v=0∧u.h.at v=0:=by
 obtain⟨b,hb⟩:=oD hv
 obtain⟨a,ha⟩:=b0a hv
 obtain⟨t,ht,hts,hte,k,hk,hf⟩:=C.beside hs hb
 obtain⟨u,hu,hus,hue,k',hk',hf'⟩:=C.beside hs ha
 have pv:=C.pv s hs
 refine⟨t,ht,u,hu,hts,hus,?_,C.pl t ht _ (bL hte),C.pl u hu _ (bD hue)⟩
 intro e
 subst e
 have ha0:t.h.at a=0:=C.pl t ht _ (bL hue)
 have hab:a≠b:=by
  intro h;subst h
  exact sZ pv hb ha
 have ho:=pv.lf _ hb a (bD ha) (pv.ne ha) hab
 have:=hf a (C.pl s hs a (bD ha))
 rw[ha0]at this
 simp only at ho this
 grind
end Cell
end Geo
namespace Go.Sx
open Geo (H V)
set_option linter.unusedVariables false
def tH (b:Pl):H:=⟨⟨(b.a:Rat),(b.b:Rat),(b.c:Rat)⟩,(b.d:Rat)⟩
theorem a1c (b:Pl):tH (aW b)=Geo.neg (tH b):=by
 unfold tH aW Geo.neg
 congr 1
 apply V.ext<;>simp only[Geo.c9,Geo.c8,Geo.c7,Au]<;>grind
theorem kC {p:Pt} (hp:0<p.w):(p.w:Rat)≠0:=by
 have:(0:Rat)<(p.w:Rat):=Av.2 hp
 grind
theorem x7 (b:Pl) {p:Pt} (hp:0<p.w):(tH b).at (tv p)=(abv b p:Rat) / (p.w:Rat):=by
 have hw:=kC hp
 have hi:(p.w:Rat)*(p.w:Rat)⁻¹=1:=Af _ hw
 simp only[H.at,Geo.dot,tH,tv,abv,Aw,Rat.intCast_add,Ai,A6]
 grind
theorem nJ (b:Pl) {p:Pt} (hp:0<p.w):(tH b).at (tv p)<0↔abv b p<0:=by
 rw[x7 b hp,Rat.div_lt_iff (Av.2 hp),Ba]
 exact As (b:=0)
theorem kA (b:Pl) {p:Pt} (hp:0<p.w):0<(tH b).at (tv p)↔0<abv b p:=by
 rw[x7 b hp,Rat.lt_div_iff (Av.2 hp),Ba]
 exact As (a:=0)
theorem jN (b:Pl) {p:Pt} (hp:0<p.w):(tH b).at (tv p)=0↔abv b p=0:=by
 have h1:=nJ b hp
 have h2:=kA b hp
 constructor
 ·intro h
  have k1:¬ abv b p<0:=fun hh=>by have:=h1.2 hh;grind
  have k2:¬ 0<abv b p:=fun hh=>by have:=h2.2 hh;grind
  omega
 ·intro h
  have k1:¬ (tH b).at (tv p)<0:=fun hh=>by have:=h1.1 hh;omega
  have k2:¬ 0<(tH b).at (tv p):=fun hh=>by have:=h2.1 hh;omega
  grind
theorem a7e {b:Pl} {p:Pt}:aB b p=-1↔abv b p<0:=by unfold aB;rcases gS (abv b p)with⟨e,h⟩|⟨e,h⟩|⟨e,h⟩<;>omega
theorem mW {b:Pl} {p:Pt}:aB b p=0↔abv b p=0:=by unfold aB;rcases gS (abv b p)with⟨e,h⟩|⟨e,h⟩|⟨e,h⟩<;>omega
theorem a0d {b:Pl} {p:Pt}:aB b p=1↔0<abv b p:=by unfold aB;rcases gS (abv b p)with⟨e,h⟩|⟨e,h⟩|⟨e,h⟩<;>omega
theorem tD (b:Pl) (p:Pt):aB (aW b) p=- aB b p:=by
 unfold aB
 rw[a0u]
 rcases gS (abv b p)with⟨e,h⟩|⟨e,h⟩|⟨e,h⟩<;>rcases gS (- abv b p)with⟨e',h'⟩|⟨e',h'⟩|⟨e',h'⟩<;>omega
theorem b4i (b:Pl):aW (aW b)=b:=by cases b;simp[aW]
theorem a0i {b:Pl} {p q:Pt} (hp:0<p.w) (hq:0<q.w):aB b p*aB b q<0↔(tH b).at (tv p)*(tH b).at (tv q)<0:=by
 have p1:=nJ b hp
 have p2:=kA b hp
 have q1:=nJ b hq
 have q2:=kA b hq
 generalize (tH b).at (tv p)=x at *
 generalize (tH b).at (tv q)=y at *
 constructor
 ·intro h
  rcases opp h with⟨h1,h2⟩|⟨h1,h2⟩
  ·have a1:=p1.2 h1;have a2:=q2.2 h2
   exact (Geo.nU a2).2 a1
  ·have a1:=p2.2 h1;have a2:=q1.2 h2
   rw[Rat.mul_comm];exact (Geo.nU a1).2 a2
 ·intro h
  unfold aB
  rcases gS (abv b p)with⟨e,h1⟩|⟨e,h1⟩|⟨e,h1⟩<;>rcases gS (abv b q)with⟨e',h2⟩|⟨e',h2⟩|⟨e',h2⟩<;>rw[e,e']<;>first|decide|exfalso
  ·exact Geo.uC (Ac (p1.2 h1)) (Ac (q1.2 h2)) h
  ·have:y=0:=by
    have k1:¬ y<0:=fun hh=>by have:=q1.1 hh;omega
    have k2:¬ 0<y:=fun hh=>by have:=q2.1 hh;omega
    grind
   rw[this]at h;grind
  ·have:x=0:=by
    have k1:¬ x<0:=fun hh=>by have:=p1.1 hh;omega
    have k2:¬ 0<x:=fun hh=>by have:=p2.1 hh;omega
    grind
   rw[this]at h;grind
  ·have:x=0:=by
    have k1:¬ x<0:=fun hh=>by have:=p1.1 hh;omega
    have k2:¬ 0<x:=fun hh=>by have:=p2.1 hh;omega
    grind
   rw[this]at h;grind
  ·have:x=0:=by
    have k1:¬ x<0:=fun hh=>by have:=p1.1 hh;omega
    have k2:¬ 0<x:=fun hh=>by have:=p2.1 hh;omega
    grind
   rw[this]at h;grind
  ·have:y=0:=by
    have k1:¬ y<0:=fun hh=>by have:=q1.1 hh;omega
    have k2:¬ 0<y:=fun hh=>by have:=q2.1 hh;omega
    grind
   rw[this]at h;grind
  ·exact Geo.a9w (Ac (p2.2 h1)) (Ac (q2.2 h2)) h
theorem zE {x w g:Int} (hg:g≠0) (hw:w≠0) (hx:g∣x) (hd:g∣w):(turn w (x / g):Rat) / (turn w (w / g):Rat)=(x:Rat) / (w:Rat):=by
 obtain⟨x',rfl⟩:=hx
 obtain⟨w',rfl⟩:=hd
 rw[Ap _ hg,Ap _ hg]
 have hw':w'≠0:=fun h=>hw (by rw[h];simp)
 have a1:(g:Rat)≠0:=by exact_mod_cast hg
 have a2:(w':Rat)≠0:=by exact_mod_cast hw'
 have i1:(g:Rat)*(g:Rat)⁻¹=1:=Af _ a1
 have i2:(w':Rat)*(w':Rat)⁻¹=1:=Af _ a2
 have e:((g*x':Int):Rat) / ((g*w':Int):Rat)=(x':Rat) / (w':Rat):=by
  rw[Ai,Ai]
  grind
 rw[e]
 unfold turn
 split
 ·rw[Au,Au];grind
 ·rfl
theorem a0z {x y z w:Int} (hw:w≠0):tv (nrm x y z w)=⟨(x:Rat) / (w:Rat),(y:Rat) / (w:Rat),(z:Rat) / (w:Rat)⟩:=by
 have hz:nz w=w:=if_neg hw
 have hp:=uD (x:=x) (y:=y) (z:=z) hw
 have hg:(g4 x y z w:Int)≠0:=by omega
 obtain⟨d1,d2,d3,d4⟩:=j4 x y z w
 unfold nrm tv
 rw[hz]
 apply V.ext
 ·exact zE hg hw d1 d4
 ·exact zE hg hw d2 d4
 ·exact zE hg hw d3 d4
theorem mix {ax aw bx bw A B:Rat} (ha:aw≠0) (hb:bw≠0) (hD:aw*B - bw*A≠0):(ax*B - bx*A) / (aw*B - bw*A)=ax / aw+(A / aw) / ((A / aw) - (B / bw))*(bx / bw - ax / aw):=by
 have h1:A / aw - B / bw≠0:=by
  intro h
  apply hD
  have i1:aw*aw⁻¹=1:=Af _ ha
  have i2:bw*bw⁻¹=1:=Af _ hb
  rw[A6,A6]at h
  grind
 grind
theorem a7x {b:Pl} {p q:Pt} (hp:0<p.w) (hq:0<q.w) (h:aB b p*aB b q<0):tv (bO b p q)=Geo.X (tH b) (tv p) (tv q):=by
 have hD:=fI hp hq h
 have hD':(p.w:Rat)*(abv b q:Rat) - (q.w:Rat)*(abv b p:Rat)≠0:=by
  rw[← Ai,← Ai,← Aw]
  exact_mod_cast hD
 unfold bO
 rw[a0z hD]
 simp only[Aw,Ai]
 unfold Geo.X Geo.bP
 rw[x7 b hp,x7 b hq]
 apply V.ext
 ·exact mix (kC hp) (kC hq) hD'
 ·exact mix (kC hp) (kC hq) hD'
 ·exact mix (kC hp) (kC hq) hD'
theorem c5g {x y z w:Int} (hw:w≠0):nrm (-x) (-y) (-z) (-w)=nrm x y z w:=by
 have hz:nz w=w:=if_neg hw
 have hz':nz (-w)=-w:=if_neg (by omega)
 have hg:g4 (-x) (-y) (-z) (-w)=g4 x y z w:=by unfold g4;simp
 obtain⟨d1,d2,d3,d4⟩:=j4 x y z w
 have key:∀ a:Int,(g4 x y z w:Int)∣a→turn (-w) (-a / (g4 x y z w:Int))=turn w (a / (g4 x y z w:Int)):=by
  intro a ha
  rw[Int.neg_ediv_of_dvd ha]
  unfold turn
  split
  ·rw[if_neg (by omega)];omega
  ·rw[if_pos (by omega)]
 unfold nrm
 rw[hz,hz',hg,key x d1,key y d2,key z d3,key w d4]
theorem c0t {b:Pl} {p q:Pt} (hp:0<p.w) (hq:0<q.w) (h:aB b p*aB b q<0):bO (aW b) p q=bO b p q:=by
 have hD:=fI hp hq h
 unfold bO
 rw[a0u,a0u]
 have e:∀ x y:Int,x * -abv b q - y * -abv b p=-(x*abv b q - y*abv b p):=fun x y=>by
  rw[Be,Be];omega
 rw[e,e,e,e,c5g hD]
theorem c9e {b:Pl} {p q:Pt} (hp:0<p.w) (hq:0<q.w):pc 1 b p q=pc (-1) (aW b) p q:=by
 unfold pc
 rw[tD,tD]
 have e:- aB b p * - aB b q=aB b p*aB b q:=Int.neg_mul_neg _ _
 rw[e]
 congr 1
 ·by_cases h:aB b p=-1
  ·rw[if_neg (by omega),if_neg (by omega)]
  ·rw[if_pos (by omega),if_pos (by omega)]
 ·split
  ·rename_i h;rw[c0t hp hq h]
  ·rfl
theorem b6j {b:Pl} {vs:List Pt} (h:∀ v∈vs,0<v.w):bC 1 b vs=bC (-1) (aW b) vs:=by
 unfold bC
 have key:∀ l:List (Pt × Pt),(∀ e∈l,0<e.1.w∧0<e.2.w)→(l.flatMap fun e=>pc 1 b e.1 e.2)=l.flatMap fun e=>pc (-1) (aW b) e.1 e.2:=by
  intro l
  induction l with
  | nil=>intro _;rfl
  | cons a l ih =>
   intro hl
   obtain⟨h1,h2⟩:=hl a (by simp)
   rw[Aj,Aj,c9e h1 h2,ih fun e he=>hl e (by simp[he])]
 exact key _ fun e he=>⟨h _ (Geo.bD he),h _ (Geo.bL he)⟩
theorem b5q (b:Pl) (vs:List Pt) (n:Nat):bF 1 b vs n=bF (-1) (aW b) vs n:=by
 unfold bF
 congr 1
 funext v
 rw[tD]
 congr 1
 simp only[eq_iff_iff]
 omega
theorem pc_tv {b:Pl} {p q:Pt} (hp:0<p.w) (hq:0<q.w):(pc (-1) b p q).map tv=Geo.eJ (tH b) (tv p,tv q):=by
 unfold pc Geo.eJ
 rw[Ak]
 have hgt:=kA b hp
 congr 1
 ·by_cases h:aB b p=1
  ·have:=hgt.2 (a0d.1 h)
   rw[if_neg (by omega),if_neg (by grind)]
   rfl
  ·have:¬ 0<(tH b).at (tv p):=fun hh=>h (a0d.2 (hgt.1 hh))
   rw[if_pos (by omega),if_pos (by grind)]
   rfl
 ·by_cases h:aB b p*aB b q<0
  ·rw[if_pos h,if_pos ((a0i hp hq).1 h)]
   simp only[Aq,List.map_nil,a7x hp hq h]
  ·rw[if_neg h,if_neg (fun hh=>h ((a0i hp hq).2 hh))]
   rfl
theorem a5q {b:Pl} {vs:List Pt} (h:∀ v∈vs,0<v.w):(bC (-1) b vs).map tv=Geo.part (tH b) (vs.map tv):=by
 unfold bC Geo.part
 rw[Geo.y9]
 have key:∀ l:List (Pt × Pt),(∀ e∈l,0<e.1.w∧0<e.2.w)→(l.flatMap fun e=>pc (-1) b e.1 e.2).map tv=(l.map fun e=>(tv e.1,tv e.2)).flatMap (Geo.eJ (tH b)):=by
  intro l
  induction l with
  | nil=>intro _;rfl
  | cons a l ih =>
   intro hl
   obtain⟨h1,h2⟩:=hl a (by simp)
   rw[Aj,Ak,Aq,Aj,pc_tv h1 h2,ih fun e he=>hl e (by simp[he])]
 exact key _ fun e he=>⟨h _ (Geo.bD he),h _ (Geo.bL he)⟩
theorem b6k {h:Int} {b:Pl} {vs:List Pt} (hc:∀ v∈vs,CanP v):∀ v∈bC h b vs,CanP v:=by
 intro v hv
 unfold bC at hv
 obtain⟨e,he,hv⟩:=Ar.1 hv
 unfold pc at hv
 rcases Al.1 hv with hv|hv
 ·split at hv
  ·obtain rfl:v=e.1:=by simpa using hv
   exact hc _ (Geo.bD he)
  ·simp at hv
 ·split at hv
  ·obtain rfl:v=_:=by simpa using hv
   exact a5u _ _ _
  ·simp at hv
theorem a5k {b:Pl} {vs:List Pt} (h:∀ v∈vs,0<v.w):bF (-1) b vs vs.length=Geo.g8 (tH b) (vs.map tv):=by
 unfold bF Geo.g8
 rw[List.take_length,List.any_map]
 apply A8.2
 simp only[Ab,Function.comp,decide_eq_true_eq]
 constructor
 ·rintro⟨v,hv,e⟩;exact⟨v,hv,(nJ b (h v hv)).2 (a7e.1 e)⟩
 ·rintro⟨v,hv,e⟩;exact⟨v,hv,a7e.2 ((nJ b (h v hv)).1 e)⟩
end Go.Sx
namespace Go.Sx
open Geo (H V Sd)
set_option linter.unusedVariables false
abbrev aC:=List (Pl × List Pt)
def sd (s:Pl × List Pt):Sd:=⟨tH s.1,s.2.map tv⟩
def sds (l:aC):List Sd:=l.map sd
def bh (b:Pl) (l:aC):aC:=l.filterMap fun s=>if bF (-1) b s.2 s.2.length then some (s.1,bC (-1) b s.2)else none
def iK (b:Pl) (l:aC):aC:=bh b l++[(b,b6 b (bh b l))]
def aY (b:Pl) (l:aC):Bool:=l.any fun s=>s.2.any fun v=>decide (0<aB b v)
def aZ (b:Pl) (l:aC):Bool:=l.any fun s=>s.2.any fun v=>decide (aB b v<0)
def aP (b:Pl) (l:aC):aC × aC:=if aY b l=false then (l,[])else if aZ b l=false then ([],l)else (iK b l,iK (aW b) l)
structure CanC (l:aC):Prop where
 can:∀ s∈l,∀ v∈s.2,CanP v
structure CellOK (l:aC):Prop extends CanC l where
 cell:Geo.Cell (sds l)
theorem CanC.w {l:aC} (h:CanC l) {s:Pl × List Pt} (hs:s∈l):∀ v∈s.2,0<v.w:=fun v hv=>(h.can s hs v hv).w
theorem qW {b:Pl} {l:aC} (h:CanC l):CanC (bh b l):=by
 refine⟨fun s hs=>?_⟩
 obtain⟨t,ht,e⟩:=List.mem_filterMap.1 hs
 split at e
 ·obtain rfl:=Option.some.inj e
  exact b6k (h.can t ht)
 ·contradiction
theorem xR {b:Pl} {l:aC} (h:CanC l):sds (bh b l)=Geo.aS (tH b) (sds l):=by
 unfold sds bh Geo.aS
 rw[List.map_filterMap,List.filterMap_map]
 induction l with
 | nil=>rfl
 | cons s l ih =>
  have hs:=h.w (s:=s) (by simp)
  have e:Option.map sd (if bF (-1) b s.2 s.2.length=true then some (s.1,bC (-1) b s.2)else none)=((fun s=>if Geo.g8 (tH b) s.vs=true then some (⟨s.h,Geo.part (tH b) s.vs⟩:Sd)else none)∘sd) s:=by
   simp only[Function.comp,sd]
   rw[a5k hs]
   by_cases hl:Geo.g8 (tH b) (s.2.map tv)=true
   ·rw[if_pos hl]
    refine Eq.trans ?_ (if_pos hl).symm
    simp only[Option.map_some,sd,a5q hs]
   ·rw[if_neg hl]
    exact (if_neg hl).symm
  rw[Ax,Ax,e,ih ⟨fun t ht=>h.can t (by simp[ht])⟩]
def tv2 (e:Pt × Pt):V × V:=(tv e.1,tv e.2)
def esP (l:aC):List (Pt × Pt):=l.flatMap fun s=>Geo.edges s.2
def onE (b:Pl) (e:Pt × Pt):Bool:=decide (aB b e.1=0∧aB b e.2=0)
theorem a2e (l:aC):Geo.E (sds l)=(esP l).map tv2:=by
 unfold Geo.E sds esP
 rw[List.flatMap_map,List.map_flatMap]
 congr 1
 funext s
 exact Geo.y9 tv s.2
theorem a6g (b:Pl) (l:aC):cU b l=bR b ([],P0) (esP l):=by
 unfold cU esP
 generalize (([],P0):MS)=s
 induction l generalizing s with
 | nil=>rfl
 | cons x l ih=>simp only[List.foldl_cons,Aj,bR,List.foldl_append]at ih ⊢;exact ih _
theorem b3j (b:Pl) (es:List (Pt × Pt)) (s:MS):bR b s es=bR b s (es.filter (onE b)):=by
 induction es generalizing s with
 | nil=>rfl
 | cons e es ih =>
  rw[List.filter_cons]
  by_cases h:onE b e=true
  ·rw[if_pos h];exact ih _
  ·rw[if_neg h]
   have:gX b s e=s:=by
    unfold gX
    rw[if_neg (fun hh=>h (by unfold onE;exact decide_eq_true hh))]
   show bR b (gX b s e) es=_
   rw[this];exact ih _
theorem c1r {b : Pl} : ∀ (he : List (Pt × Pt)) (m : List (Pt × Pt)) (f : Pt), (∀ e ∈ he, onE b e = true) → (m.map (·.1) ++ he.map (·.2)).Nodup →
  (bR b (m,f) he).1=m++he.map Geo.sw∧(he≠[]→(bR b (m,f) he).2∈he.map (·.2)):=by
 intro he
 induction he with
 | nil=>intro m f _ _;exact⟨by simp[bR],fun h=>absurd rfl h⟩
 | cons e he ih =>
  intro m f hon hnd
  have h1:gX b (m,f) e=(m++[(e.2,e.1)],e.2):=by
   have:=of_decide_eq_true (hon e (by simp))
   unfold gX j7
   rw[if_pos this,if_neg]
   intro hm
   rw[A4]at hnd
   exact hnd.2.2 _ hm e.2 (by simp) rfl
  obtain⟨k1,k2⟩:=ih (m++[(e.2,e.1)]) e.2 (fun x hx=>hon x (by simp[hx])) (by simpa using hnd)
  have h2:bR b (m,f) (e::he)=bR b (m++[(e.2,e.1)],e.2) he:=by
   show bR b (gX b (m,f) e) he=_
   rw[h1]
  rw[h2]
  refine⟨by rw[k1];simp[Geo.sw],fun _=>?_⟩
  by_cases hne:he=[]
  ·subst hne;simp[bR]
  ·simp only[Aq,Ah];exact .inr (k2 hne)
theorem zS {m:List (Pt × Pt)} (hn:(m.map (·.1)).Nodup) {e:Pt × Pt} (he:e∈m):nxP m e.1=e.2:=by
 unfold nxP qR
 cases hq:m.find? fun x=>decide (x.1=e.1)with
 | none=>have:=Az.1 hq e he;simp at this
 | some x =>
  have h1:=Ao hq
  have h2:x.1=e.1:=by have:=A9 hq;simpa using this
  have:=Geo.sB hn h1 he h2
  rw[this];rfl
theorem on_tv {b:Pl} {e:Pt × Pt} (h1:0<e.1.w) (h2:0<e.2.w):onE b e=!Geo.off (tH b) (tv2 e):=by
 unfold onE Geo.off tv2
 rw[A8]
 simp only[decide_eq_true_eq,Bool.not_eq_true',decide_eq_false_iff_not,Classical.not_not]
 rw[jN b h1,jN b h2,mW,mW]
theorem es_w {l:aC} (h:CanC l):∀ e∈esP l,CanP e.1∧CanP e.2:=by
 intro e he
 obtain⟨s,hs,he⟩:=Ar.1 he
 exact⟨h.can s hs _ (Geo.bD he),h.can s hs _ (Geo.bL he)⟩
def heP (b:Pl) (l:aC):List (Pt × Pt):=(esP (bh b l)).filter (onE b)
structure CapF (b:Pl) (l:aC):Prop where
 ne:heP b l≠[]
 nd:((heP b l).map (·.2)).Nodup
 io:∀ e∈heP b l,e.1∈(heP b l).map (·.2)
 le:(heP b l).length≤(bh b l).length
 nx:∀ e∈heP b l,nxP ((heP b l).map Geo.sw) e.2=e.1
 run:∀ f∈(heP b l).map (·.2),Geo.Spl.Cap (tH b) (sds l) ((aV (nxP ((heP b l).map Geo.sw)) (heP b l).length f).map tv)∧∀ v∈aV (nxP ((heP b l).map Geo.sw)) (heP b l).length f,CanP v
 cap:(cU b (bh b l)).1=(heP b l).map Geo.sw∧(cU b (bh b l)).2∈(heP b l).map (·.2)
 hHE:Geo.HE (tH b) (sds l)=(heP b l).map tv2
theorem tT {b:Pl} {l:aC} (h:CellOK l) (hS:Geo.Spl (sds l) (tH b)):CapF b l:=by
 have hk:=qW (b:=b) h.toCanC
 have hw:=es_w hk
 generalize hhe:heP b l=he
 have hHE:Geo.HE (tH b) (sds l)=he.map tv2:=by
  subst hhe
  unfold Geo.HE heP
  rw[← xR h.toCanC,a2e,List.filter_map]
  congr 1
  apply List.filter_congr
  intro e hh
  rw[on_tv (hw e hh).1.w (hw e hh).2.w]
  rfl
 have hcan:∀ e∈he,CanP e.1∧CanP e.2:=fun e hh=>hw e (At.1 (by subst hhe;exact hh)).1
 have hon:∀ e∈he,onE b e=true:=fun e hh=>(At.1 (by subst hhe;exact hh)).2
 have hcy:=hS.cyc
 have hnd0:(((Geo.HE (tH b) (sds l)).map Geo.sw).map (·.1)).Nodup:=hcy.nd
 have hnd:(he.map (·.2)).Nodup:=by
  rw[hHE]at hnd0
  have:((he.map tv2).map Geo.sw).map (·.1)=(he.map (·.2)).map tv:=by
   rw[Aa,Aa,Aa];rfl
  rw[this]at hnd0
  exact Geo.sF hnd0
 have hio:∀ e∈he,e.1∈he.map (·.2):=by
  intro e hh
  have h1:=hcy.io
  rw[hHE,Aa,Aa,Aa,Aa]at h1
  have h2:tv e.1∈he.map ((fun x=>x.2)∘Geo.sw∘tv2):=Ad.2 ⟨e,hh,rfl⟩
  obtain⟨e',he',q⟩:=Ad.1 (h1.mem_iff.2 h2)
  have:e'.2=e.1:=iE (hcan e' he').2 (hcan e hh).1 q
  exact Ad.2 ⟨e',he',this⟩
 obtain⟨f1,f2⟩:=c1r (b:=b) he [] P0 hon (by simpa using hnd)
 have hne:he≠[]:=fun e=>by have:=hS.HE_ne;rw[hHE,e]at this;exact this rfl
 have f3:=f2 hne
 have hfold:cU b (bh b l)=bR b ([],P0) he:=by rw[a6g,b3j];subst hhe;rfl
 have hkeys:((he.map Geo.sw).map (·.1)).Nodup:=by rw[Aa];exact hnd
 have hnx:∀ e∈he,nxP (he.map Geo.sw) e.2=e.1:=fun e hh=>zS (e:=Geo.sw e) hkeys (Ae hh)
 let nx:V→V:=fun v=>(((he.map tv2).find? fun e=>decide (e.2=v)).map (·.1)).getD v
 have hnxV:∀ e∈he,nx (tv e.2)=tv e.1:=by
  intro e hh
  have hndV:((he.map tv2).map (·.2)).Nodup:=by
   rw[hHE]at hnd0
   rw[Aa]at hnd0 ⊢
   rw[Aa]at hnd0
   exact hnd0
  show (((he.map tv2).find? fun x=>decide (x.2=tv e.2)).map (·.1)).getD (tv e.2)=tv e.1
  cases hq:(he.map tv2).find? fun x=>decide (x.2=tv e.2)with
  | none=>have:=Az.1 hq (tv2 e) (Ae hh);simp[tv2]at this
  | some x =>
   have h1:=Ao hq
   have h2:x.2=(tv2 e).2:=by have:=A9 hq;exact of_decide_eq_true this
   have:=Geo.sB hndV h1 (Ae hh) h2
   rw[this];rfl
 have hrun:∀ (n:Nat) (x:Pt),x∈he.map (·.2)→(aV (nxP (he.map Geo.sw)) n x).map tv=Geo.cI nx n (tv x)∧∀ v∈aV (nxP (he.map Geo.sw)) n x,CanP v:=by
  intro n
  induction n with
  | zero=>intro x _;exact⟨rfl,fun v hv=>by simp[aV]at hv⟩
  | succ n ih =>
   intro x hx
   obtain⟨e,hh,rfl⟩:=Ad.1 hx
   have h1:=hnx e hh
   obtain⟨i1,i2⟩:=ih e.1 (hio e hh)
   rw[aV,h1]
   refine⟨?_,fun v hv=>?_⟩
   ·rw[Aq,i1,Geo.cI,hnxV e hh]
   ·rcases Ah.1 hv with rfl|hv
    ·exact (hcan e hh).2
    ·exact i2 v hv
 have hle:he.length≤(bh b l).length:=by
  have:=hS.HE_le
  rw[hHE,← xR h.toCanC]at this
  simpa [sds]using this
 subst hhe
 refine⟨hne,hnd,hio,hle,hnx,fun f hf=>?_,by rw[hfold];exact⟨by simpa using f1,f3⟩,hHE⟩
 obtain⟨r1,r2⟩:=hrun (heP b l).length f hf
 refine⟨?_,r2⟩
 rw[r1]
 have hlen:(heP b l).length=(Geo.HE (tH b) (sds l)).length:=by rw[hHE];simp
 rw[hlen]
 refine hS.cap_of (nx:=nx) (fun e hh=>?_) ?_
 ·rw[hHE]at hh
  obtain⟨e0,hh0,rfl⟩:=Ad.1 hh
  exact hnxV e0 hh0
 ·rw[hHE,Aa]
  obtain⟨e,hh,rfl⟩:=Ad.1 hf
  exact Ad.2 ⟨e,hh,rfl⟩
theorem CapF.ex {b:Pl} {l:aC} (C:CapF b l):∃ f∈(heP b l).map (·.2),b6 b (bh b l)=aV (nxP ((heP b l).map Geo.sw)) (heP b l).length f:=by
 refine⟨_,C.cap.2,?_⟩
 unfold b6
 rw[C.cap.1,An]
theorem tS {b:Pl} {l:aC} (h:CellOK l) (hS:Geo.Spl (sds l) (tH b)):Geo.Spl.Cap (tH b) (sds l) ((b6 b (bh b l)).map tv)∧(∀ v∈b6 b (bh b l),CanP v)∧(b6 b (bh b l)).length≤(bh b l).length∧(cU b (bh b l)).1.length≤(bh b l).length:=by
 have C:=tT h hS
 obtain⟨f,hf,e⟩:=C.ex
 rw[e,C.cap.1]
 exact⟨(C.run f hf).1,(C.run f hf).2,by rw[pD];exact C.le,by rw[An];exact C.le⟩
theorem a1r {b:Pl} {l:aC} (h:CellOK l) (hS:Geo.Spl (sds l) (tH b)):Geo.Spl.Cap (tH b) (sds l) ((b6 b (bh b l)).map tv)∧∀ v∈b6 b (bh b l),CanP v:=⟨(tS h hS).1,(tS h hS).2.1⟩
theorem a1w {b:Pl} {l:aC} (h:CanC l):sds (iK b l)=Geo.aS (tH b) (sds l)++[⟨tH b,(b6 b (bh b l)).map tv⟩]:=by
 unfold iK
 show (bh b l++[(b,b6 b (bh b l))]).map sd=_
 rw[Ak]
 show sds (bh b l)++_=_
 rw[xR h]
 rfl
theorem gA {b:Pl} {l:aC} (h:CellOK l) (hf:aY b l=true) (hb:aZ b l=true):Geo.Spl (sds l) (tH b):=by
 refine⟨h.cell,?_,?_⟩
 ·unfold aZ at hb
  obtain⟨s,hs,hb⟩:=Ab.1 hb
  obtain⟨v,hv,hb⟩:=Ab.1 hb
  refine⟨sd s,Ae hs,tv v,Ae hv,(nJ b (h.w hs v hv)).2 ?_⟩
  have:=of_decide_eq_true hb
  unfold aB at this
  exact lM.1 this
 ·unfold aY at hf
  obtain⟨s,hs,hf⟩:=Ab.1 hf
  obtain⟨v,hv,hf⟩:=Ab.1 hf
  refine⟨sd s,Ae hs,tv v,Ae hv,(kA b (h.w hs v hv)).2 ?_⟩
  have:=of_decide_eq_true hf
  unfold aB at this
  exact lL.1 this
theorem zU {b:Pl} {l:aC} (h:CellOK l) (hS:Geo.Spl (sds l) (tH b)):CellOK (iK b l):=by
 obtain⟨K,hc⟩:=a1r h hS
 refine⟨⟨fun s hs=>?_⟩,?_⟩
 ·rcases Al.1 hs with hs|hs
  ·exact (qW h.toCanC).can s hs
  ·obtain rfl:s=_:=by simpa using hs
   exact hc
 ·rw[a1w h.toCanC]
  exact hS.cell K
theorem kT (b:Pl) (l:aC):aY (aW b) l=aZ b l:=by
 unfold aY aZ
 congr 1;funext s;congr 1;funext v
 rw[tD]
 congr 1
 simp only[eq_iff_iff];omega
theorem mK (b:Pl) (l:aC):aZ (aW b) l=aY b l:=by
 unfold aY aZ
 congr 1;funext s;congr 1;funext v
 rw[tD]
 congr 1
 simp only[eq_iff_iff];omega
theorem zF {b:Pl} {l:aC} (h:CellOK l):((aP b l).1=[]∨CellOK (aP b l).1)∧((aP b l).2=[]∨CellOK (aP b l).2):=by
 unfold aP
 by_cases hf:aY b l=false
 ·rw[if_pos hf];exact⟨.inr h,.inl rfl⟩
 ·rw[if_neg hf]
  by_cases hb:aZ b l=false
  ·rw[if_pos hb];exact⟨.inl rfl,.inr h⟩
  ·rw[if_neg hb]
   have hf':aY b l=true:=by simpa using hf
   have hb':aZ b l=true:=by simpa using hb
   refine⟨.inr (zU h (gA h hf' hb')),.inr (zU h (gA h (by rw[kT];exact hb') (by rw[mK];exact hf')))⟩
theorem c2v {b:Pl} {l:aC} (h:CellOK l) (hn:(tH b).n≠⟨0,0,0⟩):aY b l=true∨aZ b l=true:=by
 by_cases hf:aY b l=true
 ·exact .inl hf
 ·right
  by_cases hb:aZ b l=true
  ·exact hb
  ·exfalso
   have hz:∀ s∈sds l,∀ v∈s.vs,(tH b).at v=0:=by
    intro s hs v hv
    obtain⟨s0,hs0,rfl⟩:=Ad.1 hs
    obtain⟨v0,hv0,rfl⟩:=Ad.1 hv
    rw[jN b (h.w hs0 v0 hv0)]
    have h1:¬ 0<aB b v0:=fun hh=>hf (Ab.2 ⟨s0,hs0,Ab.2 ⟨v0,hv0,decide_eq_true hh⟩⟩)
    have h2:¬ aB b v0<0:=fun hh=>hb (Ab.2 ⟨s0,hs0,Ab.2 ⟨v0,hv0,decide_eq_true hh⟩⟩)
    unfold aB at h1 h2
    have h3:¬ 0<abv b v0:=fun hh=>h1 (lL.2 hh)
    have h4:¬ abv b v0<0:=fun hh=>h2 (lM.2 hh)
    omega
   obtain⟨m,hm⟩:=h.cell.exists_inn
   have c1:∀ y,Geo.Inn (sds l) y→(tH b).at y≤0:=fun y hy=>h.cell.hull (fun s hs v hv=>by rw[hz s hs v hv];exact Bc) fun t ht=>Ac (hy t ht)
   have c2:∀ y,Geo.Inn (sds l) y→(Geo.neg (tH b)).at y≤0:=fun y hy=>h.cell.hull (fun s hs v hv=>by rw[Geo.m8,hz s hs v hv];decide) fun t ht=>Ac (hy t ht)
   have n2:(Geo.neg (tH b)).n≠⟨0,0,0⟩:=fun e=>hn (by
    have ex:=congrArg V.x e
    have ey:=congrArg V.y e
    have ez:=congrArg V.z e
    simp only[Geo.neg,Geo.c9,Geo.c8,Geo.c7]at ex ey ez
    apply V.ext<;>simp only<;>grind)
   have d1:=Geo.vW hm hn c1
   have d2:=Geo.vW hm n2 c2
   rw[Geo.m8]at d2
   grind
end Go.Sx
namespace Go.Sx
open Geo (H V Sd)
set_option linter.unusedVariables false
def hd (vs:List Pt):V:=match vs with|[]=>⟨0,0,0⟩|v::_=>tv v
theorem b4a {b:Pl} {l:aC} (h:aY b l=true∨aZ b l=true):aP (aW b) l=((aP b l).2,(aP b l).1):=by
 unfold aP
 rw[kT,mK,b4i]
 cases hf:aY b l<;>cases hb:aZ b l<;>simp_all
end Go.Sx
