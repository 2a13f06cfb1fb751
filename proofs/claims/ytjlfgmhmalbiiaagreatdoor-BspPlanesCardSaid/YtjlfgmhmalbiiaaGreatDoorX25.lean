import Derived.Test.YtjlfgmhmalbiiaaGreatDoorX24
set_option linter.all false
open Bool renaming false_eq_true → Ar
open Int renaming mul_ediv_cancel_left → Ak, mul_neg → A7
open List renaming mem_cons → Af, flatMap_cons → Ag, map_append → Ah, filter_append_perm → Al, length_append → Aq, mem_map → As, append_assoc → At, length_cons → Au, mem_flatMap → Av, length_map → Ax, mem_filter → Ay, map_cons → Az, map_map → A0, Perm → A8
open Option renaming toList → Aj
open Rat renaming mul_inv_cancel → Aa, le_of_lt → Ab, mul_nonneg → Ac, intCast_mul → Ad, mul_pos → Ae, mul_eq_zero → Ai, intCast_lt_intCast → Am, intCast_neg → An, intCast_pos → Ao, intCast_sub → Ap, div_def → Aw, mul_comm → A3, le_total → A4, zero_mul → A5, inv_pos → A6
namespace Geo
theorem d0x {c:List Sd} {x:V} (hx:Inn c x) (d:V):∃ t:Rat,0<t∧Inn c (x+t*d):=by
 have mv:∀ (h:H) (t:Rat),h.at (x+t*d)=h.at x+t*dot h.n d:=fun h t=>by simp only[H.at,dot,gF,gE,gD,dH,dG,dF];grind
 have key:∀ l:List Sd,(∀ s∈l,s.h.at x<0)→∃ t:Rat,0<t∧∀ u:Rat,0≤u→u≤t→∀ s∈l,s.h.at (x+u*d)<0:=by
  intro l
  induction l with
  | nil=>intro _;exact⟨1,by grind,fun u _ _ s hs=>by simp at hs⟩
  | cons s l ih =>
   intro h
   obtain⟨t,t0,ht⟩:=ih fun s hs=>h s (by simp[hs])
   have hs:=h s (by simp)
   by_cases hd:dot s.h.n d≤0
   ·refine⟨t,t0,fun u u0 u1 v hv=>?_⟩
    rcases Af.1 hv with rfl|hv
    ·rw[mv]
     have:=Ac u0 (show 0≤- dot v.h.n d by grind)
     grind
    ·exact ht u u0 u1 v hv
   ·have hd:0<dot s.h.n d:=by grind
    have hi:=A6.2 hd
    have hc:dot s.h.n d*(dot s.h.n d)⁻¹=1:=Aa _ (by grind)
    have hq:0 < - s.h.at x*(dot s.h.n d)⁻¹ / 2:=by
     have:=Ae (show 0 < - s.h.at x by grind) hi
     grind
    have key2:∀ u:Rat,0≤u→u≤- s.h.at x*(dot s.h.n d)⁻¹ / 2→s.h.at (x+u*d)<0:=by
     intro u u0 u1
     rw[mv]
     have:=Ac (show 0≤- s.h.at x*(dot s.h.n d)⁻¹ / 2 - u by grind) (Ab hd)
     generalize (dot s.h.n d)⁻¹=i at *
     generalize dot s.h.n d=D at *
     have e:(- s.h.at x*i / 2 - u)*D=- s.h.at x / 2*(D*i) - u*D:=by grind
     rw[e,hc]at this
     grind
    by_cases hle:t≤- s.h.at x*(dot s.h.n d)⁻¹ / 2
    ·refine⟨t,t0,fun u u0 u1 v hv=>?_⟩
     rcases Af.1 hv with rfl|hv
     ·exact key2 u u0 (by grind)
     ·exact ht u u0 u1 v hv
    ·refine⟨_,hq,fun u u0 u1 v hv=>?_⟩
     rcases Af.1 hv with rfl|hv
     ·exact key2 u u0 u1
     ·exact ht u u0 (by grind) v hv
 obtain⟨t,t0,ht⟩:=key c hx
 exact⟨t,t0,fun s hs=>ht t (Ab t0) Rat.le_refl s hs⟩
theorem a6d {c:List Sd} {x:V} (hx:Inn c x) {f:H} (hn:f.n≠⟨0,0,0⟩) (hf:∀ y,Inn c y→f.at y≤0):f.at x<0:=by
 rcases fG (hf x hx)with h|h
 ·exact h
 ·obtain⟨t,t0,hy⟩:=d0x hx f.n
  have h1:=hf _ hy
  have mv:f.at (x+t*f.n)=f.at x+t*dot f.n f.n:=by simp only[H.at,dot,gF,gE,gD,dH,dG,dF];grind
  rw[mv,h]at h1
  have:=Ae t0 (eY hn)
  grind
namespace Spl
variable {c:List Sd} {g:H}
structure Cap (g:H) (c:List Sd) (cap:List V):Prop where
 pv:PV g.n cap
 ed:(edges cap).Perm ((HE g c).map sw)
theorem cap_of (S:Spl c g) {nx:V→V} (hnx:∀ e∈HE g c,nx e.2=e.1) {f:V} (hf:f∈(HE g c).map (·.2)):Cap g c (cQ nx (HE g c).length f):=by
 have C:=S.cyc
 have:=C.cycle (nx:=nx) (fun e he=>by obtain⟨e0,he0,rfl⟩:=As.1 he;exact hnx e0 he0) (f:=f) (by rw[A0];exact hf)
 rw[Ax]at this
 exact⟨this.1,this.2⟩
theorem cap_mem (S:Spl c g) {cap:List V} (K:Cap g c cap) {v:V} (hv:v∈cap):g.at v=0∧∃ t∈aT g c,v∈t.vs:=by
 obtain⟨b,hb⟩:=qT hv
 obtain⟨e0,he0,h⟩:=As.1 (K.ed.mem_iff.1 hb)
 obtain⟨t,ht,h1,z1,z2⟩:=mA.1 he0
 have:v=e0.2:=(congrArg (·.1) h).symm
 rw[this]
 exact⟨z2,t,ht,bO h1⟩
theorem one_on (S:Spl c g) {t:Sd} (ht:t∈aT g c) {e e':V × V} (he:e∈edges t.vs) (he':e'∈edges t.vs) (z1:g.at e.1=0) (z2:g.at e.2=0) (z1':g.at e'.1=0) (z2':g.at e'.2=0):e=e':=by
 have pv:=S.C.cut_pv ht
 have pl:=S.C.cut_pl ht
 have two:∀ x∈t.vs,g.at x=0→x=e.1∨x=e.2:=by
  intro x hx gx
  by_cases h1:x=e.1
  ·exact .inl h1
  ·by_cases h2:x=e.2
   ·exact .inr h2
   ·have:=S.strict ht he z1 z2 ht hx gx h1 h2
    rw[pl x hx]at this;grind
 rcases two _ (bJ he') z1' with h|h
 ·have:(e.1,e'.2)∈edges t.vs:=h▸he'
  have h2:=a4r pv.nd (show (e.1,e.2)∈edges t.vs from he) this
  exact Prod.ext h.symm h2
 ·rcases two _ (bO he') z2' with h'|h'
  ·have:e'=sw e:=Prod.ext h h'
   exact (wV pv he (this▸he')).elim
  ·exact absurd (h.trans h'.symm) (pv.ne he')
theorem HE_le (S:Spl c g):(HE g c).length≤(aT g c).length:=by
 have key:∀ l:List Sd,(∀ s∈l,s∈aT g c)→((E l).filter fun e=>!off g e).length≤l.length:=by
  intro l
  induction l with
  | nil=>intro _;simp[E]
  | cons s l ih =>
   intro hm
   have ih:=ih fun t ht=>hm t (by simp[ht])
   have e:E (s::l)=edges s.vs++E l:=rfl
   rw[e,List.filter_append,Aq,Au]
   have h1:((edges s.vs).filter fun e=>!off g e).length≤1:=by
    have nd:((edges s.vs).filter fun e=>!off g e).Nodup:=(tA (S.C.cut_pv (hm s (by simp))).nd).filter _
    match hq:(edges s.vs).filter fun e=>!off g e,nd with
    | [],_=>simp
    | [_],_=>simp
    | a::b::r,nd =>
     exfalso
     have ma:a∈(edges s.vs).filter fun e=>!off g e:=by rw[hq];simp
     have mb:b∈(edges s.vs).filter fun e=>!off g e:=by rw[hq];simp
     rw[Ay]at ma mb
     have za:g.at a.1=0∧g.at a.2=0:=by simpa [off]using ma.2
     have zb:g.at b.1=0∧g.at b.2=0:=by simpa [off]using mb.2
     have:=S.one_on (hm s (by simp)) ma.1 mb.1 za.1 za.2 zb.1 zb.2
     simp[this]at nd
   omega
 exact key _ fun s hs=>hs
theorem cell (S:Spl c g) {cap:List V} (K:Cap g c cap):Cell (aT g c++[⟨g,cap⟩]):=by
 have hmem:∀ {s:Sd},s∈aT g c++[⟨g,cap⟩]↔s∈aT g c∨s=⟨g,cap⟩:=by intro s;simp
 have hE:E (aT g c++[⟨g,cap⟩])=E (aT g c)++edges cap:=by unfold E;rw[List.flatMap_append];simp
 have hsplit:(E (aT g c)).Perm ((E (aT g c)).filter (off g)++HE g c):=(Al (off g) (E (aT g c))).symm
 refine⟨?_,?_,?_,?_,?_,?_,?_⟩
 ·intro s hs
  rcases hmem.1 hs with h|rfl
  ·exact S.C.cut_pv h
  ·exact K.pv
 ·intro s hs v hv
  rcases hmem.1 hs with h|rfl
  ·exact S.C.cut_pl h v hv
  ·exact (S.cap_mem K hv).1
 ·intro s hs t ht v hv
  obtain⟨u,hu,hvu⟩:∃ u∈aT g c,v∈u.vs:=by
   rcases hmem.1 ht with h|rfl
   ·exact⟨t,h,hv⟩
   ·exact (S.cap_mem K hv).2
  rcases hmem.1 hs with h|rfl
  ·obtain⟨s0,hs0,e⟩:=S.C.cut_h h
   rw[e];exact S.C.cut_cl hu hvu s0 hs0
  ·exact S.C.cut_le hu v hvu
 ·rw[hE]
  have h1:=(hsplit.append K.ed)
  refine h1.trans ?_
  have h2:=h1.map sw
  refine A8.trans ?_ h2.symm
  rw[Ah,Ah,A0]
  have e1:(HE g c).map (sw∘sw)=HE g c:=by
   have:(sw∘sw:V × V→V × V)=id:=by funext e;rfl
   rw[this,List.map_id]
  rw[e1,At,At]
  exact A8.append S.C.off_closed List.perm_append_comm
 ·rw[hE,List.nodup_append]
  refine⟨S.E_nodup,tA K.pv.nd,?_⟩
  intro a ha b hb hab
  subst hab
  obtain⟨e0,he0,h⟩:=As.1 (K.ed.mem_iff.1 hb)
  obtain⟨t,ht,h1,z1,z2⟩:=mA.1 he0
  obtain⟨t',ht',h1'⟩:=Av.1 ha
  subst h
  obtain⟨y,hy,gy⟩:=S.inner
  obtain⟨_,k,hk,hf⟩:=S.edge_on ht h1 z1 z2
  obtain⟨_,k',hk',hf'⟩:=S.edge_on ht' h1' z2 z1
  obtain⟨s,hs,e⟩:=S.C.cut_h ht
  obtain⟨s',hs',e'⟩:=S.C.cut_h ht'
  have p1:=Ae hk (show 0 < - t.h.at y by rw[e];have:=hy s hs;grind)
  have p2:=Ae hk' (show 0 < - t'.h.at y by rw[e'];have:=hy s' hs';grind)
  have f1:=hf y gy
  have f2:=hf' y gy
  rw[show (sw e0).1=e0.2 from rfl,show (sw e0).2=e0.1 from rfl,w6]at f2
  grind
 ·have h1:=S.HE_le
  have h2:=K.ed.length_eq
  rw[gA,Ax]at h2
  have h3:=K.pv.len
  simp only[Aq,Au,List.length_nil]
  omega
 ·rw[List.pairwise_append]
  refine⟨S.dist_of,by simp,?_⟩
  intro s hs t ht hp
  simp at ht;subst ht
  obtain⟨k,hk,hf⟩:=hp
  obtain⟨w,hw,gw⟩:=S.C.cut_low hs
  have h1:=hf w
  rw[S.C.cut_pl hs w hw]at h1
  have:=Ae hk (show 0 < - g.at w by grind)
  grind
end Spl
end Geo
namespace Geo
def ar (d:V) (vs:List V):Rat:=sm (fun e=>dot d (aA e.1 e.2)) (edges vs)
theorem a2m (d:V) (e:V × V):dot d (aA (sw e).1 (sw e).2)=- dot d (aA e.1 e.2):=by simp only[sw,dot,aA];grind
theorem b0l (n p:V) (vs:List V):ar n vs=sm (fun e=>ori n p e.1 e.2) (edges vs):=by
 have h1:sm (fun e=>ori n p e.1 e.2) (edges vs)=sm (fun e=>dot n (aA e.1 e.2)) (edges vs)+(sm (fun e=>dot n (aA p e.1)) (edges vs)+sm (fun e=>- dot n (aA p e.2)) (edges vs)):=by
  rw[← rA,← rA]
  exact oC fun e _=>by simp only[ori,dot,aA,cO,cN,cM];grind
 have h2:sm (fun e=>dot n (aA p e.1)) (edges vs)=sm (fun v=>dot n (aA p v)) vs:=by
  have:=a1w (fun v=>dot n (aA p v)) (fun e:V × V=>e.1) (edges vs)
  rw[i7]at this
  exact this.symm
 have h3:sm (fun e=>- dot n (aA p e.2)) (edges vs)=- sm (fun v=>dot n (aA p v)) vs:=by
  have:=a1w (fun v=>dot n (aA p v)) (fun e:V × V=>e.2) (edges vs)
  rw[xJ _ (wN vs)]at this
  rw[this]
  exact xU fun e _=>rfl
 unfold ar
 rw[h1,h2,h3];grind
theorem d2q (n d:V) (t:Rat) (vs:List V):ar (t*d) vs=t*ar d vs:=by
 unfold ar
 rw[← a1v]
 exact oC fun e _=>wB t d _
theorem PV.ar_along {h:H} {vs:List V} (pv:PV h.n vs) (pl:∀ v∈vs,h.at v=0) (d:V):dot h.n h.n*ar d vs=dot d h.n*ar h.n vs:=by
 match hvs:vs,pv.len with
 | v::t,hl =>
  have hF:∀ d:V,∀ e:V × V,(fun e:V × V=>dot d (aA e.1 e.2)) (sw e)=- (fun e:V × V=>dot d (aA e.1 e.2)) e:=fun d e=>a2m d e
  have hne:t≠[]:=by intro e;subst e;simp at hl
  unfold ar
  rw[fan (hF d) v t hne,fan (hF h.n) v t hne,← a1v,← a1v]
  refine oC fun e he=>?_
  obtain⟨A,B,hAB⟩:=tE he
  have h0:=pl v (by simp)
  have h1:=pl e.1 (by rw[hAB];simp)
  have h2:=pl e.2 (by rw[hAB];simp)
  have e1:dot h.n (e.1 - v)=0:=by rw[bG,h0,h1];grind
  have e2:dot h.n (e.2 - v)=0:=by rw[bG,h0,h2];grind
  have k:=a4f e1 e2
  have q:∀ d:V,dot d (aA v e.1)+dot d (aA e.1 e.2)+dot d (aA e.2 v)=dot d (aA (e.1 - v) (e.2 - v)):=by
   intro d;simp only[dot,aA,cO,cN,cM];grind
  simp only
  rw[q,q,← i6,k,i6]
  grind
theorem PV.ar_pos {h:H} {vs:List V} (pv:PV h.n vs):0<ar h.n vs:=by
 refine pv.fan_pos (fun e=>a2m h.n e) ?_
 intro a b c _ _ _ ho
 have:dot h.n (aA a b)+dot h.n (aA b c)+dot h.n (aA c a)=ori h.n a b c:=by simp only[ori,dot,aA,cO,cN,cM];grind
 simp only
 rw[this];exact ho
def sh (s:Sd):Rat:=s.h.d*ar s.h.n s.vs / dot s.h.n s.h.n
def mG (c:List Sd):Rat:=sm sh c
theorem sh_at {s:Sd} (pv:PV s.h.n s.vs) (pl:∀ v∈s.vs,s.h.at v=0) {x:V} (hx:s.h.at x=0):ar x s.vs=sh s:=by
 have h1:=pv.ar_along pl x
 have h2 : dot x s.h.n = s.h.d := by have : s.h.at x = dot x s.h.n - s.h.d := by simp only [H.at, dot]; grind
                                     grind
 have hnn:=eY pv.n_ne
 rw[h2]at h1
 have:dot s.h.n s.h.n≠0:=by grind
 unfold sh
 grind
theorem vM {c:List Sd} (cl:(E c).Perm ((E c).map sw)) (d:V):sm (fun s=>ar d s.vs) c=0:=by
 have:=a5q (F:=fun e:V × V=>dot d (aA e.1 e.2)) (l:=E c) (fun e=>a2m d e) cl
 unfold E at this
 rw[a4k]at this
 exact this
theorem Cell.vol_pos {c:List Sd} (C:Cell c):0<mG c:=by
 obtain⟨m,hm⟩:=C.exists_inn
 have h0:=vM C.cl m
 have h1:mG c=sm (fun s=>sh s + - ar m s.vs) c:=by
  rw[rA,xU (F:=fun s:Sd=>- ar m s.vs) (G:=fun s:Sd=>ar m s.vs) (fun _ _=>rfl),h0]
  unfold mG;grind
 rw[h1]
 refine a1u (fun s hs=>?_) (by intro e;have:=C.four;rw[e]at this;simp at this)
 have pv:=C.pv s hs
 have pl:=C.pl s hs
 have e:=pv.ar_along pl m
 have hnn:=eY pv.n_ne
 have hp:=pv.ar_pos
 have hlt:s.h.at m<0:=hm s hs
 have h2:dot m s.h.n=s.h.at m+s.h.d:=by simp only[H.at,dot];grind
 rw[h2]at e
 have e2:dot s.h.n s.h.n*(sh s + - ar m s.vs)=- s.h.at m*ar s.h.n s.vs:=by
  have:dot s.h.n s.h.n*sh s=s.h.d*ar s.h.n s.vs:=by
   unfold sh
   have:dot s.h.n s.h.n≠0:=by grind
   grind
  grind
 have p:=Ae (show 0 < - s.h.at m by grind) hp
 exact mW (b:=dot s.h.n s.h.n) (by rw[A3,e2];exact p) hnn
def neg (g:H):H:=⟨(-1:Rat)*g.n,- g.d⟩
theorem iQ (g:H) (x:V):(neg g).at x=- g.at x:=by simp only[neg,H.at,dot,dH,dG,dF];grind
theorem a4a {h g:H} {p u v:V} (hN:0<dot (aA h.n g.n) (aA h.n g.n)) (hp:h.at p=0) (hu:h.at u=0) (hv:h.at v=0) (gp:g.at p=0) (gu:g.at u=0) (gv:g.at v=0):ori h.n p u v=0:=by
 have e:=pZ (z:=p) hu hv gu gv hp
 rw[gp]at e
 have:dot (aA h.n g.n) (aA h.n g.n)*ori h.n u v p=0:=by rw[e];grind
 rcases Ai.1 this with h1|h1
 ·grind
 ·rw[xL];exact h1
theorem c1a {h g : H} {p : V} {e : V × V} (hN : 0 < dot (aA h.n g.n) (aA h.n g.n)) (hp : h.at p = 0) (gp : g.at p = 0) (h1 : h.at e.1 = 0) (h2 : h.at e.2 = 0) :
  sm (fun e=>ori h.n p e.1 e.2) (b7 g e).toList+sm (fun e=>ori h.n p e.1 e.2) (b7 (neg g) e).toList=ori h.n p e.1 e.2:=by
 have n1:=iQ g e.1
 have n2:=iQ g e.2
 have cut:g.at e.1≠g.at e.2→ori h.n p e.1 (X g e.1 e.2)+ori h.n p (X g e.1 e.2) e.2=ori h.n p e.1 e.2:=by
  intro _
  unfold X
  generalize g.at e.1 / (g.at e.1 - g.at e.2)=t
  simp only[ori,dot,aA,bU,cO,cN,cM,gF,gE,gD,dH,dG,dF];grind
 have Xn:g.at e.1≠g.at e.2→X (neg g) e.1 e.2=X g e.1 e.2:=by
  intro hne
  unfold X
  rw[n1,n2]
  congr 1
  have a1:g.at e.1 - g.at e.2≠0:=by grind
  have a2:- g.at e.1 - - g.at e.2≠0:=by grind
  grind
 have t3:∀ q:Rat,q<0∨q=0∨0<q:=fun q=>by
  rcases A4 (a:=q) (b:=0)with h|h
  ·rcases fG h with h|h
   ·exact .inl h
   ·exact .inr (.inl h)
  ·rcases fG h with h|h
   ·exact .inr (.inr h)
   ·exact .inr (.inl h.symm)
 have neg':∀ q:Rat,q<0→¬ (-q≤0)∧¬ (-q<0)∧q≤0∧q≠0∧-q≠0:=fun q h=>by refine⟨?_,?_,?_,?_,?_⟩<;>grind
 have pos':∀ q:Rat,0<q→(-q≤0)∧(-q<0)∧¬ q≤0∧¬ q<0∧q≠0∧-q≠0:=fun q h=>by refine⟨?_,?_,?_,?_,?_,?_⟩<;>grind
 have s0:∀ q:Rat,0+q=q:=fun q=>by grind
 have s1:∀ q:Rat,q+0=q:=fun q=>by grind
 unfold b7
 rw[n1,n2]
 rcases t3 (g.at e.1)with a|a|a<;>rcases t3 (g.at e.2)with b|b|b
 ·obtain⟨a1,a2,a3,a4,a5⟩:=neg' _ a
  obtain⟨b1,b2,b3,b4,b5⟩:=neg' _ b
  simp[a1,a2,a3,a4,b2,b3,b1,sm,s0,s1]
 ·obtain⟨a1,a2,a3,a4,a5⟩:=neg' _ a
  simp[a1,a2,a3,a4,b,sm,s0,s1]
 ·obtain⟨a1,a2,a3,a4,a5⟩:=neg' _ a
  obtain⟨b1,b2,b3,b4,b5,b6⟩:=pos' _ b
  have hne:g.at e.1≠g.at e.2:=by grind
  simp[a1,a2,a,b1,b2,b3,sm,s0,s1,Xn hne]
  exact cut hne
 ·obtain⟨b1,b2,b3,b4,b5⟩:=neg' _ b
  simp[a,b1,b2,b3,b4,sm,s0,s1]
 ·simp[a,b,sm,s0,s1]
  exact (a4a hN hp h1 h2 gp a b).symm
 ·obtain⟨b1,b2,b3,b4,b5,b6⟩:=pos' _ b
  simp[a,b1,b2,b3,b4,b5,b6,sm,s0,s1]
 ·obtain⟨b1,b2,b3,b4,b5⟩:=neg' _ b
  obtain⟨a1,a2,a3,a4,a5,a6⟩:=pos' _ a
  have hne:g.at e.1≠g.at e.2:=by grind
  simp[a1,a2,a3,a4,b,b1,b2,sm,s0,s1,Xn hne]
  have:=cut hne
  grind
 ·obtain⟨a1,a2,a3,a4,a5,a6⟩:=pos' _ a
  simp[a1,a2,a3,a4,a5,a6,b,sm,s0,s1]
 ·obtain⟨b1,b2,b3,b4,b5,b6⟩:=pos' _ b
  obtain⟨a1,a2,a3,a4,a5,a6⟩:=pos' _ a
  simp[a1,a2,a3,a4,a6,b1,b3,b4,sm,s0,s1]
theorem yV {α β:Type} (F:β→Rat) (f:α→Option β) (l:List α):sm F (l.filterMap f)=sm (fun a=>sm F (f a).toList) l:=by
 induction l with
 | nil=>rfl
 | cons a l ih =>
  simp only[List.filterMap_cons,sm]
  cases h:f a with
  | none=>simp only[ih,Aj,sm];grind
  | some b=>simp only[sm,ih,Aj];grind
theorem b7q {h g : H} {vs : List V} (pv : PV h.n vs) (pl : ∀ v ∈ vs, h.at v = 0) (lo : ∃ v ∈ vs, g.at v < 0) (hi : ∃ v ∈ vs, 0 < g.at v) :
  ar h.n (part g vs)+ar h.n (part (neg g) vs)=ar h.n vs:=by
 have P:=oH pv pl lo
 have Q:=oH (g:=neg g) pv pl (by obtain⟨v,hv,hg⟩:=hi;exact⟨v,hv,by rw[iQ];grind⟩)
 obtain⟨v,hv,gv⟩:=lo
 obtain⟨w,hw,gw⟩:=hi
 obtain⟨t,_,_,_,_,te⟩:=X_w (g:=g) (a:=v) (b:=w) (Ab gv) gw
 have gp:g.at (X g v w)=0:=sV (by grind)
 have hp:h.at (X g v w)=0:=sZ (pl v hv) (pl w hw)
 have hN:0<dot (aA h.n g.n) (aA h.n g.n):=oA (a:=v) (w:=w) pv.n_ne (by rw[pl v hv,pl w hw]) (by grind)
 generalize X g v w=p at *
 have half:∀ {f:H} {W:List V},PartOk h f vs W→(∀ x,f.at x=0→g.at x=0)→ar h.n W=sm (fun e=>ori h.n p e.1 e.2) ((edges vs).filterMap (b7 f)):=by
  intro f W R hf
  rw[b0l h.n p,← xJ _ R.off,xJ _ (Al (off f) (edges W)).symm,tM]
  have:sm (fun e=>ori h.n p e.1 e.2) ((edges W).filter fun e=>!off f e)=0:=by
   have z:∀ l:List (V × V),(∀ e∈l,ori h.n p e.1 e.2=0)→sm (fun e=>ori h.n p e.1 e.2) l=0:=by
    intro l
    induction l with
    | nil=>intro _;rfl
    | cons e l ih=>intro hl;simp only[sm];rw[hl e (by simp),ih fun e he=>hl e (by simp[he])];grind
   refine z _ fun e he=>?_
   rw[Ay]at he
   have hz:f.at e.1=0∧f.at e.2=0:=by simpa [off]using he.2
   exact a4a hN hp (R.pl _ (bJ he.1)) (R.pl _ (bO he.1)) gp (hf _ hz.1) (hf _ hz.2)
  rw[this];grind
 rw[half P fun x h=>h,half Q fun x h=>by rw[iQ]at h;grind,yV,yV,← rA,b0l h.n p vs]
 exact oC fun e he=>c1a hN hp gp (pl _ (bJ he)) (pl _ (bO he))
end Geo
namespace Geo
theorem a1x (F:Sd→Rat) (g:H) (c:List Sd):sm F (aT g c)=sm (fun s=>if bQ g s.vs=true then F ⟨s.h,part g s.vs⟩else 0) c:=by
 unfold aT
 rw[yV]
 refine oC fun s _=>?_
 by_cases h:bQ g s.vs=true
 ·simp only[h,if_true,Aj,sm];grind
 ·simp only[h,if_false,Aj,sm,Ar]
namespace Spl
variable {c:List Sd} {g:H}
theorem neg (S:Spl c g):Spl c (neg g):=by
 refine⟨S.C,?_,?_⟩
 ·obtain⟨s,hs,v,hv,gv⟩:=S.hi;exact⟨s,hs,v,hv,by rw[iQ];grind⟩
 ·obtain⟨s,hs,v,hv,gv⟩:=S.lo;exact⟨s,hs,v,hv,by rw[iQ];grind⟩
theorem not_on (S:Spl c g) {s:Sd} (hs:s∈c):bQ g s.vs=true∨bQ (Geo.neg g) s.vs=true:=by
 apply Classical.byContradiction
 intro hno
 have h0:∀ v∈s.vs,g.at v=0:=by
  intro v hv
  have a:¬ g.at v<0:=fun h=>hno (.inl (gV.2 ⟨v,hv,h⟩))
  have b:¬ 0<g.at v:=fun h=>hno (.inr (gV.2 ⟨v,hv,by rw[iQ];grind⟩))
  grind
 obtain⟨k,hk⟩:=a1g (S.C.pv s hs) (S.C.pl s hs) h0
 obtain⟨t,ht,v,hv,gv⟩:=S.lo
 obtain⟨t',ht',v',hv',gv'⟩:=S.hi
 have a:=S.C.le s hs t ht v hv
 have b:=S.C.le s hs t' ht' v' hv'
 rw[hk]at gv gv'
 have p:0<k:=by
  apply Rat.not_le.1
  intro h
  have:=Ac (a:=-k) (b:=- s.h.at v) (by grind) (by grind)
  grind
 have:=Ac (Ab p) (show 0≤- s.h.at v' by grind)
 grind
theorem side_area (S:Spl c g) {s:Sd} (hs:s∈c):(if bQ g s.vs=true then ar s.h.n (part g s.vs)else 0)+(if bQ (Geo.neg g) s.vs=true then ar s.h.n (part (Geo.neg g) s.vs)else 0)=ar s.h.n s.vs:=by
 have pv:=S.C.pv s hs
 have pl:=S.C.pl s hs
 have hi_of:bQ (Geo.neg g) s.vs=true→∃ v∈s.vs,0<g.at v:=fun h=>by
  obtain⟨v,hv,gv⟩:=gV.1 h;exact⟨v,hv,by rw[iQ]at gv;grind⟩
 by_cases h1:bQ g s.vs=true<;>by_cases h2:bQ (Geo.neg g) s.vs=true
 ·rw[if_pos h1,if_pos h2]
  exact b7q pv pl (gV.1 h1) (hi_of h2)
 ·rw[if_pos h1,if_neg h2]
  have:part g s.vs=s.vs:=a0g fun x hx=>by
   apply Rat.not_lt.1
   intro h
   exact h2 (gV.2 ⟨x,hx,by rw[iQ];grind⟩)
  rw[this];grind
 ·rw[if_neg h1,if_pos h2]
  have:part (Geo.neg g) s.vs=s.vs:=a0g fun x hx=>by
   rw[iQ]
   have:¬ g.at x<0:=fun h=>h1 (gV.2 ⟨x,hx,h⟩)
   grind
  rw[this];grind
 ·exact ((S.not_on hs).elim h1 h2).elim
theorem side_any (S:Spl c g) {s:Sd} (hs:s∈c) (d:V):(if bQ g s.vs=true then ar d (part g s.vs)else 0)+(if bQ (Geo.neg g) s.vs=true then ar d (part (Geo.neg g) s.vs)else 0)=ar d s.vs:=by
 have pv:=S.C.pv s hs
 have pl:=S.C.pl s hs
 have hnn:=eY pv.n_ne
 have hne:dot s.h.n s.h.n≠0:=by grind
 have e:=S.side_area hs
 have a0:=pv.ar_along pl d
 have inj:∀ a b:Rat,dot s.h.n s.h.n*a=dot s.h.n s.h.n*b→a=b:=fun a b h=>by
  have:dot s.h.n s.h.n*(a - b)=0:=by grind
  rcases Ai.1 this with h|h
  ·exact absurd h hne
  ·grind
 apply inj
 have f1:dot s.h.n s.h.n*(if bQ g s.vs=true then ar d (part g s.vs)else 0)=dot d s.h.n*(if bQ g s.vs=true then ar s.h.n (part g s.vs)else 0):=by
  by_cases h1:bQ g s.vs=true
  ·rw[if_pos h1,if_pos h1]
   have P:=oH pv pl (gV.1 h1)
   exact P.pv.ar_along P.pl d
  ·rw[if_neg h1,if_neg h1];grind
 have f2:dot s.h.n s.h.n*(if bQ (Geo.neg g) s.vs=true then ar d (part (Geo.neg g) s.vs)else 0)=dot d s.h.n*(if bQ (Geo.neg g) s.vs=true then ar s.h.n (part (Geo.neg g) s.vs)else 0):=by
  by_cases h1:bQ (Geo.neg g) s.vs=true
  ·rw[if_pos h1,if_pos h1]
   have P:=oH pv pl (gV.1 h1)
   exact P.pv.ar_along P.pl d
  ·rw[if_neg h1,if_neg h1];grind
 rw[a0,← e]
 grind
theorem vol_add (S : Spl c g) {cap cap' : List V} (K : Cap g c cap) (K' : Cap (Geo.neg g) c cap') :
  mG (aT g c++[⟨g,cap⟩])+mG (aT (Geo.neg g) c++[⟨Geo.neg g,cap'⟩])=mG c:=by
 have D:=S.cell K
 have D':=S.neg.cell K'
 have z1:=vM D.cl g.n
 have z2:=vM D'.cl g.n
 have z0:=vM S.C.cl g.n
 rw[tM,a1x]at z1 z2
 simp only[sm]at z1 z2
 have zc:sm (fun s=>(if bQ g s.vs=true then ar g.n (part g s.vs)else 0)+(if bQ (Geo.neg g) s.vs=true then ar g.n (part (Geo.neg g) s.vs)else 0)) c=0:=by
  rw[oC (G:=fun s=>ar g.n s.vs) fun s hs=>S.side_any hs g.n];exact z0
 rw[rA]at zc
 have hc:ar g.n cap+ar g.n cap'=0:=by grind
 unfold mG
 rw[tM,tM,a1x,a1x]
 simp only[sm]
 have hs:sm (fun s=>(if bQ g s.vs=true then sh ⟨s.h,part g s.vs⟩else 0)+(if bQ (Geo.neg g) s.vs=true then sh ⟨s.h,part (Geo.neg g) s.vs⟩else 0)) c=sm sh c:=by
  refine oC fun s hs=>?_
  have e:=S.side_area hs
  have k:∀ vs:List V,sh ⟨s.h,vs⟩=s.h.d / dot s.h.n s.h.n*ar s.h.n vs:=fun vs=>by unfold sh;simp only;grind
  have ks:sh s=s.h.d / dot s.h.n s.h.n*ar s.h.n s.vs:=by unfold sh;grind
  rw[k,k,ks,← e]
  by_cases h1:bQ g s.vs=true<;>by_cases h2:bQ (Geo.neg g) s.vs=true<;>simp only[h1,h2,if_true,if_false,Ar]<;>grind
 rw[rA]at hs
 have hcap:sh ⟨g,cap⟩+sh ⟨Geo.neg g,cap'⟩=0:=by
  unfold sh
  simp only
  have e1:ar (Geo.neg g).n cap'=- ar g.n cap':=by show ar ((-1:Rat)*g.n) cap'=_;rw[d2q g.n];grind
  have e2:dot (Geo.neg g).n (Geo.neg g).n=dot g.n g.n:=by show dot ((-1:Rat)*g.n) ((-1:Rat)*g.n)=_;rw[wB,i6];grind
  have e3:(Geo.neg g).d=- g.d:=rfl
  rw[e1,e2,e3]
  have:ar g.n cap'=- ar g.n cap:=by grind
  rw[this];grind
 grind
end Spl
def Ext (c:List Sd) (x:V):Prop:=Cl c x∧∀ p q:V,∀ t:Rat,0<t→t<1→Cl c p→Cl c q→x=bU t p q→p=x∧q=x
namespace Cell
variable {c:List Sd}
theorem vert_ext (C:Cell c) {s:Sd} (hs:s∈c) {v:V} (hv:v∈s.vs):Ext c v:=by
 refine⟨C.cl_vert hs hv,fun p q t t0 t1 hp hq e=>?_⟩
 have h0:=C.pl s hs v hv
 have e2:(1 - t) * - s.h.at p+t * - s.h.at q=0:=by rw[e,kC]at h0;grind
 obtain⟨z1,z2⟩:=wM t0 t1 (by have:=hp s hs;grind) (by have:=hq s hs;grind) e2
 have z1:s.h.at p=0:=by grind
 have z2:s.h.at q=0:=by grind
 exact (C.pv s hs).extreme (C.pl s hs) hv t0 t1 e z1 z2 (fun e he=>C.face hs he hp z1) (fun e he=>C.face hs he hq z2)
theorem mid (x d:V) (t:Rat):x=bU (1/2) (x+t*d) (x+(-t)*d):=by
 apply V.ext<;>simp only[bU,gF,gE,gD,cO,cN,cM,dH,dG,dF]<;>grind
theorem a1m (h:H) (x d:V) (t:Rat):h.at (x+t*d)=h.at x+t*dot h.n d:=by simp only[H.at,dot,gF,gE,gD,dH,dG,dF];grind
theorem b9h {l:List Sd} {x d:V} (h:∀ s∈l,s.h.at x<0∨(s.h.at x=0∧dot s.h.n d=0)):∃ t:Rat,0<t∧(∀ s∈l,s.h.at (x+t*d)≤0)∧∀ s∈l,s.h.at (x+(-t)*d)≤0:=by
 have key:∃ t:Rat,0<t∧∀ u:Rat,-t≤u→u≤t→∀ s∈l,s.h.at (x+u*d)≤0:=by
  induction l with
  | nil=>exact⟨1,by grind,fun u _ _ s hs=>by simp at hs⟩
  | cons s l ih =>
   obtain⟨t,t0,ht⟩:=ih fun s hs=>h s (by simp[hs])
   rcases h s (by simp)with hs|⟨hs,hd⟩
   ·
    obtain⟨r,r0,hr⟩:∃ r:Rat,0<r∧∀ u:Rat,-r≤u→u≤r→s.h.at (x+u*d)≤0:=by
     by_cases hz:dot s.h.n d=0
     ·exact⟨1,by grind,fun u _ _=>by rw[a1m,hz];grind⟩
     ·have hq:0<dot s.h.n d*dot s.h.n d:=by
       have:=j4 (dot s.h.n d)
       rcases fG this with h|h
       ·exact h
       ·rcases Ai.1 h.symm with h|h<;>exact absurd h hz
      have hi:0<1+dot s.h.n d*dot s.h.n d:=by grind
      have hii:=A6.2 hi
      have hc:(1+dot s.h.n d*dot s.h.n d)*(1+dot s.h.n d*dot s.h.n d)⁻¹=1:=Aa _ (by grind)
      refine⟨- s.h.at x*(1+dot s.h.n d*dot s.h.n d)⁻¹,Ae (by grind) hii,fun u u1 u2=>?_⟩
      rw[a1m]
      generalize dot s.h.n d=D at *
      generalize (1+D*D)⁻¹=i at *
      generalize s.h.at x=X at *
      have a1:D≤1+D*D:=by have:=j4 (D - 1);have:=j4 D;grind
      have a2:-D≤1+D*D:=by have:=j4 (D+1);have:=j4 D;grind
      have r0:0 < -X*i:=Ae (by grind) hii
      have r1:-X*i*(1+D*D)=-X:=by
       have:-X*i*(1+D*D)=-X*((1+D*D)*i):=by grind
       rw[this,hc];grind
      generalize -X*i=r at *
      rcases A4 (a:=0) (b:=D)with hD|hD
      ·have p1:=Ac (show 0≤r - u by grind) hD
       have p2:=Ac (Ab r0) (show 0≤1+D*D - D by grind)
       grind
      ·have p1:=Ac (show 0≤r+u by grind) (show 0≤-D by grind)
       have p2:=Ac (Ab r0) (show 0≤1+D*D+D by grind)
       grind
    by_cases hle:t≤r
    ·exact⟨t,t0,fun u u1 u2 v hv=>by
      rcases Af.1 hv with rfl|hv
      ·exact hr u (by grind) (by grind)
      ·exact ht u u1 u2 v hv⟩
    ·exact⟨r,r0,fun u u1 u2 v hv=>by
      rcases Af.1 hv with rfl|hv
      ·exact hr u u1 u2
      ·exact ht u (by grind) (by grind) v hv⟩
   ·exact⟨t,t0,fun u u1 u2 v hv=>by
     rcases Af.1 hv with rfl|hv
     ·rw[a1m,hs,hd];grind
     ·exact ht u u1 u2 v hv⟩
 obtain⟨t,t0,ht⟩:=key
 exact⟨t,t0,ht t (by grind) (by grind),ht (-t) (by grind) (by grind)⟩
end Cell
end Geo
namespace Geo
namespace Cell
variable {c:List Sd}
theorem c8a {x d:V} (hx:Ext c x) (hd:d≠⟨0,0,0⟩) (h:∃ t:Rat,0<t∧Cl c (x+t*d)∧Cl c (x+(-t)*d)):False:=by
 obtain⟨t,t0,h1,h2⟩:=h
 obtain⟨e,_⟩:=hx.2 _ _ (1/2) (by grind) (by grind) h1 h2 (mid x d t)
 have ex:=congrArg V.x e
 have ey:=congrArg V.y e
 have ez:=congrArg V.z e
 simp only[gF,gE,gD,dH,dG,dF]at ex ey ez
 have z:∀ q:Rat,t*q=0→q=0:=fun q hq=>by
  rcases Ai.1 hq with h|h
  ·grind
  ·exact h
 exact hd (V.ext (z _ (by grind)) (z _ (by grind)) (z _ (by grind)))
end Cell
end Geo
namespace Go.Sx
open Geo (H V)
set_option linter.unusedVariables false
def tH (b:Pl):H:=⟨⟨(b.a:Rat),(b.b:Rat),(b.c:Rat)⟩,(b.d:Rat)⟩
theorem c9w (b:Pl):tH (aY b)=Geo.neg (tH b):=by
 unfold tH aY Geo.neg
 congr 1
 apply V.ext<;>simp only[Geo.dH,Geo.dG,Geo.dF,An]<;>grind
theorem oZ {p:Pt} (hp:0<p.w):(p.w:Rat)≠0:=by
 have:(0:Rat)<(p.w:Rat):=Ao.2 hp
 grind
theorem yO (b:Pl) {p:Pt} (hp:0<p.w):(tH b).at (tv p)=(abv b p:Rat) / (p.w:Rat):=by
 have hw:=oZ hp
 have hi:(p.w:Rat)*(p.w:Rat)⁻¹=1:=Aa _ hw
 simp only[H.at,Geo.dot,tH,tv,abv,Ap,Rat.intCast_add,Ad,Aw]
 grind
theorem nQ (b:Pl) {p:Pt} (hp:0<p.w):(tH b).at (tv p)<0↔abv b p<0:=by
 rw[yO b hp,Rat.div_lt_iff (Ao.2 hp),A5]
 exact Am (b:=0)
theorem r8 (b:Pl) {p:Pt} (hp:0<p.w):0<(tH b).at (tv p)↔0<abv b p:=by
 rw[yO b hp,Rat.lt_div_iff (Ao.2 hp),A5]
 exact Am (a:=0)
theorem oY (b:Pl) {p:Pt} (hp:0<p.w):(tH b).at (tv p)=0↔abv b p=0:=by
 have h1:=nQ b hp
 have h2:=r8 b hp
 constructor
 ·intro h
  have k1:¬ abv b p<0:=fun hh=>by have:=h1.2 hh;grind
  have k2:¬ 0<abv b p:=fun hh=>by have:=h2.2 hh;grind
  omega
 ·intro h
  have k1:¬ (tH b).at (tv p)<0:=fun hh=>by have:=h1.1 hh;omega
  have k2:¬ 0<(tH b).at (tv p):=fun hh=>by have:=h2.1 hh;omega
  grind
theorem a8v {b:Pl} {p:Pt}:aC b p=-1↔abv b p<0:=by unfold aC;rcases g9 (abv b p)with⟨e,h⟩|⟨e,h⟩|⟨e,h⟩<;>omega
theorem a1b {b:Pl} {p:Pt}:aC b p=0↔abv b p=0:=by unfold aC;rcases g9 (abv b p)with⟨e,h⟩|⟨e,h⟩|⟨e,h⟩<;>omega
theorem a8w {b:Pl} {p:Pt}:aC b p=1↔0<abv b p:=by unfold aC;rcases g9 (abv b p)with⟨e,h⟩|⟨e,h⟩|⟨e,h⟩<;>omega
theorem tV (b:Pl) (p:Pt):aC (aY b) p=- aC b p:=by
 unfold aC
 rw[a1n]
 rcases g9 (abv b p)with⟨e,h⟩|⟨e,h⟩|⟨e,h⟩<;>rcases g9 (- abv b p)with⟨e',h'⟩|⟨e',h'⟩|⟨e',h'⟩<;>omega
theorem b5m (b:Pl):aY (aY b)=b:=by cases b;simp[aY]
theorem a1e {b:Pl} {p q:Pt} (hp:0<p.w) (hq:0<q.w):aC b p*aC b q<0↔(tH b).at (tv p)*(tH b).at (tv q)<0:=by
 have p1:=nQ b hp
 have p2:=r8 b hp
 have q1:=nQ b hq
 have q2:=r8 b hq
 generalize (tH b).at (tv p)=x at *
 generalize (tH b).at (tv q)=y at *
 constructor
 ·intro h
  rcases opp h with⟨h1,h2⟩|⟨h1,h2⟩
  ·have a1:=p1.2 h1;have a2:=q2.2 h2
   exact (Geo.nX a2).2 a1
  ·have a1:=p2.2 h1;have a2:=q1.2 h2
   rw[A3];exact (Geo.nX a1).2 a2
 ·intro h
  unfold aC
  rcases g9 (abv b p)with⟨e,h1⟩|⟨e,h1⟩|⟨e,h1⟩<;>rcases g9 (abv b q)with⟨e',h2⟩|⟨e',h2⟩|⟨e',h2⟩<;>rw[e,e']<;>first|decide|exfalso
  ·exact Geo.uS (Ab (p1.2 h1)) (Ab (q1.2 h2)) h
  ·have:y=0:=by
    have k1:¬ y<0:=fun hh=>by have:=q1.1 hh;omega
    have k2:¬ 0<y:=fun hh=>by have:=q2.1 hh;omega
    grind
   rw[this]at h;grind
  ·have:x=0:=by
    have k1:¬ x<0:=fun hh=>by have:=p1.1 hh;omega
    have k2:¬ 0<x:=fun hh=>by have:=p2.1 hh;omega
    grind
   rw[this]at h;grind
  ·have:x=0:=by
    have k1:¬ x<0:=fun hh=>by have:=p1.1 hh;omega
    have k2:¬ 0<x:=fun hh=>by have:=p2.1 hh;omega
    grind
   rw[this]at h;grind
  ·have:x=0:=by
    have k1:¬ x<0:=fun hh=>by have:=p1.1 hh;omega
    have k2:¬ 0<x:=fun hh=>by have:=p2.1 hh;omega
    grind
   rw[this]at h;grind
  ·have:y=0:=by
    have k1:¬ y<0:=fun hh=>by have:=q1.1 hh;omega
    have k2:¬ 0<y:=fun hh=>by have:=q2.1 hh;omega
    grind
   rw[this]at h;grind
  ·exact Geo.b1i (Ab (p2.2 h1)) (Ab (q2.2 h2)) h
theorem a0b {x w g:Int} (hg:g≠0) (hw:w≠0) (hx:g∣x) (hd:g∣w):(turn w (x / g):Rat) / (turn w (w / g):Rat)=(x:Rat) / (w:Rat):=by
 obtain⟨x',rfl⟩:=hx
 obtain⟨w',rfl⟩:=hd
 rw[Ak _ hg,Ak _ hg]
 have hw':w'≠0:=fun h=>hw (by rw[h];simp)
 have a1:(g:Rat)≠0:=by exact_mod_cast hg
 have a2:(w':Rat)≠0:=by exact_mod_cast hw'
 have i1:(g:Rat)*(g:Rat)⁻¹=1:=Aa _ a1
 have i2:(w':Rat)*(w':Rat)⁻¹=1:=Aa _ a2
 have e:((g*x':Int):Rat) / ((g*w':Int):Rat)=(x':Rat) / (w':Rat):=by
  rw[Ad,Ad]
  grind
 rw[e]
 unfold turn
 split
 ·rw[An,An];grind
 ·rfl
theorem a1r {x y z w:Int} (hw:w≠0):tv (nrm x y z w)=⟨(x:Rat) / (w:Rat),(y:Rat) / (w:Rat),(z:Rat) / (w:Rat)⟩:=by
 have hz:nz w=w:=if_neg hw
 have hp:=uT (x:=x) (y:=y) (z:=z) hw
 have hg:(g4 x y z w:Int)≠0:=by omega
 obtain⟨d1,d2,d3,d4⟩:=mB x y z w
 unfold nrm tv
 rw[hz]
 apply V.ext
 ·exact a0b hg hw d1 d4
 ·exact a0b hg hw d2 d4
 ·exact a0b hg hw d3 d4
theorem mix {ax aw bx bw A B:Rat} (ha:aw≠0) (hb:bw≠0) (hD:aw*B - bw*A≠0):(ax*B - bx*A) / (aw*B - bw*A)=ax / aw+(A / aw) / ((A / aw) - (B / bw))*(bx / bw - ax / aw):=by
 have h1:A / aw - B / bw≠0:=by
  intro h
  apply hD
  have i1:aw*aw⁻¹=1:=Aa _ ha
  have i2:bw*bw⁻¹=1:=Aa _ hb
  rw[Aw,Aw]at h
  grind
 grind
theorem a9p {b:Pl} {p q:Pt} (hp:0<p.w) (hq:0<q.w) (h:aC b p*aC b q<0):tv (bT b p q)=Geo.X (tH b) (tv p) (tv q):=by
 have hD:=fQ hp hq h
 have hD':(p.w:Rat)*(abv b q:Rat) - (q.w:Rat)*(abv b p:Rat)≠0:=by
  rw[← Ad,← Ad,← Ap]
  exact_mod_cast hD
 unfold bT
 rw[a1r hD]
 simp only[Ap,Ad]
 unfold Geo.X Geo.bU
 rw[yO b hp,yO b hq]
 apply V.ext
 ·exact mix (oZ hp) (oZ hq) hD'
 ·exact mix (oZ hp) (oZ hq) hD'
 ·exact mix (oZ hp) (oZ hq) hD'
theorem c6z {x y z w:Int} (hw:w≠0):nrm (-x) (-y) (-z) (-w)=nrm x y z w:=by
 have hz:nz w=w:=if_neg hw
 have hz':nz (-w)=-w:=if_neg (by omega)
 have hg:g4 (-x) (-y) (-z) (-w)=g4 x y z w:=by unfold g4;simp
 obtain⟨d1,d2,d3,d4⟩:=mB x y z w
 have key:∀ a:Int,(g4 x y z w:Int)∣a→turn (-w) (-a / (g4 x y z w:Int))=turn w (a / (g4 x y z w:Int)):=by
  intro a ha
  rw[Int.neg_ediv_of_dvd ha]
  unfold turn
  split
  ·rw[if_neg (by omega)];omega
  ·rw[if_pos (by omega)]
 unfold nrm
 rw[hz,hz',hg,key x d1,key y d2,key z d3,key w d4]
theorem c2g {b:Pl} {p q:Pt} (hp:0<p.w) (hq:0<q.w) (h:aC b p*aC b q<0):bT (aY b) p q=bT b p q:=by
 have hD:=fQ hp hq h
 unfold bT
 rw[a1n,a1n]
 have e:∀ x y:Int,x * -abv b q - y * -abv b p=-(x*abv b q - y*abv b p):=fun x y=>by
  rw[A7,A7];omega
 rw[e,e,e,e,c6z hD]
theorem d0w {b:Pl} {p q:Pt} (hp:0<p.w) (hq:0<q.w):pc 1 b p q=pc (-1) (aY b) p q:=by
 unfold pc
 rw[tV,tV]
 have e:- aC b p * - aC b q=aC b p*aC b q:=Int.neg_mul_neg _ _
 rw[e]
 congr 1
 ·by_cases h:aC b p=-1
  ·rw[if_neg (by omega),if_neg (by omega)]
  ·rw[if_pos (by omega),if_pos (by omega)]
 ·split
  ·rename_i h;rw[c2g hp hq h]
  ·rfl
theorem b7r {b:Pl} {vs:List Pt} (h:∀ v∈vs,0<v.w):bF 1 b vs=bF (-1) (aY b) vs:=by
 unfold bF
 have key:∀ l:List (Pt × Pt),(∀ e∈l,0<e.1.w∧0<e.2.w)→(l.flatMap fun e=>pc 1 b e.1 e.2)=l.flatMap fun e=>pc (-1) (aY b) e.1 e.2:=by
  intro l
  induction l with
  | nil=>intro _;rfl
  | cons a l ih =>
   intro hl
   obtain⟨h1,h2⟩:=hl a (by simp)
   rw[Ag,Ag,d0w h1 h2,ih fun e he=>hl e (by simp[he])]
 exact key _ fun e he=>⟨h _ (Geo.bJ he),h _ (Geo.bO he)⟩
theorem b6y (b:Pl) (vs:List Pt) (n:Nat):bH 1 b vs n=bH (-1) (aY b) vs n:=by
 unfold bH
 congr 1
 funext v
 rw[tV]
 congr 1
 simp only[eq_iff_iff]
 omega
theorem pc_tv {b:Pl} {p q:Pt} (hp:0<p.w) (hq:0<q.w):(pc (-1) b p q).map tv=Geo.fB (tH b) (tv p,tv q):=by
 unfold pc Geo.fB
 rw[Ah]
 have hgt:=r8 b hp
 congr 1
 ·by_cases h:aC b p=1
  ·have:=hgt.2 (a8w.1 h)
   rw[if_neg (by omega),if_neg (by grind)]
   rfl
  ·have:¬ 0<(tH b).at (tv p):=fun hh=>h (a8w.2 (hgt.1 hh))
   rw[if_pos (by omega),if_pos (by grind)]
   rfl
 ·by_cases h:aC b p*aC b q<0
  ·rw[if_pos h,if_pos ((a1e hp hq).1 h)]
   simp only[Az,List.map_nil,a9p hp hq h]
  ·rw[if_neg h,if_neg (fun hh=>h ((a1e hp hq).2 hh))]
   rfl
theorem a7d {b:Pl} {vs:List Pt} (h:∀ v∈vs,0<v.w):(bF (-1) b vs).map tv=Geo.part (tH b) (vs.map tv):=by
 unfold bF Geo.part
 rw[Geo.zX]
 have key:∀ l:List (Pt × Pt),(∀ e∈l,0<e.1.w∧0<e.2.w)→(l.flatMap fun e=>pc (-1) b e.1 e.2).map tv=(l.map fun e=>(tv e.1,tv e.2)).flatMap (Geo.fB (tH b)):=by
  intro l
  induction l with
  | nil=>intro _;rfl
  | cons a l ih =>
   intro hl
   obtain⟨h1,h2⟩:=hl a (by simp)
   rw[Ag,Ah,Az,Ag,pc_tv h1 h2,ih fun e he=>hl e (by simp[he])]
 exact key _ fun e he=>⟨h _ (Geo.bJ he),h _ (Geo.bO he)⟩
theorem b7s {h:Int} {b:Pl} {vs:List Pt} (hc:∀ v∈vs,CanP v):∀ v∈bF h b vs,CanP v:=by
 intro v hv
 unfold bF at hv
 obtain⟨e,he,hv⟩:=Av.1 hv
 unfold pc at hv
 rcases List.mem_append.1 hv with hv|hv
 ·split at hv
  ·obtain rfl:v=e.1:=by simpa using hv
   exact hc _ (Geo.bJ he)
  ·simp at hv
 ·split at hv
  ·obtain rfl:v=_:=by simpa using hv
   exact a7g _ _ _
  ·simp at hv
theorem a6w {b:Pl} {vs:List Pt} (h:∀ v∈vs,0<v.w):bH (-1) b vs vs.length=Geo.bQ (tH b) (vs.map tv):=by
 unfold bH Geo.bQ
 rw[List.take_length,List.any_map]
 apply Bool.eq_iff_iff.2
 simp only[List.any_eq_true,Function.comp,decide_eq_true_eq]
 constructor
 ·rintro⟨v,hv,e⟩;exact⟨v,hv,(nQ b (h v hv)).2 (a8v.1 e)⟩
 ·rintro⟨v,hv,e⟩;exact⟨v,hv,a8v.2 ((nQ b (h v hv)).1 e)⟩
end Go.Sx
