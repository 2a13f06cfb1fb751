import Derived.Test.YtjlfgmhmalbiiaaGreatDoorV21
set_option linter.all false
namespace Geo
structure PV (n:V) (vs:List V):Prop where
 len:3≤vs.length
 nd:vs.Nodup
 lf:∀ e∈edges vs,∀ x∈vs,x≠e.1→x≠e.2→0<ori n e.1 e.2 x
theorem b6b {l:List V} {a b c:V} (ha:a∈l) (hb:b∈l) (hc:c∈l) (hab:a≠b) (hac:a≠c) (hbc:b≠c):3≤l.length:=by
 have h1:=List.length_erase_of_mem ha
 have hb':b∈l.erase a:=(List.mem_erase_of_ne (Ne.symm hab)).2 hb
 have hc':c∈l.erase a:=(List.mem_erase_of_ne (Ne.symm hac)).2 hc
 have h2:=List.length_erase_of_mem hb'
 have hc'':c∈(l.erase a).erase b:=(List.mem_erase_of_ne (Ne.symm hbc)).2 hc'
 have h3:=List.length_pos_of_mem hc''
 have h4:=List.length_pos_of_mem ha
 have h5:=List.length_pos_of_mem hb'
 omega
theorem PV.rot {n:V} {A B:List V} (h:PV n (A++B)):PV n (B++A):=by
 refine⟨by have:=h.len;simp at this ⊢;omega,(List.perm_append_comm.nodup_iff).1 h.nd,fun e he x hx h1 h2=>?_⟩
 exact h.lf e ((rX A B).mem_iff.2 he) x (by simpa [or_comm]using hx) h1 h2
theorem PV.weak {n:V} {vs:List V} (h:PV n vs) {e:V × V} (he:e∈edges vs) {x:V} (hx:x∈vs):0≤ori n e.1 e.2 x:=by
 by_cases h1:x=e.1
 ·rw[h1,tD];exact Rat.le_refl
 ·by_cases h2:x=e.2
  ·rw[h2,nW];exact Rat.le_refl
  ·exact Rat.le_of_lt (h.lf e he x hx h1 h2)
theorem PV.other {n:V} {vs:List V} (h:PV n vs) {e:V × V} (he:e∈edges vs):∃ x∈vs,x≠e.1∧x≠e.2:=by
 apply Classical.byContradiction
 intro hno
 have hsub:∀ x∈vs,x=e.1∨x=e.2:=fun x hx=>by
  by_cases h1:x=e.1
  ·exact .inl h1
  ·by_cases h2:x=e.2
   ·exact .inr h2
   ·exact absurd ⟨x,hx,h1,h2⟩ hno
 match vs,h.len,h.nd,hsub with
 | a::b::c::t,_,hnd,hsub =>
  have h1:=hsub a (by simp)
  have h2:=hsub b (by simp)
  have h3:=hsub c (by simp)
  simp only[List.nodup_cons,List.mem_cons,not_or]at hnd
  obtain⟨⟨n1,n2,_⟩,⟨n3,_⟩,_⟩:=hnd
  rcases h1 with h1|h1<;>rcases h2 with h2|h2<;>rcases h3 with h3|h3 <;>
   first
    | exact n1 (h1.trans h2.symm)
    | exact n2 (h1.trans h3.symm)
    | exact n3 (h2.trans h3.symm)
theorem PV.n_ne {n:V} {vs:List V} (h:PV n vs):n≠⟨0,0,0⟩:=by
 match vs,h.len,h with
 | a::t,_,h =>
  obtain⟨b,hb⟩:=pH (l:=a::t) (a:=a) (by simp)
  obtain⟨x,hx,h1,h2⟩:=h.other hb
  have:=h.lf _ hb x hx h1 h2
  exact rU (a:=a) (b:=b) (c:=x) (by grind)
theorem PV.ne {n:V} {vs:List V} (h:PV n vs) {e:V × V} (he:e∈edges vs):e.1≠e.2:=b8g h.nd (by have:=h.len;omega) he
def X (g:H) (a b:V):V:=bX (g.at a / (g.at a - g.at b)) a b
theorem b3m (a b:V):bX 0 a b=a:=by apply V.ext<;>simp[bX]<;>grind
theorem b7n (a b:V):bX 1 a b=b:=by apply V.ext<;>simp[bX]<;>grind
theorem xJ (t:Rat) (a b:V):bX (1 - t) b a=bX t a b:=by apply V.ext<;>simp[bX]<;>grind
theorem tS {g:H} {a b:V} (h:g.at a≠g.at b):g.at (X g a b)=0:=by
 unfold X;rw[jR]
 have:g.at a - g.at b≠0:=by grind
 grind
theorem tB {g:H} {a b:V} (h:g.at a≠g.at b):X g b a=X g a b:=by
 unfold X
 rw[← xJ]
 congr 1
 have h1:g.at a - g.at b≠0:=by grind
 have h2:g.at b - g.at a≠0:=by grind
 grind
theorem c6j {g:H} {a b:V} (h:g.at a=0):X g a b=a:=by
 unfold X;rw[h,Rat.div_def,Rat.zero_mul,b3m]
theorem c2u {g:H} {a b:V} (h:g.at b=0) (h':g.at a≠0):X g a b=b:=by
 unfold X
 have:g.at a / (g.at a - g.at b)=1:=by rw[h];grind
 rw[this,b7n]
theorem X_w {g:H} {a b:V} (ha:g.at a≤0) (hb:0<g.at b):∃ t:Rat,0≤t∧t<1∧(g.at a<0→0<t)∧(g.at a=0→t=0)∧X g a b=bX t a b:=by
 have hd:0<g.at b - g.at a:=by grind
 have hi:=Rat.inv_pos.2 hd
 have e:g.at a / (g.at a - g.at b)=(- g.at a)*(g.at b - g.at a)⁻¹:=by
  have:g.at a - g.at b≠0:=by grind
  have:g.at b - g.at a≠0:=by grind
  grind
 have e2:(g.at b - g.at a)*(g.at b - g.at a)⁻¹=1:=Rat.mul_inv_cancel _ (by grind)
 refine⟨_,?_,?_,?_,?_,rfl⟩
 ·rw[e];exact Rat.mul_nonneg (by grind) (by grind)
 ·rw[e]
  have:=Rat.mul_pos hb hi
  grind
 ·intro h;rw[e];exact Rat.mul_pos (by grind) hi
 ·intro h;rw[e,h];grind
def eB (g:H) (e:V × V):List V:=(if g.at e.1≤0 then [e.1]else [])++(if g.at e.1*g.at e.2<0 then [X g e.1 e.2]else [])
def part (g:H) (vs:List V):List V:=(edges vs).flatMap (eB g)
theorem b6s (g:H) (A B:List V):∃ C D,part g (A++B)=C++D∧part g (B++A)=D++C:=by
 cases A with
 | nil=>exact⟨[],part g B,by simp,by simp⟩
 | cons a A=>cases B with
  | nil=>exact⟨part g (a::A),[],by simp,by simp⟩
  | cons b B =>
   refine⟨(aK (a::A++[b])).flatMap (eB g),(aK (b::B++[a])).flatMap (eB g),?_,?_⟩
   ·unfold part;rw[lQ,List.flatMap_append]
   ·unfold part;rw[lQ,List.flatMap_append]
theorem sU {a b:Rat} (ha:a≤0) (hb:b≤0):¬ a*b<0:=by
 have:=Rat.mul_nonneg (a:=-a) (b:=-b) (by grind) (by grind)
 grind
theorem a7c {a b:Rat} (ha:0≤a) (hb:0≤b):¬ a*b<0:=by
 have:=Rat.mul_nonneg ha hb
 grind
theorem m0 {a b:Rat} (hb:0<b):a*b<0↔a<0:=by
 constructor
 ·intro h
  apply Rat.not_le.1
  intro h2
  have:=Rat.mul_nonneg h2 (Rat.le_of_lt hb)
  grind
 ·intro h
  have:=Rat.mul_pos (a:=-a) (b:=b) (by grind) hb
  grind
theorem a1f (g:H) (k:V):∀ M:List V,(∀ x∈M++[k],g.at x≤0)→(aK (M++[k])).flatMap (eB g)=M
 | [],_=>rfl
 | [a],h=>by
  have h1:=h a (by simp)
  have h2:=h k (by simp)
  simp[aK,eB,h1,sU h1 h2]
 | a::b::M,h=>by
  have h1:=h a (by simp)
  have h2:=h b (by simp)
  have ih:=a1f g k (b::M) (fun x hx=>h x (by simp at hx ⊢;grind))
  simp only[List.cons_append,aK,List.flatMap_cons]at ih ⊢
  rw[ih]
  simp[eB,h1,sU h1 h2]
theorem a1e (g:H):∀ l:List V,(∀ x∈l,0<g.at x)→(aK l).flatMap (eB g)=[]
 | [],_=>rfl
 | [a],_=>rfl
 | a::b::l,h=>by
  have h1:=h a (by simp)
  have h2:=h b (by simp)
  have ih:=a1e g (b::l) (fun x hx=>h x (by simp at hx ⊢;grind))
  simp only[aK,List.flatMap_cons,ih]
  have:¬ g.at a≤0:=by grind
  simp[eB,this,a7c (Rat.le_of_lt h1) (Rat.le_of_lt h2)]
theorem b6t {g:H} {vs:List V} (h:∀ x∈vs,g.at x≤0):part g vs=vs:=by
 have key:∀ l:List (V × V),(∀ e∈l,g.at e.1≤0∧g.at e.2≤0)→l.flatMap (eB g)=l.map (·.1):=by
  intro l
  induction l with
  | nil=>intro _;rfl
  | cons e l ih =>
   intro hl
   obtain⟨h1,h2⟩:=hl e (by simp)
   rw[List.flatMap_cons,ih fun e he=>hl e (by simp[he])]
   simp[eB,h1,sU h1 h2]
 unfold part
 rw[key _ fun e he=>⟨h _ (bL he),h _ (bU he)⟩,i6]
end Geo
namespace Geo
structure Cut (h g:H) (n0 k p0 pm:V) (N P:List V):Prop where
 pv:PV h.n (N++P)
 pl:∀ v∈N++P,h.at v=0
 neg:∀ x∈N,g.at x≤0
 pos:∀ x∈P,0<g.at x
 hn0:∃ T,N=n0::T
 hk:∃ T,N=T++[k]
 hp0:∃ T,P=p0::T
 hpm:∃ T,P=T++[pm]
 low:∃ w∈N,g.at w<0
theorem mZ {a b:Rat} (h:0<a*b) (hb:0<b):0<a:=by
 apply Rat.not_le.1
 intro h2
 have:=Rat.mul_nonneg (a:=-a) (b:=b) (by grind) (Rat.le_of_lt hb)
 grind
namespace Cut
variable {h g:H} {n0 k p0 pm:V} {N P:List V}
theorem kN (c:Cut h g n0 k p0 pm N P):k∈N:=by obtain⟨T,e⟩:=c.hk;rw[e];simp
theorem n0N (c:Cut h g n0 k p0 pm N P):n0∈N:=by obtain⟨T,e⟩:=c.hn0;rw[e];simp
theorem p0P (c:Cut h g n0 k p0 pm N P):p0∈P:=by obtain⟨T,e⟩:=c.hp0;rw[e];simp
theorem pmP (c:Cut h g n0 k p0 pm N P):pm∈P:=by obtain⟨T,e⟩:=c.hpm;rw[e];simp
theorem mN {x:V} (c:Cut h g n0 k p0 pm N P) (hx:x∈N):x∈N++P:=by simp[hx]
theorem mP {x:V} (c:Cut h g n0 k p0 pm N P) (hx:x∈P):x∈N++P:=by simp[hx]
theorem gk (c:Cut h g n0 k p0 pm N P):g.at k≤0:=c.neg k c.kN
theorem gn0 (c:Cut h g n0 k p0 pm N P):g.at n0≤0:=c.neg n0 c.n0N
theorem gp0 (c:Cut h g n0 k p0 pm N P):0<g.at p0:=c.pos p0 c.p0P
theorem gpm (c:Cut h g n0 k p0 pm N P):0<g.at pm:=c.pos pm c.pmP
theorem ed (c:Cut h g n0 k p0 pm N P):edges (N++P)=(aK N++[(k,p0)])++(aK P++[(pm,n0)]):=by
 obtain⟨T1,e1⟩:=c.hn0
 obtain⟨T2,e2⟩:=c.hk
 obtain⟨T3,e3⟩:=c.hp0
 obtain⟨T4,e4⟩:=c.hpm
 have h1:aK (N++[p0])=aK N++[(k,p0)]:=by
  rw[e2];have:=lY T2 k [p0];simpa [aK]using this
 have h2:aK (P++[n0])=aK P++[(pm,n0)]:=by
  rw[e4];have:=lY T4 pm [n0];simpa [aK]using this
 rw[← h1,← h2,e1,e3]
 exact lQ n0 p0 T1 T3
theorem ek (c:Cut h g n0 k p0 pm N P):(k,p0)∈edges (N++P):=by rw[c.ed];simp
theorem em (c:Cut h g n0 k p0 pm N P):(pm,n0)∈edges (N++P):=by rw[c.ed];simp
theorem eN (c:Cut h g n0 k p0 pm N P) {e:V × V} (he:e∈aK N):e∈edges (N++P):=by rw[c.ed];simp[he]
theorem partEq (c:Cut h g n0 k p0 pm N P):part g (N++P)=N++((if g.at k<0 then [X g k p0]else [])++(if g.at n0<0 then [X g pm n0]else [])):=by
 obtain⟨T2,e2⟩:=c.hk
 have h1:(aK N).flatMap (eB g)=T2:=by rw[e2];exact a1f g k T2 (by rw[← e2];exact c.neg)
 have h2:=a1e g P c.pos
 have h3:eB g (k,p0)=[k]++(if g.at k<0 then [X g k p0]else []):=by
  simp only[eB,if_pos c.gk];congr 1
  by_cases hk:g.at k<0
  ·rw[if_pos hk,if_pos ((m0 c.gp0).2 hk)]
  ·rw[if_neg hk,if_neg fun h=>hk ((m0 c.gp0).1 h)]
 have h4:eB g (pm,n0)=(if g.at n0<0 then [X g pm n0]else []):=by
  have:¬ g.at pm≤0:=by have:=c.gpm;grind
  simp only[eB,if_neg this,List.nil_append]
  by_cases hk:g.at n0<0
  ·rw[if_pos hk,if_pos (by rw[Rat.mul_comm];exact (m0 c.gpm).2 hk)]
  ·rw[if_neg hk,if_neg fun h=>hk ((m0 c.gpm).1 (by rw[Rat.mul_comm];exact h))]
 unfold part
 rw[c.ed,List.flatMap_append,List.flatMap_append,List.flatMap_append,h1,h2]
 simp only[List.flatMap_cons,List.flatMap_nil,List.append_nil,h3,h4,List.nil_append]
 rw[e2];simp
theorem xk (c:Cut h g n0 k p0 pm N P) (hk:¬ g.at k<0):X g k p0=k:=c6j (by have:=c.gk;grind)
theorem xm (c:Cut h g n0 k p0 pm N P) (hk:¬ g.at n0<0):X g pm n0=n0:=c2u (by have:=c.gn0;grind) (by have:=c.gpm;grind)
theorem xk_at (c:Cut h g n0 k p0 pm N P):g.at (X g k p0)=0:=tS (by have:=c.gk;have:=c.gp0;grind)
theorem xm_at (c:Cut h g n0 k p0 pm N P):g.at (X g pm n0)=0:=tS (by have:=c.gn0;have:=c.gpm;grind)
theorem xm_w (c:Cut h g n0 k p0 pm N P):∃ t:Rat,0<t∧t≤1∧(g.at n0<0→t<1)∧X g pm n0=bX t pm n0:=by
 obtain⟨t,h0,h1,h2,_,h4⟩:=X_w c.gn0 c.gpm
 refine⟨1 - t,by grind,by grind,fun h=>by have:=h2 h;grind,?_⟩
 rw[← xJ,← tB (by have:=c.gn0;have:=c.gpm;grind),h4]
 congr 1;grind
theorem edW (c:Cut h g n0 k p0 pm N P):edges (part g (N++P))=aK N++((if g.at k<0 then [(k,X g k p0)]else [])++((X g k p0,X g pm n0)::(if g.at n0<0 then [(X g pm n0,n0)]else []))):=by
 obtain⟨T1,e1⟩:=c.hn0
 obtain⟨T2,e2⟩:=c.hk
 have key:∀ R,edges (N++R)=aK N++aK (k::(R++[n0])):=by
  intro R
  have h1:edges (N++R)=aK (N++(R++[n0])):=by rw[e1];simp[edges]
  rw[h1,e2]
  have:=lY T2 k (R++[n0])
  simpa using this
 rw[c.partEq,key]
 congr 1
 by_cases h1:g.at k<0<;>by_cases h2:g.at n0<0<;>simp[h1,h2,aK]
 ·exact (c.xm h2).symm
 ·exact (c.xk h1).symm
 ·exact⟨(c.xk h1).symm,(c.xm h2).symm⟩
theorem hx (c:Cut h g n0 k p0 pm N P):h.at (X g k p0)=0:=by
 unfold X;rw[jR,c.pl k (c.mN c.kN),c.pl p0 (c.mP c.p0P)];grind
theorem hy (c:Cut h g n0 k p0 pm N P):h.at (X g pm n0)=0:=by
 unfold X;rw[jR,c.pl pm (c.mP c.pmP),c.pl n0 (c.mN c.n0N)];grind
theorem Npos (c:Cut h g n0 k p0 pm N P):0<dot (aA h.n g.n) (aA h.n g.n) :=
 oT (a:=k) (w:=p0) c.pv.n_ne (by rw[c.pl k (c.mN c.kN),c.pl p0 (c.mP c.p0P)]) (by have:=c.gk;have:=c.gp0;grind)
theorem neNP {x y:V} (c:Cut h g n0 k p0 pm N P) (hx:x∈N) (hy:y∈P):x≠y:=fun e=>by
 have h1:=c.neg x hx
 have h2:=c.pos y hy
 rw[e]at h1;grind
theorem e1N (c:Cut h g n0 k p0 pm N P) {z:V} (hz:z∈N) (hk:z≠k):0<ori h.n k p0 z :=
 c.pv.lf _ c.ek z (c.mN hz) hk (c.neNP hz c.p0P)
theorem e2N (c:Cut h g n0 k p0 pm N P) {z:V} (hz:z∈N) (hk:z≠n0):0<ori h.n pm n0 z :=
 c.pv.lf _ c.em z (c.mN hz) (c.neNP hz c.pmP) hk
theorem single (c:Cut h g n0 k p0 pm N P) (e:n0=k):N=[k]:=by
 obtain⟨T1,e1⟩:=c.hn0
 obtain⟨T2,e2⟩:=c.hk
 have hnd:=(List.nodup_append.1 c.pv.nd).1
 cases T2 with
 | nil=>simpa using e2
 | cons a T2 =>
  have:a=n0:=by rw[e1]at e2;simp at e2;exact e2.1.symm
  rw[e2,this,e]at hnd
  simp at hnd
theorem single' (c:Cut h g n0 k p0 pm N P) (e:p0=pm):P=[p0]:=by
 obtain⟨T1,e1⟩:=c.hp0
 obtain⟨T2,e2⟩:=c.hpm
 have hnd:=(List.nodup_append.1 c.pv.nd).2.1
 cases T2 with
 | nil=>rw[e];simpa using e2
 | cons a T2 =>
  have:a=p0:=by rw[e1]at e2;simp at e2;exact e2.1.symm
  rw[e2,this,e]at hnd
  simp at hnd
theorem e1y (c:Cut h g n0 k p0 pm N P):0<ori h.n k p0 (X g pm n0):=by
 obtain⟨t,t0,t1,t2,te⟩:=c.xm_w
 rw[te,i7]
 have w1:=c.pv.weak c.ek (c.mP c.pmP)
 have w2:=c.pv.weak c.ek (c.mN c.n0N)
 by_cases hnk:n0=k
 ·have hN:=c.single hnk
  obtain⟨w,hw,gw⟩:=c.low
  rw[hN]at hw;simp at hw;subst hw
  have hp:pm≠p0:=by
   intro e
   have hP:=c.single' e.symm
   have:=c.pv.len
   rw[hN,hP]at this;simp at this
  have s:=c.pv.lf _ c.ek pm (c.mP c.pmP) (Ne.symm (c.neNP c.kN c.pmP)) hp
  have:=t2 (by rw[hnk];exact gw)
  have p1:=Rat.mul_pos (a:=1 - t) (by grind) s
  have p2:=Rat.mul_nonneg (Rat.le_of_lt t0) w2
  grind
 ·have s:=c.e1N c.n0N hnk
  have p1:=Rat.mul_nonneg (a:=1 - t) (by grind) w1
  have p2:=Rat.mul_pos t0 s
  grind
theorem e2x (c:Cut h g n0 k p0 pm N P):0<ori h.n pm n0 (X g k p0):=by
 obtain⟨t,t0,t1,t2,_,te⟩:=X_w c.gk c.gp0
 rw[te,i7]
 have w1:=c.pv.weak c.em (c.mN c.kN)
 have w2:=c.pv.weak c.em (c.mP c.p0P)
 by_cases hnk:k=n0
 ·have hN:=c.single hnk.symm
  obtain⟨w,hw,gw⟩:=c.low
  rw[hN]at hw;simp at hw;subst hw
  have hp:p0≠pm:=by
   intro e
   have hP:=c.single' e
   have:=c.pv.len
   rw[hN,hP]at this;simp at this
  have s:=c.pv.lf _ c.em p0 (c.mP c.p0P) hp (Ne.symm (c.neNP c.n0N c.p0P))
  have p1:=Rat.mul_pos (t2 gw) s
  have p2:=Rat.mul_nonneg (a:=1 - t) (by grind) w1
  grind
 ·have s:=c.e2N c.kN hnk
  have p1:=Rat.mul_pos (a:=1 - t) (by grind) s
  have p2:=Rat.mul_nonneg t0 w2
  grind
theorem e1x (c:Cut h g n0 k p0 pm N P):ori h.n k p0 (X g k p0)=0:=by unfold X;rw[i7,tD,nW];grind
theorem e2y (c:Cut h g n0 k p0 pm N P):ori h.n pm n0 (X g pm n0)=0:=by unfold X;rw[i7,tD,nW];grind
theorem phi1 (c:Cut h g n0 k p0 pm N P) {r:V} (hr:h.at r=0) (gr:g.at r=0) (ho:0<ori h.n k p0 r):dot (X g k p0) (aA h.n g.n)<dot r (aA h.n g.n):=by
 have e:=x6 c.hx hr c.xk_at gr (c.pl k (c.mN c.kN)) (c.pl p0 (c.mP c.p0P))
 rw[c.e1x]at e
 have hN:=c.Npos
 have hnn:=fV c.pv.n_ne
 have p1:=Rat.mul_pos hN ho
 have p2:0<dot h.n h.n*(g.at p0 - g.at k):=Rat.mul_pos hnn (by have:=c.gk;have:=c.gp0;grind)
 have:=mZ (a:=dot r (aA h.n g.n) - dot (X g k p0) (aA h.n g.n)) (by rw[← e];grind) p2
 grind
theorem phixy (c:Cut h g n0 k p0 pm N P):dot (X g k p0) (aA h.n g.n)<dot (X g pm n0) (aA h.n g.n):=c.phi1 c.hy c.xm_at c.e1y
theorem xy_ne (c:Cut h g n0 k p0 pm N P):X g k p0≠X g pm n0:=fun e=>by have:=c.phixy;rw[e]at this;grind
theorem strict (c:Cut h g n0 k p0 pm N P) {z:V} (hz:z∈N) (h1:z≠X g k p0) (h2:z≠X g pm n0):g.at z<0:=by
 rcases fR (c.neg z hz)with h0|h0
 ·exact h0
 exfalso
 have pz:=c.pl z (c.mN hz)
 have hzk:z≠k:=fun e=>h1 (by rw[c.xk (by rw[← e,h0];grind),e])
 have hzn:z≠n0:=fun e=>h2 (by rw[c.xm (by rw[← e,h0];grind),e])
 have f1:=c.phi1 pz h0 (c.e1N hz hzk)
 obtain⟨T1,e1⟩:=c.hn0
 obtain⟨T2,e2⟩:=c.hk
 have hzT:z∈T1:=by rw[e1]at hz;simp at hz;exact hz.resolve_left hzn
 obtain⟨u,hu⟩:∃ u,(u,z)∈aK N:=by
  have:z∈(aK N).map (·.2):=by rw[e1,r9];exact hzT
  obtain⟨e,he,rfl⟩:=List.mem_map.1 this
  exact⟨e.1,he⟩
 have hue:=c.eN hu
 have huN:u∈T2:=by
  have:u∈(aK N).map (·.1):=List.mem_map_of_mem (f:=(·.1)) hu
  rwa [e2,sA]at this
 have huk:u≠k:=by
  intro e
  have hnd:=(List.nodup_append.1 c.pv.nd).1
  rw[e2]at hnd
  exact (List.nodup_append.1 hnd).2.2 u huN k (by simp) e
 have huN':u∈N:=by rw[e2];simp[huN]
 have e:=x6 pz c.hx h0 c.xk_at (c.pl u (c.mN huN')) pz
 rw[nW,h0]at e
 have hpos:0<ori h.n u z (X g k p0):=by
  obtain⟨t,t0,t1,t2,t3,te⟩:=X_w c.gk c.gp0
  rw[te,i7]
  have s1:=c.pv.lf _ hue k (c.mN c.kN) (Ne.symm huk) (Ne.symm hzk)
  have s2:=c.pv.lf _ hue p0 (c.mP c.p0P) (Ne.symm (c.neNP huN' c.p0P)) (Ne.symm (c.neNP hz c.p0P))
  have p1:=Rat.mul_pos (a:=1 - t) (by grind) s1
  have p2:=Rat.mul_nonneg t0 (Rat.le_of_lt s2)
  grind
 have p1:=Rat.mul_pos c.Npos hpos
 have p2:=Rat.mul_nonneg (Rat.le_of_lt (fV c.pv.n_ne)) (show 0≤- g.at u by have:=c.neg u huN';grind)
 have p3:=Rat.mul_nonneg (a:=dot z (aA h.n g.n) - dot (X g k p0) (aA h.n g.n)) (by grind) p2
 grind
end Cut
end Geo
namespace Geo
theorem tW {h:H} {t:Rat} {p q:V} (hp:h.at p=0) (hq:h.at q=0):h.at (bX t p q)=0:=by rw[jR,hp,hq];grind
theorem a0r (n a b z:V) (t:Rat):ori n a (bX t a b) z=t*ori n a b z:=by
 simp only[ori,dot,aA,bX,dY,dT,dM,iE,iD,iC,eK,eJ,eF];grind
theorem a0s (n a b z:V) (t:Rat):ori n (bX t a b) b z=(1 - t)*ori n a b z:=by
 simp only[ori,dot,aA,bX,dY,dT,dM,iE,iD,iC,eK,eJ,eF];grind
def cJ (g:H) (e:V × V):Option (V × V) :=
 if g.at e.1≤0∧g.at e.2≤0 then (if g.at e.1=0∧g.at e.2=0 then none else some e)
 else if g.at e.1<0 then some (e.1,X g e.1 e.2)else if g.at e.2<0 then some (X g e.1 e.2,e.2)else none
def off (g:H) (e:V × V):Bool:=decide (¬ (g.at e.1=0∧g.at e.2=0))
namespace Cut
variable {h g:H} {n0 k p0 pm:V} {N P:List V}
theorem memW (c:Cut h g n0 k p0 pm N P) {z:V} (hz:z∈part g (N++P)):z∈N∨(z=X g k p0∧g.at k<0)∨(z=X g pm n0∧g.at n0<0):=by
 rw[c.partEq]at hz
 simp only[List.mem_append]at hz
 rcases hz with hz|hz|hz
 ·exact .inl hz
 ·split at hz
  ·simp at hz;exact .inr (.inl ⟨hz,by assumption⟩)
  ·simp at hz
 ·split at hz
  ·simp at hz;exact .inr (.inr ⟨hz,by assumption⟩)
  ·simp at hz
theorem memW' (c:Cut h g n0 k p0 pm N P) {z:V} (hz:z∈part g (N++P)):z∈N∨z=X g k p0∨z=X g pm n0:=by
 rcases c.memW hz with h|h|h
 ·exact .inl h
 ·exact .inr (.inl h.1)
 ·exact .inr (.inr h.1)
theorem inW (c:Cut h g n0 k p0 pm N P) {z:V} (hz:z∈N):z∈part g (N++P):=by rw[c.partEq];simp[hz]
theorem xW (c:Cut h g n0 k p0 pm N P):X g k p0∈part g (N++P):=by
 by_cases hk:g.at k<0
 ·rw[c.partEq];simp[hk]
 ·rw[c.xk hk];exact c.inW c.kN
theorem yW (c:Cut h g n0 k p0 pm N P):X g pm n0∈part g (N++P):=by
 by_cases hk:g.at n0<0
 ·rw[c.partEq];simp[hk]
 ·rw[c.xm hk];exact c.inW c.n0N
theorem W1 (c:Cut h g n0 k p0 pm N P) {z:V} (hz:z∈part g (N++P)) (h1:z≠k) (h2:z≠X g k p0):0<ori h.n k p0 z:=by
 rcases c.memW' hz with h|h|h
 ·exact c.e1N h h1
 ·exact absurd h h2
 ·rw[h];exact c.e1y
theorem W2 (c:Cut h g n0 k p0 pm N P) {z:V} (hz:z∈part g (N++P)) (h1:z≠n0) (h2:z≠X g pm n0):0<ori h.n pm n0 z:=by
 rcases c.memW' hz with h|h|h
 ·exact c.e2N h h1
 ·rw[h];exact c.e2x
 ·exact absurd h h2
theorem nodupW (c:Cut h g n0 k p0 pm N P):(part g (N++P)).Nodup:=by
 have hnd:=(List.nodup_append.1 c.pv.nd).1
 have hx:g.at k<0→X g k p0∉N:=by
  intro gk hm
  have hne:X g k p0≠k:=fun e=>by have:=c.xk_at;rw[e]at this;grind
  have:=c.e1N hm hne
  rw[c.e1x]at this;grind
 have hy:g.at n0<0→X g pm n0∉N:=by
  intro gk hm
  have hne:X g pm n0≠n0:=fun e=>by have:=c.xm_at;rw[e]at this;grind
  have:=c.e2N hm hne
  rw[c.e2y]at this;grind
 have hxy:=c.xy_ne
 rw[c.partEq,List.nodup_append]
 refine⟨hnd,?_,?_⟩
 ·by_cases h1:g.at k<0<;>by_cases h2:g.at n0<0<;>simp[h1,h2,hxy]
 ·intro a ha b hb e
  subst e
  simp only[List.mem_append]at hb
  rcases hb with hb|hb
  ·split at hb
   ·simp at hb;exact hx (by assumption) (hb▸ha)
   ·simp at hb
  ·split at hb
   ·simp at hb;exact hy (by assumption) (hb▸ha)
   ·simp at hb
theorem le0 (c:Cut h g n0 k p0 pm N P) {z:V} (hz:z∈part g (N++P)):g.at z≤0:=by
 rcases c.memW' hz with h|h|h
 ·exact c.neg z h
 ·rw[h,c.xk_at];exact Rat.le_refl
 ·rw[h,c.xm_at];exact Rat.le_refl
theorem planar (c:Cut h g n0 k p0 pm N P) {z:V} (hz:z∈part g (N++P)):h.at z=0:=by
 rcases c.memW' hz with h|h|h
 ·exact c.pl z (c.mN h)
 ·rw[h];exact c.hx
 ·rw[h];exact c.hy
theorem pvW (c:Cut h g n0 k p0 pm N P):PV h.n (part g (N++P)):=by
 refine⟨?_,c.nodupW,?_⟩
 ·obtain⟨w,hw,gw⟩:=c.low
  exact b6b (c.inW hw) c.xW c.yW (fun e=>by rw[e,c.xk_at]at gw;grind) (fun e=>by rw[e,c.xm_at]at gw;grind) c.xy_ne
 ·intro e he z hz h1 h2
  rw[c.edW]at he
  simp only[List.mem_append,List.mem_cons]at he
  rcases he with he|he|he|he
  ·
   have hev:=c.eN he
   obtain⟨T1,q1⟩:=c.hn0
   obtain⟨T2,q2⟩:=c.hk
   have m1:e.1∈N:=by
    have:e.1∈(aK N).map (·.1):=List.mem_map_of_mem (f:=(·.1)) he
    rw[q2,sA]at this;rw[q2];simp[this]
   have m2:e.2∈N:=by
    have:e.2∈(aK N).map (·.2):=List.mem_map_of_mem (f:=(·.2)) he
    rw[q1,r9]at this;rw[q1];simp[this]
   rcases c.memW hz with h|⟨h,gk⟩|⟨h,gk⟩
   ·exact c.pv.lf e hev z (c.mN h) h1 h2
   ·obtain⟨t,t0,t1,t2,_,te⟩:=X_w c.gk c.gp0
    rw[h,te,i7]
    have s1:=c.pv.weak hev (c.mN c.kN)
    have s2:=c.pv.lf e hev p0 (c.mP c.p0P) (Ne.symm (c.neNP m1 c.p0P)) (Ne.symm (c.neNP m2 c.p0P))
    have p1:=Rat.mul_nonneg (a:=1 - t) (by grind) s1
    have p2:=Rat.mul_pos (t2 gk) s2
    grind
   ·obtain⟨t,t0,t1,t2,te⟩:=c.xm_w
    rw[h,te,i7]
    have s1:=c.pv.weak hev (c.mN c.n0N)
    have s2:=c.pv.lf e hev pm (c.mP c.pmP) (Ne.symm (c.neNP m1 c.pmP)) (Ne.symm (c.neNP m2 c.pmP))
    have p1:=Rat.mul_nonneg (Rat.le_of_lt t0) s1
    have p2:=Rat.mul_pos (a:=1 - t) (by have:=t2 gk;grind) s2
    grind
  ·split at he
   ·rename_i gk
    simp at he;subst he
    obtain⟨t,t0,t1,t2,_,te⟩:=X_w c.gk c.gp0
    have s:=c.W1 hz h1 h2
    simp only at h1 h2 ⊢
    rw[te,a0r]
    exact Rat.mul_pos (t2 gk) s
   ·simp at he
  ·subst he
   simp only at h1 h2 ⊢
   have hzN:z∈N:=by
    rcases c.memW' hz with h|h|h
    ·exact h
    ·exact absurd h h1
    ·exact absurd h h2
   have gz:=c.strict hzN h1 h2
   have e:=sB (z:=z) c.hx c.hy c.xk_at c.xm_at (c.planar hz)
   have hE:0<dot (X g pm n0 - X g k p0) (aA h.n g.n):=by
    have:=c.phixy
    simp only[dot,dY,dT,dM]at this ⊢;grind
   have p1:=Rat.mul_pos hE (Rat.mul_pos (fV c.pv.n_ne) (show 0 < - g.at z by grind))
   have hN:=c.Npos
   refine mZ (b:=dot (aA h.n g.n) (aA h.n g.n)) ?_ hN
   rw[Rat.mul_comm,e]
   grind
  ·split at he
   ·rename_i gk
    simp at he;subst he
    obtain⟨t,t0,t1,t2,te⟩:=c.xm_w
    have s:=c.W2 hz h2 h1
    simp only at h1 h2 ⊢
    rw[te,a0s]
    exact Rat.mul_pos (a:=1 - t) (by have:=t2 gk;grind) s
   ·simp at he
theorem offW (c:Cut h g n0 k p0 pm N P):(edges (part g (N++P))).filter (off g)=(edges (N++P)).filterMap (cJ g):=by
 have a1:∀ l:List (V × V),(∀ e∈l,g.at e.1≤0∧g.at e.2≤0)→l.filter (off g)=l.filterMap (cJ g):=by
  intro l
  induction l with
  | nil=>intro _;rfl
  | cons e l ih =>
   intro h
   have he:=h e (by simp)
   have ih:=ih fun e he=>h e (by simp[he])
   simp only[List.filter_cons,List.filterMap_cons,off,cJ,if_pos he]
   by_cases h0:g.at e.1=0∧g.at e.2=0
   ·simp only[h0,and_self,not_true_eq_false,decide_false,Bool.false_eq_true,if_false,if_true];exact ih
   ·simp only[h0,not_false_eq_true,decide_true,if_true,if_false];rw[ih]
 have a2:∀ l:List (V × V),(∀ e∈l,0<g.at e.1∧0<g.at e.2)→l.filterMap (cJ g)=[]:=by
  intro l
  induction l with
  | nil=>intro _;rfl
  | cons e l ih =>
   intro h
   have he:=h e (by simp)
   have ih:=ih fun e he=>h e (by simp[he])
   have b1:¬ (g.at e.1≤0∧g.at e.2≤0):=by grind
   have b2:¬ g.at e.1<0:=by grind
   have b3:¬ g.at e.2<0:=by grind
   simp only[List.filterMap_cons,cJ,b1,b2,b3,if_false];exact ih
 have mN:∀ e∈aK N,e.1∈N∧e.2∈N:=by
  intro e he
  obtain⟨T1,q1⟩:=c.hn0
  obtain⟨T2,q2⟩:=c.hk
  constructor
  ·have:e.1∈(aK N).map (·.1):=List.mem_map_of_mem (f:=(·.1)) he
   rw[q2,sA]at this;rw[q2];simp[this]
  ·have:e.2∈(aK N).map (·.2):=List.mem_map_of_mem (f:=(·.2)) he
   rw[q1,r9]at this;rw[q1];simp[this]
 have mP:∀ e∈aK P,e.1∈P∧e.2∈P:=by
  intro e he
  obtain⟨T1,q1⟩:=c.hp0
  obtain⟨T2,q2⟩:=c.hpm
  constructor
  ·have:e.1∈(aK P).map (·.1):=List.mem_map_of_mem (f:=(·.1)) he
   rw[q2,sA]at this;rw[q2];simp[this]
  ·have:e.2∈(aK P).map (·.2):=List.mem_map_of_mem (f:=(·.2)) he
   rw[q1,r9]at this;rw[q1];simp[this]
 have b1:=a1 (aK N) fun e he=>⟨c.neg _ (mN e he).1,c.neg _ (mN e he).2⟩
 have b2:=a2 (aK P) fun e he=>⟨c.pos _ (mP e he).1,c.pos _ (mP e he).2⟩
 have b3:cJ g (k,p0)=if g.at k<0 then some (k,X g k p0)else none:=by
  have q1:¬ (g.at k≤0∧g.at p0≤0):=by have:=c.gp0;grind
  have q2:¬ g.at p0<0:=by have:=c.gp0;grind
  simp only[cJ,q1,q2,if_false]
 have b4:cJ g (pm,n0)=if g.at n0<0 then some (X g pm n0,n0)else none:=by
  have q1:¬ (g.at pm≤0∧g.at n0≤0):=by have:=c.gpm;grind
  have q2:¬ g.at pm<0:=by have:=c.gpm;grind
  simp only[cJ,q1,q2,if_false]
 have o1:off g (X g k p0,X g pm n0)=false:=by simp[off,c.xk_at,c.xm_at]
 have o2:g.at k<0→off g (k,X g k p0)=true:=fun hk=>by
  have:g.at k≠0:=by grind
  simp[off,this]
 have o3:g.at n0<0→off g (X g pm n0,n0)=true:=fun hk=>by
  have:g.at n0≠0:=by grind
  simp[off,this]
 rw[c.edW,c.ed]
 simp only[List.filter_append,List.filterMap_append,List.filter_cons,List.filterMap_cons,List.filterMap_nil,b1,b2,b3,b4,o1,List.append_nil,List.nil_append,Bool.false_eq_true,if_false,List.append_assoc]
 congr 1
 by_cases h1:g.at k<0<;>by_cases h2:g.at n0<0<;>simp[h1,h2,o2,o3]
end Cut
end Geo
namespace Geo
theorem b2f {h g : H} {vs : List V} (pv : PV h.n vs) (pl : ∀ v ∈ vs, h.at v = 0) {e e' : V × V} (he : e ∈ edges vs) (he' : e' ∈ edges vs)
  (u:g.at e.1≤0∧¬ g.at e.2≤0) (u':g.at e'.1≤0∧¬ g.at e'.2≤0):e=e':=by
 apply Classical.byContradiction
 intro hne
 have key : ∀ e e' : V × V, e ∈ edges vs → e' ∈ edges vs → (g.at e.1 ≤ 0 ∧ ¬ g.at e.2 ≤ 0) → (g.at e'.1 ≤ 0 ∧ ¬ g.at e'.2 ≤ 0) → e ≠ e' →
   dot (X g e.1 e.2) (aA h.n g.n)<dot (X g e'.1 e'.2) (aA h.n g.n):=by
  intro e e' he he' u u' hne
  have g2:0<g.at e.2:=by have:=u.2;grind
  have g2':0<g.at e'.2:=by have:=u'.2;grind
  have hfst:e'.1≠e.1:=fun h1=>hne (rF (f:=(·.1)) (by rw[i6];exact pv.nd) he he' h1.symm)
  have hcr:e'.1≠e.2:=fun h1=>by have:=u'.1;rw[h1]at this;grind
  have s:=pv.lf e he e'.1 (bL he') hfst hcr
  have w:=pv.weak he (bU he')
  obtain⟨t,t0,t1,_,_,te⟩:=X_w u'.1 g2'
  have ho:0<ori h.n e.1 e.2 (X g e'.1 e'.2):=by
   rw[te,i7]
   have p1:=Rat.mul_pos (a:=1 - t) (by grind) s
   have p2:=Rat.mul_nonneg t0 w
   grind
  have hx:h.at (X g e.1 e.2)=0:=tW (pl _ (bL he)) (pl _ (bU he))
  have hx':h.at (X g e'.1 e'.2)=0:=tW (pl _ (bL he')) (pl _ (bU he'))
  have gx:g.at (X g e.1 e.2)=0:=tS (by have:=u.1;grind)
  have gx':g.at (X g e'.1 e'.2)=0:=tS (by have:=u'.1;grind)
  have ee:=x6 hx hx' gx gx' (pl _ (bL he)) (pl _ (bU he))
  have h0:ori h.n e.1 e.2 (X g e.1 e.2)=0:=by unfold X;rw[i7,tD,nW];grind
  rw[h0]at ee
  have hN:0<dot (aA h.n g.n) (aA h.n g.n):=oT (a:=e.1) (w:=e.2) pv.n_ne (by rw[pl _ (bL he),pl _ (bU he)]) (by have:=u.1;grind)
  have p1:=Rat.mul_pos hN ho
  have p2:0<dot h.n h.n*(g.at e.2 - g.at e.1):=Rat.mul_pos (fV pv.n_ne) (by have:=u.1;grind)
  have:=mZ (a:=dot (X g e'.1 e'.2) (aA h.n g.n) - dot (X g e.1 e.2) (aA h.n g.n)) (by rw[← ee];grind) p2
  grind
 have k1:=key e e' he he' u u' hne
 have k2:=key e' e he' he u' u (Ne.symm hne)
 grind
theorem b6v {g:H} {l:List (V × V)} (h:∀ e∈l,g.at e.1≤0∧g.at e.2≤0):l.filter (off g)=l.filterMap (cJ g):=by
 induction l with
 | nil=>rfl
 | cons e l ih =>
  have he:=h e (by simp)
  have ih:=ih fun e he=>h e (by simp[he])
  simp only[List.filter_cons,List.filterMap_cons,off,cJ,if_pos he]
  by_cases h0:g.at e.1=0∧g.at e.2=0
  ·simp only[h0,and_self,not_true_eq_false,decide_false,Bool.false_eq_true,if_false,if_true];exact ih
  ·simp only[h0,not_false_eq_true,decide_true,if_true,if_false];rw[ih]
structure PartOk (h g:H) (vs W:List V):Prop where
 pv:PV h.n W
 pl:∀ w∈W,h.at w=0
 le:∀ w∈W,g.at w≤0
 low:∃ w∈W,g.at w<0
 off:((edges W).filter (off g)).Perm ((edges vs).filterMap (cJ g))
 keep:∀ v∈vs,g.at v≤0→v∈W
 hull:∀ f:H,(∀ v∈vs,f.at v≤0)→∀ w∈W,f.at w≤0
 mem:∀ w∈W,w∈vs∨∃ e∈edges vs,g.at e.1*g.at e.2<0∧w=X g e.1 e.2
theorem X_le {f g:H} {a b:V} (hm:g.at a*g.at b<0) (ha:f.at a≤0) (hb:f.at b≤0):f.at (X g a b)≤0:=by
 have key:∀ a b:V,g.at a≤0→0<g.at b→f.at a≤0→f.at b≤0→f.at (X g a b)≤0:=by
  intro a b h1 h2 ha hb
  obtain⟨t,t0,t1,_,_,te⟩:=X_w h1 h2
  rw[te,jR]
  have p1:=Rat.mul_nonneg (a:=1 - t) (b:=- f.at a) (by grind) (by grind)
  have p2:=Rat.mul_nonneg (a:=t) (b:=- f.at b) t0 (by grind)
  grind
 by_cases h1:g.at b≤0
 ·have:0<g.at a:=by
   apply Rat.not_le.1;intro h2;exact sU h2 h1 hm
  rw[← tB (by grind)]
  exact key b a h1 this hb ha
 ·have h1:0<g.at b:=by grind
  have:g.at a≤0:=by
   have:=(m0 h1).1 hm;grind
  exact key a b this h1 ha hb
theorem a3i {g:H} {vs:List V} {w:V} (hw:w∈part g vs):w∈vs∨∃ e∈edges vs,g.at e.1*g.at e.2<0∧w=X g e.1 e.2:=by
 unfold part at hw
 obtain⟨e,he,hw⟩:=List.mem_flatMap.1 hw
 simp only[eB,List.mem_append]at hw
 rcases hw with hw|hw
 ·split at hw
  ·simp at hw;exact .inl (hw▸bL he)
  ·simp at hw
 ·split at hw
  ·simp at hw;exact .inr ⟨e,he,by assumption,hw⟩
  ·simp at hw
theorem b3b {g:H} {vs:List V} {v:V} (hv:v∈vs) (h:g.at v≤0):v∈part g vs:=by
 obtain⟨b,hb⟩:=pH hv
 exact List.mem_flatMap.2 ⟨_,hb,by simp[eB,h]⟩
theorem yM {h g:H} {vs:List V} (pv:PV h.n vs) (pl:∀ v∈vs,h.at v=0) (low:∃ w∈vs,g.at w<0):PartOk h g vs (part g vs):=by
 have hull:∀ f:H,(∀ v∈vs,f.at v≤0)→∀ w∈part g vs,f.at w≤0:=by
  intro f hf w hw
  rcases a3i hw with h1|⟨e,he,hm,rfl⟩
  ·exact hf w h1
  ·exact X_le hm (hf _ (bL he)) (hf _ (bU he))
 have keep:∀ v∈vs,g.at v≤0→v∈part g vs:=fun v hv h=>b3b hv h
 obtain⟨w0,hw0,gw0⟩:=low
 by_cases hall:∀ v∈vs,g.at v≤0
 ·have e:=b6t hall
  rw[e]at hull keep ⊢
  refine⟨pv,pl,hall,⟨w0,hw0,gw0⟩,?_,keep,hull,fun w hw=>.inl hw⟩
  rw[b6v fun e he=>⟨hall _ (bL he),hall _ (bU he)⟩]
 ·have hex:∃ b∈vs,¬ g.at b≤0:=by
   apply Classical.byContradiction
   intro hno
   exact hall fun v hv=>Classical.byContradiction fun h2=>hno ⟨v,hv,h2⟩
  obtain⟨b,hb,gb⟩:=hex
  obtain⟨N,P,A,B,e1,e2,hN,hP,qN,qP⟩:=b2t (p:=fun v=>g.at v≤0) pv.nd (fun e he e' he' u u'=>b2f pv pl he he' u u') hw0 (Rat.le_of_lt gw0) hb gb
  have hmem:∀ v,v∈N++P↔v∈vs:=fun v=>by rw[← e2,e1];simp[or_comm]
  obtain⟨n0,T1,r1⟩:=List.exists_cons_of_ne_nil hN
  obtain⟨p0,T3,r3⟩:=List.exists_cons_of_ne_nil hP
  obtain⟨T2,k,r2⟩:∃ T k,N=T++[k]:=by
   rcases List.eq_nil_or_concat N with h|⟨T,k,h⟩
   ·exact absurd h hN
   ·exact⟨T,k,by simpa using h⟩
  obtain⟨T4,pm,r4⟩:∃ T k,P=T++[k]:=by
   rcases List.eq_nil_or_concat P with h|⟨T,k,h⟩
   ·exact absurd h hP
   ·exact⟨T,k,by simpa using h⟩
  have c:Cut h g n0 k p0 pm N P:=by
   refine⟨by rw[← e2];exact PV.rot (by rw[← e1];exact pv),fun v hv=>pl v ((hmem v).1 hv),qN,fun x hx=>by have:=qP x hx;grind,⟨T1,r1⟩,⟨T2,r2⟩,⟨T3,r3⟩,⟨T4,r4⟩,?_⟩
   have:w0∈N++P:=(hmem w0).2 hw0
   rcases List.mem_append.1 this with h1|h1
   ·exact⟨w0,h1,gw0⟩
   ·exact absurd (Rat.le_of_lt gw0) (qP w0 h1)
  obtain⟨C,D,f1,f2⟩:=b6s g A B
  rw[← e1]at f1
  rw[e2]at f2
  have hperm:∀ z,z∈part g vs↔z∈part g (N++P):=fun z=>by rw[f1,f2];simp[or_comm]
  have hpv:PV h.n (part g vs):=by rw[f1];exact PV.rot (by rw[← f2];exact c.pvW)
  refine⟨hpv,fun w hw=>c.planar ((hperm w).1 hw),fun w hw=>c.le0 ((hperm w).1 hw),⟨w0,keep w0 hw0 (Rat.le_of_lt gw0),gw0⟩,?_,keep,hull,fun w hw=>a3i hw⟩
  have q1:(edges (part g vs)).Perm (edges (part g (N++P))):=by rw[f1,f2];exact rX C D
  have q2:(edges (N++P)).Perm (edges vs):=by rw[← e2,e1];exact rX B A
  refine (q1.filter _).trans ?_
  rw[c.offW]
  exact q2.filterMap _
end Geo
namespace Geo
def sm {α:Type} (F:α→Rat):List α→Rat
 | []=>0
 | a::l=>F a+sm F l
theorem b2l {α:Type} (F:α→Rat) (l m:List α):sm F (l++m)=sm F l+sm F m:=by
 induction l with
 | nil=>show sm F m=0+sm F m;grind
 | cons a l ih=>simp only[List.cons_append,sm,ih];grind
theorem c0o {α:Type} (F:α→Rat) {l m:List α} (h:l.Perm m):sm F l=sm F m:=by
 induction h with
 | nil=>rfl
 | cons a _ ih=>simp only[sm,ih]
 | swap a b l=>simp only[sm];grind
 | trans _ _ h1 h2=>exact h1.trans h2
theorem c4h {α β:Type} (F:β→Rat) (f:α→β) (l:List α):sm F (l.map f)=sm (fun a=>F (f a)) l:=by
 induction l with
 | nil=>rfl
 | cons a l ih=>simp only[List.map_cons,sm,ih]
theorem b0w {α β:Type} (F:β→Rat) (f:α→List β) (l:List α):sm F (l.flatMap f)=sm (fun a=>sm F (f a)) l:=by
 induction l with
 | nil=>rfl
 | cons a l ih=>simp only[List.flatMap_cons,b2l,sm,ih]
theorem a6s {α:Type} {F G:α→Rat} {l:List α} (h:∀ a∈l,F a=- G a):sm F l=- sm G l:=by
 induction l with
 | nil=>simp[sm]
 | cons a l ih=>simp only[sm,h a (by simp),ih fun b hb=>h b (by simp[hb])];grind
theorem a6r {α:Type} {F:α→Rat} {l:List α} (h:∀ a∈l,0<F a) (hn:l≠[]):0<sm F l:=by
 induction l with
 | nil=>exact absurd rfl hn
 | cons a l ih =>
  have ha:=h a (by simp)
  cases l with
  | nil=>simp only[sm];grind
  | cons b l =>
   have:=ih (fun b hb=>h b (by simp[hb])) (by simp)
   simp only[sm]at this ⊢;grind
theorem sm_le {α:Type} {F:α→Rat} {l:List α} (h:∀ a∈l,F a≤0):sm F l≤0:=by
 induction l with
 | nil=>simp only[sm];exact Rat.le_refl
 | cons a l ih =>
  have ha:=h a (by simp)
  have:=ih fun b hb=>h b (by simp[hb])
  simp only[sm];grind
theorem sm_lt {α:Type} {F:α→Rat} {l:List α} (h:∀ a∈l,F a≤0) {a:α} (ha:a∈l) (hl:F a<0):sm F l<0:=by
 induction l with
 | nil=>simp at ha
 | cons b l ih =>
  have hb:=h b (by simp)
  have h2:=sm_le (F:=F) (l:=l) fun b hb=>h b (by simp[hb])
  rcases List.mem_cons.1 ha with e|ha
  ·subst e;simp only[sm];grind
  ·have:=ih (fun b hb=>h b (by simp[hb])) ha
   simp only[sm];grind
def sw {α:Type} (e:α × α):α × α:=(e.2,e.1)
theorem a7x {α:Type} (e:α × α):sw (sw e)=e:=rfl
theorem b2k {α:Type} {F:α × α→Rat} {l:List (α × α)} (hF:∀ e,F (sw e)=- F e) (h:l.Perm (l.map sw)):sm F l=0:=by
 have h1:=c0o F h
 rw[c4h,a6s (G:=F) fun e _=>hF e]at h1
 grind
theorem fan {α : Type} {F : α × α → Rat} (hF : ∀ e, F (sw e) = - F e) (v : α) : ∀ t : List α, t ≠ [] →
  sm F (edges (v::t))=sm (fun e=>F (v,e.1)+F e+F (e.2,v)) (aK t)
 | [],h=>absurd rfl h
 | [b],_=>by
  have:=hF (v,b)
  simp only[sw]at this
  simp only[edges,List.cons_append,List.nil_append,aK,sm,this];grind
 | b::c::t,_=>by
  have ih:=fan hF v (c::t) (by simp)
  have h1:=hF (v,c)
  simp only[sw]at h1
  simp only[edges,List.cons_append,aK,sm]at ih ⊢
  grind
theorem b6q {α:Type} (v:α) (t:List α) {e:α × α} (h:e∈aK t):e∈edges (v::t):=by
 obtain⟨A,B,rfl⟩:=uA h
 show e∈aK (v::(A++e.1::e.2::B)++[v])
 have:=a9a (v::A) e.1 e.2 (B++[v])
 simpa using this
theorem a9z {α:Type} {t:List α} (h:2≤t.length):aK t≠[]:=by
 match t,h with
 | a::b::t,_=>simp[aK]
theorem PV.fan_pos {n : V} {vs : List V} (pv : PV n vs) {F : V × V → Rat} (hF : ∀ e, F (sw e) = - F e)
  (h:∀ a b c,a∈vs→b∈vs→c∈vs→0<ori n a b c→0<F (a,b)+F (b,c)+F (c,a)):0<sm F (edges vs):=by
 match vs,pv.len,pv,h with
 | v::t,hl,pv,h =>
  simp only[List.length_cons]at hl
  rw[fan hF v t (by intro e;subst e;simp at hl)]
  refine a6r (fun e he=>?_) (a9z (by omega))
  have hev:=b6q v t he
  obtain⟨A,B,hAB⟩:=uA he
  have hnd:=(List.nodup_cons.1 pv.nd).1
  have h1:e.1∈t:=by rw[hAB];simp
  have h2:e.2∈t:=by rw[hAB];simp
  have ho:=pv.lf e hev v (by simp) (fun e'=>hnd (e'▸h1)) (fun e'=>hnd (e'▸h2))
  rw[← yN]at ho
  exact h v e.1 e.2 (by simp) (by simp[h1]) (by simp[h2]) ho
structure Sd where
 h:H
 vs:List V
def E (c:List Sd):List (V × V):=c.flatMap fun s=>edges s.vs
def det (a b c:V):Rat:=dot a (aA b c)
theorem c2k {h:H} {a b c x:V} (ha:h.at a=0) (hb:h.at b=0) (hc:h.at c=0):dot h.n h.n*det (a - x) (b - x) (c - x)=ori h.n a b c * - h.at x:=by
 have e1:dot h.n (b - a)=0:=by rw[bF,ha,hb];grind
 have e2:dot h.n (c - a)=0:=by rw[bF,ha,hc];grind
 have e3:dot h.n (a - x)=- h.at x:=by rw[bF,ha];grind
 have k:∀ n p q z:V,dot n n*det z (z+p) (z+q)=dot n z*dot n (aA p q)+(dot n p*dot n (aA q z)+dot n q*dot n (aA z p)):=by
  intro n p q z;simp only[dot,det,aA,iE,iD,iC];grind
 have k2:=k h.n (b - a) (c - a) (a - x)
 have e4:(a - x)+(b - a)=b - x:=by apply V.ext<;>simp<;>grind
 have e5:(a - x)+(c - a)=c - x:=by apply V.ext<;>simp<;>grind
 rw[e4,e5,e1,e2,e3]at k2
 unfold ori
 rw[k2];grind
theorem c2l (g A B C:V):dot g g*det A B C=dot g A*det g B C+dot g B*det g C A+dot g C*det g A B:=by
 simp only[dot,det,aA];grind
theorem a0x {L : List Sd} (pv : ∀ s ∈ L, PV s.h.n s.vs) (pl : ∀ s ∈ L, ∀ v ∈ s.vs, s.h.at v = 0) (cl : (E L).Perm ((E L).map sw)) (hL : L ≠ [])
  {x:V} (hx:∀ s∈L,s.h.at x<0) {f:H} (hf:∀ s∈L,∀ v∈s.vs,f.at v≤0) (fx:0<f.at x):False:=by
 let F:V × V→Rat:=fun e=>det f.n (e.1 - x) (e.2 - x)*((f.at x - f.at e.1)⁻¹*(f.at x - f.at e.2)⁻¹)
 have hF:∀ e,F (sw e)=- F e:=by
  intro e
  show det f.n (e.2 - x) (e.1 - x)*((f.at x - f.at e.2)⁻¹*(f.at x - f.at e.1)⁻¹)=- (det f.n (e.1 - x) (e.2 - x)*((f.at x - f.at e.1)⁻¹*(f.at x - f.at e.2)⁻¹))
  have:det f.n (e.2 - x) (e.1 - x)=- det f.n (e.1 - x) (e.2 - x):=by simp only[det,dot,aA];grind
  rw[this];grind
 have h0:=b2k hF cl
 have h1:0<sm (fun e=>- F e) (E L):=by
  unfold E
  rw[b0w]
  refine a6r (fun s hs=>?_) hL
  refine (pv s hs).fan_pos (F:=fun e=>- F e) (fun e=>by simp only[hF]) ?_
  intro a b c ha hb hc ho
  have wa:0<f.at x - f.at a:=by have:=hf s hs a ha;grind
  have wb:0<f.at x - f.at b:=by have:=hf s hs b hb;grind
  have wc:0<f.at x - f.at c:=by have:=hf s hs c hc;grind
  have d:=c2k (x:=x) (pl s hs a ha) (pl s hs b hb) (pl s hs c hc)
  have hnn:=fV (pv s hs).n_ne
  have dpos:0<det (a - x) (b - x) (c - x):=by
   have p:=Rat.mul_pos ho (show 0 < - s.h.at x by have:=hx s hs;grind)
   exact mZ (b:=dot s.h.n s.h.n) (by rw[Rat.mul_comm,d];exact p) hnn
  have gnn:0<dot f.n f.n:=fV (a5g (a:=x) (b:=a) (by grind))
  have df:=c2l f.n (a - x) (b - x) (c - x)
  rw[bF,bF,bF]at df
  have ia:=Rat.inv_pos.2 wa
  have ib:=Rat.inv_pos.2 wb
  have ic:=Rat.inv_pos.2 wc
  have ja:(f.at x - f.at a)*(f.at x - f.at a)⁻¹=1:=Rat.mul_inv_cancel _ (by grind)
  have jb:(f.at x - f.at b)*(f.at x - f.at b)⁻¹=1:=Rat.mul_inv_cancel _ (by grind)
  have jc:(f.at x - f.at c)*(f.at x - f.at c)⁻¹=1:=Rat.mul_inv_cancel _ (by grind)
  have p:=Rat.mul_pos (Rat.mul_pos gnn dpos) (Rat.mul_pos ia (Rat.mul_pos ib ic))
  show 0 < - (det f.n (a - x) (b - x)*((f.at x - f.at a)⁻¹*(f.at x - f.at b)⁻¹)) + - (det f.n (b - x) (c - x)*((f.at x - f.at b)⁻¹*(f.at x - f.at c)⁻¹)) + - (det f.n (c - x) (a - x)*((f.at x - f.at c)⁻¹*(f.at x - f.at a)⁻¹))
  generalize (f.at x - f.at a)⁻¹=ra at *
  generalize (f.at x - f.at b)⁻¹=rb at *
  generalize (f.at x - f.at c)⁻¹=rc at *
  generalize det f.n (a - x) (b - x)=d1 at *
  generalize det f.n (b - x) (c - x)=d2 at *
  generalize det f.n (c - x) (a - x)=d3 at *
  have e:dot f.n f.n*det (a - x) (b - x) (c - x)*(ra*(rb*rc))=- (d1*(ra*rb)) + - (d2*(rb*rc)) + - (d3*(rc*ra)):=by
   rw[df]
   generalize f.at x=X at *
   generalize f.at a=A at *
   generalize f.at b=B at *
   generalize f.at c=C at *
   clear d p dpos df
   grind
  rw[← e];exact p
 rw[a6s (G:=F) fun _ _=>rfl,h0]at h1
 grind
end Geo
