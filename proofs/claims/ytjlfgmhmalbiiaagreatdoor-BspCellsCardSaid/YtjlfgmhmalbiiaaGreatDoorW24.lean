import Derived.Test.YtjlfgmhmalbiiaaGreatDoorW23
set_option linter.all false
open List renaming mem_map → Ad, mem_cons_of_mem → Af, map_map → Ag, pairwise_cons → Ah, length_pos_of_mem → Ai, nodup_cons → Aj, mem_filter → Ak, map_append → Al, Perm → Am, mem_cons → An, mem_filterMap → Ap, nodup_append → Aq, mem_flatMap → Ar, map_cons → As
open Nat renaming le_refl → Av
open Rat renaming mul_pos → Aa, le_of_lt → Ab, mul_eq_zero → Ac, mul_nonneg → Ae, mul_inv_cancel → Ao, le_total → At, inv_pos → Au, not_lt → Aw
namespace Geo
theorem c1m {n u1 u2 z:V} (h1:dot n u1=0) (h2:dot n u2=0) (hz:dot n z=0) (hn:n≠⟨0,0,0⟩) (o1:dot n (aA u1 z)=0) (o2:dot n (aA u2 z)=0) (o:dot n (aA u2 u1)≠0):z=⟨0,0,0⟩:=by
 have k:∀ n a b z:V,(dot n (aA a b)*z.x=n.x*det a b z - a.x*dot n (aA b z)+b.x*dot n (aA a z))∧(dot n (aA a b)*z.y=n.y*det a b z - a.y*dot n (aA b z)+b.y*dot n (aA a z))∧(dot n (aA a b)*z.z=n.z*det a b z - a.z*dot n (aA b z)+b.z*dot n (aA a z)):=by
  intro n a b z;simp only[dot,det,aA];refine⟨?_,?_,?_⟩<;>grind
 obtain⟨kx,ky,kz⟩:=k n u2 u1 z
 rw[o1,o2]at kx ky kz
 have hd:det u2 u1 z=0:=by
  have e:dot n n*det u2 u1 z=dot n u2*dot n (aA u1 z)+dot n u1*dot n (aA z u2)+dot n z*dot n (aA u2 u1):=by simp only[dot,det,aA];grind
  rw[h1,h2,hz]at e
  have hnn:=fP hn
  rcases Ac.1 (show dot n n*det u2 u1 z=0 by rw[e];grind)with h|h
  ·grind
  ·exact h
 rw[hd]at kx ky kz
 have kz0:∀ q:Rat,dot n (aA u2 u1)*q=0→q=0:=fun q hq=>(Ac.1 hq).resolve_left o
 exact V.ext (kz0 _ (by rw[kx];grind)) (kz0 _ (by rw[ky];grind)) (kz0 _ (by rw[kz];grind))
theorem vX {t a b:Rat} (h0:0<t) (h1:t<1) (ha:0≤a) (hb:0≤b) (h:(1 - t)*a+t*b=0):a=0∧b=0:=by
 have p1:=Ae (a:=1 - t) (by grind) ha
 have p2:=Ae (Ab h0) hb
 constructor
 ·rcases Ac.1 (show (1 - t)*a=0 by grind)with h|h
  ·grind
  ·exact h
 ·rcases Ac.1 (show t*b=0 by grind)with h|h
  ·grind
  ·exact h
theorem PV.extreme {h : H} {vs : List V} (pv : PV h.n vs) (pl : ∀ v ∈ vs, h.at v = 0) {v : V} (hv : v ∈ vs) {p q : V} {t : Rat} (t0 : 0 < t) (t1 : t < 1) (e : v = bP t p q)
  (hp:h.at p=0) (hq:h.at q=0) (fp:∀ e∈edges vs,0≤ori h.n e.1 e.2 p) (fq:∀ e∈edges vs,0≤ori h.n e.1 e.2 q):p=v∧q=v:=by
 obtain⟨b,hb⟩:=oD hv
 obtain⟨a,ha⟩:=b0a hv
 have hab:a≠b:=by
  intro h;subst h
  exact sZ pv hb ha
 have hva:a≠v:=pv.ne ha
 have ho:=pv.lf _ hb a (bD ha) hva hab
 simp only at ho
 have z1:(1 - t)*ori h.n v b p+t*ori h.n v b q=0:=by rw[← jF,← e,uL]
 have z2:(1 - t)*ori h.n a v p+t*ori h.n a v q=0:=by rw[← jF,← e,oR]
 obtain⟨p1,q1⟩:=vX t0 t1 (fp _ hb) (fq _ hb) z1
 obtain⟨p2,q2⟩:=vX t0 t1 (fp _ ha) (fq _ ha) z2
 have fin:∀ r,h.at r=0→ori h.n v b r=0→ori h.n a v r=0→r=v:=by
  intro r hr r1 r2
  have d1:dot h.n (b - v)=0:=by rw[bE,pl v hv,pl b (bL hb)];grind
  have d2:dot h.n (v - a)=0:=by rw[bE,pl v hv,pl a (bD ha)];grind
  have d3:dot h.n (r - v)=0:=by rw[bE,pl v hv,hr];grind
  have o2:dot h.n (aA (v - a) (r - v))=0:=by
   rw[← r2];simp only[ori,dot,aA,dM,dL,dK];grind
  have o3:dot h.n (aA (v - a) (b - v))≠0:=by
   have:dot h.n (aA (v - a) (b - v))=ori h.n v b a:=by simp only[ori,dot,aA,dM,dL,dK];grind
   rw[this];grind
  have:=c1m d1 d2 d3 pv.n_ne r1 o2 o3
  have hx:=congrArg V.x this
  have hy:=congrArg V.y this
  have hz:=congrArg V.z this
  simp only[dM,dL,dK]at hx hy hz
  exact V.ext (by grind) (by grind) (by grind)
 exact⟨fin p hp p1 p2,fin q hq q1 q2⟩
theorem b3n {n e z:V} (h1:dot n e=0) (h2:dot n z=0):dot n n*aA e z=dot n (aA e z)*n:=by
 have k1:∀ n e z:V,dot n n*(aA e z).x=dot n (aA e z)*n.x - (n.y*(e.z*dot n z - z.z*dot n e) - n.z*(e.y*dot n z - z.y*dot n e)):=by intro n e z;simp only[dot,aA];grind
 have k2:∀ n e z:V,dot n n*(aA e z).y=dot n (aA e z)*n.y - (n.z*(e.x*dot n z - z.x*dot n e) - n.x*(e.z*dot n z - z.z*dot n e)):=by intro n e z;simp only[dot,aA];grind
 have k3:∀ n e z:V,dot n n*(aA e z).z=dot n (aA e z)*n.z - (n.x*(e.y*dot n z - z.y*dot n e) - n.y*(e.x*dot n z - z.x*dot n e)):=by intro n e z;simp only[dot,aA];grind
 apply V.ext
 ·simp only[c9];rw[k1,h1,h2];grind
 ·simp only[c8];rw[k2,h1,h2];grind
 ·simp only[c7];rw[k3,h1,h2];grind
theorem b0r {n g e z:V} (h1:dot n e=0) (h2:dot n z=0) (h3:dot g e=0):dot n n*dot e e*dot g z=dot n (aA e z)*dot g (aA n e):=by
 have hc:=b3n h1 h2
 have k:∀ g e z c:V,dot g (aA (aA e z) e)=dot e e*dot g z - dot e z*dot g e:=by intro g e z c;simp only[dot,aA];grind
 have e1:=k g e z e
 have e2:dot n n*dot g (aA (aA e z) e)=dot n (aA e z)*dot g (aA n e):=by
  rw[← kR,← pE,hc,pE,kR]
 rw[e1,h3]at e2
 grind
theorem c8q {h g : H} {u v w w' m : V} (hu : h.at u = 0) (hv : h.at v = 0) (gu : g.at u = 0) (gv : g.at v = 0)
  (hw:h.at w=0) (ow:0<ori h.n u v w) (gw:g.at w≤0) (gw':g.at w'=0) (ow':0<ori g.n u v w') (hw':h.at w'≤0) (hm:h.at m<0) (gm:g.at m<0):Prp h g:=by
 have hn:h.n≠⟨0,0,0⟩:=sS (a:=u) (b:=v) (c:=w) (by grind)
 have gn:g.n≠⟨0,0,0⟩:=sS (a:=u) (b:=v) (c:=w') (by grind)
 have hnn:=fP hn
 have gnn:=fP gn
 have e1:dot h.n (v - u)=0:=by rw[bE,hu,hv];grind
 have e2:dot g.n (v - u)=0:=by rw[bE,gu,gv];grind
 have e3:dot h.n (w - u)=0:=by rw[bE,hu,hw];grind
 have e4:dot g.n (w' - u)=0:=by rw[bE,gu,gw'];grind
 have a1:=b0r e1 e3 e2
 have a2:=b0r e2 e4 e1
 have e5:dot g.n (w - u)=g.at w:=by rw[bE,gu];grind
 have e6:dot h.n (w' - u)=h.at w':=by rw[bE,hu];grind
 rw[e5]at a1
 rw[e6]at a2
 have e7:dot h.n (aA g.n (v - u))=- dot g.n (aA h.n (v - u)):=by simp only[dot,aA];grind
 rw[e7]at a2
 have hee:0<dot (v - u) (v - u):=by
  apply yG
  intro h0
  have:=pC h0
  unfold ori at ow
  rw[this]at ow
  have z0:dot h.n (aA ⟨0,0,0⟩ (w - u))=0:=by simp only[dot,aA];grind
  rw[z0]at ow;grind
 unfold ori at ow ow'
 have hD:dot g.n (aA h.n (v - u))=0:=by
  have p1:=Ae (Ab (Aa hnn hee)) (show 0≤- g.at w by grind)
  have p2:=Ae (Ab (Aa gnn hee)) (show 0≤- h.at w' by grind)
  generalize dot g.n (aA h.n (v - u))=D at *
  generalize dot h.n (aA (v - u) (w - u))=o1 at *
  generalize dot g.n (aA (v - u) (w' - u))=o2 at *
  have q1:o1*D≤0:=by grind
  have q2:0≤o2*D:=by grind
  rcases At (a:=D) (b:=0)with h|h
  ·rcases fD h with h|h
   ·have:=Aa ow' (show 0 < -D by grind);grind
   ·exact h
  ·rcases fD h with h|h
   ·have:=Aa ow h;grind
   ·exact h.symm
 have hpar:=par (e:=v - u) (n:=h.n) (g:=g.n) (by rw[jW];exact e1) (by rw[jW];exact e2)
 have e8:dot (v - u) (aA h.n g.n)=- dot g.n (aA h.n (v - u)):=by simp only[dot,aA];grind
 rw[e8,hD]at hpar
 have hN:dot (aA h.n g.n) (aA h.n g.n)=0:=by
  have q:dot (dot (aA h.n g.n) (aA h.n g.n)*(v - u)) (v - u)=dot ((-(0:Rat))*aA h.n g.n) (v - u):=by rw[hpar]
  rw[a4a,a4a]at q
  rcases Ac.1 (show dot (aA h.n g.n) (aA h.n g.n)*dot (v - u) (v - u)=0 by rw[q];grind)with h|h
  ·exact h
  ·grind
 have hc0:=pC hN
 have hk:∀ x,g.at x*dot h.n h.n=dot h.n g.n*h.at x:=fun x=>by
  have k:dot h.n h.n*dot g.n (x - u)=dot h.n g.n*dot h.n (x - u) - dot h.n (aA (aA h.n g.n) (x - u)):=by rw[wG];grind
  have z0:dot h.n (aA ⟨0,0,0⟩ (x - u))=0:=by simp only[dot,aA];grind
  rw[hc0,z0,bE,bE,gu,hu]at k
  grind
 have hpos:0<dot h.n g.n:=by
  have q:=hk m
  have p:=Aa (show 0 < - g.at m by grind) hnn
  exact mJ (b:=- h.at m) (by grind) (by grind)
 apply Prp.symm
 refine⟨dot h.n g.n*(dot h.n h.n)⁻¹,Aa hpos (Au.2 hnn),fun x=>?_⟩
 have q:=hk x
 have hi:dot h.n h.n*(dot h.n h.n)⁻¹=1:=Ao _ (by grind)
 generalize (dot h.n h.n)⁻¹=i at *
 generalize dot h.n h.n=N at *
 have:g.at x=g.at x*N*i:=by clear q hk hpos;grind
 rw[this,q];grind
end Geo
namespace Geo
variable {α:Type}
def cI (nx:α→α):Nat→α→List α
 | 0,_=>[]
 | k+1,x=>x::cI nx k (nx x)
def itn (nx:α→α):Nat→α→α
 | 0,x=>x
 | k+1,x=>itn nx k (nx x)
theorem pR (nx:α→α) (k:Nat) (x:α):itn nx (k+1) x=nx (itn nx k x):=by
 induction k generalizing x with
 | zero=>rfl
 | succ k ih=>show itn nx (k+1) (nx x)=nx (itn nx k (nx x));rw[ih]
theorem vD (nx:α→α) (k:Nat) (x:α):(cI nx k x).length=k:=by
 induction k generalizing x with
 | zero=>rfl
 | succ k ih=>simp[cI,ih]
theorem jU {nx:α→α} {k:Nat} {x y:α}:y∈cI nx k x↔∃ i,i<k∧y=itn nx i x:=by
 induction k generalizing x with
 | zero=>simp[cI]
 | succ k ih =>
  simp only[cI,An,ih]
  constructor
  ·rintro (rfl|⟨i,hi,rfl⟩)
   ·exact⟨0,by omega,rfl⟩
   ·exact⟨i+1,by omega,rfl⟩
  ·rintro⟨i,hi,rfl⟩
   cases i with
   | zero=>exact .inl rfl
   | succ i=>exact .inr ⟨i,by omega,rfl⟩
theorem a4t (nx:α→α) (k:Nat) (x:α):cI nx (k+1) x=cI nx k x++[itn nx k x]:=by
 induction k generalizing x with
 | zero=>rfl
 | succ k ih=>show x::cI nx (k+1) (nx x)=(x::cI nx k (nx x))++[itn nx k (nx x)];rw[ih];rfl
theorem b6h (nx:α→α) (k:Nat) (x:α):aM (cI nx (k+1) x)=(cI nx k x).map fun y=>(y,nx y):=by
 induction k generalizing x with
 | zero=>rfl
 | succ k ih =>
  have:=ih (nx x)
  simp only[cI,aM,As]at this ⊢
  rw[this]
theorem a3z {R:α→α→Prop}:∀ (T:List α),T≠[]→(∀ a∈T,¬ R a a)→(∀ a∈T,∀ b∈T,∀ c∈T,R a b→R b c→R a c)→∃ t∈T,∀ u∈T,¬ R t u
 | [],h,_,_=>absurd rfl h
 | [a],_,hi,_=>⟨a,by simp,fun u hu=>by simp at hu;subst hu;exact hi u (by simp)⟩
 | a::b::T,_,hi,ht=>by
  obtain⟨t,h1,h2⟩:=a3z (b::T) (by simp) (fun x hx=>hi x (Af _ hx)) (fun x hx y hy z hz=>ht x (Af _ hx) y (Af _ hy) z (Af _ hz))
  by_cases hta:R t a
  ·refine⟨a,by simp,fun u hu hau=>?_⟩
   rcases An.1 hu with rfl|hu
   ·exact hi u (by simp) hau
   ·exact h2 u hu (ht t (by simp[h1]) a (by simp) u (by simp[hu]) hta hau)
  ·refine⟨t,by simp[h1],fun u hu htu=>?_⟩
   rcases An.1 hu with rfl|hu
   ·exact hta htu
   ·exact h2 u hu htu
structure Cyc (h:H) (L:List (V × V)):Prop where
 on:∀ e∈L,h.at e.1=0∧h.at e.2=0
 lf:∀ e∈L,∀ x∈L.map (·.1),x≠e.1→x≠e.2→0<ori h.n e.1 e.2 x
 io:(L.map (·.1)).Perm (L.map (·.2))
 nd:(L.map (·.1)).Nodup
 ne:∀ e∈L,e.1≠e.2
 inn:∃ y,∀ e∈L,0<ori h.n e.1 e.2 y
theorem b4o {h : H} {f p a b c : V} (hf : h.at f = 0) (ha : h.at a = 0) (hb : h.at b = 0) (hc : h.at c = 0) (hp : h.at p = 0)
  (pa:0<ori h.n f p a) (pb:0<ori h.n f p b) (pc:0<ori h.n f p c) (ab:0<ori h.n f a b) (bc:0<ori h.n f b c):0<ori h.n f a c:=by
 have hn:h.n≠⟨0,0,0⟩:=sS (a:=f) (b:=a) (c:=b) (by grind)
 have e1:dot h.n (a - f)=0:=by rw[bE,ha,hf];grind
 have e2:dot h.n (b - f)=0:=by rw[bE,hb,hf];grind
 have e3:dot h.n (c - f)=0:=by rw[bE,hc,hf];grind
 have e4:dot h.n (p - f)=0:=by rw[bE,hp,hf];grind
 have key:ori h.n f p b*ori h.n f a c=ori h.n f p a*ori h.n f b c+ori h.n f p c*ori h.n f a b:=by
  unfold ori
  generalize p - f=P at *
  generalize a - f=A at *
  generalize b - f=B at *
  generalize c - f=C at *
  have hd:det A B C=0:=by
   have e:dot h.n h.n*det A B C=dot h.n A*dot h.n (aA B C)+dot h.n B*dot h.n (aA C A)+dot h.n C*dot h.n (aA A B):=by simp only[dot,det,aA];grind
   rw[e1,e2,e3]at e
   have hnn:=fP hn
   rcases Ac.1 (show dot h.n h.n*det A B C=0 by rw[e];grind)with h|h
   ·grind
   ·exact h
  have k1:dot h.n (aA P B)*dot h.n (aA A C)=dot h.n (aA P A)*dot h.n (aA B C)+dot h.n (aA P C)*dot h.n (aA A B) - dot h.n (aA P h.n)*det A B C:=by
   clear hd
   simp only[dot,det,aA];grind
  rw[k1,hd];grind
 have p1:=Aa pa bc
 have p2:=Aa pc ab
 exact mJ (b:=ori h.n f p b) (by rw[Rat.mul_comm,key];grind) pb
theorem yA [BEq α] [LawfulBEq α]:∀ {l m:List α},l.Nodup→(∀ x∈l,x∈m)→m.length≤l.length→l.Perm m
 | [],m,_,_,hl=>by
  have:m=[]:=List.eq_nil_of_length_eq_zero (by simpa using hl)
  rw[this]
 | a::l,m,hn,hs,hl=>by
  have ha:=hs a (by simp)
  have h1:=List.perm_cons_erase ha
  rw[Aj]at hn
  have h2:=List.length_erase_of_mem ha
  have hp:=Ai ha
  have ih:=yA (l:=l) (m:=m.erase a) hn.2 (fun x hx=>(List.mem_erase_of_ne (fun e:x=a=>hn.1 (by rw[← e];exact hx))).2 (hs x (by simp[hx]))) (by simp at hl;omega)
  exact (Am.cons a ih).trans h1.symm
theorem Cyc.cycle {h : H} {L : List (V × V)} (C : Cyc h L) {nx : V → V} (hnx : ∀ e ∈ L, nx e.1 = e.2) {f : V} (hf : f ∈ L.map (·.1)) :
  PV h.n (cI nx L.length f)∧(edges (cI nx L.length f)).Perm L:=by
 let S:=L.map (·.1)
 have hS:∀ x∈S,(x,nx x)∈L:=fun x hx=>by
  obtain⟨e,he,rfl⟩:=Ad.1 hx
  rw[hnx e he];exact he
 have hcl:∀ x∈S,nx x∈S:=fun x hx=>C.io.mem_iff.2 (Ad.2 ⟨_,hS x hx,rfl⟩)
 have hinj:∀ x∈S,∀ y∈S,nx x=nx y→x=y:=by
  intro x hx y hy e
  have nd2:(L.map (·.2)).Nodup:=(C.io.nodup_iff).1 C.nd
  have:=sB (f:=(·.2)) nd2 (hS x hx) (hS y hy) e
  exact congrArg (·.1) this
 have hin:∀ i,itn nx i f∈S:=by
  intro i
  induction i with
  | zero=>exact hf
  | succ i ih=>rw[pR];exact hcl _ ih
 have hback:∀ i j,i≤j→itn nx i f=itn nx j f→itn nx (j - i) f=f:=by
  intro i
  induction i with
  | zero=>intro j _ e;exact e.symm
  | succ i ih =>
   intro j hj e
   obtain⟨j,rfl⟩:∃ k,j=k+1:=⟨j - 1,by omega⟩
   rw[pR,pR]at e
   have:=ih j (by omega) (hinj _ (hin i) _ (hin j) e)
   rw[show j+1 - (i+1)=j - i by omega];exact this
 have hSl:S.length=L.length:=by simp[S]
 have hno:∀ j,0<j→j<L.length→itn nx j f≠f:=by
  intro j hj hjl hret
  let O:=cI nx j f
  have hO:∀ x∈O,nx x∈O:=by
   intro x hx
   obtain⟨i,hi,rfl⟩:=jU.1 hx
   rw[← pR nx i f]
   by_cases h1:i+1<j
   ·exact jU.2 ⟨i+1,h1,rfl⟩
   ·rw[show i+1=j by omega,hret]
    exact jU.2 ⟨0,hj,rfl⟩
  have hfO:f∈O:=jU.2 ⟨0,hj,rfl⟩
  have hOp:∀ x∈S,nx x∈O→x∈O:=by
   intro x hx hxo
   obtain⟨i,hi,e⟩:=jU.1 hxo
   cases i with
   | zero =>
    have e2:nx x=nx (itn nx (j - 1) f):=by
     rw[← pR nx (j - 1) f,show j - 1+1=j by omega,hret];exact e
    rw[hinj x hx _ (hin _) e2]
    exact jU.2 ⟨j - 1,by omega,rfl⟩
   | succ i =>
    rw[pR]at e
    rw[hinj x hx _ (hin _) e]
    exact jU.2 ⟨i,by omega,rfl⟩
  let T:=S.filter fun x=>decide (x∉O)
  have hT:∀ x,x∈T↔x∈S∧x∉O:=fun x=>by simp[T]
  have hTne:T≠[]:=by
   intro h0
   have hsub:∀ x∈S,x∈O:=fun x hx=>Classical.byContradiction fun hn=>by
    have:=(hT x).2 ⟨hx,hn⟩
    rw[h0]at this;simp at this
   have:=yA (l:=S) (m:=O) C.nd hsub
   by_cases hl:O.length≤S.length
   ·have:=(this hl).length_eq
    simp only[O,vD,hSl]at this;omega
   ·simp only[O,vD,hSl]at hl;omega
  have hTn:∀ x∈T,nx x∈T:=fun x hx=>by
   obtain⟨h1,h2⟩:=(hT x).1 hx
   exact (hT _).2 ⟨hcl x h1,fun h3=>h2 (hOp x h1 h3)⟩
  have on:∀ x∈S,h.at x=0:=fun x hx=>(C.on _ (hS x hx)).1
  have phi:∀ t∈T,0<ori h.n f (nx f) t:=fun t ht=>by
   obtain⟨h1,h2⟩:=(hT t).1 ht
   exact C.lf _ (hS f hf) t h1 (fun e=>h2 (e▸hfO)) (fun e=>h2 (e▸hO f hfO))
  obtain⟨t,ht,hmax⟩:=a3z (R:=fun a b=>0<ori h.n f a b) T hTne (fun a _ h0=>by rw[oR]at h0;grind) (fun a ha b hb c hc ab bc =>
   b4o (on f hf) (on a ((hT a).1 ha).1) (on b ((hT b).1 hb).1) (on c ((hT c).1 hc).1) (on _ (hcl f hf)) (phi a ha) (phi b hb) (phi c hc) ab bc)
  have htS:=((hT t).1 ht).1
  have hne1:f≠t:=fun e=>((hT t).1 ht).2 (e▸hfO)
  have hne2:f≠nx t:=fun e=>((hT _).1 (hTn t ht)).2 (e▸hfO)
  have:=C.lf _ (hS t htS) f hf hne1 hne2
  rw[a0h,a0h]at this
  exact hmax _ (hTn t ht) this
 have hnd:(cI nx L.length f).Nodup:=by
  have key:∀ m,m≤L.length→(cI nx m f).Nodup:=by
   intro m
   induction m with
   | zero=>intro _;simp[cI]
   | succ m ih =>
    intro hm
    rw[a4t,Aq]
    refine⟨ih (by omega),by simp,?_⟩
    intro a ha b hb e
    simp at hb;subst hb
    obtain⟨i,hi,e2⟩:=jU.1 ha
    have:=hback i m (by omega) (by rw[← e2];exact e)
    exact hno (m - i) (by omega) (by omega) this
  exact key _ (Av _)
 have hperm:(cI nx L.length f).Perm S:=by
  refine yA hnd (fun x hx=>?_) (by rw[vD,hSl];exact Av _)
  obtain⟨i,_,rfl⟩:=jU.1 hx
  exact hin i
 have hlen:0<L.length:=by
  obtain⟨e,he,_⟩:=Ad.1 hf
  exact Ai he
 have hret:itn nx L.length f=f:=by
  have hm:=hperm.mem_iff.2 (hin L.length)
  obtain⟨i,hi,e⟩:=jU.1 hm
  by_cases hi0:i=0
  ·rw[e,hi0];rfl
  ·have:=hback i L.length (by omega) e.symm
   exact absurd this (hno _ (by omega) (by omega))
 have hed:edges (cI nx L.length f)=(cI nx L.length f).map fun y=>(y,nx y):=by
  rw[← b6h,a4t,hret]
  obtain⟨m,hm⟩:∃ m,L.length=m+1:=⟨L.length - 1,by omega⟩
  rw[hm];rfl
 have hLS:L=S.map fun y=>(y,nx y):=by
  show L=(L.map (·.1)).map fun y=>(y,nx y)
  rw[Ag]
  conv=>lhs;rw[← List.map_id L]
  apply List.map_congr_left
  intro e he
  show e=(e.1,nx e.1)
  rw[hnx e he]
 have hEL:(edges (cI nx L.length f)).Perm L:=by
  rw[hed]
  conv=>rhs;rw[hLS]
  exact hperm.map _
 refine⟨⟨?_,hnd,?_⟩,hEL⟩
 ·
  rw[vD]
  obtain⟨y,hy⟩:=C.inn
  apply Nat.succ_le_of_lt
  apply Nat.lt_of_not_le
  intro hle
  have f1:=hcl f hf
  by_cases h1:L.length=1
  ·rw[h1]at hret
   exact C.ne _ (hS f hf) hret.symm
  ·have h2:L.length=2:=by omega
   rw[h2]at hret
   have hret:nx (nx f)=f:=hret
   have e2:=hS _ f1
   rw[hret]at e2
   have y1:=hy _ (hS f hf)
   have y2:=hy _ e2
   rw[wK]at y2
   exfalso;grind
 ·intro e he x hx h1 h2
  exact C.lf e (hEL.mem_iff.1 he) x (hperm.mem_iff.1 hx) h1 h2
end Geo
namespace Geo
def g8 (g:H) (vs:List V):Bool:=vs.any fun v=>decide (g.at v<0)
def aS (g:H) (c:List Sd):List Sd:=c.filterMap fun s=>if g8 g s.vs then some ⟨s.h,part g s.vs⟩else none
def HE (g:H) (c:List Sd):List (V × V):=(E (aS g c)).filter fun e=>!off g e
theorem kX {g:H} {vs:List V}:g8 g vs=true↔∃ v∈vs,g.at v<0:=by simp[g8]
theorem a0n {g:H} {c:List Sd} {t:Sd}:t∈aS g c↔∃ s∈c,g8 g s.vs=true∧t=⟨s.h,part g s.vs⟩:=by
 unfold aS
 rw[Ap]
 constructor
 ·rintro⟨s,hs,e⟩
  split at e
  ·exact⟨s,hs,by assumption,by simpa using e.symm⟩
  ·simp at e
 ·rintro⟨s,hs,h,rfl⟩
  exact⟨s,hs,by simp[h]⟩
theorem c4d (g:H) (e:V × V):cG g (sw e)=(cG g e).map sw:=by
 unfold cG sw
 simp only
 by_cases h1:g.at e.1≤0∧g.at e.2≤0
 ·rw[if_pos h1,if_pos h1.symm]
  by_cases h2:g.at e.1=0∧g.at e.2=0
  ·rw[if_pos h2,if_pos h2.symm];rfl
  ·rw[if_neg h2,if_neg (fun h=>h2 h.symm)];rfl
 ·rw[if_neg h1,if_neg (fun h=>h1 h.symm)]
  by_cases h2:g.at e.1<0
  ·have h3:¬ g.at e.2<0:=by grind
   rw[if_pos h2,if_neg h3,if_pos h2,uI (by grind)];rfl
  ·by_cases h3:g.at e.2<0
   ·rw[if_pos h3,if_neg h2,if_pos h3,uI (by grind)];rfl
   ·rw[if_neg h2,if_neg h3,if_neg h3,if_neg h2];rfl
theorem b9k {g:H} {e0 e:V × V} (h:cG g e0=some e) (n:V):∃ k:Rat,0<k∧∀ p,ori n e.1 e.2 p=k*ori n e0.1 e0.2 p:=by
 unfold cG at h
 split at h
 ·split at h
  ·simp at h
  ·simp at h;subst h;exact⟨1,by grind,fun p=>by grind⟩
 ·rename_i h1
  split at h
  ·rename_i h2
   simp at h;subst h
   obtain⟨t,_,_,t2,_,te⟩:=X_w (g:=g) (a:=e0.1) (b:=e0.2) (Ab h2) (by grind)
   exact⟨t,t2 h2,fun p=>by simp only;rw[te,a2y]⟩
  ·split at h
   ·rename_i h2 h3
    simp at h;subst h
    have hp:0<g.at e0.1:=by
     have:¬ g.at e0.1≤0:=fun h=>h1 ⟨h,Ab h3⟩
     grind
    obtain⟨t,_,t1,t2,_,te⟩:=X_w (g:=g) (a:=e0.2) (b:=e0.1) (Ab h3) hp
    refine⟨t,t2 h3,fun p=>?_⟩
    simp only
    rw[← uI (g:=g) (a:=e0.1) (b:=e0.2) (by grind),te,← y4,a2z]
    grind
   ·simp at h
namespace Cell
variable {c:List Sd} {g:H}
theorem part_of (C:Cell c) {t:Sd} (ht:t∈aS g c):∃ s∈c,t.h=s.h∧PartOk s.h g s.vs t.vs:=by
 obtain⟨s,hs,hl,rfl⟩:=a0n.1 ht
 exact⟨s,hs,rfl,a0g (C.pv s hs) (C.pl s hs) (kX.1 hl)⟩
theorem off_perm (C:Cell c):((E (aS g c)).filter (off g)).Perm ((E c).filterMap (cG g)):=by
 have key:∀ l:List Sd,(∀ s∈l,PV s.h.n s.vs∧∀ v∈s.vs,s.h.at v=0)→((E (aS g l)).filter (off g)).Perm ((E l).filterMap (cG g)):=by
  intro l
  induction l with
  | nil=>intro _;exact Am.refl _
  | cons s l ih =>
   intro h
   have ih:=ih fun s hs=>h s (by simp[hs])
   obtain⟨pv,pl⟩:=h s (by simp)
   have e1:E (s::l)=edges s.vs++E l:=rfl
   rw[e1,List.filterMap_append]
   by_cases hl:g8 g s.vs=true
   ·have e2:aS g (s::l)=⟨s.h,part g s.vs⟩::aS g l:=by simp[aS,hl]
    have e3:E (aS g (s::l))=edges (part g s.vs)++E (aS g l):=by rw[e2];rfl
    rw[e3,List.filter_append]
    exact ((a0g pv pl (kX.1 hl)).off).append ih
   ·have e2:aS g (s::l)=aS g l:=by simp[aS,hl]
    rw[e2]
    have e4:(edges s.vs).filterMap (cG g)=[]:=by
     rw[List.filterMap_eq_nil_iff]
     intro e he
     have hno:∀ v∈s.vs,0≤g.at v:=fun v hv=>by
      apply Aw.1
      intro hlt
      exact hl (kX.2 ⟨v,hv,hlt⟩)
     have a1:=hno _ (bD he)
     have a2:=hno _ (bL he)
     unfold cG
     by_cases h1:g.at e.1≤0∧g.at e.2≤0
     ·rw[if_pos h1,if_pos (by grind)]
     ·rw[if_neg h1,if_neg (by grind),if_neg (by grind)]
    rw[e4];exact ih
 exact key c fun s hs=>⟨C.pv s hs,C.pl s hs⟩
theorem trim_closed (C:Cell c):((E c).filterMap (cG g)).Perm (((E c).filterMap (cG g)).map sw):=by
 have h:=C.cl.filterMap (cG g)
 rw[List.filterMap_map]at h
 rw[List.map_filterMap]
 refine h.trans ?_
 have:(cG g∘sw)=fun e=>(cG g e).map sw:=by funext e;exact c4d g e
 rw[this]
theorem off_closed (C:Cell c):((E (aS g c)).filter (off g)).Perm (((E (aS g c)).filter (off g)).map sw) :=
 (C.off_perm.trans C.trim_closed).trans (C.off_perm.map sw).symm
theorem cut_pv (C:Cell c) {t:Sd} (ht:t∈aS g c):PV t.h.n t.vs:=by obtain⟨s,hs,e,P⟩:=C.part_of ht;rw[e];exact P.pv
theorem cut_pl (C:Cell c) {t:Sd} (ht:t∈aS g c):∀ v∈t.vs,t.h.at v=0:=by obtain⟨s,hs,e,P⟩:=C.part_of ht;rw[e];exact P.pl
theorem cut_le (C:Cell c) {t:Sd} (ht:t∈aS g c):∀ v∈t.vs,g.at v≤0:=by obtain⟨s,hs,e,P⟩:=C.part_of ht;exact P.le
theorem cut_low (C:Cell c) {t:Sd} (ht:t∈aS g c):∃ v∈t.vs,g.at v<0:=by obtain⟨s,hs,e,P⟩:=C.part_of ht;exact P.low
theorem cut_cl (C:Cell c) {t:Sd} (ht:t∈aS g c) {v:V} (hv:v∈t.vs):Cl c v:=by
 obtain⟨s,hs,e,P⟩:=C.part_of ht
 intro u hu
 exact P.hull u.h (fun w hw=>C.le u hu s hs w hw) v hv
theorem cut_h (C:Cell c) {t:Sd} (ht:t∈aS g c):∃ s∈c,t.h=s.h:=by obtain⟨s,hs,e,P⟩:=C.part_of ht;exact⟨s,hs,e⟩
theorem cut_face (C:Cell c) {t:Sd} (ht:t∈aS g c) {e:V × V} (he:e∈edges t.vs) {p:V} (hp:Cl c p) (gp:g.at p≤0) (h0:t.h.at p=0):0≤ori t.h.n e.1 e.2 p:=by
 obtain⟨s,hs,eh,P⟩:=C.part_of ht
 rw[eh]at h0 ⊢
 by_cases ho:off g e=true
 ·have h1:=P.off.mem_iff.1 (Ak.2 ⟨he,ho⟩)
  obtain⟨e0,he0,htr⟩:=Ap.1 h1
  obtain⟨k,hk,hf⟩:=b9k htr s.h.n
  rw[hf]
  exact Ae (Ab hk) (C.face hs he0 hp h0)
 ·have hz:g.at e.1=0∧g.at e.2=0:=by simpa [off]using ho
  obtain⟨w,hw,gw⟩:=P.low
  have hw1:w≠e.1:=fun h=>by rw[h,hz.1]at gw;grind
  have hw2:w≠e.2:=fun h=>by rw[h,hz.2]at gw;grind
  have ow:=P.pv.lf e he w hw hw1 hw2
  have a1:=P.pl _ (bD he)
  have a2:=P.pl _ (bL he)
  have l1:=tI (z:=w) a1 a2 hz.1 hz.2 (P.pl w hw)
  have l2:=tI (z:=p) a1 a2 hz.1 hz.2 h0
  have hN:0<dot (aA s.h.n g.n) (aA s.h.n g.n):=pN (a:=e.1) (w:=w) P.pv.n_ne (by rw[a1,P.pl w hw]) (by rw[hz.1];grind)
  have hnn:=fP P.pv.n_ne
  generalize dot (aA s.h.n g.n) (aA s.h.n g.n)=N at *
  generalize dot (e.2 - e.1) (aA s.h.n g.n)=D at *
  have hD:0<D:=mJ (b:=dot s.h.n s.h.n * - g.at w) (by have:=Aa hN ow;grind) (Aa hnn (by grind))
  have p1:=Ae (Ab hD) (Ae (Ab hnn) (show 0≤- g.at p by grind))
  apply Aw.1
  intro hlt
  have:=Aa hN (show 0 < - ori s.h.n e.1 e.2 p by grind)
  grind
theorem cut_extreme (C : Cell c) {t : Sd} (ht : t ∈ aS g c) {v p q : V} (hv : v ∈ t.vs) {τ : Rat} (t0 : 0 < τ) (t1 : τ < 1) (e : v = bP τ p q)
  (hp:Cl c p) (gp:g.at p≤0) (hq:Cl c q) (gq:g.at q≤0):p=v∧q=v:=by
 obtain⟨s,hs,eh⟩:=C.cut_h ht
 have h0:t.h.at v=0:=C.cut_pl ht v hv
 have a:t.h.at p≤0:=by rw[eh];exact hp s hs
 have b:t.h.at q≤0:=by rw[eh];exact hq s hs
 have e2:(1 - τ) * - t.h.at p+τ * - t.h.at q=0:=by rw[e,j0]at h0;grind
 obtain⟨z1,z2⟩:=vX t0 t1 (by grind) (by grind) e2
 have z1:t.h.at p=0:=by grind
 have z2:t.h.at q=0:=by grind
 exact (C.cut_pv ht).extreme (C.cut_pl ht) hv t0 t1 e z1 z2 (fun e he=>C.cut_face ht he hp gp z1) (fun e he=>C.cut_face ht he hq gq z2)
end Cell
theorem w5 {h g:H} {p q:V} (hN:0<dot (aA h.n g.n) (aA h.n g.n)) (hp:h.at p=0) (hq:h.at q=0) (gp:g.at p=0) (gq:g.at q=0) (e:dot p (aA h.n g.n)=dot q (aA h.n g.n)):p=q:=by
 have hpar:=par (e:=p - q) (n:=h.n) (g:=g.n) (by rw[jW,bE,hp,hq];grind) (by rw[jW,bE,gp,gq];grind)
 have e2:dot (p - q) (aA h.n g.n)=0:=by
  have:dot (p - q) (aA h.n g.n)=dot p (aA h.n g.n) - dot q (aA h.n g.n):=by simp only[dot,dM,dL,dK];grind
  rw[this,e];grind
 rw[e2]at hpar
 have z:∀ a b:Rat,dot (aA h.n g.n) (aA h.n g.n)*a=0*b→a=0:=fun a b hh=>by
  rcases Ac.1 (show dot (aA h.n g.n) (aA h.n g.n)*a=0 by rw[hh];grind)with h|h
  ·grind
  ·exact h
 have hx:=z _ _ (congrArg V.x hpar)
 have hy:=z _ _ (congrArg V.y hpar)
 have hz:=z _ _ (congrArg V.z hpar)
 simp only[dM,dL,dK]at hx hy hz
 exact V.ext (by grind) (by grind) (by grind)
theorem a8v {h g : H} {p q x : V} (hN : 0 < dot (aA h.n g.n) (aA h.n g.n)) (hp : h.at p = 0) (hq : h.at q = 0) (gp : g.at p = 0) (gq : g.at q = 0) (hx : h.at x = 0) (gx : g.at x = 0)
  (h1:dot p (aA h.n g.n)<dot x (aA h.n g.n)) (h2:dot x (aA h.n g.n)<dot q (aA h.n g.n)):∃ t:Rat,0<t∧t<1∧x=bP t p q:=by
 have hd:0<dot q (aA h.n g.n) - dot p (aA h.n g.n):=by grind
 have hi:=Au.2 hd
 have hc:(dot q (aA h.n g.n) - dot p (aA h.n g.n))*(dot q (aA h.n g.n) - dot p (aA h.n g.n))⁻¹=1:=Ao _ (by grind)
 refine⟨(dot x (aA h.n g.n) - dot p (aA h.n g.n))*(dot q (aA h.n g.n) - dot p (aA h.n g.n))⁻¹,Aa (by grind) hi,?_,?_⟩
 ·have:=Aa (show 0<dot q (aA h.n g.n) - dot x (aA h.n g.n) by grind) hi
  grind
 ·refine w5 hN hx ?_ gx ?_ ?_
  ·exact vA hp hq
  ·exact vA gp gq
  ·have:∀ t:Rat,dot (bP t p q) (aA h.n g.n)=dot p (aA h.n g.n)+t*(dot q (aA h.n g.n) - dot p (aA h.n g.n)):=by
    intro t;simp only[dot,bP,gO,gN,gM,dM,dL,dK,c9,c8,c7];grind
   rw[this]
   generalize (dot q (aA h.n g.n) - dot p (aA h.n g.n))⁻¹=i at *
   generalize dot q (aA h.n g.n) - dot p (aA h.n g.n)=d at *
   have:(dot x (aA h.n g.n) - dot p (aA h.n g.n))*i*d=dot x (aA h.n g.n) - dot p (aA h.n g.n):=by
    have:(dot x (aA h.n g.n) - dot p (aA h.n g.n))*i*d=(dot x (aA h.n g.n) - dot p (aA h.n g.n))*(d*i):=by grind
    rw[this,hc];grind
   rw[this];grind
end Geo
namespace Geo
structure Spl (c:List Sd) (g:H):Prop where
 C:Cell c
 lo:∃ s∈c,∃ v∈s.vs,g.at v<0
 hi:∃ s∈c,∃ v∈s.vs,0<g.at v
theorem lt3 {a b c:Rat} {P:Prop} (h1:a<b) (h2:b<c) (h3:c<a):P:=by exfalso;grind
namespace Spl
variable {c:List Sd} {g:H}
theorem inner (S:Spl c g):∃ y,Inn c y∧g.at y=0:=by
 obtain⟨m,hm⟩:=S.C.exists_inn
 obtain⟨s,hs,v,hv,gv⟩:=S.lo
 obtain⟨s',hs',v',hv',gv'⟩:=S.hi
 let f:H:=⟨(-1:Rat)*g.n,- g.d⟩
 have hf:∀ x,f.at x=- g.at x:=fun x=>by simp only[f,H.at,dot,c9,c8,c7];grind
 obtain⟨a,ha,fa⟩:=xX (S.C.cl_vert hs hv) hm (f:=f) (by rw[hf];grind)
 obtain⟨b,hb,fb⟩:=xX (S.C.cl_vert hs' hv') hm (f:=g) gv'
 rw[hf]at fa
 obtain⟨t,t0,t1,t2,_,te⟩:=X_w (g:=g) (a:=a) (b:=b) (by grind) fb
 refine⟨X g a b,fun u hu=>?_,uY (by grind)⟩
 rw[te]
 exact zP (Ab (ha u hu)) (hb u hu) (t2 (by grind)) (Ab t1)
theorem front (S:Spl c g):∃ y,Inn c y∧0<g.at y:=by
 obtain⟨m,hm⟩:=S.C.exists_inn
 obtain⟨s',hs',v',hv',gv'⟩:=S.hi
 exact xX (S.C.cl_vert hs' hv') hm gv'
theorem edge_on (S : Spl c g) {t : Sd} (ht : t ∈ aS g c) {e : V × V} (he : e ∈ edges t.vs) (z1 : g.at e.1 = 0) (z2 : g.at e.2 = 0) :
  0<dot (aA t.h.n g.n) (aA t.h.n g.n)∧∃ k:Rat,0<k∧∀ x,g.at x=0→ori g.n e.2 e.1 x=k * - t.h.at x:=by
 have pv:=S.C.cut_pv ht
 have pl:=S.C.cut_pl ht
 obtain⟨w,hw,gw⟩:=S.C.cut_low ht
 have hw1:w≠e.1:=fun h=>by rw[h,z1]at gw;grind
 have hw2:w≠e.2:=fun h=>by rw[h,z2]at gw;grind
 have ow:=pv.lf e he w hw hw1 hw2
 exact⟨pN (a:=e.1) (w:=w) pv.n_ne (by rw[pl _ (bD he),pl w hw]) (by rw[z1];grind),
  a2n (pl _ (bD he)) (pl _ (bL he)) z1 z2 (pl w hw) gw ow⟩
theorem strict (S : Spl c g) {t : Sd} (ht : t ∈ aS g c) {e : V × V} (he : e ∈ edges t.vs) (z1 : g.at e.1 = 0) (z2 : g.at e.2 = 0)
  {t':Sd} (ht':t'∈aS g c) {x:V} (hx:x∈t'.vs) (gx:g.at x=0) (n1:x≠e.1) (n2:x≠e.2):t.h.at x<0:=by
 obtain⟨s,hs,eh⟩:=S.C.cut_h ht
 have hcx:=S.C.cut_cl ht' hx
 have hle:t.h.at x≤0:=by rw[eh];exact hcx s hs
 rcases fD hle with h|h0
 ·exact h
 exfalso
 obtain⟨hN,_⟩:=S.edge_on ht he z1 z2
 have pl:=S.C.cut_pl ht
 have a0:=pl _ (bD he)
 have b0:=pl _ (bL he)
 have ca:=S.C.cut_cl ht (bD he)
 have cb:=S.C.cut_cl ht (bL he)
 have nab:=(S.C.cut_pv ht).ne he
 have le:∀ {q:Rat},q=0→q≤0:=fun h=>by rw[h];exact Rat.le_refl
 have inj:∀ {p q:V},t.h.at p=0→t.h.at q=0→g.at p=0→g.at q=0→p≠q→dot p (aA t.h.n g.n)<dot q (aA t.h.n g.n)∨dot q (aA t.h.n g.n)<dot p (aA t.h.n g.n):=by
  intro p q hp hq gp gq hne
  rcases At (a:=dot p (aA t.h.n g.n)) (b:=dot q (aA t.h.n g.n))with h|h
  ·rcases fD h with h|h
   ·exact .inl h
   ·exact absurd (w5 hN hp hq gp gq h) hne
  ·rcases fD h with h|h
   ·exact .inr h
   ·exact absurd (w5 hN hp hq gp gq h.symm) hne
 have mid : ∀ {p q m : V} {u : Sd}, u ∈ aS g c → m ∈ u.vs → t.h.at p = 0 → t.h.at q = 0 → t.h.at m = 0 → g.at p = 0 → g.at q = 0 → g.at m = 0 → Cl c p → Cl c q → p ≠ m →
   dot p (aA t.h.n g.n)<dot m (aA t.h.n g.n)→dot m (aA t.h.n g.n)<dot q (aA t.h.n g.n)→False:=by
  intro p q m u hu hm hp hq hm0 gp gq gm cp cq hne h1 h2
  obtain⟨τ,τ0,τ1,e⟩:=a8v hN hp hq gp gq hm0 gm h1 h2
  exact hne (S.C.cut_extreme hu hm τ0 τ1 e cp (le gp) cq (le gq)).1
 have ma:=bD he
 have mb:=bL he
 rcases inj a0 b0 z1 z2 nab with ab|ab<;>rcases inj a0 h0 z1 gx (Ne.symm n1)with ax|ax<;>rcases inj b0 h0 z2 gx (Ne.symm n2)with bx|bx
 ·exact mid ht mb a0 h0 b0 z1 gx z2 ca hcx nab ab bx
 ·exact mid ht' hx a0 b0 h0 z1 z2 gx ca cb (Ne.symm n1) ax bx
 ·exact lt3 ab bx ax
 ·exact mid ht ma h0 b0 a0 gx z2 z1 hcx cb n1 ax ab
 ·exact mid ht ma b0 h0 a0 z2 gx z1 cb hcx (Ne.symm nab) ab ax
 ·exact lt3 ab ax bx
 ·exact mid ht' hx b0 a0 h0 z2 z1 gx cb ca (Ne.symm n2) bx ax
 ·exact mid ht mb h0 a0 b0 gx z1 z2 hcx ca n2 bx ab
theorem lP {e:V × V}:e∈HE g c↔∃ t∈aS g c,e∈edges t.vs∧g.at e.1=0∧g.at e.2=0:=by
 unfold HE E
 rw[Ak,Ar]
 constructor
 ·rintro⟨⟨t,ht,he⟩,ho⟩
  exact⟨t,ht,he,by simpa [off]using ho⟩
 ·rintro⟨t,ht,he,hz⟩
  exact⟨⟨t,ht,he⟩,by simpa [off]using hz⟩
theorem one_side (S:Spl c g) {s t:Sd} (hs:s∈aS g c) (ht:t∈aS g c) {e:V × V} (h1:e∈edges s.vs) (h2:e∈edges t.vs):s.h=t.h:=by
 obtain⟨s0,hs0,es⟩:=S.C.cut_h hs
 obtain⟨t0,ht0,et⟩:=S.C.cut_h ht
 obtain⟨m,hm⟩:=S.C.exists_inn
 obtain⟨w,hw,w1,w2⟩:=(S.C.cut_pv hs).other h1
 obtain⟨w',hw',w1',w2'⟩:=(S.C.cut_pv ht).other h2
 have p:Prp s.h t.h:=c8q (m:=m) (S.C.cut_pl hs _ (bD h1)) (S.C.cut_pl hs _ (bL h1)) (S.C.cut_pl ht _ (bD h2)) (S.C.cut_pl ht _ (bL h2))
  (S.C.cut_pl hs w hw) ((S.C.cut_pv hs).lf e h1 w hw w1 w2) (by rw[et];exact S.C.cut_cl hs hw t0 ht0) (S.C.cut_pl ht w' hw') ((S.C.cut_pv ht).lf e h2 w' hw' w1' w2') (by rw[es];exact S.C.cut_cl ht hw' s0 hs0) (by rw[es];exact hm s0 hs0) (by rw[et];exact hm t0 ht0)
 rw[es,et]at p
 rcases S.C.sep hs0 ht0 with h|h
 ·rw[es,et,h]
 ·exact absurd p h
theorem dist_of (S:Spl c g):(aS g c).Pairwise fun s t=>¬ Prp s.h t.h:=by
 have key:∀ l:List Sd,(l.Pairwise fun s t=>¬ Prp s.h t.h)→(aS g l).Pairwise fun s t=>¬ Prp s.h t.h:=by
  intro l
  induction l with
  | nil=>intro _;exact List.Pairwise.nil
  | cons s l ih =>
   intro h
   rw[Ah]at h
   have ih:=ih h.2
   by_cases hl:g8 g s.vs=true
   ·have e:aS g (s::l)=⟨s.h,part g s.vs⟩::aS g l:=by simp[aS,hl]
    rw[e,Ah]
    refine⟨fun t ht=>?_,ih⟩
    obtain⟨u,hu,_,rfl⟩:=a0n.1 ht
    exact h.1 u hu
   ·have e:aS g (s::l)=aS g l:=by simp[aS,hl]
    rw[e];exact ih
 exact key c S.C.dist
theorem c0c (h:H):Prp h h:=⟨1,by grind,fun x=>by grind⟩
theorem E_nodup (S:Spl c g):(E (aS g c)).Nodup:=by
 have key:∀ l:List Sd,(∀ s∈l,s∈aS g c)→(l.Pairwise fun s t=>¬ Prp s.h t.h)→(E l).Nodup:=by
  intro l
  induction l with
  | nil=>intro _ _;simp[E]
  | cons s l ih =>
   intro hm h
   rw[Ah]at h
   have e:E (s::l)=edges s.vs++E l:=rfl
   rw[e,Aq]
   refine⟨sJ (S.C.cut_pv (hm s (by simp))).nd,ih (fun t ht=>hm t (by simp[ht])) h.2,?_⟩
   intro a ha b hb hab
   subst hab
   obtain⟨t,ht,hbt⟩:=Ar.1 hb
   have:=S.one_side (hm s (by simp)) (hm t (by simp[ht])) ha hbt
   exact h.1 t ht (by rw[this];exact c0c _)
 exact key _ (fun s hs=>hs) S.dist_of
theorem b2k {l:List (V × V)} (h:l.Perm (l.map sw)):(l.map (·.1)).Perm (l.map (·.2)):=by
 have:=h.map (·.1)
 rw[Ag]at this
 exact this
theorem E_io (L:List Sd):((E L).map (·.1)).Perm ((E L).map (·.2)):=by
 induction L with
 | nil=>exact Am.refl _
 | cons s l ih =>
  have e:E (s::l)=edges s.vs++E l:=rfl
  rw[e,Al,Al]
  refine Am.append ?_ ih
  rw[jE]
  exact (y8 s.vs).symm
theorem cyc (S:Spl c g):Cyc g ((HE g c).map sw):=by
 obtain⟨y,hy,gy⟩:=S.inner
 have hon:∀ e∈HE g c,g.at e.1=0∧g.at e.2=0:=fun e he=>by obtain⟨t,_,_,h⟩:=lP.1 he;exact h
 have hio0:((HE g c).map (·.1)).Perm ((HE g c).map (·.2)):=by
  have h1:=E_io (aS g c)
  have h2:=b2k (S.C.off_closed (g:=g))
  have hp:=List.filter_append_perm (off g) (E (aS g c))
  have a1:=(hp.map (·.1))
  have a2:=(hp.map (·.2))
  rw[Al]at a1 a2
  have h3:=(a1.trans h1).trans a2.symm
  have h4:=(Am.append_right ((HE g c).map (·.1)) h2.symm).trans h3
  exact (List.perm_append_left_iff _).1 h4
 have hlf:∀ e∈HE g c,∀ e'∈HE g c,e'.2≠e.2→e'.2≠e.1→0<ori g.n e.2 e.1 e'.2:=by
  intro e he e' he' n1 n2
  obtain⟨t,ht,h1,z1,z2⟩:=lP.1 he
  obtain⟨t',ht',h1',z1',z2'⟩:=lP.1 he'
  obtain⟨_,k,hk,hf⟩:=S.edge_on ht h1 z1 z2
  rw[hf _ z2']
  exact Aa hk (by have:=S.strict ht h1 z1 z2 ht' (bL h1') z2' n2 n1;grind)
 refine⟨?_,?_,?_,?_,?_,⟨y,?_⟩⟩
 ·intro e he
  obtain⟨e0,he0,rfl⟩:=Ad.1 he
  exact (hon e0 he0).symm
 ·intro e he x hx n1 n2
  obtain⟨e0,he0,rfl⟩:=Ad.1 he
  rw[Ag]at hx
  obtain⟨e1,he1,rfl⟩:=Ad.1 hx
  exact hlf e0 he0 e1 he1 n1 n2
 ·rw[Ag,Ag]
  exact hio0.symm
 ·rw[Ag]
  have nd:(HE g c).Nodup:=S.E_nodup.filter _
  have:∀ l:List (V × V),l.Nodup→(∀ e∈l,e∈HE g c)→(l.map (·.2)).Nodup:=by
   intro l
   induction l with
   | nil=>intro _ _;simp
   | cons e l ih =>
    intro hn hm
    rw[Aj]at hn
    rw[As,Aj]
    refine⟨fun hmem=>?_,ih hn.2 fun e he=>hm e (by simp[he])⟩
    obtain⟨e',he',heq⟩:=Ad.1 hmem
    have m1:=hm e (by simp)
    have m2:=hm e' (by simp[he'])
    obtain⟨t,ht,h1,z1,z2⟩:=lP.1 m1
    obtain⟨t',ht',h1',z1',z2'⟩:=lP.1 m2
    have hb:e'.1=e.1:=by
     apply Classical.byContradiction
     intro hne
     obtain⟨_,k,hk,hf⟩:=S.edge_on ht h1 z1 z2
     obtain⟨_,k',hk',hf'⟩:=S.edge_on ht' h1' z1' z2'
     have n1:e'.1≠e.2:=fun h=>(S.C.cut_pv ht').ne h1' (h.trans heq.symm)
     have n2:e.1≠e'.2:=fun h=>(S.C.cut_pv ht).ne h1 (h.trans heq)
     have q1:=S.strict ht h1 z1 z2 ht' (bD h1') z1' hne n1
     have q2:=S.strict ht' h1' z1' z2' ht (bD h1) z1 (Ne.symm hne) n2
     have f1:=hf _ z1'
     have f2:=hf' _ z1
     have p1:=Aa hk (show 0 < - t.h.at e'.1 by grind)
     have p2:=Aa hk' (show 0 < - t'.h.at e.1 by grind)
     rw[heq]at f2
     have:ori g.n e.2 e'.1 e.1=- ori g.n e.2 e.1 e'.1:=by simp only[ori,dot,aA,dM,dL,dK];grind
     grind
    have:e'=e:=Prod.ext hb heq
    exact hn.1 (this▸he')
  exact this _ nd fun e he=>he
 ·intro e he
  obtain⟨e0,he0,rfl⟩:=Ad.1 he
  obtain⟨t,ht,h1,_⟩:=lP.1 he0
  exact Ne.symm ((S.C.cut_pv ht).ne h1)
 ·intro e he
  obtain⟨e0,he0,rfl⟩:=Ad.1 he
  obtain⟨t,ht,h1,z1,z2⟩:=lP.1 he0
  obtain⟨_,k,hk,hf⟩:=S.edge_on ht h1 z1 z2
  show 0<ori g.n e0.2 e0.1 y
  rw[hf y gy]
  obtain⟨s,hs,eh⟩:=S.C.cut_h ht
  exact Aa hk (by rw[eh];have:=hy s hs;grind)
theorem cut_ne (S:Spl c g):aS g c≠[]:=by
 obtain⟨s,hs,v,hv,gv⟩:=S.lo
 intro h
 have:(⟨s.h,part g s.vs⟩:Sd)∈aS g c:=a0n.2 ⟨s,hs,kX.2 ⟨v,hv,gv⟩,rfl⟩
 rw[h]at this;simp at this
theorem HE_ne (S:Spl c g):HE g c≠[]:=by
 intro h0
 obtain⟨y,hy,gy⟩:=S.front
 have hall:(E (aS g c)).filter (off g)=E (aS g c):=by
  rw[List.filter_eq_self]
  intro e he
  apply Classical.byContradiction
  intro hne
  have:e∈HE g c:=Ak.2 ⟨he,by simpa using hne⟩
  rw[h0]at this;simp at this
 have hcl:=S.C.off_closed (g:=g)
 rw[hall]at hcl
 exact a3e (fun s hs=>S.C.cut_pv hs) (fun s hs=>S.C.cut_pl hs) hcl S.cut_ne (fun s hs=>by obtain⟨u,hu,e⟩:=S.C.cut_h hs;rw[e];exact hy u hu) (fun s hs=>S.C.cut_le hs) gy
end Spl
end Geo
