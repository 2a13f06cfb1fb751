import Derived.Shelf.SlSortCmp.WholeK
import Derived.Shelf.SlGeneric
import Derived.Ground.SlsfProg
import Derived.Test.YtjlfgmhmalbiiaaGreatDoorV20
set_option linter.all false
set_option maxHeartbeats 1600000
namespace Geo
structure V where
 x:Rat
 y:Rat
 z:Rat
deriving DecidableEq
def V.add (a b:V):V:=⟨a.x+b.x,a.y+b.y,a.z+b.z⟩
def V.sub (a b:V):V:=⟨a.x - b.x,a.y - b.y,a.z - b.z⟩
def c6k (t:Rat) (a:V):V:=⟨t*a.x,t*a.y,t*a.z⟩
instance:Add V:=⟨V.add⟩
instance:Sub V:=⟨V.sub⟩
instance:HMul Rat V V:=⟨c6k⟩
def dot (a b:V):Rat:=a.x*b.x+a.y*b.y+a.z*b.z
def aA (a b:V):V:=⟨a.y*b.z - a.z*b.y,a.z*b.x - a.x*b.z,a.x*b.y - a.y*b.x⟩
theorem V.ext {a b:V} (hx:a.x=b.x) (hy:a.y=b.y) (hz:a.z=b.z):a=b:=by
 cases a;cases b;simp only at hx hy hz;subst hx hy hz;rfl
@[simp] theorem iE (a b:V):(a+b).x=a.x+b.x:=rfl
@[simp] theorem iD (a b:V):(a+b).y=a.y+b.y:=rfl
@[simp] theorem iC (a b:V):(a+b).z=a.z+b.z:=rfl
@[simp] theorem dY (a b:V):(a - b).x=a.x - b.x:=rfl
@[simp] theorem dT (a b:V):(a - b).y=a.y - b.y:=rfl
@[simp] theorem dM (a b:V):(a - b).z=a.z - b.z:=rfl
@[simp] theorem eK (t:Rat) (a:V):(t*a).x=t*a.x:=rfl
@[simp] theorem eJ (t:Rat) (a:V):(t*a).y=t*a.y:=rfl
@[simp] theorem eF (t:Rat) (a:V):(t*a).z=t*a.z:=rfl
structure H where
 n:V
 d:Rat
deriving DecidableEq
def H.at (h:H) (p:V):Rat:=dot h.n p - h.d
def ori (n a b c:V):Rat:=dot n (aA (b - a) (c - a))
theorem fR {a b:Rat} (h:a≤b):a<b∨a=b:=by
 by_cases e:a=b
 ·exact .inr e
 ·exact .inl (Rat.lt_of_le_of_ne h e)
theorem z6 (a:V):0≤dot a a:=by
 have h:∀ q:Rat,0≤q*q:=fun q=>by
  rcases Rat.le_total (a:=0) (b:=q)with h|h
  ·exact Rat.mul_nonneg h h
  ·have:=Rat.mul_nonneg (a:=-q) (b:=-q) (by grind) (by grind);grind
 have:=h a.x;have:=h a.y;have:=h a.z
 unfold dot;grind
theorem jJ (q:Rat):0≤q*q:=by
 have:=z6 ⟨q,0,0⟩;simp only[dot]at this;grind
theorem wS {a:V} (h:dot a a≠0):0<dot a a:=by have:=z6 a;grind
theorem oH {a:V} (h:dot a a=0):a=⟨0,0,0⟩:=by
 have hx:=jJ a.x;have hy:=jJ a.y;have hz:=jJ a.z
 unfold dot at h
 have h1:a.x*a.x=0:=by grind
 have h2:a.y*a.y=0:=by grind
 have h3:a.z*a.z=0:=by grind
 have k:∀ q:Rat,q*q=0→q=0:=fun q hq=>by
  rcases Rat.mul_eq_zero.1 hq with h|h<;>exact h
 exact V.ext (k _ h1) (k _ h2) (k _ h3)
theorem yN (n a b c:V):ori n a b c=ori n b c a:=by simp only[ori,dot,aA,dY,dT,dM];grind
theorem uX (n a b c:V):ori n b a c=- ori n a b c:=by simp only[ori,dot,aA,dY,dT,dM];grind
theorem nW (n a c:V):ori n a c c=0:=by simp only[ori,dot,aA,dY,dT,dM];grind
theorem tD (n a c:V):ori n a c a=0:=by simp only[ori,dot,aA,dY,dT,dM];grind
def bX (t:Rat) (p q:V):V:=p+t*(q - p)
theorem i7 (n a b:V) (t:Rat) (p q:V):ori n a b (bX t p q)=(1 - t)*ori n a b p+t*ori n a b q:=by
 simp only[ori,dot,aA,bX,dY,dT,dM,iE,iD,iC,eK,eJ,eF];grind
theorem jR (h:H) (t:Rat) (p q:V):h.at (bX t p q)=(1 - t)*h.at p+t*h.at q:=by
 simp only[H.at,dot,bX,dY,dT,dM,iE,iD,iC,eK,eJ,eF];grind
theorem bF (h:H) (p q:V):dot h.n (p - q)=h.at p - h.at q:=by
 simp only[H.at,dot,dY,dT,dM];grind
theorem par {e n g : V} (h1 : dot e n = 0) (h2 : dot e g = 0) :
  dot (aA n g) (aA n g)*e=dot e (aA n g)*aA n g:=by
 have k:∀ e n g:V,dot (aA n g) (aA n g)*e.x=dot e (aA n g)*(aA n g).x+((aA n g).y*n.z - (aA n g).z*n.y)*dot e g - ((aA n g).y*g.z - (aA n g).z*g.y)*dot e n:=by
  intro e n g;simp only[dot,aA];grind
 have k2:∀ e n g:V,dot (aA n g) (aA n g)*e.y=dot e (aA n g)*(aA n g).y+((aA n g).z*n.x - (aA n g).x*n.z)*dot e g - ((aA n g).z*g.x - (aA n g).x*g.z)*dot e n:=by
  intro e n g;simp only[dot,aA];grind
 have k3:∀ e n g:V,dot (aA n g) (aA n g)*e.z=dot e (aA n g)*(aA n g).z+((aA n g).x*n.y - (aA n g).y*n.x)*dot e g - ((aA n g).x*g.y - (aA n g).y*g.x)*dot e n:=by
  intro e n g;simp only[dot,aA];grind
 apply V.ext
 ·simp only[eK];rw[k,h1,h2];grind
 ·simp only[eJ];rw[k2,h1,h2];grind
 ·simp only[eF];rw[k3,h1,h2];grind
theorem uU (n g u:V):dot n (aA (aA n g) u)=dot n g*dot n u - dot n n*dot g u:=by simp only[dot,aA];grind
theorem b5x (n g u:V):dot g (aA (aA n g) u)=dot g g*dot n u - dot n g*dot g u:=by simp only[dot,aA];grind
theorem b5y (n g u:V):dot n (aA u (aA n g))=dot n n*dot g u - dot n g*dot n u:=by simp only[dot,aA];grind
theorem oK (t:Rat) (a b:V):aA (t*a) b=t*aA a b:=by apply V.ext<;>simp only[aA,eK,eJ,eF]<;>grind
theorem a0g (t:Rat) (a b:V):aA a (t*b)=t*aA a b:=by apply V.ext<;>simp only[aA,eK,eJ,eF]<;>grind
theorem kD (t:Rat) (a b:V):dot a (t*b)=t*dot a b:=by simp only[dot,eK,eJ,eF];grind
theorem a1t (t:Rat) (a b:V):dot (t*a) b=t*dot a b:=by simp only[dot,eK,eJ,eF];grind
theorem jN (a b:V):dot a b=dot b a:=by simp only[dot];grind
theorem sB {h g : H} {q r z : V} (hq : h.at q = 0) (hr : h.at r = 0) (gq : g.at q = 0) (gr : g.at r = 0) (hz : h.at z = 0) :
  dot (aA h.n g.n) (aA h.n g.n)*ori h.n q r z=- (dot (r - q) (aA h.n g.n)*(dot h.n h.n*g.at z)):=by
 have e1:dot (r - q) h.n=0:=by rw[jN,bF];grind
 have e2:dot (r - q) g.n=0:=by rw[jN,bF];grind
 have e3:dot h.n (z - q)=0:=by rw[bF];grind
 have e4:dot g.n (z - q)=g.at z:=by rw[bF];grind
 have hp:=par e1 e2
 unfold ori
 rw[← kD,← oK,hp,oK,kD,uU,e3,e4]
 grind
theorem b3e {h g : H} {q r x : V} (hq : h.at q = 0) (hr : h.at r = 0) (gq : g.at q = 0) (gr : g.at r = 0) (gx : g.at x = 0) :
  dot (aA h.n g.n) (aA h.n g.n)*ori g.n q r x=dot (r - q) (aA h.n g.n)*(dot g.n g.n*h.at x):=by
 have e1:dot (r - q) h.n=0:=by rw[jN,bF];grind
 have e2:dot (r - q) g.n=0:=by rw[jN,bF];grind
 have e3:dot g.n (x - q)=0:=by rw[bF];grind
 have e4:dot h.n (x - q)=h.at x:=by rw[bF];grind
 have hp:=par e1 e2
 unfold ori
 rw[← kD,← oK,hp,oK,kD,b5x,e3,e4]
 grind
theorem x6 {h g : H} {q r a b : V} (hq : h.at q = 0) (hr : h.at r = 0) (gq : g.at q = 0) (gr : g.at r = 0) (ha : h.at a = 0) (hb : h.at b = 0) :
  dot (aA h.n g.n) (aA h.n g.n)*(ori h.n a b r - ori h.n a b q)=(dot r (aA h.n g.n) - dot q (aA h.n g.n))*(dot h.n h.n*(g.at b - g.at a)):=by
 have e1:dot (r - q) h.n=0:=by rw[jN,bF];grind
 have e2:dot (r - q) g.n=0:=by rw[jN,bF];grind
 have e3:dot h.n (b - a)=0:=by rw[bF];grind
 have e4:dot g.n (b - a)=g.at b - g.at a:=by rw[bF]
 have hp:=par e1 e2
 have e5:ori h.n a b r - ori h.n a b q=dot h.n (aA (b - a) (r - q)):=by simp only[ori,dot,aA,dY,dT,dM];grind
 have e6:dot r (aA h.n g.n) - dot q (aA h.n g.n)=dot (r - q) (aA h.n g.n):=by simp only[dot,dY,dT,dM];grind
 rw[e5,e6,← kD,← a0g,hp,a0g,kD,b5y,e3,e4]
 grind
theorem oT {h g:H} {a w:V} (hn:h.n≠⟨0,0,0⟩) (ha:h.at a=h.at w) (hg:g.at a≠g.at w):0<dot (aA h.n g.n) (aA h.n g.n):=by
 apply wS
 intro h0
 have hc:=oH h0
 have e:dot h.n h.n*dot g.n (w - a)=dot h.n g.n*dot h.n (w - a) - dot h.n (aA (aA h.n g.n) (w - a)):=by rw[uU];grind
 rw[hc,bF,bF,ha]at e
 have e2:dot h.n (aA ⟨0,0,0⟩ (w - a))=0:=by simp only[dot,aA];grind
 rw[e2]at e
 have:dot h.n h.n=0:=by grind
 exact hn (oH this)
theorem rU {n a b c:V} (h:ori n a b c≠0):n≠⟨0,0,0⟩:=by
 intro e;apply h;rw[e];simp only[ori,dot];grind
theorem fV {n:V} (h:n≠⟨0,0,0⟩):0<dot n n:=wS fun e=>h (oH e)
theorem a5g {g:H} {a b:V} (h:g.at a≠g.at b):g.n≠⟨0,0,0⟩:=by
 intro e;apply h;simp only[H.at,e,dot];grind
theorem a0f {h g : H} {a b w : V} (ha : h.at a = 0) (hb : h.at b = 0) (ga : g.at a = 0) (gb : g.at b = 0) (hw : h.at w = 0) (gw : g.at w < 0) (ho : 0 < ori h.n a b w) :
  ∃ k:Rat,0<k∧∀ x,g.at x=0→ori g.n b a x=k * - h.at x:=by
 have hn:h.n≠⟨0,0,0⟩:=rU (a:=a) (b:=b) (c:=w) (by grind)
 have gn:g.n≠⟨0,0,0⟩:=a5g (a:=a) (b:=w) (by grind)
 have hN:=oT (h:=h) (g:=g) (a:=a) (w:=w) hn (by grind) (by grind)
 have h1:=sB ha hb ga gb hw
 have h2:=fun x=>b3e (x:=x) ha hb ga gb
 have hnn:=fV hn
 have gnn:=fV gn
 generalize dot (aA h.n g.n) (aA h.n g.n)=N at *
 have hE:0<dot (b - a) (aA h.n g.n):=by
  have p1:=Rat.mul_pos hN ho
  have p2:0<dot h.n h.n * - g.at w:=Rat.mul_pos hnn (by grind)
  rcases Rat.le_total (a:=dot (b - a) (aA h.n g.n)) (b:=0)with h0|h0
  ·exfalso
   have:=Rat.mul_nonneg (a:=- dot (b - a) (aA h.n g.n)) (b:=dot h.n h.n * - g.at w) (by grind) (by grind)
   grind
  ·rcases fR h0 with h0|h0
   ·exact h0
   ·exfalso;rw[← h0]at h1;grind
 refine⟨dot (b - a) (aA h.n g.n)*dot g.n g.n / N,?_,fun x hx=>?_⟩
 ·rw[Rat.div_def];exact Rat.mul_pos (Rat.mul_pos hE gnn) (Rat.inv_pos.2 hN)
 ·have e:=h2 x hx
  have hN':N≠0:=by grind
  rw[uX]
  have e3:ori g.n a b x=(dot (b - a) (aA h.n g.n)*dot g.n g.n / N)*h.at x:=by grind
  rw[e3];grind
end Geo
namespace Go.Sx
set_option linter.unusedVariables false
def tv (p:Pt):Geo.V:=⟨(p.x:Rat) / (p.w:Rat),(p.y:Rat) / (p.w:Rat),(p.z:Rat) / (p.w:Rat)⟩
def ltV (a b:Geo.V):Prop:=a.x<b.x∨(a.x=b.x∧(a.y<b.y∨(a.y=b.y∧a.z<b.z)))
instance (a b:Geo.V):Decidable (ltV a b):=by unfold ltV;infer_instance
theorem a1k (a:Geo.V):¬ ltV a a:=by unfold ltV;grind
theorem a2i {a b c:Geo.V} (h:ltV a b) (k:ltV b c):ltV a c:=by unfold ltV at *;grind
theorem a1j {a b c:Geo.V} (h:¬ ltV a b) (k:¬ ltV b c):¬ ltV a c:=by unfold ltV at *;grind
theorem c5f {a b:Geo.V} (h:¬ ltV a b) (k:¬ ltV b a):a=b:=by unfold ltV at *;apply Geo.V.ext<;>grind
theorem sF {a b c d:Int} (hb:0<b) (hd:0<d):(a:Rat) / (b:Rat)<(c:Rat) / (d:Rat)↔a*d - c*b<0:=by
 have hb':(0:Rat)<(b:Rat):=Rat.intCast_pos.2 hb
 have hd':(0:Rat)<(d:Rat):=Rat.intCast_pos.2 hd
 rw[Rat.lt_div_iff hd']
 have e:(a:Rat) / (b:Rat)*(d:Rat)=((a*d:Int):Rat) / (b:Rat):=by rw[Rat.intCast_mul,Rat.div_def,Rat.div_def];grind
 rw[e,Rat.div_lt_iff hb',← Rat.intCast_mul,Rat.intCast_lt_intCast]
 omega
theorem sG {a b c d:Int} (hb:0<b) (hd:0<d):(a:Rat) / (b:Rat)=(c:Rat) / (d:Rat)↔a*d - c*b=0:=by
 have h1:=sF (a:=a) (c:=c) hb hd
 have h2:=sF (a:=c) (c:=a) hd hb
 constructor
 ·intro h
  have k1:¬ a*d - c*b<0:=fun hh=>by have:=h1.2 hh;grind
  have k2:¬ c*b - a*d<0:=fun hh=>by have:=h2.2 hh;grind
  omega
 ·intro h
  have k1:¬ (a:Rat) / (b:Rat)<(c:Rat) / (d:Rat):=fun hh=>by have:=h1.1 hh;omega
  have k2:¬ (c:Rat) / (d:Rat)<(a:Rat) / (b:Rat):=fun hh=>by have:=h2.1 hh;omega
  grind
theorem xA (z:Int):sg z<0↔z<0:=by rcases gD z with⟨e,h⟩|⟨e,h⟩|⟨e,h⟩<;>omega
theorem a9w (z:Int):sg z=0↔z=0:=by rcases gD z with⟨e,h⟩|⟨e,h⟩|⟨e,h⟩<;>omega
theorem a5v {a b:Pt} (ha:0<a.w) (hb:0<b.w):qW a b<0↔ltV (tv a) (tv b):=by
 unfold qW ltV tv
 dsimp only
 have x1:=sF (a:=a.x) (c:=b.x) ha hb
 have x2:=sG (a:=a.x) (c:=b.x) ha hb
 have y1:=sF (a:=a.y) (c:=b.y) ha hb
 have y2:=sG (a:=a.y) (c:=b.y) ha hb
 have z1:=sF (a:=a.z) (c:=b.z) ha hb
 rw[x1,x2,y1,y2,z1]
 simp only[ne_eq,a9w]
 split
 ·rw[xA];omega
 ·split
  ·rw[xA];omega
  ·rw[xA];omega
theorem b7x {a b:Pt} {s t:Int} (h1:s*a.x=t*b.x) (h2:s*a.y=t*b.y) (h3:s*a.z=t*b.z) (h4:s*a.w=t*b.w):s.natAbs*g4 a.x a.y a.z a.w=t.natAbs*g4 b.x b.y b.z b.w:=by
 rw[← vH,← vH,h1,h2,h3,h4]
theorem kT {a b:Pt} (ha:CanP a) (hb:CanP b) (h:tv a=tv b):a=b:=by
 have hx:a.x*b.w - b.x*a.w=0:=(sG ha.w hb.w).1 (congrArg Geo.V.x h)
 have hy:a.y*b.w - b.y*a.w=0:=(sG ha.w hb.w).1 (congrArg Geo.V.y h)
 have hz:a.z*b.w - b.z*a.w=0:=(sG ha.w hb.w).1 (congrArg Geo.V.z h)
 have hs:=b7x (a:=a) (b:=b) (s:=b.w) (t:=a.w) (by rw[Int.mul_comm b.w,Int.mul_comm a.w];omega) (by rw[Int.mul_comm b.w,Int.mul_comm a.w];omega) (by rw[Int.mul_comm b.w,Int.mul_comm a.w];omega) (Int.mul_comm _ _)
 rw[ha.g,hb.g]at hs
 have hw:a.w=b.w:=by have:=ha.w;have:=hb.w;omega
 have hp:=ha.w
 rw[← hw]at hx hy hz
 have key:∀ p q:Int,p*a.w - q*a.w=0→p=q:=fun p q h=>by
  have:p*a.w=q*a.w:=by omega
  exact Int.eq_of_mul_eq_mul_right (by omega) this
 cases a;cases b
 simp only at *
 rw[key _ _ hx,key _ _ hy,key _ _ hz,hw]
def leP (a b:Pt):Bool:=!decide (ltV (tv b) (tv a))
def gU (l:List Pt):List Pt:=l.mergeSort leP
theorem b3p (a b c:Pt) (h:leP a b=true) (k:leP b c=true):leP a c=true:=by
 simp only[leP,Bool.not_eq_true',decide_eq_false_iff_not]at *
 exact a1j k h
theorem b3q (a b:Pt):(leP a b||leP b a)=true:=by
 simp only[leP,Bool.or_eq_true,Bool.not_eq_true',decide_eq_false_iff_not]
 by_cases h:ltV (tv b) (tv a)
 ·exact .inr fun k=>a1k _ (a2i h k)
 ·exact .inl h
theorem w7 (l:List Pt):(gU l).Perm l:=List.mergeSort_perm l leP
theorem nB (l:List Pt):(gU l).length=l.length:=(w7 l).length_eq
theorem a2a {l:List Pt} {p:Pt}:p∈gU l↔p∈l:=(w7 l).mem_iff
theorem b6e (l:List Pt):(gU l).Pairwise fun a b=>leP a b=true:=List.pairwise_mergeSort b3p b3q l
theorem b7p {a b:Pt} (ha:CanP a) (hb:CanP b) (h:leP a b=true) (k:leP b a=true):a=b:=by
 simp only[leP,Bool.not_eq_true',decide_eq_false_iff_not]at *
 exact kT ha hb (c5f k h)
theorem a9p {l m:List Pt} (hc:∀ p∈l,CanP p) (hp:m.Perm l) (hs:m.Pairwise fun a b=>leP a b=true):m=gU l :=
 List.Perm.eq_of_pairwise (le:=fun a b=>leP a b=true) (fun a b ha hb h k=>b7p (hc _ (hp.mem_iff.1 ha)) (hc _ (a2a.1 hb)) h k) hs (b6e l) (hp.trans (w7 l).symm)
end Go.Sx
namespace Go.Sx
open Go.Proofs
set_option linter.unusedVariables false
theorem CallOK.grown {P : Program} {f : Nat} {args : List AV} {r : AV} {vals : List Value} (h : CallOK P f args [] r []) (hrel : ∀ g, RelL g args vals) (hr : Flat r) (W : World) :
  Calls P f vals.toArray W fun e w'=>(∃ v,e=.returned v∧∀ g,Rel g r v)∧∃ q os',w'=Go.Sort.grow (W.drewN q) os':=by
 let g:Gh:={ w:=W,fz:=fun _=>False,us:=fun _=>False,blk:=fun _=>0,des:=fun _=>⟨none,0,0,0⟩,len:=fun _=>0 }
 have hg:GOk (bK P g (upd aI [])) g (upd aI []):=⟨rfl,Tp.rfl,rfl,Nat.le_refl _,fun _ _ _=>rfl,fun b hb=>hb,fun b hb=>.inl hb,fun b hb=>hb.elim,fun l=>trivial,fun l b hb=>by simp[upd,aI,aE]at hb,fun l l' b hb=>by simp[upd,aI,aE]at hb⟩
 refine (h g vals (fun l=>by simp[g]) hg (hrel g)).mono ?_
 rintro e w' ⟨v,g',rfl,rfl,he,hus,hg',hrr⟩
 refine⟨⟨v,rfl,fun g2=>hrr.flat hr⟩,g'.w.drawn - W.drawn,g'.w.heap.extract W.heap.size g'.w.heap.size,?_⟩
 have h1:g'.w.os=W.os:=hg'.os
 have h2:Tp g'.w W:=hg'.tape
 have h3:g'.w.output=W.output:=hg'.output
 have h4:W.heap.size≤g'.w.heap.size:=hg'.size
 have h5:∀ b,b<W.heap.size→g'.w.heap[b]?=W.heap[b]?:=fun b hb=>hg'.old b hb (by rintro⟨l,hl⟩;simp[upd,aI,aE]at hl)
 have h6:g'.w.heap=W.heap++g'.w.heap.extract W.heap.size g'.w.heap.size:=by
  apply Array.ext_getElem?
  intro k
  rw[Array.getElem?_append]
  split
  ·rename_i hk;exact h5 k hk
  ·rename_i hk
   rw[Array.getElem?_extract]
   by_cases hk2:k<g'.w.heap.size
   ·rw[if_pos (by omega)];congr 1;omega
   ·rw[if_neg (by omega)];exact Array.getElem?_eq_none (by omega)
 obtain⟨h7,h8⟩:=h2
 generalize hE:g'.w.heap.extract W.heap.size g'.w.heap.size=os' at *
 generalize g'.w=w' at *
 cases w' with|mk a b c d e =>
 cases W with|mk a' b' c' d' e' =>
 simp only at h1 h3 h6 h7 h8
 subst h1 h3 h7
 simp only[Go.Sort.grow,World.drewN,World.mk.injEq,true_and,and_true]
 exact⟨h6,by omega⟩
theorem c0k {α:Type} [Inhabited α] (enc:α→List Value) (k:Nat) (w:World) (blk off m:Nat) (d:Array α) (os:Array Obj):w.heap.size≤(sortWorldK enc k w blk off m d os).heap.size:=size_sortWorldK_c enc k w blk off m d os
theorem c3r {α:Type} [Inhabited α] (enc:α→List Value) (k:Nat) (w:World) (blk off m:Nat) (d:Array α) (os:Array Obj) {b:Nat} (hb:b<w.heap.size) (hne:b≠blk):(sortWorldK enc k w blk off m d os).heap[b]?=w.heap[b]?:=by
 have hne':¬ blk=b:=fun e=>hne e.symm
 unfold sortWorldK
 rw[Go.Sort.heap_grow_old _ _ (by simpa [Go.Sort.putRowK,Go.Sort.putRow,Go.Sort.mapBlock,Go.Sort.ahead]using hb)]
 simp[Go.Sort.putRowK,Go.Sort.putRow,Go.Sort.mapBlock,Go.Sort.ahead,Array.getElem?_modify,hne']
theorem c3s {α : Type} [Inhabited α] (enc : α → List Value) (k : Nat) (w : World) (blk off m : Nat) (d : Array α) (os : Array Obj) {vs : Array Value} {e : TypeId} {fr : Nat × Nat} (h : w.heap[blk]? = some (.cells vs e fr)) :
  (sortWorldK enc k w blk off m d os).heap[blk]?=some (.cells (Go.Sort.putCells id off (Go.Sort.flatK enc k d) vs) e fr):=by
 have hb:blk<w.heap.size:=(Array.getElem?_eq_some_iff.1 h).1
 unfold sortWorldK
 rw[Go.Sort.heap_grow_old _ _ (by simpa [Go.Sort.putRowK,Go.Sort.putRow,Go.Sort.mapBlock,Go.Sort.ahead]using hb)]
 simp[Go.Sort.putRowK,Go.Sort.putRow,Go.Sort.mapBlock,Go.Sort.ahead,Array.getElem?_modify,h,Go.Sort.onCells]
theorem c0l {α : Type} [Inhabited α] (enc : α → List Value) (k : Nat) (w : World) (blk off m : Nat) (d : Array α) (os : Array Obj) :
  (sortWorldK enc k w blk off m d os).os=w.os∧Tp (sortWorldK enc k w blk off m d os) w∧(sortWorldK enc k w blk off m d os).output=w.output :=
 ⟨rfl,⟨rfl,Nat.le_add_right _ _⟩,rfl⟩
abbrev CP:={p:Pt // CanP p∧BPt 1073741824 p}
def zT:Pt:=⟨0,0,0,1⟩
theorem c3d:(Zm 1).size≤1:=by rw[cI];decide
theorem b6u:CanP zT∧BPt 1073741824 zT:=by
 have h0:=(vA 1073741824).out
 refine⟨⟨by decide,by decide⟩,⟨⟨h0.a,h0.a,h0.a,?_⟩⟩⟩
 have:=c3d
 show (Zm 1).size≤_
 omega
instance:Inhabited CP:=⟨⟨zT,b6u⟩⟩
def fM (p:Pt):List Value:=[.bool (Zn p.x),.string (Zm p.x),.bool (Zn p.y),.string (Zm p.y),.bool (Zn p.z),.string (Zm p.z),.bool (Zn p.w),.string (Zm p.w)]
def cX (p:CP):List Value:=fM p.1
def cfC (a b:CP):Int:=qW a.1 b.1
theorem b8e (p:CP):(cX p).length=8:=rfl
theorem b4d (p:Pt):∀ v∈fM p,v.oneCell'=true:=by
 intro v hv
 simp only[fM,List.mem_cons,List.not_mem_nil,or_false]at hv
 rcases hv with rfl|rfl|rfl|rfl|rfl|rfl|rfl|rfl<;>rfl
theorem b8d (p:CP):∀ v∈cX p,v.oneCell'=true:=by
 intro v hv
 simp only[cX,fM,List.mem_cons,List.not_mem_nil,or_false]at hv
 rcases hv with rfl|rfl|rfl|rfl|rfl|rfl|rfl|rfl<;>rfl
theorem swoC:Go.Sort.SWO (ltOf cfC):=by
 have e:∀ a b:CP,ltOf cfC a b=decide (ltV (tv a.1) (tv b.1)):=fun a b=>by
  unfold ltOf cfC
  rw[decide_eq_decide]
  exact a5v a.2.1.w b.2.1.w
 refine⟨fun x=>?_,fun x y z h k=>?_,fun x y z h k=>?_⟩
 ·rw[e];exact decide_eq_false (a1k _)
 ·rw[e]at *;exact decide_eq_true (a2i (of_decide_eq_true h) (of_decide_eq_true k))
 ·rw[e]at *;exact decide_eq_false (a1j (of_decide_eq_false h) (of_decide_eq_false k))
theorem a9u {d d':Array CP} (hp:Go.Sort.PermIn 0 d.size d d') (hs:Go.Sort.SortedIn (ltOf cfC) 0 d.size d'):d'.toList.map (·.1)=gU (d.toList.map (·.1)):=by
 obtain⟨h1,h2,h3⟩:=hp
 have e1:(d'.extract 0 d.size).toList=d'.toList:=by rw[← h1];simp
 have e2:(d.extract 0 d.size).toList=d.toList:=by simp
 rw[e1,e2]at h3
 refine a9p (fun p hp=>?_) (h3.map _) ?_
 ·obtain⟨q,_,rfl⟩:=List.mem_map.1 hp
  exact q.2.1
 ·rw[List.pairwise_map,List.pairwise_iff_getElem]
  intro i j hi hj hij
  have:=hs i j (Nat.zero_le _) hij (by simpa [h1]using hj)
  have hi':i<d'.size:=by simpa using hi
  have hj':j<d'.size:=by simpa using hj
  rw[getElem!_pos d' j hj',getElem!_pos d' i hi']at this
  have this:¬ qW (d'[j]).1 (d'[i]).1<0:=of_decide_eq_false this
  rw[a5v (d'[j]).2.1.w (d'[i]).2.1.w]at this
  simp only[leP,Bool.not_eq_true',decide_eq_false_iff_not]
  simpa using this
theorem zI (p:Pt) (j:Nat) (h:j<(eP p).length):(eP p)[j]=.lit ((fM p)[j]!):=by
 simp only[eP,e4,List.length_cons,List.length_nil]at h
 match j,h with
 | 0,_=>rfl
 | 1,_=>rfl
 | 2,_=>rfl
 | 3,_=>rfl
 | 4,_=>rfl
 | 5,_=>rfl
 | 6,_=>rfl
 | 7,_=>rfl
theorem c5o {g : Gh} {b e : Nat} {cs : Array Value} {d : Array CP} (hb : g.w.heap[b]? = some (.cells cs e (0, 0))) (hs : d.size * 8 ≤ cs.size)
  (h:∀ i (h1:i<((d.toList.map (·.1)).map eP).length) j (h2:j<((d.toList.map (·.1)).map eP)[i].length) (h3:i*8+j<cs.size),Rel g ((d.toList.map (·.1)).map eP)[i][j] cs[i*8+j]):Go.Sort.HoldsK cX 8 g.w b 0 d:=by
 intro t ht
 rw[Go.Sort.size_flatK]at ht
 have hd:t / 8<d.size:=by omega
 have h1:=h (t / 8) (by simpa using hd) (t % 8) (by simp only[List.getElem_map,eP,e4,List.length_cons,List.length_nil];omega) (by omega)
 have e0:t / 8*8+t % 8=t:=by omega
 simp only[e0]at h1
 have e1:((d.toList.map (·.1)).map eP)[t / 8]'(by simpa using hd)=eP (d[t / 8]).1:=by simp
 have e2:(((d.toList.map (·.1)).map eP)[t / 8]'(by simpa using hd))[t % 8]'(by simp only[List.getElem_map,eP,e4,List.length_cons,List.length_nil];omega)=.lit ((fM (d[t / 8]).1)[t % 8]!):=by
  rw[← zI _ _ (by simp only[eP,e4,List.length_cons,List.length_nil];omega)]
  simp only[e1]
 rw[e2]at h1
 have hx:(fM (d[t / 8]).1)[t % 8]! = cs[t]:=by
  generalize hq:(fM (d[t / 8]).1)[t % 8]! = q at h1 ⊢
  generalize cs[t]=r at h1 ⊢
  cases h1
  rfl
 refine⟨?_,?_⟩
 ·simp only[World.cell?,hb,Nat.zero_add]
  rw[Go.Sort.get_flatK _ _ _ _ ht,getElem!_pos d _ hd]
  simp only[Option.isSome_none,Bool.false_eq_true,if_false]
  rw[Array.getElem?_eq_getElem (by omega)]
  simp only[id,cX]
  exact congrArg some hx.symm
 ·simp[World.frozen?,hb]
theorem a4z {d:Array CP} {cs:Array Value} {t:Nat} (h:t<(Go.Sort.putCells id 0 (Go.Sort.flatK cX 8 d) cs).size) (ht:t<d.size*8):(Go.Sort.putCells id 0 (Go.Sort.flatK cX 8 d) cs)[t]=(cX d[t / 8]!)[t % 8]!:=by
 have h':t<cs.size:=by simpa [Go.Sort.putCells]using h
 have e:=Array.getElem_mapIdx (f:=fun k x=>if 0≤k∧k<0+(Go.Sort.flatK cX 8 d).size then id (Go.Sort.flatK cX 8 d)[k - 0]! else x) (xs:=cs) (i:=t) (h:=h)
 refine e.trans ((if_pos ⟨Nat.zero_le _,by rw[Go.Sort.size_flatK];omega⟩).trans ?_)
 exact Go.Sort.get_flatK _ _ _ _ ht
theorem b8f {p:CP} {j:Nat} (h:j<8):((cX p)[j]!).oneCell'=true:=by
 match j,h with
 | 0,_=>rfl
 | 1,_=>rfl
 | 2,_=>rfl
 | 3,_=>rfl
 | 4,_=>rfl
 | 5,_=>rfl
 | 6,_=>rfl
 | 7,_=>rfl
theorem c0m {P : Program} {f gf : Nat} (vs : List Pt) (hv : ∀ p ∈ vs, CanP p ∧ BPt 1073741824 p) (hn : vs.length < 4611686018427387904)
  (hnil:CallOK P f [.lit (.slice none 0 0),.clo gf []] [] (.tup []) [])
  (hlib:∀ (blk cap:Nat) (d:Array CP) (w:World),Go.Sort.HoldsK cX 8 w blk 0 d→blk<w.heap.size→d.size<4611686018427387904 →
   Calls P f #[.slice (some ⟨blk,0,none⟩) d.size cap,.func (.func gf) #[] #[]] w fun e w'=>e=.returned (.tuple #[])∧∃ d' n os,Go.Sort.PermIn 0 d.size d d'∧Go.Sort.SortedIn (ltOf cfC) 0 d.size d'∧w'=sortWorldK cX 8 w blk 0 n d' os) :
  CallOK P f [.ref 0 0 vs.length vs.length,.clo gf []] [(0,.vec 8 (vs.map eP))] (.tup []) [(0,.vec 8 ((gU vs).map eP))]:=by
 intro g vals hus hg hrel
 obtain⟨hl,hr⟩:=hrel
 match vals,hl,hr with
 | [v1,v2],_,hr =>
 have r1:Rel g (.ref 0 0 vs.length vs.length) v1:=hr 0 (by simp) (by simp)
 have r2:Rel g (.clo gf []) v2:=hr 1 (by simp) (by simp)
 cases r2 with|clo _ _ caps hs _ =>
 obtain rfl:caps=#[]:=Array.eq_empty_of_size_eq_zero hs
 cases r1 with|ref _ _ _ _ _ hu hm hc hv1 =>
 have ho:ObjOk g 0 (.vec 8 (vs.map eP)):=hg.obj 0
 obtain⟨_,k1,k2,k3,k4,k5⟩:=ho
 rw[List.length_map]at k2
 have e1:=hv1 k2.symm
 have hupd:upd (upd aI [(0,.vec 8 (vs.map eP))]) [(0,.vec 8 ((gU vs).map eP))]=upd aI [(0,.vec 8 ((gU vs).map eP))]:=by
  funext l
  simp only[upd]
  split<;>rfl
 rcases k5 with⟨b0,es0,cap0⟩|⟨b,cs,m1,m2,m3,m4,m5,m6,m7⟩
 ·obtain rfl:vs=[]:=by simpa using es0
  have e2:v1=.slice none 0 0:=by rw[e1];simp[Des.slice,b0,cap0]
  subst e2
  refine ((hnil.grown (vals:=[.slice none 0 0,.func (.func gf) #[] #[]]) (fun g=>RelL.cons (.lit _) (RelL.cons (.clo gf [] #[] rfl (fun i h1=>by simp at h1)) RelL.nil)) (.tup _ (by simp)) g.w)).mono ?_
  rintro e w' ⟨⟨v,rfl,hvr⟩,q,os',rfl⟩
  have hso:gU []=[]:=by
   have:=nB []
   exact List.eq_nil_of_length_eq_zero this
  have hold:∀ b,b<g.w.heap.size→(Go.Sort.grow (g.w.drewN q) os').heap[b]?=g.w.heap[b]?:=fun b hb=>Go.Sort.heap_grow_old _ _ hb
  have hev:Ev g { g with w:=Go.Sort.grow (g.w.drewN q) os' }:=⟨fun b hb=>⟨hb,hold b (hg.fzx b hb)⟩,fun l hl=>⟨hl,rfl,Nat.le_refl _,fun _=>rfl⟩⟩
  refine⟨v,{ g with w:=Go.Sort.grow (g.w.drewN q) os' },rfl,rfl,hev,fun l=>Iff.rfl,?_,hvr _⟩
  rw[← hupd]
  refine hg.turn hev 0 _ rfl ⟨rfl,Nat.le_add_right _ _⟩ rfl (by simp[Go.Sort.grow,World.drewN]) rfl (fun l _=>⟨rfl,rfl,rfl⟩) (fun b hb _=>hold b hb) ?_ ?_
  ·rw[hso];exact⟨hu,k1,k2,k3,k4,.inl ⟨b0,rfl,cap0⟩⟩
  ·intro b hb
   simp only[aE]at hb
   rw[b0]at hb
   contradiction
 ·let d:Array CP:=(vs.attach.map fun p=>(⟨p.1,hv p.1 p.2⟩:CP)).toArray
  have hd:d.toList.map (·.1)=vs:=by
   show (vs.attach.map fun p=>(⟨p.1,hv p.1 p.2⟩:CP)).map (·.1)=vs
   rw[List.map_map]
   exact List.attach_map_subtype_val vs
  have hds:d.size=vs.length:=by
   have:=congrArg List.length hd
   simpa using this
  have e2:v1=.slice (some ⟨b,0,none⟩) d.size (g.des 0).cap:=by rw[e1,hds];simp[Des.slice,m1]
  subst e2
  rw[List.length_map]at m3 m6
  have hb:b<g.w.heap.size:=(Array.getElem?_eq_some_iff.1 m2).1
  have hH:Go.Sort.HoldsK cX 8 g.w b 0 d:=by
   refine c5o m2 (by rw[hds,m5];exact Nat.mul_le_mul_right _ m3) ?_
   simp only[hd]
   exact m7
  refine (hlib b (g.des 0).cap d g.w hH hb (by omega)).mono ?_
  rintro e w' ⟨rfl,d',n,os,hp,hsd,rfl⟩
  have hsl:=a9u hp hsd
  rw[hd]at hsl
  have hds':d'.size=vs.length:=by rw[hp.1,hds]
  have hold:∀ b',b'<g.w.heap.size→b'≠b→(sortWorldK cX 8 g.w b 0 n d' os).heap[b']?=g.w.heap[b']?:=fun b' h1 h2=>c3r cX 8 g.w b 0 n d' os h1 h2
  have hnew:=c3s cX 8 g.w b 0 n d' os m2
  obtain⟨q1,q2,q3⟩:=c0l cX 8 g.w b 0 n d' os
  have q4:=c0k cX 8 g.w b 0 n d' os
  generalize sortWorldK cX 8 g.w b 0 n d' os=w' at *
  have hnf:¬ g.fz b:=(hg.own 0 b (by show aE g 0 (.vec 8 (vs.map eP))=some b;exact m1)).2
  have hev:Ev g { g with w:=w' }:=⟨fun b' hb'=>⟨hb',hold b' (hg.fzx b' hb') (fun e=>hnf (e▸hb'))⟩,fun l hl=>⟨hl,rfl,Nat.le_refl _,fun _=>rfl⟩⟩
  refine⟨.tuple #[],{ g with w:=w' },rfl,rfl,hev,fun l=>Iff.rfl,?_,.tup _ _ rfl (fun i h1=>by simp at h1)⟩
  rw[← hupd]
  have hsz:(Go.Sort.putCells id 0 (Go.Sort.flatK cX 8 d') cs).size=cs.size:=by simp[Go.Sort.putCells]
  refine hg.turn hev 0 _ q1 q2 q3 q4 rfl (fun l _=>⟨rfl,rfl,rfl⟩) (fun b' hb' hne=>hold b' hb' (fun e=>hne (by subst e;exact m1))) ?_ (fun b' hb'=>.inl hb')
  refine⟨hu,k1,by rw[List.length_map,nB];exact k2,k3,fun e he=>?_,.inr ⟨b,_,m1,hnew,by rw[List.length_map,nB];exact m3,m4,by rw[hsz];exact m5,fun i h2 h3=>?_,fun i h1 j h2 h3=>?_⟩⟩
  ·obtain⟨p,_,rfl⟩:=List.mem_map.1 he
   rfl
  ·rw[List.length_map,nB]at h3
   rw[a4z h2 (by rw[hds'];exact h3)]
   exact b8f (by omega)
  ·have h1':i<d'.size:=by rw[List.length_map,nB]at h1;omega
   have h2':j<8:=by simpa only[List.getElem_map,eP,e4,List.length_cons,List.length_nil]using h2
   rw[a4z h3 (by omega)]
   have a1:(i*8+j) / 8=i:=by omega
   have a2:(i*8+j) % 8=j:=by omega
   rw[a1,a2,getElem!_pos d' i h1']
   have a3:((gU vs).map eP)[i]=eP (d'[i]).1:=by simp only[← hsl];simp
   have a4:((gU vs).map eP)[i][j]=.lit ((fM (d'[i]).1)[j]!):=by
    rw[← zI _ _ (by simp only[eP,e4,List.length_cons,List.length_nil];omega)]
    simp only[a3]
   rw[a4]
   exact .lit _
end Go.Sx
namespace Go.Proofs.Vx
open Go Go.Sx Go.Proofs Tryz
attribute [local irreducible] fnT CallOK CallFr AW aO callV aP aN aM aQ gcaseP hid
theorem b5h:agT prog 200=some false∧boT prog 200=false∧kiT prog 171=some .u64∧slT prog 171=none∧slT prog 3=none∧bM prog 171=false:=by and_intros<;>kernel_rfl
attribute [go_sem] b5h
theorem b6c:((([0,1,2,2,3,3,3,3,4,4,4,4,4,4,4,4,5,5,5,5,5,5,5,5,5,5,5,5,5,5,5,5,6,6,6,6,6,6,6,6,6,6,6,6,6,6,6,6,6,6,6,6,6,6,6,6,6,6,6,6,6,6,6,6]:List UInt8).append [7,7,7,7,7,7,7,7,7,7,7,7,7,7,7,7,7,7,7,7,7,7,7,7,7,7,7,7,7,7,7,7,7,7,7,7,7,7,7,7,7,7,7,7,7,7,7,7,7,7,7,7,7,7,7,7,7,7,7,7,7,7,7,7]).append ([8,8,8,8,8,8,8,8,8,8,8,8,8,8,8,8,8,8,8,8,8,8,8,8,8,8,8,8,8,8,8,8,8,8,8,8,8,8,8,8,8,8,8,8,8,8,8,8,8,8,8,8,8,8,8,8,8,8,8,8,8,8,8,8].append [8,8,8,8,8,8,8,8,8,8,8,8,8,8,8,8,8,8,8,8,8,8,8,8,8,8,8,8,8,8,8,8,8,8,8,8,8,8,8,8,8,8,8,8,8,8,8,8,8,8,8,8,8,8,8,8,8,8,8,8,8,8,8,8])).length=256:=by kernel_rfl
theorem c0j:bt ⟨((([0,1,2,2,3,3,3,3,4,4,4,4,4,4,4,4,5,5,5,5,5,5,5,5,5,5,5,5,5,5,5,5,6,6,6,6,6,6,6,6,6,6,6,6,6,6,6,6,6,6,6,6,6,6,6,6,6,6,6,6,6,6,6,6]:List UInt8).append [7,7,7,7,7,7,7,7,7,7,7,7,7,7,7,7,7,7,7,7,7,7,7,7,7,7,7,7,7,7,7,7,7,7,7,7,7,7,7,7,7,7,7,7,7,7,7,7,7,7,7,7,7,7,7,7,7,7,7,7,7,7,7,7]).append ([8,8,8,8,8,8,8,8,8,8,8,8,8,8,8,8,8,8,8,8,8,8,8,8,8,8,8,8,8,8,8,8,8,8,8,8,8,8,8,8,8,8,8,8,8,8,8,8,8,8,8,8,8,8,8,8,8,8,8,8,8,8,8,8].append [8,8,8,8,8,8,8,8,8,8,8,8,8,8,8,8,8,8,8,8,8,8,8,8,8,8,8,8,8,8,8,8,8,8,8,8,8,8,8,8,8,8,8,8,8,8,8,8,8,8,8,8,8,8,8,8,8,8,8,8,8,8,8,8])).toArray⟩ 0=0:=by kernel_rfl
theorem c206z  : CallOK prog 206 [.lit (.int .u64 0)] [] (.lit (.int .i64 0)) []:=by
 refine zs func206 25 [.tmp 2] results206 ?_
 simp only[aD,Nat.reduceAdd]
 repeat'(first|refine zg ?_|(refine zc ?_ ?_<;>intro hc<;>first|simp only[NM]at hc|omega|skip)|refine zr ?_|refine⟨by omega,?_⟩|(refine zb ?_ ?_<;>intro hg<;>(try rw[hg])<;>try simp only[NM]at hg)|omega|simp -dsimp (disch:=try exact zo)only[go_sem,b6c,c0j,Int.toNat_zero]|contradiction|rfl)
theorem c151z  : CallOK prog 151 [.lit (.int .u64 0)] [] (.lit (.int .i64 0)) []:=by
 refine zs func151 8 [.tmp 2] results151 ?_
 simp only[aD,Nat.reduceAdd]
 repeat'(first|refine zg ?_|(refine zc ?_ ?_<;>intro hc<;>first|simp only[NM]at hc|omega|skip)|refine zr ?_|(refine zf c206z ?_)|refine⟨by omega,?_⟩|(refine zb ?_ ?_<;>intro hg<;>(try rw[hg])<;>try simp only[NM]at hg)|omega|simp -dsimp (disch:=try exact zo)only[go_sem]|contradiction|rfl)
theorem c197z  : CallOK prog 197 [.lit (.slice none 0 0),.lit (.int .i64 0),.lit (.int .i64 0),.clo 35 []] [] (.tup []) []:=by
 refine zs func197 53 [] results197 ?_
 simp only[aD,Nat.reduceAdd]
 repeat'(first|refine zg ?_|refine bQ 2 ?_|(refine zc ?_ ?_<;>intro hc<;>first|simp only[NM]at hc|omega|skip)|refine zr ?_|(refine AW.nil (y4 ?_)<;>simp -dsimp (disch:=try exact zo)only[go_sem])|refine⟨by omega,?_⟩|(refine zb ?_ ?_<;>intro hg<;>(try rw[hg])<;>try simp only[NM]at hg)|omega|simp -dsimp (disch:=try exact zo)only[go_sem]|contradiction|rfl)
theorem c150z  : CallOK prog 150 [.lit (.slice none 0 0),.lit (.int .i64 0),.lit (.int .i64 0),.lit (.int .i64 0),.clo 35 []] [] (.tup []) []:=by
 refine zs func150 148 [] results150 ?_
 simp only[aD,Nat.reduceAdd]
 repeat'(first|refine zg ?_|refine bQ 2 ?_|(refine zc ?_ ?_<;>intro hc<;>first|simp only[NM]at hc|omega|skip)|refine zr ?_|(refine zp c197z (by simp -dsimp (disch:=try exact zo)only[go_sem]) (by simp -dsimp (disch:=try exact zo)only[go_sem]) ?_)|refine⟨by omega,?_⟩|(refine zb ?_ ?_<;>intro hg<;>(try rw[hg])<;>try simp only[NM]at hg)|omega|simp -dsimp (disch:=try exact zo)only[go_sem]|contradiction|rfl)
theorem c84z  : CallOK prog 84 [.lit (.slice none 0 0),.clo 35 []] [] (.tup []) []:=by
 refine zs func84 14 [] results84 ?_
 simp only[aD,Nat.reduceAdd]
 repeat'(first|refine zg ?_|(refine zc ?_ ?_<;>intro hc<;>first|simp only[NM]at hc|omega|skip)|refine zr ?_|(refine AW.nil (y4 ?_)<;>simp -dsimp (disch:=try exact zo)only[go_sem])|(refine zf c151z ?_)|(refine zp c150z (by simp -dsimp (disch:=try exact zo)only[go_sem]) (by simp -dsimp (disch:=try exact zo)only[go_sem]) ?_)|refine⟨by omega,?_⟩|(refine zb ?_ ?_<;>intro hg<;>(try rw[hg])<;>try simp only[NM]at hg)|omega|simp -dsimp (disch:=try exact zo)only[go_sem]|contradiction|rfl)
end Go.Proofs.Vx
namespace Go.Proofs
open Go.Shelf Go.RowKit Go.Lib Go.Sort
def a9h:Go.Shelf.Ren:=⟨fun|6=>84|15=>151|14=>150|28=>205|29=>206|20=>197|21=>198|22=>199|23=>200|24=>201|25=>202|26=>203|27=>204|46=>241|47=>242|48=>243|49=>244|50=>245|57=>260|n=>n,fun|22=>45|24=>51|25=>60|3=>3|39=>171|0=>0|53=>189|55=>158|4=>4|46=>201|45=>200|50=>205|5=>5|9=>9|66=>238|70=>242|76=>255|77=>256|n=>n,fun|n=>n⟩
theorem b0o:Go.Proofs.SlLaysF0.n6 Tryz.prog a9h:={
 mixed:=by kernel_rfl,
 f6:=⟨Tryz.f84.name,by decide,Tryz.func84.trans (congrArg some (by kernel_rfl))⟩,
 f14:=⟨Tryz.f150.name,by decide,Tryz.func150.trans (congrArg some (by kernel_rfl))⟩,
 f15:=Tryz.func151.trans (congrArg some (by kernel_rfl)),
 f20:=⟨Tryz.f197.name,by decide,Tryz.func197.trans (congrArg some (by kernel_rfl))⟩,
 f21:=⟨Tryz.f198.name,by decide,Tryz.func198.trans (congrArg some (by kernel_rfl))⟩,
 f22:=⟨Tryz.f199.name,by decide,Tryz.func199.trans (congrArg some (by kernel_rfl))⟩,
 f23:=⟨Tryz.f200.name,by decide,Tryz.func200.trans (congrArg some (by kernel_rfl))⟩,
 f24:=⟨Tryz.f201.name,by decide,Tryz.func201.trans (congrArg some (by kernel_rfl))⟩,
 f25:=⟨Tryz.f202.name,by decide,Tryz.func202.trans (congrArg some (by kernel_rfl))⟩,
 f26:=⟨Tryz.f203.name,by decide,Tryz.func203.trans (congrArg some (by kernel_rfl))⟩,
 f27:=⟨Tryz.f204.name,by decide,Tryz.func204.trans (congrArg some (by kernel_rfl))⟩,
 f28:=Tryz.func205.trans (congrArg some (by kernel_rfl)),
 f29:=Tryz.func206.trans (congrArg some (by kernel_rfl)),
 f46:=⟨Tryz.f241.name,by decide,Tryz.func241.trans (congrArg some (by kernel_rfl))⟩,
 f47:=Tryz.func242.trans (congrArg some (by kernel_rfl)),
 f48:=Tryz.func243.trans (congrArg some (by kernel_rfl)),
 f49:=⟨Tryz.f244.name,by decide,Tryz.func244.trans (congrArg some (by kernel_rfl))⟩,
 f50:=⟨Tryz.f245.name,by decide,Tryz.func245.trans (congrArg some (by kernel_rfl))⟩,
 f57:=⟨Tryz.f260.name,by decide,Tryz.func260.trans (congrArg some (by kernel_rfl))⟩,
 t0:=Tryz.underlying0,
 a0:=Tryz.isAgg0,
 z0:=Tryz.sizeOf0,
 v0:=Tryz.zeroValue0,
 t3:=Tryz.underlying3,
 a3:=Tryz.isAgg3,
 z3:=Tryz.sizeOf3,
 v3:=Tryz.zeroValue3,
 t4:=Tryz.underlying4,
 a4:=Tryz.isAgg4,
 z4:=Tryz.sizeOf4,
 v4:=Tryz.zeroValue4,
 t5:=Tryz.underlying5,
 a5:=Tryz.isAgg5,
 z5:=Tryz.sizeOf5,
 v5:=Tryz.zeroValue5,
 t9:=Tryz.underlying9,
 a9:=Tryz.isAgg9,
 z9:=Tryz.sizeOf9,
 v9:=Tryz.zeroValue9,
 t22:=Tryz.underlying45,
 a22:=Tryz.isAgg45,
 z22:=Tryz.sizeOf45,
 v22:=Tryz.zeroValue45,
 t25:=Tryz.underlying60,
 a25:=Tryz.isAgg60,
 z25:=Tryz.sizeOf60,
 v25:=Tryz.zeroValue60,
 t39:=Tryz.underlying171,
 a39:=Tryz.isAgg171,
 z39:=Tryz.sizeOf171,
 v39:=Tryz.zeroValue171,
 t45:=Tryz.underlying200,
 a45:=Tryz.isAgg200,
 z45:=Tryz.sizeOf200,
 v45:=Tryz.zeroValue200,
 t46:=Tryz.underlying201,
 a46:=Tryz.isAgg201,
 z46:=Tryz.sizeOf201,
 v46:=Tryz.zeroValue201,
 t50:=Tryz.underlying205,
 a50:=Tryz.isAgg205,
 z50:=Tryz.sizeOf205,
 v50:=Tryz.zeroValue205,
 t53:=Tryz.underlying189,
 a53:=Tryz.isAgg189,
 z53:=Tryz.sizeOf189,
 v53:=Tryz.zeroValue189,
 t55:=Tryz.underlying158,
 a55:=Tryz.isAgg158,
 z55:=Tryz.sizeOf158,
 v55:=Tryz.zeroValue158,
 t66:=Tryz.underlying238,
 a66:=Tryz.isAgg238,
 z66:=Tryz.sizeOf238,
 v66:=Tryz.zeroValue238,
 t70:=Tryz.underlying242,
 a70:=Tryz.isAgg242,
 z70:=Tryz.sizeOf242,
 v70:=Tryz.zeroValue242,
 t76:=Tryz.underlying255,
 a76:=Tryz.isAgg255,
 z76:=Tryz.sizeOf255,
 v76:=Tryz.zeroValue255,
 t77:=Tryz.underlying256,
 a77:=Tryz.isAgg256,
 z77:=Tryz.sizeOf256,
 v77:=Tryz.zeroValue256 }
end Go.Proofs
namespace Go.Proofs.Vx
open Go Go.Sx Go.Proofs Tryz
theorem b8c:∀ args w,(callFunc 35 args).run prog w=.ok (.enter 35 args) w:=enters_of func35 (by kernel_rfl) rfl
theorem a6w (p:Pt) (g:Gh):Rel g (.agg (eP p)) (.agg (fM p).toArray):=by
 refine .agg _ _ rfl (fun i h2=>?_) (fun i h1 h2=>?_)
 ·have:=b4d p ((fM p).toArray[i]) (by simpa using Array.getElem_mem (xs:=(fM p).toArray) (i:=i) h2)
  exact this
 ·rw[zI p i h1]
  have:(fM p).toArray[i]=(fM p)[i]!:=by
   rw[getElem!_pos (fM p) i (by simpa using h2)];simp
  rw[this]
  exact .lit _
theorem c5k (blk off size:Nat) (w:World):CmpLays prog 35 #[] cX 8 cfC blk off size w:=by
 intro m os dk _ x y
 have hx:=x.2.2.out
 have hy:=y.2.2.out
 have h:=c35 x.1 y.1 x.2.1 y.2.1 ⟨Nat.le_trans hx.a (by decide),Nat.le_trans hx.b (by decide),Nat.le_trans hx.c (by decide),Nat.le_trans hx.d (by decide)⟩ ⟨Nat.le_trans hy.a (by decide),Nat.le_trans hy.b (by decide),Nat.le_trans hy.c (by decide),Nat.le_trans hy.d (by decide)⟩
 have:=h.grown (vals:=[.agg (fM x.1).toArray,.agg (fM y.1).toArray]) (fun g=>RelL.cons (a6w _ g) (RelL.cons (a6w _ g) RelL.nil)) (.lit _) (sortWorldK cX 8 w blk off m dk os)
 refine Calls.mono (by simpa [cX]using this) ?_
 rintro e w' ⟨⟨v,rfl,hv⟩,q,os',rfl⟩
 refine⟨?_,q,os',rfl⟩
 have hq:=hv ⟨w,fun _=>False,fun _=>False,fun _=>0,fun _=>⟨none,0,0,0⟩,fun _=>0⟩
 cases hq
 rfl
theorem c1u (w:World):(isAgg 51).run prog w=.ok true w:=by kernel_rfl
theorem b6f (w:World):(Go.sizeOf 51).run prog w=.ok 8 w:=by kernel_rfl
theorem c84 (vs:List Pt) (hv:∀ p∈vs,CanP p∧BPt 1073741824 p) (hn:vs.length<4611686018427387904):CallOK prog 84 [.ref 0 0 vs.length vs.length,.clo 35 []] [(0,.vec 8 (vs.map eP))] (.tup []) [(0,.vec 8 ((gU vs).map eP))]:=by
 refine c0m vs hv hn c84z ?_
 intro blk cap d w hH hb hsz
 have:=AnyQ.slices_SortFunc b0o 8 c1u b6f cX b8e b8d cfC swoC 35 #[] blk 0 cap d w b8c (c5k blk 0 d.size w) hH hb hsz
 change Calls prog 84 _ _ _ at this
 exact this
end Go.Proofs.Vx
