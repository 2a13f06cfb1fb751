import Derived.Test.YtjlfgmhmalbiiaaGreatDoorW28
set_option linter.all false
set_option maxHeartbeats 16000000
open Int renaming zero_add → Ak
open List renaming getElem_mem → Ab, not_mem_nil → Af, length_map → Ag, mem_cons → Ah, mem_map → Aj
open Nat renaming le_trans → Aa, reduceAdd → Ac, lt_of_le_of_lt → Ad, zero_le → Ae, gcd → Ai
namespace Go.Proofs.Vx
open Go Go.Sx Go.Proofs Tryz
attribute [local irreducible] fnT CallOK CallFr AW aI callV aL aJ aH aK gcaseP hid
theorem j1:fnT prog 88=true:=by kernel_rfl
theorem gT4 (n1 n2 n3 n4:Bool) (m1 m2 m3 m4:ByteArray):gT [(n1,m1),(n2,m2),(n3,m3),(n4,m4)] 4=g4 (iv n1 m1) (iv n2 m2) (iv n3 m3) (iv n4 m4):=by
 show Ai (Ai (Ai (Ai 0 (nv m1)) (nv m2)) (nv m3)) (nv m4)=_
 rw[Nat.gcd_zero_left]
 unfold g4
 simp only[sT]
theorem c88x (n1 n2 n3 n4 : Bool) (m1 m2 m3 m4 : ByteArray) (h1 : m1.size ≤ 268435456) (h2 : m2.size ≤ 268435456) (h3 : m3.size ≤ 268435456) (h4 : m4.size ≤ 268435456) :
  CallOK prog 88 [.sl [eI n1 m1,eI n2 m2,eI n3 m3,eI n4 m4]] [] (.agg [.lit (.bool false),.lit (.string (nb (g4 (iv n1 m1) (iv n2 m2) (iv n3 m3) (iv n4 m4))))]) []:=by
 have h:=c88 [(n1,m1),(n2,m2),(n3,m3),(n4,m4)] (by simp) (by
  intro r hr
  simp only[zM,or_false]at hr
  rcases hr with rfl|rfl|rfl|rfl<;>assumption)
 have e:([(n1,m1),(n2,m2),(n3,m3),(n4,m4)]:List mC).length=4:=rfl
 rw[e,gT4]at h
 have e2:∀ G:Nat,eZ (G:Int)=[.lit (.bool false),.lit (.string (nb G))]:=fun G=>by unfold eZ;rw[kZ (Int.natCast_nonneg _),iX]
 rw[e2]at h
 exact h
theorem c109 (n:Bool) (m:ByteArray) (g:Nat) (hg:0<g) (hd:g∣nv m) (hm:m.size≤268435456) (hgs:(nb g).size≤268435456):CallOK prog 109 [.agg [.lit (.bool n),.lit (.string m)],.agg [.lit (.bool false),.lit (.string (nb g))]] [] (.agg (eZ (iv n m / (g:Int)))) []:=by
 refine zs func109 16 [.cell 4 24] results109 ?_
 simp only[aD,Ac]
 have hml:maxLen=9223372036854775807:=rfl
 try have zh0:=(c90 n m g hg hd hm hgs)
 exact z1
theorem c44b (n1 n2 n3 n4:Bool) (m1 m2 m3 m4:ByteArray) (h1:m1.size≤268435456) (h2:m2.size≤268435456) (h3:m3.size≤268435456) (h4:m4.size≤268435456) (hz:iv n1 m1=0∧iv n2 m2=0∧iv n3 m3=0):CallOK prog 44 [.agg [.lit (.bool n1),.lit (.string m1),.lit (.bool n2),.lit (.string m2),.lit (.bool n3),.lit (.string m3),.lit (.bool n4),.lit (.string m4)]] [] (.tup [.agg [.lit (.bool false),.lit (.string ⟨#[]⟩),.lit (.bool false),.lit (.string ⟨#[]⟩),.lit (.bool false),.lit (.string ⟨#[]⟩),.lit (.bool false),.lit (.string ⟨#[]⟩)],.lit (.bool false)]) []:=by
 refine zs func44 49 [.cell 2 26,.tmp 3] results44 ?_
 simp only[aD,Ac]
 have hml:maxLen=9223372036854775807:=rfl
 have s1:=c86 n1 m1 (by omega)
 have s2:=c86 n2 m2 (by omega)
 have s3:=c86 n3 m3 (by omega)
 obtain⟨z1,z2,z3⟩:=hz
 rw[z1]at s1
 rw[z2]at s2
 rw[z3]at s3
 have k1:sg 0=0:=rfl
 have k2:True:=trivial
 have k3:True:=trivial
 repeat'(first|refine zk ?_|(refine zu ?_ ?_<;>intro hc)|(first|refine zf s1 ?_|refine zf s2 ?_|refine zf s3 ?_)|(refine zv ?_ ?_<;>intro hg)|omega|simp -dsimp (disch:=try exact zo)only[go_sem,k1]|contradiction|rfl)
theorem c44a (n1 n2 n3 n4:Bool) (m1 m2 m3 m4:ByteArray) (h1:m1.size≤268435456) (h2:m2.size≤268435456) (h3:m3.size≤268435456) (h4:m4.size≤268435456) (hz:¬ (iv n1 m1=0∧iv n2 m2=0∧iv n3 m3=0)):CallOK prog 44 [.agg [.lit (.bool n1),.lit (.string m1),.lit (.bool n2),.lit (.string m2),.lit (.bool n3),.lit (.string m3),.lit (.bool n4),.lit (.string m4)]] [] (.tup [.agg (eH (i5 (iv n1 m1) (iv n2 m2) (iv n3 m3) (iv n4 m4))),.lit (.bool true)]) []:=by
 refine zs func44 49 [.cell 2 26,.tmp 3] results44 ?_
 simp only[aD,Ac]
 have hml:maxLen=9223372036854775807:=rfl
 have s1:=c86 n1 m1 (by omega)
 have s2:=c86 n2 m2 (by omega)
 have s3:=c86 n3 m3 (by omega)
 have cg:=c88x n1 n2 n3 n4 m1 m2 m3 m4 h1 h2 h3 h4
 obtain⟨d1,d2,d3,d4⟩:=j4 (iv n1 m1) (iv n2 m2) (iv n3 m3) (iv n4 m4)
 have hG:0<g4 (iv n1 m1) (iv n2 m2) (iv n3 m3) (iv n4 m4):=by
  apply Nat.pos_of_ne_zero
  intro h0
  rw[h0]at d1 d2 d3
  exact hz ⟨by simpa using d1,by simpa using d2,by simpa using d3⟩
 have hGs:(nb (g4 (iv n1 m1) (iv n2 m2) (iv n3 m3) (iv n4 m4))).size≤268435456:=by
  unfold g4
  simp only[sT]
  exact n7 (n7 (n7 (Aa (dH _) h1) (Aa (dH _) h2)) (Aa (dH _) h3)) (Aa (dH _) h4)
 have e:∀ (n:Bool) (m:ByteArray),(g4 (iv n1 m1) (iv n2 m2) (iv n3 m3) (iv n4 m4):Int)∣iv n m→g4 (iv n1 m1) (iv n2 m2) (iv n3 m3) (iv n4 m4)∣nv m:=fun n m h=>by
  rw[← sT n m];exact Int.ofNat_dvd_left.1 h
 unfold i5
 have p1:=c109 n1 m1 _ hG (e n1 m1 d1) h1 hGs
 have p2:=c109 n2 m2 _ hG (e n2 m2 d2) h2 hGs
 have p3:=c109 n3 m3 _ hG (e n3 m3 d3) h3 hGs
 have p4:=c109 n4 m4 _ hG (e n4 m4 d4) h4 hGs
 clear e d1 d2 d3 d4 hG hGs
 generalize g4 (iv n1 m1) (iv n2 m2) (iv n3 m3) (iv n4 m4)=G at *
 by_cases q1:sg (iv n1 m1)=0
 ·by_cases q2:sg (iv n2 m2)=0
  ·have q3:sg (iv n3 m3)≠0:=fun q3=>hz ⟨fZ.1 q1,fZ.1 q2,fZ.1 q3⟩
   have k1:=eq_true q1
   have k2:=eq_true q2
   have k3:=eq_false q3
   clear hz
   repeat'(first|refine zk ?_|(refine zu ?_ ?_<;>intro hc)|(first|refine zf s1 ?_|refine zf s2 ?_|refine zf s3 ?_)|(refine iA _ j1 cg rfl rfl (by simp -dsimp (disch:=try exact zo)only[go_sem]) (.agg _ (by intro c hc;simp only[zM,or_false]at hc;rcases hc with rfl|rfl<;>exact .lit _)) ?_)|(first|refine zf p1 ?_|refine zf p2 ?_|refine zf p3 ?_|refine zf p4 ?_)|(refine zv ?_ ?_<;>intro hg)|omega|simp -dsimp (disch:=try exact zo)only[go_sem,k1,k2,k3]|contradiction|rfl)
  ·have k1:=eq_true q1
   have k2:=eq_false q2
   have k3:True:=trivial
   clear hz
   repeat'(first|refine zk ?_|(refine zu ?_ ?_<;>intro hc)|(first|refine zf s1 ?_|refine zf s2 ?_|refine zf s3 ?_)|(refine iA _ j1 cg rfl rfl (by simp -dsimp (disch:=try exact zo)only[go_sem]) (.agg _ (by intro c hc;simp only[zM,or_false]at hc;rcases hc with rfl|rfl<;>exact .lit _)) ?_)|(first|refine zf p1 ?_|refine zf p2 ?_|refine zf p3 ?_|refine zf p4 ?_)|(refine zv ?_ ?_<;>intro hg)|omega|simp -dsimp (disch:=try exact zo)only[go_sem,k1,k2,k3]|contradiction|rfl)
 ·have k1:=eq_false q1
  have k2:True:=trivial
  have k3:True:=trivial
  clear hz
  repeat'(first|refine zk ?_|(refine zu ?_ ?_<;>intro hc)|(first|refine zf s1 ?_|refine zf s2 ?_|refine zf s3 ?_)|(refine iA _ j1 cg rfl rfl (by simp -dsimp (disch:=try exact zo)only[go_sem]) (.agg _ (by intro c hc;simp only[zM,or_false]at hc;rcases hc with rfl|rfl<;>exact .lit _)) ?_)|(first|refine zf p1 ?_|refine zf p2 ?_|refine zf p3 ?_|refine zf p4 ?_)|(refine zv ?_ ?_<;>intro hg)|omega|simp -dsimp (disch:=try exact zo)only[go_sem,k1,k2,k3]|contradiction|rfl)
end Go.Proofs.Vx
namespace Go.Proofs.Vx
open Go Go.Sx Go.Proofs Tryz
attribute [local irreducible] fnT CallOK CallFr AW aI callV aL aJ aH aK gcaseP hid
structure RP where
 n1:Bool
 m1:ByteArray
 n2:Bool
 m2:ByteArray
 n3:Bool
 m3:ByteArray
 n4:Bool
 m4:ByteArray
abbrev eRP (r:RP):List AV:=[.lit (.bool r.n1),.lit (.string r.m1),.lit (.bool r.n2),.lit (.string r.m2),.lit (.bool r.n3),.lit (.string r.m3),.lit (.bool r.n4),.lit (.string r.m4)]
def j6 (r:RP):Prop:=iv r.n1 r.m1=0∧iv r.n2 r.m2=0∧iv r.n3 r.m3=0
instance (r:RP):Decidable (j6 r):=by unfold j6;infer_instance
def b0u (r:RP):Prop:=6<r.m1.size∨6<r.m2.size∨6<r.m3.size∨6<r.m4.size∨j6 r
instance (r:RP):Decidable (b0u r):=by unfold b0u;infer_instance
def eY (r:RP):Pl:=i5 (iv r.n1 r.m1) (iv r.n2 r.m2) (iv r.n3 r.m3) (iv r.n4 r.m4)
theorem b1y (r:RP) (h1:r.m1.size≤268435456) (h2:r.m2.size≤268435456) (h3:r.m3.size≤268435456) (h4:r.m4.size≤268435456) (hz:¬ j6 r):CallOK prog 44 [.agg (eRP r)] [] (.tup [.agg (eH (eY r)),.lit (.bool true)]) []:=c44a _ _ _ _ _ _ _ _ h1 h2 h3 h4 hz
theorem b1x (r:RP) (h1:r.m1.size≤268435456) (h2:r.m2.size≤268435456) (h3:r.m3.size≤268435456) (h4:r.m4.size≤268435456) (hz:j6 r):CallOK prog 44 [.agg (eRP r)] [] (.tup [.agg [.lit (.bool false),.lit (.string ⟨#[]⟩),.lit (.bool false),.lit (.string ⟨#[]⟩),.lit (.bool false),.lit (.string ⟨#[]⟩),.lit (.bool false),.lit (.string ⟨#[]⟩)],.lit (.bool false)]) []:=c44b _ _ _ _ _ _ _ _ h1 h2 h3 h4 hz
end Go.Proofs.Vx
namespace Go.Proofs.Vx
open Go Go.Sx Go.Proofs Tryz
attribute [local irreducible] fnT CallOK CallFr AW aI callV aL aJ aH aK gcaseP hid
abbrev eRPs (l:List RP):List (List AV):=l.map eRP
theorem a8m {K:Nat→Prop} (l:List RP):(∀ e∈eRPs l,∀ c∈e,In K c)=True:=eq_true fun e he c hc=>by
 obtain⟨r,_,rfl⟩:=Aj.1 he
 simp only[eRP,Ah,Af,or_false]at hc
 rcases hc with rfl|rfl|rfl|rfl|rfl|rfl|rfl|rfl<;>exact .lit _
theorem d0i {K:Nat→Prop} (l:List Pl):(∀ e∈l.map eH,∀ c∈e,In K c)=True:=eq_true fun e he c hc=>by
 obtain⟨r,_,rfl⟩:=Aj.1 he
 simp only[eH,e4,Ah,Af,or_false]at hc
 rcases hc with rfl|rfl|rfl|rfl|rfl|rfl|rfl|rfl<;>exact .lit _
attribute [go_sem] a8m d0i
end Go.Proofs.Vx
namespace Go.Sx
set_option linter.unusedVariables false
theorem d0y {a b:Rat} (h:Qd a=Qd b):a.den=b.den:=by
 unfold Qd at h
 have ha:=a.den_nz
 have hb:=b.den_nz
 split at h<;>split at h
 ·omega
 ·exact absurd ((fW _).1 h.symm) hb
 ·exact absurd ((fW _).1 h) ha
 ·exact qO h
theorem eq3 (a b:Rat):i9 [.lit (.bool (Zn a.num)),.lit (.string (Zm a.num)),.lit (.string (Qd a))] [.lit (.bool (Zn b.num)),.lit (.string (Zm b.num)),.lit (.string (Qd b))]=decide (a=b):=by
 by_cases h:a=b
 ·subst h
  simp[i9,ceq]
 ·have:¬ (Zn a.num=Zn b.num∧Zm a.num=Zm b.num∧Qd a=Qd b):=fun h'=>h (Rat.ext (fH h'.1 h'.2.1) (d0y h'.2.2))
  rw[decide_eq_false h]
  simp only[i9,ceq,Bool.and_true]
  apply Bool.eq_false_iff.2
  intro hh
  simp only[Bool.and_eq_true,beq_iff_eq,decide_eq_true_eq]at hh
  exact this ⟨hh.1,hh.2.1,hh.2.2⟩
attribute [go_sem ↓] eq3
end Go.Sx
namespace Go.Proofs.Vx
open Go Go.Sx Go.Proofs Tryz
attribute [local irreducible] fnT CallOK CallFr AW aI callV aL aJ aH aK gcaseP hid
theorem fG {K:Nat→Prop} (l:aC):In K (.agg [.sl (eS l)]):=.agg _ (by
 intro c hc
 simp only[zM,or_false]at hc
 subst hc
 exact .sl _ (of_eq_true (lS l)))
theorem inPair {K:Nat→Prop} (l m:aC):In K (.tup [.agg [.sl (eS l)],.agg [.sl (eS m)]]):=.tup _ (by
 intro c hc
 simp only[zM,or_false]at hc
 rcases hc with rfl|rfl<;>exact fG _)
end Go.Proofs.Vx
namespace Go.Proofs.Vx
open Go Go.Sx Go.Proofs Tryz
attribute [local irreducible] fnT CallOK CallFr AW aI callV aL aJ aH aK gcaseP hid
theorem b8k:arT prog 27=some (1,8,true)∧arT prog 38=none∧slT prog 27=none∧slT prog 38=some (33,1)∧bH prog 27=false∧bH prog 38=false:=by and_intros<;>kernel_rfl
attribute [go_sem] b8k
theorem b9h {l:aC} (h:BdC l):(bX l).length≤268435456:=Aa (u5 l) (Aa (yM h.m h.n) (by decide))
end Go.Proofs.Vx
namespace Go.Proofs.Vx
open Go Go.Sx Go.Proofs Tryz
attribute [local irreducible] fnT CallOK CallFr AW aI callV aL aJ aH aK gcaseP hid
theorem zZ:fnT prog 265=true:=by kernel_rfl
def e3Z (x y z:Int):List AV:=[.lit (.bool (Zn x)),.lit (.string (Zm x)),.lit (.bool (Zn y)),.lit (.string (Zm y)),.lit (.bool (Zn z)),.lit (.string (Zm z))]
theorem wT {a b:Int} {k:Nat} (ha:(Zm a).size≤k) (hb:(Zm b).size≤k):(Zm (a - b)).size≤k+1:=by
 have h:(Zm (-b)).size≤k:=Aa (iG (by simp)) hb
 have:=fO a (-b) ha h
 rw[← Int.sub_eq_add_neg]at this
 exact this
theorem qG {a b c d:Int} {k:Nat} (ha:(Zm a).size≤k) (hb:(Zm b).size≤k) (hc:(Zm c).size≤k) (hd:(Zm d).size≤k):(Zm (a*b - c*d)).size≤2*k+1 :=
 Aa (wT (aO a b ha hb) (aO c d hc hd)) (by omega)
def oT (p:Pl) (a b x:Pt):Int :=
 0+p.a*((b.y*a.w - a.y*b.w)*(x.z*a.w - a.z*x.w) - (b.z*a.w - a.z*b.w)*(x.y*a.w - a.y*x.w)) +
  p.b*((b.z*a.w - a.z*b.w)*(x.x*a.w - a.x*x.w) - (b.x*a.w - a.x*b.w)*(x.z*a.w - a.z*x.w)) +
  p.c*((b.x*a.w - a.x*b.w)*(x.y*a.w - a.y*x.w) - (b.y*a.w - a.y*b.w)*(x.x*a.w - a.x*x.w))
theorem c265 (s t:Int) (a b:Pt) (hs:(Zm s).size≤100000) (ht:(Zm t).size≤100000) (ha:(Zm a.w).size≤100000) (hb:(Zm b.w).size≤100000):CallOK prog 265 [.agg (eZ s),.agg (eZ t),.fp (eP a),.fp (eP b)] [] (.agg (eZ (s*a.w - t*b.w))) []:=by
 refine zs func265 16 [.cell 6 24] results265 ?_
 simp only[aD,Ac]
 have c1:=aX s a.w (by omega) (by omega)
 have c2:=aX t b.w (by omega) (by omega)
 have e1:=aO s a.w hs ha
 have e2:=aO t b.w ht hb
 have c3:=rJ (s*a.w) (t*b.w) (by omega) (by omega)
 generalize s*a.w=u at *
 generalize t*b.w=v at *
 simp only[eP,e4]
 exact z1
theorem c248 (a b:Pt) (ha:BPt 100000 a) (hb:BPt 100000 b):CallOK prog 248 [.agg (eP a),.agg (eP b)] [] (.agg (e3Z (b.x*a.w - a.x*b.w) (b.y*a.w - a.y*b.w) (b.z*a.w - a.z*b.w))) []:=by
 refine zs func248 26 [.cell 4 121] results248 ?_
 simp only[aD,Ac]
 have kx:=c265 b.x a.x a b hb.out.a ha.out.a ha.out.d hb.out.d
 have ky:=c265 b.y a.y a b hb.out.b ha.out.b ha.out.d hb.out.d
 have kz:=c265 b.z a.z a b hb.out.c ha.out.c ha.out.d hb.out.d
 generalize b.x*a.w - a.x*b.w=u at *
 generalize b.y*a.w - a.y*b.w=v at *
 generalize b.z*a.w - a.z*b.w=w at *
 simp only[eP,e4,eZ]at kx ky kz
 simp only[eP,e4]
 repeat'(first|refine zk ?_|(refine zu ?_ ?_<;>intro hc)|(first|refine bU _ zZ (by simp -dsimp (disch:=try exact zo)only[go_sem];exact kx) (by simp -dsimp (disch:=try exact zo)only[go_sem]) (.agg _ (by simp;exact⟨.lit _,.lit _⟩)) ?_|refine bU _ zZ (by simp -dsimp (disch:=try exact zo)only[go_sem];exact ky) (by simp -dsimp (disch:=try exact zo)only[go_sem]) (.agg _ (by simp;exact⟨.lit _,.lit _⟩)) ?_|refine bU _ zZ (by simp -dsimp (disch:=try exact zo)only[go_sem];exact kz) (by simp -dsimp (disch:=try exact zo)only[go_sem]) (.agg _ (by simp;exact⟨.lit _,.lit _⟩)) ?_)|(refine zv ?_ ?_<;>intro hg)|omega|simp -dsimp (disch:=try exact zo)only[go_sem]|contradiction|rfl)
set_option maxRecDepth 20000 in
theorem c218 (p:Pl) (a b x:Pt) (hp:BPl 1148576 p) (ha:BPt 100000 a) (hb:BPt 100000 b) (hx:BPt 100000 x):CallOK prog 218 [.agg (eH p),.agg (eP a),.agg (eP b),.agg (eP x)] [] (.lit (.int .i64 (sg (oT p a b x)))) []:=by
 refine zs func218 62 [.tmp 8] results218 ?_
 simp only[aD,Ac]
 have hml:maxLen=9223372036854775807:=rfl
 have ku:=c248 a b ha hb
 have kv:=c248 a x ha hx
 have zu0:=qG hb.out.a ha.out.d ha.out.a hb.out.d
 have zu1:=qG hb.out.b ha.out.d ha.out.b hb.out.d
 have zu2:=qG hb.out.c ha.out.d ha.out.c hb.out.d
 have zv0:=qG hx.out.a ha.out.d ha.out.a hx.out.d
 have zv1:=qG hx.out.b ha.out.d ha.out.b hx.out.d
 have zv2:=qG hx.out.c ha.out.d ha.out.c hx.out.d
 have zn0:=hp.out.a
 have zn1:=hp.out.b
 have zn2:=hp.out.c
 unfold oT
 generalize b.x*a.w - a.x*b.w=u0 at *
 generalize b.y*a.w - a.y*b.w=u1 at *
 generalize b.z*a.w - a.z*b.w=u2 at *
 generalize x.x*a.w - a.x*x.w=v0 at *
 generalize x.y*a.w - a.y*x.w=v1 at *
 generalize x.z*a.w - a.z*x.w=v2 at *
 simp only[eH,e4]
 generalize p.a=n0 at *
 generalize p.b=n1 at *
 generalize p.c=n2 at *
 have a0:=aX u1 v2 (by omega) (by omega)
 have b0:=aX u2 v1 (by omega) (by omega)
 have za0:=aO u1 v2 zu1 zv2
 have zb0:=aO u2 v1 zu2 zv1
 have d0:=rJ (u1*v2) (u2*v1) (by omega) (by omega)
 have zd0:=wT za0 zb0
 generalize u1*v2=A0 at *
 generalize u2*v1=B0 at *
 generalize A0 - B0=D0 at *
 have m0:=aX n0 D0 (by omega) (by omega)
 have zm0:=aO n0 D0 zn0 zd0
 generalize n0*D0=M0 at *
 have a1:=aX u2 v0 (by omega) (by omega)
 have b1:=aX u0 v2 (by omega) (by omega)
 have za1:=aO u2 v0 zu2 zv0
 have zb1:=aO u0 v2 zu0 zv2
 have d1:=rJ (u2*v0) (u0*v2) (by omega) (by omega)
 have zd1:=wT za1 zb1
 generalize u2*v0=A1 at *
 generalize u0*v2=B1 at *
 generalize A1 - B1=D1 at *
 have m1:=aX n1 D1 (by omega) (by omega)
 have zm1:=aO n1 D1 zn1 zd1
 generalize n1*D1=M1 at *
 have a2:=aX u0 v1 (by omega) (by omega)
 have b2:=aX u1 v0 (by omega) (by omega)
 have za2:=aO u0 v1 zu0 zv1
 have zb2:=aO u1 v0 zu1 zv0
 have d2:=rJ (u0*v1) (u1*v0) (by omega) (by omega)
 have zd2:=wT za2 zb2
 generalize u0*v1=A2 at *
 generalize u1*v0=B2 at *
 generalize A2 - B2=D2 at *
 have m2:=aX n2 D2 (by omega) (by omega)
 have zm2:=aO n2 D2 zn2 zd2
 generalize n2*D2=M2 at *
 have t0:=nO 0 M0 (by rw[dY];decide) (by omega)
 rw[Ak]at t0
 simp only[Ak]
 have t1:=nO M0 M1 (by omega) (by omega)
 have zt1:=fO M0 M1 (k:=2000000) (by omega) (by omega)
 generalize M0+M1=T1 at *
 have t2:=nO T1 M2 (by omega) (by omega)
 have zt2:=fO T1 M2 (k:=2000001) (by omega) (by omega)
 generalize T1+M2=T2 at *
 have sg2:=e9 T2 (by omega)
 simp only[e3Z]at ku kv
 have hz1:Zn 0=false:=by decide
 have hz2:Zm 0=⟨#[]⟩:=dY
 simp only[eZ,hz1,hz2]at t0
 repeat'(first|refine zg ?_|refine dG 6 ?_|(refine zc ?_ ?_<;>intro hc<;>first|simp only[NM]at hc|omega|skip)|refine zr ?_|(first|refine zf a0 ?_|refine zf b0 ?_|refine zf m0 ?_|refine zf a1 ?_|refine zf b1 ?_|refine zf m1 ?_|refine zf a2 ?_|refine zf b2 ?_|refine zf m2 ?_)|(first|refine zf d0 ?_|refine zf d1 ?_|refine zf d2 ?_)|(first|refine zf t0 ?_|refine zf t1 ?_|refine zf t2 ?_)|(refine zf sg2 ?_)|(first|refine zf ku ?_|refine zf kv ?_)|refine⟨by omega,?_⟩|(refine zb ?_ ?_<;>intro hg<;>(try rw[hg])<;>try simp only[NM]at hg)|omega|simp -dsimp (disch:=try exact zo)only[go_sem,Int.reduceMod,Int.reduceTMod]|contradiction|rfl)
end Go.Proofs.Vx
namespace Go.Proofs.Vx
open Go Go.Sx Go.Proofs Tryz
attribute [local irreducible] fnT CallOK CallFr AW aI callV aL aJ aH aK gcaseP hid
structure Lefts (p:Pl) (vs:List Pt):Prop where
 out:∀ i (hi:i<vs.length) k (hk:k<vs.length) j (hj:j<vs.length),k=(i+1) % vs.length→j≠i→j≠k→0<oT p vs[i] vs[k] vs[j]
theorem c176 (p:Pl) (vs:List Pt) (hn:vs.length≤268435456) (hp:BPl 1148576 p) (hv:∀ v∈vs,BPt 100000 v) (H:Lefts p vs):CallOK prog 176 [.agg (eG p vs)] [] (.lit (.bool true)) []:=by
 refine zs func176 50 [.tmp 2] results176 ?_
 simp only[aD,Ac]
 have hml:maxLen=9223372036854775807:=rfl
 have hl:(vs.map eP).length=vs.length:=Ag _
 have c140w:=fun i hi=>fU p vs i hi hn
 replace hv:=Hid.mk hv
 simp only[eG]at c140w
 simp only[eG]
 replace c140w:=Hid.mk c140w
 repeat'(first|refine zk ?_|(refine zu ?_ ?_<;>intro hc)|(refine zv ?_ ?_<;>intro hg)|omega|simp -dsimp (disch:=try exact zo)only[go_sem,hl]|contradiction|rfl)
 refine AW.loop (fun z:{i:Nat // i≤vs.length}=>⟨[(11,.lit (.int .i64 z.1)),(1,.loc 8 0),(9,.sl (vs.map eP)),(10,.lit (.int .i64 vs.length))],[(8,.blk [.lit (.bool (Zn p.a)),.lit (.string (Zm p.a)),.lit (.bool (Zn p.b)),.lit (.string (Zm p.b)),.lit (.bool (Zn p.c)),.lit (.string (Zm p.c)),.lit (.bool (Zn p.d)),.lit (.string (Zm p.d)),.sl (vs.map eP)])],60⟩) (fun z=>vs.length - z.1) ⟨0,Ae _⟩ zw ?_
 rintro⟨i,hi⟩
 dsimp only
 by_cases hlt:i<vs.length
 ·have ea:=cZ vs i hlt
  have c140v:=c140w.out i hlt
  obtain⟨k,hk⟩:∃ k,k=(i+1) % vs.length:=⟨_,rfl⟩
  rw[← hk]at c140v
  have hkl:k<vs.length:=hk▸Nat.mod_lt _ (by omega)
  have ek:=cZ vs k hkl
  have hb:=hv.out _ (Ab hlt)
  have hbk:=hv.out _ (Ab hkl)
  have hL:=Hid.mk (fun j hj=>H.out i hlt k hkl j hj hk)
  clear hk
  generalize vs[k]=b at *
  generalize vs[i]=a at *
  simp only[eP,e4]at ea ek
  repeat'(first|refine zk ?_|(refine zu ?_ ?_<;>intro hc)|(refine zq c140v ?_)|(refine zv ?_ ?_<;>intro hg)|omega|simp -dsimp (disch:=try exact zo)only[go_sem,hl,ea,ZT]|contradiction|rfl)
  refine AW.loop (fun z:{j:Nat // j≤vs.length}=>⟨[(22,.lit (.int .i64 z.1)),(21,.lit (.int .i64 vs.length)),(20,.sl (vs.map eP)),(3,.lit (.int .i64 i)),(4,.loc 64 0),(5,.lit (.int .i64 k)),(11,.lit (.int .i64 i)),(1,.loc 8 0),(9,.sl (vs.map eP)),(10,.lit (.int .i64 vs.length))],[(64,.blk (eP a)),(8,.blk [.lit (.bool (Zn p.a)),.lit (.string (Zm p.a)),.lit (.bool (Zn p.b)),.lit (.string (Zm p.b)),.lit (.bool (Zn p.c)),.lit (.string (Zm p.c)),.lit (.bool (Zn p.d)),.lit (.string (Zm p.d)),.sl (vs.map eP)])],100⟩) (fun z=>vs.length - z.1) ⟨0,Ae _⟩ zw ?_
  rintro⟨j,hj⟩
  dsimp only
  by_cases hjt:j<vs.length
  ·have ej:=cZ vs j hjt
   have hbj:=hv.out _ (Ab hjt)
   have hlj:=hL.out j hjt
   generalize vs[j]=x at *
   simp only[eP,e4]at ej
   have cl:=c218 p a b x hp hb hbk hbj
   by_cases q1:j=i
   ·have k1:((j:Int)=(i:Int))=True:=eq_true (by omega)
    have k2:True:=trivial
    have k3:True:=trivial
    clear hlj cl
    repeat'(first|refine zk ?_|(refine zu ?_ ?_<;>intro hc)|(refine zf cl ?_)|(refine zv ?_ ?_<;>intro hg)|omega|simp -dsimp (disch:=try exact zo)only[go_sem,hl,ej,ek,k1,k2,k3,ZT]|contradiction|rfl)
    all_goals exact AW.stop ⟨⟨j+1,by omega⟩,zw,by dsimp only;omega⟩
   ·have k1:((j:Int)=(i:Int))=False:=eq_false (by omega)
    by_cases q2:j=k
    ·have k2:((j:Int)=(k:Int))=True:=eq_true (by omega)
     have k3:True:=trivial
     clear hlj cl
     repeat'(first|refine zk ?_|(refine zu ?_ ?_<;>intro hc)|(refine zf cl ?_)|(refine zv ?_ ?_<;>intro hg)|omega|simp -dsimp (disch:=try exact zo)only[go_sem,hl,ej,ek,k1,k2,k3,ZT]|contradiction|rfl)
     all_goals exact AW.stop ⟨⟨j+1,by omega⟩,zw,by dsimp only;omega⟩
    ·have k2:((j:Int)=(k:Int))=False:=eq_false (by omega)
     have hpos:=lL.2 (hlj q1 q2)
     generalize sg (oT p a b x)=s at *
     have k3:(s≤0)=False:=eq_false (by omega)
     clear hlj
     repeat'(first|refine zk ?_|(refine zu ?_ ?_<;>intro hc)|(refine zf cl ?_)|(refine zv ?_ ?_<;>intro hg)|omega|simp -dsimp (disch:=try exact zo)only[go_sem,hl,ej,ek,k1,k2,k3,ZT]|contradiction|rfl)
     all_goals exact AW.stop ⟨⟨j+1,by omega⟩,zw,by dsimp only;omega⟩
  ·have hjl:j=vs.length:=by omega
   subst hjl
   repeat'(first|refine zk ?_|(refine zu ?_ ?_<;>intro hc)|(refine zv ?_ ?_<;>intro hg)|omega|simp -dsimp (disch:=try exact zo)only[go_sem,hl]|contradiction|rfl)
   all_goals exact AW.stop ⟨⟨i+1,by omega⟩,zw,by dsimp only;omega⟩
 ·have hil:i=vs.length:=by omega
  subst hil
  exact z1
end Go.Proofs.Vx
namespace Go.Proofs.Vx
open Go Go.Sx Go.Proofs Tryz
attribute [local irreducible] fnT CallOK CallFr AW aI callV aL aJ aH aK gcaseP hid
theorem b8j:boT prog 26=false∧Tryz.prog.eqGuardType Tryz.prog.depth 26=false∧lfT prog 30 26=some [.b,.s,.b,.s,.b,.s,.b,.s]:=by and_intros<;>kernel_rfl
attribute [go_sem] b8j
structure CanH (p:Pl):Prop where
 nrm:i5 p.a p.b p.c p.d=p
 ne:¬ (p.a=0∧p.b=0∧p.c=0)
structure FineG (p:Pl) (vs:List Pt):Prop where
 ph:CanH p
 can:∀ v∈vs,CanP v
 three:3≤vs.length
 on:∀ v∈vs,aB p v=0
 lefts:Lefts p vs
theorem c168c (p:Pl) (h:CanH p) (hb:BPl 1148576 p):CallOK prog 168 [.agg (eH p)] [] (.tup [.agg (eH p),.lit (.bool true)]) []:=by
 have:=c168 (Zn p.a) (Zm p.a) (Zn p.b) (Zm p.b) (Zn p.c) (Zm p.c) (Zn p.d) (Zm p.d) (Ad hb.out.a (by decide)) (Ad hb.out.b (by decide)) (Ad hb.out.c (by decide)) (Ad hb.out.d (by decide))
 simp only[bA]at this
 rw[if_neg h.ne,h.nrm]at this
 exact this
theorem c117 (p:Pl) (vs:List Pt) (hn:vs.length≤268435456) (hp:BPl 1148576 p) (hv:∀ v∈vs,BPt 100000 v) (H:FineG p vs):CallOK prog 117 [.agg (eG p vs)] [] (.lit (.int .i64 0)) []:=by
 refine zs func117 55 [.tmp 2] results117 ?_
 simp only[aD,Ac]
 have hml:maxLen=9223372036854775807:=rfl
 have hl:(vs.map eP).length=vs.length:=Ag _
 have cn:=c168c p H.ph hp
 have ct:=c176 p vs hn hp hv H.lefts
 have h3':=H.three
 have h3:((vs.length:Int)<3)=False:=eq_false (by omega)
 have hs:=Hid.mk (fun v hv'=>H.on v hv')
 have hcan:=Hid.mk (fun v hv'=>H.can v hv')
 replace hv:=Hid.mk hv
 clear H
 simp only[eG,eH,e4]at cn ct
 simp only[eG]
 have heq:True:=trivial
 repeat'(first|refine zk ?_|(refine zu ?_ ?_<;>intro hc)|(refine zf cn ?_)|(refine zv ?_ ?_<;>intro hg)|omega|simp -dsimp (disch:=try exact zo)only[go_sem,hl,heq]|contradiction|rfl)
 refine AW.loop (fun z:{i:Nat // i≤vs.length}=>⟨[(26,.lit (.int .i64 z.1)),(24,.sl (vs.map eP)),(25,.lit (.int .i64 vs.length)),(1,.loc 8 0)],[(8,.blk [.lit (.bool (Zn p.a)),.lit (.string (Zm p.a)),.lit (.bool (Zn p.b)),.lit (.string (Zm p.b)),.lit (.bool (Zn p.c)),.lit (.string (Zm p.c)),.lit (.bool (Zn p.d)),.lit (.string (Zm p.d)),.sl (vs.map eP)])],60⟩) (fun z=>vs.length - z.1) ⟨0,Ae _⟩ zw ?_
 rintro⟨i,hi⟩
 dsimp only
 by_cases hlt:i<vs.length
 ·have ea:=cZ vs i hlt
  have hb:=hv.out _ (Ab hlt)
  have hcx:=hcan.out _ (Ab hlt)
  generalize vs[i]=x at *
  have cx:=kH x hcx ⟨Aa hb.out.a (by decide),Aa hb.out.b (by decide),Aa hb.out.c (by decide),Aa hb.out.d (by decide)⟩
  simp only[eP,e4]at ea cx
  have heqx:True:=trivial
  repeat'(first|refine zk ?_|(refine zu ?_ ?_<;>intro hc)|(refine zf cx ?_)|(refine zv ?_ ?_<;>intro hg)|omega|simp -dsimp (disch:=try exact zo)only[go_sem,hl,ea,heqx,ZT]|contradiction|rfl)
  all_goals exact AW.stop ⟨⟨i+1,by omega⟩,zw,by dsimp only;omega⟩
 ·have hil:i=vs.length:=by omega
  subst hil
  repeat'(first|refine zk ?_|(refine zu ?_ ?_<;>intro hc)|(refine zv ?_ ?_<;>intro hg)|omega|simp -dsimp (disch:=try exact zo)only[go_sem,hl,h3]|contradiction|rfl)
  refine AW.loop (fun z:{i:Nat // i≤vs.length}=>⟨[(42,.lit (.int .i64 z.1)),(40,.sl (vs.map eP)),(41,.lit (.int .i64 vs.length)),(1,.loc 8 0)],[(8,.blk [.lit (.bool (Zn p.a)),.lit (.string (Zm p.a)),.lit (.bool (Zn p.b)),.lit (.string (Zm p.b)),.lit (.bool (Zn p.c)),.lit (.string (Zm p.c)),.lit (.bool (Zn p.d)),.lit (.string (Zm p.d)),.sl (vs.map eP)])],100⟩) (fun z=>vs.length - z.1) ⟨0,Ae _⟩ zw ?_
  rintro⟨i,hi'⟩
  dsimp only
  by_cases hlt':i<vs.length
  ·have ea:=cZ vs i hlt'
   have hb:=hv.out _ (Ab hlt')
   have hsx:=hs.out _ (Ab hlt')
   generalize vs[i]=x at *
   have cs:=c34 p x (hp.mono (by decide)) (hb.mono (by decide))
   rw[hsx]at cs
   simp only[eP,e4]at ea
   simp only[eH,e4]at cs
   clear hsx
   repeat'(first|refine zk ?_|(refine zu ?_ ?_<;>intro hc)|(refine zf cs ?_)|(refine zv ?_ ?_<;>intro hg)|omega|simp -dsimp (disch:=try exact zo)only[go_sem,hl,ea,ZT]|contradiction|rfl)
   all_goals exact AW.stop ⟨⟨i+1,by omega⟩,zw,by dsimp only;omega⟩
  ·have hil:i=vs.length:=by omega
   subst hil
   exact z1
end Go.Proofs.Vx
