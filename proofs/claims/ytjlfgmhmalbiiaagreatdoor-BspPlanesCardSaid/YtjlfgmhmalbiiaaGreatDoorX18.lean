import Derived.Test.YtjlfgmhmalbiiaaGreatDoorX17
set_option linter.all false
set_option maxHeartbeats 8000000
open Int renaming natAbs_natCast → Ac, mul_neg_of_pos_of_neg → Ak, mul_pos → A7
open List renaming mem_cons → Ad, take_of_length_le → Ae, take_succ_eq_append_getElem → Af, append_inj' → Ah, mem_map → Ai, getD_eq_getElem?_getD → Aj, getElem_append_left → Am, getElem?_eq_getElem → An, nodup_cons → Ap, perm_append_comm → Aq, eq_nil_or_concat → Ar, forall_mem_cons → As, mem_map_of_mem → Au, map_cons → Av, nodup_append → A0, foldl_cons → A3, foldl_nil → A4
open Nat renaming reduceAdd → Aa, le_trans → Ab, gcd_dvd_left → Ag, le_of_dvd → Al, succ_le_succ → Ao, gcd_eq_zero_iff → At, pos_of_ne_zero → Aw, gcd_zero_left → Ax, gcd_dvd_right → Ay, le_succ_of_le → Az, mod_lt → A5, dvd_trans → A6, gcd → A8
namespace Go.Proofs.Vx
open Go Go.Sx Go.Proofs Tryz
attribute [local irreducible] fnT CallOK CallFr AW aK callV aL aJ aI aM gcaseP hid
theorem c0m:agT prog 26=some true∧fdT prog 26 0=some (0,2,true)∧fdT prog 26 1=some (2,2,true)∧fdT prog 26 2=some (4,2,true)∧fdT prog 26 3=some (6,2,true)∧plT prog 26=some [(0,2),(2,2),(4,2),(6,2)]∧bI prog 103=false∧szT prog 26=some 8∧zeT prog 26=some [.lit (.bool false),.lit (.string ⟨#[]⟩),.lit (.bool false),.lit (.string ⟨#[]⟩),.lit (.bool false),.lit (.string ⟨#[]⟩),.lit (.bool false),.lit (.string ⟨#[]⟩)]:=by and_intros<;>kernel_rfl
attribute [go_sem] c0m
theorem c96 (a b c:Rat) (ka:Qs 1073741824 a) (kb:Qs 1073741824 b) (kc:Qs 1073741824 c):CallOK prog 96 [.agg (eV a b c)] [] (.agg (eP (mkP a b c))) []:=by
 refine zs func96 63 [.cell 2 51] results96 ?_
 simp only[aD,Aa]
 have na:=ka.num
 have da:=ka.den'
 have nb:=kb.num
 have db:=kb.den'
 have nc:=kc.num
 have dc:=kc.den'
 have z1:(Zm 1).size≤1:=by rw[bX];decide
 have w1:=aP 1 (a.den:Int) z1 da
 have w2:=aP (1*(a.den:Int)) (b.den:Int) w1 db
 have w3:=aP (1*(a.den:Int)*(b.den:Int)) (c.den:Int) w2 dc
 have qa:=Ab (nA (1*(a.den:Int)*(b.den:Int)*(c.den:Int)) (a.den:Int)) (Ao w3)
 have ra:=aP a.num ((1*(a.den:Int)*(b.den:Int)*(c.den:Int)) / (a.den:Int)) na qa
 have qb:=Ab (nA (1*(a.den:Int)*(b.den:Int)*(c.den:Int)) (b.den:Int)) (Ao w3)
 have rb:=aP b.num ((1*(a.den:Int)*(b.den:Int)*(c.den:Int)) / (b.den:Int)) nb qb
 have qc:=Ab (nA (1*(a.den:Int)*(b.den:Int)*(c.den:Int)) (c.den:Int)) (Ao w3)
 have rc:=aP c.num ((1*(a.den:Int)*(b.den:Int)*(c.den:Int)) / (c.den:Int)) nc qc
 have hbs:Bs 17179869183 (a.num*((1*(a.den:Int)*(b.den:Int)*(c.den:Int)) / (a.den:Int))) (b.num*((1*(a.den:Int)*(b.den:Int)*(c.den:Int)) / (b.den:Int))) (c.num*((1*(a.den:Int)*(b.den:Int)*(c.den:Int)) / (c.den:Int))) (1*(a.den:Int)*(b.den:Int)*(c.den:Int)):=⟨by omega,by omega,by omega,by omega⟩
 repeat'(first|refine zg ?_|refine cK 6 ?_|(refine zc ?_ ?_<;>intro hc<;>try simp only[NM]at hc)|refine zr ?_|(refine zf (c67 1 (by omega)) ?_)|(first|refine zf (c164 a (Qs.mono ka (by omega))) ?_|refine zf (c164 b (Qs.mono kb (by omega))) ?_|refine zf (c164 c (Qs.mono kc (by omega))) ?_)|(first|refine zf (bA (1) ((a.den:Int)) (by omega) (by omega)) ?_|refine zf (bA (1*(a.den:Int)) ((b.den:Int)) (by omega) (by omega)) ?_|refine zf (bA (1*(a.den:Int)*(b.den:Int)) ((c.den:Int)) (by omega) (by omega)) ?_|refine zf (bA (a.num) ((1*(a.den:Int)*(b.den:Int)*(c.den:Int)) / (a.den:Int)) (by omega) (by omega)) ?_|refine zf (bA (b.num) ((1*(a.den:Int)*(b.den:Int)*(c.den:Int)) / (b.den:Int)) (by omega) (by omega)) ?_|refine zf (bA (c.num) ((1*(a.den:Int)*(b.den:Int)*(c.den:Int)) / (c.den:Int)) (by omega) (by omega)) ?_)|(first|refine zf (g6 (1*(a.den:Int)*(b.den:Int)*(c.den:Int)) (a.den:Int) (by omega) (by omega) (fP a)) ?_|refine zf (g6 (1*(a.den:Int)*(b.den:Int)*(c.den:Int)) (b.den:Int) (by omega) (by omega) (fP b)) ?_|refine zf (g6 (1*(a.den:Int)*(b.den:Int)*(c.den:Int)) (c.den:Int) (by omega) (by omega) (fP c)) ?_)|(refine zf (c98z _ _ _ _ hbs) ?_)|refine⟨by omega,?_⟩|(refine zb ?_ ?_<;>intro hg<;>(try rw[hg])<;>try simp only[NM]at hg)|omega|simp -dsimp (disch:=try exact zo)only[go_sem]|contradiction|rfl)
theorem c72 (n1:Bool) (m1:ByteArray) (n2:Bool) (m2:ByteArray) (n3:Bool) (m3:ByteArray) (n4:Bool) (m4:ByteArray):CallOK prog 72 [.agg [.lit (.bool n1),.lit (.string m1),.lit (.bool n2),.lit (.string m2),.lit (.bool n3),.lit (.string m3),.lit (.bool n4),.lit (.string m4)]] [] (.agg [.lit (.bool n1),.lit (.string m1),.lit (.bool n2),.lit (.string m2),.lit (.bool n3),.lit (.string m3),.lit (.bool n4),.lit (.string m4)]) []:=by
 refine zs func72 12 [.cell 2 95] results72 ?_
 simp only[aD,Aa]
 exact z1
theorem c74 (n1:Bool) (m1:ByteArray) (n2:Bool) (m2:ByteArray) (n3:Bool) (m3:ByteArray) (n4:Bool) (m4:ByteArray):CallOK prog 74 [.agg [.lit (.bool n1),.lit (.string m1),.lit (.bool n2),.lit (.string m2),.lit (.bool n3),.lit (.string m3),.lit (.bool n4),.lit (.string m4)]] [] (.agg [.lit (.bool n1),.lit (.string m1),.lit (.bool n2),.lit (.string m2),.lit (.bool n3),.lit (.string m3),.lit (.bool n4),.lit (.string m4)]) []:=by
 refine zs func74 12 [.cell 2 26] results74 ?_
 simp only[aD,Aa]
 exact z1
def g3 (x y z:Int):Nat:=A8 (A8 x.natAbs y.natAbs) z.natAbs
theorem uG {x y z:Int}:g3 x y z=0↔x=0∧y=0∧z=0:=by
 unfold g3
 rw[At,At]
 omega
theorem b2p (x y z w:Int):g4 x y z w=A8 (g3 x y z) w.natAbs:=rfl
theorem tO (n:Bool) (m:ByteArray):(iv n m).natAbs=nv m:=by unfold iv;cases n<;>simp
theorem nL (n:Bool) (m:ByteArray) (b:Int) (ha:m.size<68719476736) (hb:(Zm b).size<68719476736) (h:b≠0):CallOK prog 165 [.agg (eI n m),.agg (eZ b)] [] (.tup [.agg (eZ (iv n m / b)),.agg (eZ (iv n m % b)),.lit (.bool true)]) []:=by
 have:=c165 n m (Zn b) (Zm b) ha hb
 rwa [bB,if_neg h]at this
theorem b2z (l:List RI) (k:Nat) (hk:jM l=k) (h:∀ p∈l,p.2.size<68719476736) (hn:l.length<1099511627776):CallOK prog 167 [.sl (ris l)] [] (.agg (eZ (k:Int))) []:=by
 subst hk;exact c167 l h hn
theorem c168 (n1:Bool) (m1:ByteArray) (n2:Bool) (m2:ByteArray) (n3:Bool) (m3:ByteArray) (n4:Bool) (m4:ByteArray) (h1:m1.size<17179869184) (h2:m2.size<17179869184) (h3:m3.size<17179869184) (h4:m4.size<17179869184):CallOK prog 168 [.agg [.lit (.bool n1),.lit (.string m1),.lit (.bool n2),.lit (.string m2),.lit (.bool n3),.lit (.string m3),.lit (.bool n4),.lit (.string m4)]] [] (if iv n1 m1=0∧iv n2 m2=0∧iv n3 m3=0 then .tup [.agg (eH ⟨0,0,0,0⟩),.lit (.bool false)]else .tup [.agg (eH (kY (iv n1 m1) (iv n2 m2) (iv n3 m3) (iv n4 m4))),.lit (.bool true)]) []:=by
 refine CallOK.flat func168 rfl 33 rfl rfl (by split<;>rfl) [.cell 2 26,.tmp 3] (congrArg Array.toList results168) ?_
 simp only[aD,Aa]
 have cg3:=b2z [(n1,m1),(n2,m2),(n3,m3)] (g3 (iv n1 m1) (iv n2 m2) (iv n3 m3)) (by simp only[jM,A3,A4,Ax,g3,tO]) (by simp only[As];exact⟨by omega,by omega,by omega,by simp⟩) (by simp)
 have cg4:=b2z [(n1,m1),(n2,m2),(n3,m3),(n4,m4)] (g4 (iv n1 m1) (iv n2 m2) (iv n3 m3) (iv n4 m4)) (by simp only[jM,A3,A4,Ax,g4,tO]) (by simp only[As];exact⟨by omega,by omega,by omega,by omega,by simp⟩) (by simp)
 simp only[ris,Av,List.map_nil]at cg3 cg4
 have t1:=eJ n1 m1
 have t2:=eJ n2 m2
 have t3:=eJ n3 m3
 generalize hx:iv n1 m1=x at *
 generalize hy:iv n2 m2=y at *
 generalize hz:iv n3 m3=z at *
 generalize hw:iv n4 m4=w at *
 have hle:(Zm (g3 x y z:Int)).size≤17179869184:=by
  by_cases h0:g3 x y z=0
  ·rw[h0];rw[show ((0:Nat):Int)=0 from rfl,eF];exact Nat.zero_le _
  ·have hd:g3 x y z∣x.natAbs:=A6 (Ag _ _) (Ag _ _)
   have hd2:g3 x y z∣y.natAbs:=A6 (Ag _ _) (Ay _ _)
   have hd3:g3 x y z∣z.natAbs:=Ay _ _
   by_cases hx0:x=0
   ·by_cases hy0:y=0
    ·have hz0:z≠0:=fun h=>h0 (uG.2 ⟨hx0,hy0,h⟩)
     have:(Zm (g3 x y z:Int)).size≤(Zm z).size:=jD (by rw[Ac];exact Al (by omega) hd3)
     omega
    ·have:(Zm (g3 x y z:Int)).size≤(Zm y).size:=jD (by rw[Ac];exact Al (by omega) hd2)
     omega
   ·have:(Zm (g3 x y z:Int)).size≤(Zm x).size:=jD (by rw[Ac];exact Al (by omega) hd)
    omega
 by_cases h0:x=0∧y=0∧z=0
 ·rw[if_pos h0]
  have hs3:(sg (g3 x y z:Int)=0)=True:=eq_true (gN.2 (by rw[uG.2 h0];rfl))
  have ez:eH ⟨0,0,0,0⟩=[.lit (.bool false),.lit (.string ⟨#[]⟩),.lit (.bool false),.lit (.string ⟨#[]⟩),.lit (.bool false),.lit (.string ⟨#[]⟩),.lit (.bool false),.lit (.string ⟨#[]⟩)]:=by simp[eH,Zn,Zm,eB]
  have hg0:True:=trivial
  rw[ez]
  clear h0
  repeat'(first|refine zg ?_|refine cK 6 ?_|(refine zc ?_ ?_<;>intro hc<;>try simp only[NM]at hc)|refine zr ?_|(refine zf (c72 n1 m1 n2 m2 n3 m3 n4 m4) ?_)|(first|refine dY (.agg (eZ (g3 x y z:Int))) oG (by simp -dsimp (disch:=try exact zo)only[go_sem];exact cg3) (by simp -dsimp (disch:=try exact zo)only[go_sem]) (.agg _ (by simp;exact⟨.lit _,.lit _⟩)) ?_|refine dY (.agg (eZ (g4 x y z w:Int))) oG (by simp -dsimp (disch:=try exact zo)only[go_sem];exact cg4) (by simp -dsimp (disch:=try exact zo)only[go_sem]) (.agg _ (by simp;exact⟨.lit _,.lit _⟩)) ?_)|(refine zf (fZ (g3 x y z:Int) (by omega)) ?_)|(first|refine zf (hx▸nL n1 m1 (g4 x y z w:Int) (by omega) (by omega) hg0) ?_|refine zf (hy▸nL n2 m2 (g4 x y z w:Int) (by omega) (by omega) hg0) ?_|refine zf (hz▸nL n3 m3 (g4 x y z w:Int) (by omega) (by omega) hg0) ?_|refine zf (hw▸nL n4 m4 (g4 x y z w:Int) (by omega) (by omega) hg0) ?_)|(refine zf (c74 _ _ _ _ _ _ _ _) ?_)|refine⟨by omega,?_⟩|(refine zb ?_ ?_<;>intro hg<;>(try rw[hg])<;>try simp only[NM]at hg)|omega|simp -dsimp (disch:=try exact zo)only[go_sem,hs3]|contradiction|rfl)
 ·rw[if_neg h0]
  have hs3:(sg (g3 x y z:Int)=0)=False:=eq_false fun h=>h0 (uG.1 (by have:=gN.1 h;omega))
  have hgp:0<g4 x y z w:=by
   rw[b2p]
   exact Nat.gcd_pos_of_pos_left _ (Aw fun h=>h0 (uG.1 h))
  have hg0:(g4 x y z w:Int)≠0:=by omega
  have s6:(Zm (g4 x y z w:Int)).size≤17179869184:=by
   refine Ab (jD ?_) hle
   rw[Ac,Ac,b2p]
   exact Al (Aw fun h=>h0 (uG.1 h)) (Ag _ _)
  unfold kY
  clear h0
  repeat'(first|refine zg ?_|refine cK 6 ?_|(refine zc ?_ ?_<;>intro hc<;>try simp only[NM]at hc)|refine zr ?_|(refine zf (c72 n1 m1 n2 m2 n3 m3 n4 m4) ?_)|(first|refine dY (.agg (eZ (g3 x y z:Int))) oG (by simp -dsimp (disch:=try exact zo)only[go_sem];exact cg3) (by simp -dsimp (disch:=try exact zo)only[go_sem]) (.agg _ (by simp;exact⟨.lit _,.lit _⟩)) ?_|refine dY (.agg (eZ (g4 x y z w:Int))) oG (by simp -dsimp (disch:=try exact zo)only[go_sem];exact cg4) (by simp -dsimp (disch:=try exact zo)only[go_sem]) (.agg _ (by simp;exact⟨.lit _,.lit _⟩)) ?_)|(refine zf (fZ (g3 x y z:Int) (by omega)) ?_)|(first|refine zf (hx▸nL n1 m1 (g4 x y z w:Int) (by omega) (by omega) hg0) ?_|refine zf (hy▸nL n2 m2 (g4 x y z w:Int) (by omega) (by omega) hg0) ?_|refine zf (hz▸nL n3 m3 (g4 x y z w:Int) (by omega) (by omega) hg0) ?_|refine zf (hw▸nL n4 m4 (g4 x y z w:Int) (by omega) (by omega) hg0) ?_)|(refine zf (c74 _ _ _ _ _ _ _ _) ?_)|refine⟨by omega,?_⟩|(refine zb ?_ ?_<;>intro hg<;>(try rw[hg])<;>try simp only[NM]at hg)|omega|simp -dsimp (disch:=try exact zo)only[go_sem,hs3]|contradiction|rfl)
end Go.Proofs.Vx
namespace Go.Sx
set_option linter.unusedVariables false
theorem yN (a b:Int):decide (Zn a=Zn b∧Zm a=Zm b)=decide (a=b):=by
 by_cases h:a=b
 ·subst h;simp
 ·have:¬ (Zn a=Zn b∧Zm a=Zm b):=fun h'=>h (rG h'.1 h'.2)
  simp[h,this]
theorem eq4 (a b c d a' b' c' d' : Int) : jN [.lit (.bool (Zn a)), .lit (.string (Zm a)), .lit (.bool (Zn b)), .lit (.string (Zm b)), .lit (.bool (Zn c)), .lit (.string (Zm c)), .lit (.bool (Zn d)), .lit (.string (Zm d))]
  [.lit (.bool (Zn a')),.lit (.string (Zm a')),.lit (.bool (Zn b')),.lit (.string (Zm b')),.lit (.bool (Zn c')),.lit (.string (Zm c')),.lit (.bool (Zn d')),.lit (.string (Zm d'))]=decide (a=a'∧b=b'∧c=c'∧d=d'):=by
 have h1:=yN a a'
 have h2:=yN b b'
 have h3:=yN c c'
 have h4:=yN d d'
 simp only[jN,ceq,Bool.and_true]
 simp only[decide_eq_decide]at h1 h2 h3 h4
 rw[Bool.eq_iff_iff]
 simp only[Bool.and_eq_true,beq_iff_eq,decide_eq_true_eq]
 constructor
 ·rintro⟨q1,q2,q3,q4,q5,q6,q7,q8⟩
  exact⟨h1.1 ⟨q1,q2⟩,h2.1 ⟨q3,q4⟩,h3.1 ⟨q5,q6⟩,h4.1 ⟨q7,q8⟩⟩
 ·rintro⟨rfl,rfl,rfl,rfl⟩
  simp
attribute [go_sem ↓] eq4
def abv (p:Pl) (x:Pt):Int:=p.a*x.x+p.b*x.y+p.c*x.z - p.d*x.w
def aC (p:Pl) (x:Pt):Int:=sg (abv p x)
def aY (p:Pl):Pl:=⟨-p.a,-p.b,-p.c,-p.d⟩
theorem a1n (p:Pl) (x:Pt):abv (aY p) x=- abv p x:=by unfold abv aY;simp only[Int.neg_mul];omega
def bT (p:Pl) (a b:Pt):Pt:=nrm (a.x*abv p b - b.x*abv p a) (a.y*abv p b - b.y*abv p a) (a.z*abv p b - b.z*abv p a) (a.w*abv p b - b.w*abv p a)
structure BPt (k:Nat) (p:Pt):Prop where
 out:Bs k p.x p.y p.z p.w
structure BPl (k:Nat) (p:Pl):Prop where
 out:Bs k p.a p.b p.c p.d
theorem BPt.mono {k l:Nat} {p:Pt} (h:BPt k p) (hl:k≤l):BPt l p:=⟨⟨Ab h.out.a hl,Ab h.out.b hl,Ab h.out.c hl,Ab h.out.d hl⟩⟩
theorem BPl.mono {k l:Nat} {p:Pl} (h:BPl k p) (hl:k≤l):BPl l p:=⟨⟨Ab h.out.a hl,Ab h.out.b hl,Ab h.out.c hl,Ab h.out.d hl⟩⟩
theorem xT {p:Pl} {x:Pt} {k l:Nat} (hp:BPl k p) (hx:BPt l x):(Zm (abv p x)).size≤k+l+3:=by
 have h1:=aP p.a x.x hp.out.a hx.out.a
 have h2:=aP p.b x.y hp.out.b hx.out.b
 have h3:=aP p.c x.z hp.out.c hx.out.c
 have h4:=aP p.d x.w hp.out.d hx.out.d
 exact kE _ _ (gY _ _ (gY _ _ h1 h2) (by omega)) (by omega)
theorem BPl.neg {k:Nat} {p:Pl} (h:BPl k p):BPl k (aY p):=⟨⟨by simpa [aY,iS]using h.out.a,by simpa [aY,iS]using h.out.b,by simpa [aY,iS]using h.out.c,by simpa [aY,iS]using h.out.d⟩⟩
theorem c7h {p:Pl} {a b:Pt} {k l:Nat} (hp:BPl k p) (ha:BPt l a) (hb:BPt l b):BPt (k+2*l+4) (bT p a b):=by
 have h1:=xT hp ha
 have h2:=xT hp hb
 have key:∀ x y:Int,(Zm x).size≤l→(Zm y).size≤l→(Zm (x*abv p b - y*abv p a)).size≤k+2*l+4:=fun x y hx hy =>
  Ab (kE _ _ (aP x _ hx h2) (aP y _ hy h1)) (by omega)
 exact⟨d1b ⟨key _ _ ha.out.a hb.out.a,key _ _ ha.out.b hb.out.b,key _ _ ha.out.c hb.out.c,key _ _ ha.out.d hb.out.d⟩ (by omega)⟩
theorem a7g (p:Pl) (a b:Pt):CanP (bT p a b):=zQ _ _ _ _
end Go.Sx
namespace Go.Proofs.Vx
open Go Go.Sx Go.Proofs Tryz
attribute [local irreducible] fnT CallOK CallFr AW aK callV aL aJ aI aM gcaseP hid
theorem c0l:agT prog 193=some true∧arT prog 193=some (3,2,true)∧plT prog 193=some [(0,2),(2,2),(4,2)]∧slT prog 193=none∧szT prog 193=some 6∧zeT prog 193=some [.lit (.bool false),.lit (.string ⟨#[]⟩),.lit (.bool false),.lit (.string ⟨#[]⟩),.lit (.bool false),.lit (.string ⟨#[]⟩)]:=by and_intros<;>kernel_rfl
attribute [go_sem] c0l
theorem c34 (p:Pl) (x:Pt) (hp:BPl 1073741824 p) (hx:BPt 1073741824 x):CallOK prog 34 [.agg (eH p),.agg (eP x)] [] (.lit (.int .i64 (aC p x))) []:=by
 refine zs func34 30 [.tmp 4] results34 ?_
 simp only[aD,Aa]
 have sp1:=hp.out.a
 have sp2:=hp.out.b
 have sp3:=hp.out.c
 have sp4:=hp.out.d
 have sx1:=hx.out.a
 have sx2:=hx.out.b
 have sx3:=hx.out.c
 have sx4:=hx.out.d
 have m1:=aP (p.a) (x.x) sp1 sx1
 have m2:=aP (p.b) (x.y) sp2 sx2
 have m3:=aP (p.c) (x.z) sp3 sx3
 have m4:=aP (p.d) (x.w) sp4 sx4
 have u1:=gY _ _ m1 m2
 have u2:=gY _ _ u1 (Az m3)
 try have zh0:=(bA (p.a) (x.x) (by omega) (by omega))
 try have zh1:=(bA (p.b) (x.y) (by omega) (by omega))
 try have zh2:=(bA (p.c) (x.z) (by omega) (by omega))
 try have zh3:=(bA (p.d) (x.w) (by omega) (by omega))
 try have zh4:=(sL (p.a*x.x) (p.b*x.y) (by omega) (by omega))
 try have zh5:=(sL (p.a*x.x+p.b*x.y) (p.c*x.z) (by omega) (by omega))
 try have zh6:=(fE (p.a*x.x+p.b*x.y+p.c*x.z) (p.d*x.w) (by omega) (by omega))
 exact z1
theorem c22 (p:Pl) (hp:BPl 1073741824 p):CallOK prog 22 [.agg (eH p)] [] (.agg (eH (aY p))) []:=by
 refine zs func22 19 [.cell 2 26] results22 ?_
 simp only[aD,Aa]
 have sp1:=hp.out.a
 have sp2:=hp.out.b
 have sp3:=hp.out.c
 have sp4:=hp.out.d
 unfold aY
 repeat'(first|refine zg ?_|refine cK 6 ?_|(refine zc ?_ ?_<;>intro hc<;>try simp only[NM]at hc)|refine zr ?_|(refine zf (c72 _ _ _ _ _ _ _ _) ?_)|(first|refine zf (gI p.a (by omega)) ?_|refine zf (gI p.b (by omega)) ?_|refine zf (gI p.c (by omega)) ?_|refine zf (gI p.d (by omega)) ?_)|(refine zf (c74 _ _ _ _ _ _ _ _) ?_)|refine⟨by omega,?_⟩|(refine zb ?_ ?_<;>intro hg<;>(try rw[hg])<;>try simp only[NM]at hg)|omega|simp -dsimp (disch:=try exact zo)only[go_sem]|contradiction|rfl)
theorem b3t:(Zm 0).size=0:=vO
theorem c82e (x:Int) (h:(Zm x).size<68719476736):CallOK prog 82 [.agg [.lit (.bool false),.lit (.string ⟨#[]⟩)],.agg (eZ x)] [] (.agg (eZ x)) []:=by
 have:=sL 0 x (by rw[b3t];omega) h
 rw[Int.zero_add]at this
 simpa only[eZ,eF,lS (Int.le_refl 0)]using this
theorem c233 (p:Pl):CallOK prog 233 [.agg (eH p)] [] (.agg [.lit (.bool (Zn p.a)),.lit (.string (Zm p.a)),.lit (.bool (Zn p.b)),.lit (.string (Zm p.b)),.lit (.bool (Zn p.c)),.lit (.string (Zm p.c))]) []:=by
 refine zs func233 10 [.cell 2 193] results233 ?_
 simp only[aD,Aa]
 exact z1
theorem c232 (a b c x y z:Int) (h1:(Zm a).size≤1073741824) (h2:(Zm b).size≤1073741824) (h3:(Zm c).size≤1073741824) (k1:(Zm x).size≤1073741824) (k2:(Zm y).size≤1073741824) (k3:(Zm z).size≤1073741824):CallOK prog 232 [.agg [.lit (.bool (Zn a)),.lit (.string (Zm a)),.lit (.bool (Zn b)),.lit (.string (Zm b)),.lit (.bool (Zn c)),.lit (.string (Zm c))],.agg [.lit (.bool (Zn x)),.lit (.string (Zm x)),.lit (.bool (Zn y)),.lit (.string (Zm y)),.lit (.bool (Zn z)),.lit (.string (Zm z))]] [] (.agg (eZ (a*x+b*y+c*z))) []:=by
 refine zs func232 21 [.cell 4 24] results232 ?_
 simp only[aD,Aa]
 have m1:=aP a x h1 k1
 have m2:=aP b y h2 k2
 have m3:=aP c z h3 k3
 have u1:=gY (a*x) (b*y) m1 m2
 try have zh0:=(bA (a) (x) (by omega) (by omega))
 try have zh1:=(bA (b) (y) (by omega) (by omega))
 try have zh2:=(bA (c) (z) (by omega) (by omega))
 try have zh3:=(c82e (a*x) (by omega))
 try have zh4:=(sL (a*x) (b*y) (by omega) (by omega))
 try have zh5:=(sL (a*x+b*y) (c*z) (by omega) (by omega))
 exact z1f
theorem c187 (x y z w:Int) (hb:Bs 17179869183 x y z w) (hw:w≠0):CallOK prog 187 [.agg [.lit (.bool (Zn x)),.lit (.string (Zm x)),.lit (.bool (Zn y)),.lit (.string (Zm y)),.lit (.bool (Zn z)),.lit (.string (Zm z))],.agg (eZ w)] [] (.tup [.agg (eP (nrm x y z w)),.lit (.bool true)]) []:=by
 refine zs func187 19 [.cell 4 51,.tmp 5] results187 ?_
 simp only[aD,Aa]
 have sw:=hb.d
 have hs:(sg w=0)=False:=eq_false fun h=>hw (gN.1 h)
 try have zh0:=(fZ w (by omega))
 try have zh1:=(c98z x y z w hb)
 exact z1
theorem c185 (p:Pl) (x:Pt) (hp:BPl 1073741824 p) (hx:BPt 1073741824 x):CallOK prog 185 [.agg (eH p),.agg (eP x)] [] (.agg (eZ (abv p x))) []:=by
 refine zs func185 21 [.cell 4 24] results185 ?_
 simp only[aD,Aa]
 have sp1:=hp.out.a
 have sp2:=hp.out.b
 have sp3:=hp.out.c
 have sp4:=hp.out.d
 have sx1:=hx.out.a
 have sx2:=hx.out.b
 have sx3:=hx.out.c
 have sx4:=hx.out.d
 have m1:=aP (p.a) (x.x) sp1 sx1
 have m2:=aP (p.b) (x.y) sp2 sx2
 have m3:=aP (p.c) (x.z) sp3 sx3
 have m4:=aP (p.d) (x.w) sp4 sx4
 have u1:=gY _ _ m1 m2
 have u2:=gY _ _ u1 (Az m3)
 try have zh0:=(c233 p)
 try have zh1:=(c232 p.a p.b p.c x.x x.y x.z sp1 sp2 sp3 sx1 sx2 sx3)
 try have zh2:=(bA p.d x.w (by omega) (by omega))
 try have zh3:=(b3a (p.a*x.x+p.b*x.y+p.c*x.z) (p.d*x.w) (by omega) (by omega))
 exact z1
end Go.Proofs.Vx
namespace Go.Proofs.Vx
open Go Go.Sx Go.Proofs Tryz
attribute [local irreducible] fnT CallOK CallFr AW aK callV aL aJ aI aM gcaseP hid
theorem c0k:boT prog 51=false∧Tryz.prog.eqGuardType Tryz.prog.depth 51=false∧lfT prog 30 51=some [.b,.s,.b,.s,.b,.s,.b,.s]:=by and_intros<;>kernel_rfl
attribute [go_sem] c0k
theorem xF:fnT prog 186=true:=by kernel_rfl
theorem c186 (x y t s:Int) (hx:(Zm x).size≤4294967296) (hy:(Zm y).size≤4294967296) (ht:(Zm t).size≤4294967296) (hs:(Zm s).size≤4294967296):CallOK prog 186 [.agg (eZ x),.agg (eZ y),.fp (eZ t),.fp (eZ s)] [] (.agg (eZ (x*t - y*s))) []:=by
 refine zs func186 14 [.cell 6 24] results186 ?_
 simp only[aD,Aa]
 have m1:=aP x t hx ht
 have m2:=aP y s hy hs
 try have zh0:=(bA x t (by omega) (by omega))
 try have zh1:=(bA y s (by omega) (by omega))
 try have zh2:=(b3a (x*t) (y*s) (by omega) (by omega))
 exact z1
theorem gS (p:Pl) (a b:Pt) (hp:BPl 1073741824 p) (ha:BPt 1073741824 a) (hb:BPt 1073741824 b) (hab:a≠b) (hw:a.w*abv p b - b.w*abv p a≠0):CallOK prog 141 [.agg (eH p),.agg (eP a),.agg (eP b)] [] (.tup [.agg (eP (bT p a b)),.lit (.bool true)]) []:=by
 refine zs func141 50 [.cell 6 51,.tmp 7] results141 ?_
 simp only[aD,Aa]
 have hne:(a.x=b.x∧a.y=b.y∧a.z=b.z∧a.w=b.w)=False:=eq_false fun h=>hab (by cases a;cases b;simp at h;simp[h])
 have va:=xT hp ha
 have vb:=xT hp hb
 have sa1:=ha.out.a
 have sa2:=ha.out.b
 have sa3:=ha.out.c
 have sa4:=ha.out.d
 have sb1:=hb.out.a
 have sb2:=hb.out.b
 have sb3:=hb.out.c
 have sb4:=hb.out.d
 have mx:=aP a.x _ sa1 vb
 have nx:=aP b.x _ sb1 va
 have qx:=kE _ _ mx nx
 have my:=aP a.y _ sa2 vb
 have ny:=aP b.y _ sb2 va
 have qy:=kE _ _ my ny
 have mz:=aP a.z _ sa3 vb
 have nz:=aP b.z _ sb3 va
 have qz:=kE _ _ mz nz
 have mw:=aP a.w _ sa4 vb
 have nw:=aP b.w _ sb4 va
 have qw:=kE _ _ mw nw
 have hbs:Bs 17179869183 (a.x*abv p b - b.x*abv p a) (a.y*abv p b - b.y*abv p a) (a.z*abv p b - b.z*abv p a) (a.w*abv p b - b.w*abv p a):=⟨by omega,by omega,by omega,by omega⟩
 unfold bT
 repeat'(first|refine zk ?_|(refine zu ?_ ?_<;>intro hc)|(first|refine zf (c185 p a hp ha) ?_|refine zf (c185 p b hp hb) ?_)|(first|refine dY (.agg (eZ (a.x*abv p b - b.x*abv p a))) xF (by simp -dsimp (disch:=try exact zo)only[go_sem];exact c186 a.x b.x (abv p b) (abv p a) (by omega) (by omega) (by omega) (by omega)) (by simp -dsimp (disch:=try exact zo)only[go_sem]) (.agg _ (by simp;exact⟨.lit _,.lit _⟩)) ?_|refine dY (.agg (eZ (a.y*abv p b - b.y*abv p a))) xF (by simp -dsimp (disch:=try exact zo)only[go_sem];exact c186 a.y b.y (abv p b) (abv p a) (by omega) (by omega) (by omega) (by omega)) (by simp -dsimp (disch:=try exact zo)only[go_sem]) (.agg _ (by simp;exact⟨.lit _,.lit _⟩)) ?_|refine dY (.agg (eZ (a.z*abv p b - b.z*abv p a))) xF (by simp -dsimp (disch:=try exact zo)only[go_sem];exact c186 a.z b.z (abv p b) (abv p a) (by omega) (by omega) (by omega) (by omega)) (by simp -dsimp (disch:=try exact zo)only[go_sem]) (.agg _ (by simp;exact⟨.lit _,.lit _⟩)) ?_|refine dY (.agg (eZ (a.w*abv p b - b.w*abv p a))) xF (by simp -dsimp (disch:=try exact zo)only[go_sem];exact c186 a.w b.w (abv p b) (abv p a) (by omega) (by omega) (by omega) (by omega)) (by simp -dsimp (disch:=try exact zo)only[go_sem]) (.agg _ (by simp;exact⟨.lit _,.lit _⟩)) ?_)|(refine zf (c187 _ _ _ _ hbs hw) ?_)|(refine zv ?_ ?_<;>intro hg)|omega|simp -dsimp (disch:=try exact zo)only[go_sem,hne]|contradiction|rfl)
end Go.Proofs.Vx
namespace Geo
variable {α β:Type}
def aN:List α→List (α × α)
 | []=>[]
 | [_]=>[]
 | a::b::t=>(a,b)::aN (b::t)
def edges:List α→List (α × α)
 | []=>[]
 | x::t=>aN (x::t++[x])
theorem mZ (l:List α) (m:α) (r:List α):aN (l++m::r)=aN (l++[m])++aN (m::r):=by
 induction l with
 | nil=>simp[aN]
 | cons a l ih=>cases l with
  | nil=>simp[aN]
  | cons b l=>simpa [aN]using ih
theorem mV (a b:α) (A B:List α):edges (a::A++b::B)=aN (a::A++[b])++aN (b::B++[a]):=by
 have:=mZ (a::A) b (B++[a])
 simpa [edges]using this
theorem tQ (A B:List α):(edges (A++B)).Perm (edges (B++A)):=by
 cases A with
 | nil=>simp
 | cons a A=>cases B with
  | nil=>simp
  | cons b B=>rw[mV,mV];exact Aq
theorem tY (l:List α) (x:α):(aN (l++[x])).map (·.1)=l:=by
 induction l with
 | nil=>rfl
 | cons a l ih=>cases l with
  | nil=>rfl
  | cons b l=>simpa [aN]using ih
theorem tX (x:α) (l:List α):(aN (x::l)).map (·.2)=l:=by
 induction l generalizing x with
 | nil=>rfl
 | cons a l ih=>simpa [aN]using ih a
theorem i7 (l:List α):(edges l).map (·.1)=l:=by
 cases l with
 | nil=>rfl
 | cons x t=>exact tY (x::t) x
theorem wN (l:List α):((edges l).map (·.2)).Perm l:=by
 cases l with
 | nil=>exact List.Perm.refl _
 | cons x t =>
  show ((aN (x::(t++[x]))).map (·.2)).Perm _
  rw[tX]
  exact List.perm_append_singleton x t
theorem gA (l:List α):(edges l).length=l.length:=by
 have:=congrArg List.length (i7 l);simpa using this
theorem bJ {l:List α} {e:α × α} (h:e∈edges l):e.1∈l:=by
 have:=Au (f:=(·.1)) h;rwa [i7]at this
theorem bO {l:List α} {e:α × α} (h:e∈edges l):e.2∈l :=
 (wN l).mem_iff.1 (Au (f:=(·.2)) h)
theorem qT {l:List α} {a:α} (h:a∈l):∃ b,(a,b)∈edges l:=by
 rw[← i7 l]at h
 obtain⟨e,he,rfl⟩:=Ai.1 h
 exact⟨e.2,he⟩
theorem d1p {l:List α} {a:α} (h:a∈l):∃ b,(b,a)∈edges l:=by
 have h:=(wN l).mem_iff.2 h
 obtain⟨e,he,rfl⟩:=Ai.1 h
 exact⟨e.1,he⟩
theorem sX {f:α→β} {l:List α} (h:(l.map f).Nodup) {a b:α} (ha:a∈l) (hb:b∈l) (e:f a=f b):a=b:=by
 induction l with
 | nil=>simp at ha
 | cons x l ih =>
  simp only[Av,Ap,Ai,not_exists,not_and]at h
  rcases Ad.1 ha with ea|ma<;>rcases Ad.1 hb with eb|mb
  ·rw[ea,eb]
  ·exact absurd (by rw[← e,ea]) (h.1 _ mb)
  ·exact absurd (by rw[e,eb]) (h.1 _ ma)
  ·exact ih h.2 ma mb
theorem a4r {l:List α} (h:l.Nodup) {a b c:α} (h1:(a,b)∈edges l) (h2:(a,c)∈edges l):b=c:=by
 have:=sX (f:=(·.1)) (by rw[i7];exact h) h1 h2 rfl
 exact congrArg (·.2) this
theorem yY {f:α→β} {l:List α} (h:(l.map f).Nodup):l.Nodup:=by
 induction l with
 | nil=>simp
 | cons x l ih =>
  simp only[Av,Ap,Ai,not_exists,not_and]at h ⊢
  exact⟨fun hx=>h.1 x hx rfl,ih h.2⟩
theorem tA {l:List α} (h:l.Nodup):(edges l).Nodup:=by
 have:((edges l).map (·.1)).Nodup:=by rw[i7];exact h
 exact yY this
theorem c1v (f:α→β) (l:List α):aN (l.map f)=(aN l).map (fun e=>(f e.1,f e.2)):=by
 induction l with
 | nil=>rfl
 | cons a l ih=>cases l with
  | nil=>rfl
  | cons b l=>simpa [aN]using ih
theorem zX (f:α→β) (l:List α):edges (l.map f)=(edges l).map (fun e=>(f e.1,f e.2)):=by
 cases l with
 | nil=>rfl
 | cons a l=>have:=c1v f (a::l++[a]);simpa [edges]using this
theorem b3i (A:List α) (x y:α) (B:List α):(x,y)∈aN (A++x::y::B):=by
 rw[mZ];simp[aN]
theorem tE {l:List α} {e:α × α} (h:e∈aN l):∃ A B,l=A++e.1::e.2::B:=by
 induction l with
 | nil=>simp[aN]at h
 | cons a l ih=>cases l with
  | nil=>simp[aN]at h
  | cons b l =>
   simp only[aN,Ad]at h
   rcases h with rfl|h
   ·exact⟨[],l,rfl⟩
   ·obtain⟨A,B,hAB⟩:=ih h
    exact⟨a::A,B,by rw[hAB];rfl⟩
theorem c3s {l:List α} (h:l.Nodup) (h2:2≤l.length) {e:α × α} (he:e∈edges l):e.1≠e.2:=by
 intro heq
 match l,h,h2,he with
 | x::y::t,h,_,he =>
  obtain⟨A,B,hAB⟩:=tE (l:=x::y::t++[x]) he
  rw[← heq]at hAB
  rcases Ar B with rfl|⟨B',b,rfl⟩
  ·have h1:x::y::t=A++[e.1]∧[x]=[e.1]:=by
    have:(x::y::t)++[x]=(A++[e.1])++[e.1]:=by simpa using hAB
    exact Ah this rfl
   have hx:x=e.1:=by simpa using h1.2
   cases A with
   | nil=>simp at h1
   | cons a A =>
    have h3:x=a∧y::t=A++[e.1]:=by simpa using h1.1
    have:x∈y::t:=by rw[h3.2,hx];simp
    exact (Ap.1 h).1 this
  ·have h1:x::y::t=A++e.1::e.1::B':=by
    have:(x::y::t)++[x]=(A++e.1::e.1::B')++[b]:=by simpa using hAB
    exact (Ah this rfl).1
   rw[h1]at h
   have:=(A0.1 h).2.1
   simp at this
theorem y7 {p:α→Prop} {x:α} {t:List α} (h:∀ e∈aN (x::t),p e.1→p e.2) (hx:p x):∀ y∈x::t,p y:=by
 induction t generalizing x with
 | nil=>intro y hy;simp at hy;exact hy▸hx
 | cons b t ih =>
  intro y hy
  rcases Ad.1 hy with rfl|hy
  ·exact hx
  ·exact ih (fun e he=>h e (by simp[aN,he])) (h (x,b) (by simp[aN]) hx) y hy
theorem a7a {p:α→Prop} [DecidablePred p]:∀ {l:List α},(∀ e∈aN l,p e.1→p e.2)→∃ P N,l=P++N∧(∀ x∈P,¬ p x)∧∀ x∈N,p x
 | [],_=>⟨[],[],rfl,by simp,by simp⟩
 | x::t,h=>by
  by_cases hx:p x
  ·exact⟨[],x::t,rfl,by simp,y7 h hx⟩
  ·obtain⟨P,N,h1,h2,h3⟩:=a7a (p:=p) (l:=t) (fun e he=>h e (by cases t with|nil=>simp[aN]at he|cons b t=>simp[aN,he]))
   refine⟨x::P,N,by rw[h1];rfl,?_,h3⟩
   intro y hy
   rcases Ad.1 hy with rfl|hy
   ·exact hx
   ·exact h2 y hy
theorem d1o {p:α→Prop} [DecidablePred p] {l:List α} {a b:α} (ha:a∈l) (pa:p a) (hb:b∈l) (pb:¬ p b):∃ e∈edges l,p e.1∧¬ p e.2:=by
 apply Classical.byContradiction
 intro hno
 have hcl:∀ e∈edges l,p e.1→p e.2:=fun e he h1=>Classical.byContradiction fun h2=>hno ⟨e,he,h1,h2⟩
 cases l with
 | nil=>simp at ha
 | cons x t =>
  obtain⟨A,B,hAB⟩:=List.append_of_mem ha
  have h1:aN (x::t++[x])=aN (A++[a])++aN (a::(B++[x])):=by
   rw[hAB];have:=mZ A a (B++[x]);simpa using this
  have hx:p x:=y7 (t:=B++[x]) (fun e he=>hcl e (by show e∈aN (x::t++[x]);rw[h1];simp[he])) pa x (by simp)
  exact pb (y7 (t:=t++[x]) (fun e he=>hcl e he) hx b (by
   rcases Ad.1 hb with rfl|hb
   ·simp
   ·simp[hb]))
theorem b7g {p : α → Prop} [DecidablePred p] {l : List α} (hnd : l.Nodup) (h1 : ∀ e ∈ edges l, ∀ e' ∈ edges l, (p e.1 ∧ ¬ p e.2) → (p e'.1 ∧ ¬ p e'.2) → e = e') {a b : α} (ha : a ∈ l) (pa : p a) (hb : b ∈ l) (pb : ¬ p b) :
  ∃ N P A B,l=A++B∧B++A=N++P∧N≠[]∧P≠[]∧(∀ x∈N,p x)∧∀ x∈P,¬ p x:=by
 obtain⟨u,hu,hu1,hu2⟩:=d1o ha pa hb pb
 have key:∃ A B T,l=A++B∧B++A=u.2::T∧aN (u.2::(T++[u.2]))=aN (u.2::T)++[(u.1,u.2)]:=by
  cases l with
  | nil=>simp at ha
  | cons x t =>
   obtain⟨A,B,hAB⟩:=tE (l:=x::t++[x]) hu
   rcases Ar B with rfl|⟨B',c,rfl⟩
   ·have h2:(x::t)++[x]=(A++[u.1])++[u.2]:=by simpa using hAB
    obtain⟨h3,h4⟩:=Ah h2 rfl
    have hx:x=u.2:=by simpa using h4
    refine⟨[],x::t,t,rfl,by simp[hx],?_⟩
    have h5:u.2::t=A++[u.1]:=by rw[← hx];exact h3
    have:aN ((u.2::t)++[u.2])=aN (u.2::t)++[(u.1,u.2)]:=by
     rw[h5]
     have:=mZ A u.1 [u.2]
     simpa [aN]using this
    simpa using this
   ·have h2:(x::t)++[x]=(A++u.1::u.2::B')++[c]:=by simpa using hAB
    obtain⟨h3,h4⟩:=Ah h2 rfl
    refine⟨A++[u.1],u.2::B',B'++(A++[u.1]),by simpa using h3,by simp,?_⟩
    have:=mZ (u.2::B'++A) u.1 [u.2]
    simpa [aN]using this
 obtain⟨A,B,T,hl,hT,hp⟩:=key
 have hnd2:(B++A).Nodup:=by
  rw[hl]at hnd
  exact (Aq.nodup_iff).1 hnd
 have hed:edges (B++A)=aN (u.2::T)++[(u.1,u.2)]:=by
  rw[hT];show aN (u.2::T++[u.2])=_;rw[← hp];rfl
 have hper:(edges l).Perm (edges (B++A)):=by rw[hl];exact tQ A B
 have hndE:=tA hnd2
 rw[hed]at hndE
 have hno:∀ e∈aN (u.2::T),p e.1→p e.2:=by
  intro e he h2
  apply Classical.byContradiction
  intro h3
  have hel:e∈edges l:=hper.mem_iff.2 (by rw[hed];simp[he])
  have:=h1 e hel u hu ⟨h2,h3⟩ ⟨hu1,hu2⟩
  subst this
  exact (A0.1 hndE).2.2 e he e (by simp) rfl
 obtain⟨P,N,q1,q2,q3⟩:=a7a hno
 have hmem:∀ y,y∈l↔y∈P++N:=fun y=>by
  rw[← q1,← hT,hl];simp[or_comm]
 have hN:N≠[]:=by
  intro h0;subst h0
  exact q2 a (by simpa using (hmem a).1 ha) pa
 have hP:P≠[]:=by
  intro h0;subst h0
  exact pb (q3 b (by simpa using (hmem b).1 hb))
 rw[q1]at hT
 rcases List.append_eq_append_iff.1 hT with⟨C,hc1,hc2⟩|⟨C,hc1,hc2⟩
 ·
  exact⟨N,P,C,N++B,by rw[hl,hc2];simp,by rw[hc1];simp,hN,hP,q3,q2⟩
 ·
  exact⟨N,P,A++P,C,by rw[hl,hc1];simp,by rw[hc2];simp,hN,hP,q3,q2⟩
end Geo
namespace Go.Sx
set_option linter.unusedVariables false
theorem a3k {α:Type}:∀ (l:List α) (i:Nat) (h:i<(Geo.aN l).length) (h1:i<l.length) (h2:i+1<l.length),(Geo.aN l)[i]=(l[i],l[i+1])
 | [],i,h,_,_=>by simp[Geo.aN]at h
 | [_],i,h,_,_=>by simp[Geo.aN]at h
 | a::b::t,0,h,_,_=>by simp[Geo.aN]
 | a::b::t,i+1,h,h1,h2=>by
  have:=a3k (b::t) i (by simpa [Geo.aN]using h) (by simpa using h1) (by simpa using h2)
  simpa [Geo.aN]using this
theorem c2e {i n:Nat} (h:i<n):(i+1) % n=if i+1=n then 0 else i+1:=by
 split
 ·rename_i e;rw[e,Nat.mod_self]
 ·exact Nat.mod_eq_of_lt (by omega)
theorem wO {α:Type} (l:List α) (i:Nat) (h:i<l.length) (h':i<(Geo.edges l).length):(Geo.edges l)[i]=(l[i],l[(i+1) % l.length]'(A5 _ (by omega))):=by
 cases l with
 | nil=>simp at h
 | cons x t =>
  have hp:(Geo.edges (x::t))=Geo.aN (x::t++[x]):=rfl
  have:=a3k (x::t++[x]) i (by rw[← hp];exact h') (by simp at h ⊢;omega) (by simp at h ⊢;omega)
  simp only[hp]
  rw[this]
  have e1:(x::t++[x])[i]'(by simp at h ⊢;omega)=(x::t)[i]:=Am h
  rw[e1]
  congr 1
  simp only[c2e h]
  split
  ·rename_i e
   rw[List.getElem_append_right (by omega)]
   simp[e]
  ·rename_i e
   rw[Am (by simp at h e ⊢;omega)]
abbrev eG (p:Pl) (vs:List Pt):List AV:=[.lit (.bool (Zn p.a)),.lit (.string (Zm p.a)),.lit (.bool (Zn p.b)),.lit (.string (Zm p.b)),.lit (.bool (Zn p.c)),.lit (.string (Zm p.c)),.lit (.bool (Zn p.d)),.lit (.string (Zm p.d)),.sl (vs.map eP)]
abbrev eG0:List AV:=[.lit (.bool false),.lit (.string ⟨#[]⟩),.lit (.bool false),.lit (.string ⟨#[]⟩),.lit (.bool false),.lit (.string ⟨#[]⟩),.lit (.bool false),.lit (.string ⟨#[]⟩),.lit (.slice none 0 0)]
def pc (h:Int) (by':Pl) (a b:Pt):List Pt:=(if aC by' a≠-h then [a]else [])++(if aC by' a*aC by' b<0 then [bT by' a b]else [])
def bF (h:Int) (by':Pl) (vs:List Pt):List Pt:=(Geo.edges vs).flatMap fun e=>pc h by' e.1 e.2
def aU (h:Int) (by':Pl) (vs:List Pt) (i:Nat):List Pt:=((Geo.edges vs).take i).flatMap fun e=>pc h by' e.1 e.2
def bH (h:Int) (by':Pl) (vs:List Pt) (i:Nat):Bool:=(vs.take i).any fun v=>decide (aC by' v=h)
theorem vV (h:Int) (by':Pl) (vs:List Pt):aU h by' vs 0=[]:=rfl
theorem wJ (h:Int) (by':Pl) (vs:List Pt):aU h by' vs vs.length=bF h by' vs:=by
 unfold aU bF
 rw[Ae (by rw[Geo.gA];exact Nat.le_refl _)]
theorem vW (h:Int) (by':Pl) (vs:List Pt) (i:Nat) (hi:i<vs.length):aU h by' vs (i+1)=aU h by' vs i++pc h by' vs[i] (vs[(i+1) % vs.length]'(A5 _ (by omega))):=by
 have hl:i<(Geo.edges vs).length:=by rw[Geo.gA];exact hi
 unfold aU
 rw[Af hl,List.flatMap_append,wO vs i hi hl]
 simp
theorem a4i (h:Int) (by':Pl) (vs:List Pt):bH h by' vs 0=false:=rfl
theorem a4j (h:Int) (by':Pl) (vs:List Pt) (i:Nat) (hi:i<vs.length):bH h by' vs (i+1)=(bH h by' vs i||decide (aC by' vs[i]=h)):=by
 unfold bH
 rw[Af hi,List.any_append]
 simp
theorem b7n (h:Int) (by':Pl) (a b:Pt):(pc h by' a b).length≤2:=by
 unfold pc
 split<;>split<;>simp
theorem vN (h:Int) (by':Pl) (vs:List Pt) (i:Nat):(aU h by' vs i).length≤2*i:=by
 induction i with
 | zero=>simp[vV]
 | succ i ih =>
  by_cases hi:i<vs.length
  ·rw[vW h by' vs i hi,List.length_append]
   have:=b7n h by' vs[i] (vs[(i+1) % vs.length]'(A5 _ (by omega)))
   omega
  ·have:aU h by' vs (i+1)=aU h by' vs i:=by
    unfold aU
    rw[Ae (by rw[Geo.gA];omega),Ae (by rw[Geo.gA];omega)]
   rw[this];omega
theorem g9 (z:Int):(sg z=-1∧z<0)∨(sg z=0∧z=0)∨(sg z=1∧0<z):=by
 unfold sg
 split
 ·exact .inl ⟨rfl,by assumption⟩
 ·split
  ·exact .inr (.inl ⟨rfl,by assumption⟩)
  ·exact .inr (.inr ⟨rfl,by omega⟩)
theorem opp {p:Pl} {a b:Pt} (h:aC p a*aC p b<0):(abv p a<0∧0<abv p b)∨(0<abv p a∧abv p b<0):=by
 unfold aC at h
 rcases g9 (abv p a)with⟨e1,h1⟩|⟨e1,h1⟩|⟨e1,h1⟩<;>rcases g9 (abv p b)with⟨e2,h2⟩|⟨e2,h2⟩|⟨e2,h2⟩<;>rw[e1,e2]at h<;>simp at h
 ·exact .inl ⟨h1,h2⟩
 ·exact .inr ⟨h1,h2⟩
theorem gP {p:Pl} {a b:Pt} (h:aC p a*aC p b<0):a≠b:=by
 rintro rfl
 rcases opp h with h|h<;>omega
theorem fQ {p:Pl} {a b:Pt} (ha:0<a.w) (hb:0<b.w) (h:aC p a*aC p b<0):a.w*abv p b - b.w*abv p a≠0:=by
 rcases opp h with⟨h1,h2⟩|⟨h1,h2⟩
 ·have:=A7 ha h2
  have:=Ak hb h1
  omega
 ·have:=Ak ha h2
  have:=A7 hb h1
  omega
theorem eU (p:Pl) (a b:Pt):IntKind.i64.wrap (aC p a*aC p b)=aC p a*aC p b:=by
 unfold aC
 rcases g9 (abv p a)with⟨e1,h1⟩|⟨e1,h1⟩|⟨e1,h1⟩<;>rcases g9 (abv p b)with⟨e2,h2⟩|⟨e2,h2⟩|⟨e2,h2⟩<;>rw[e1,e2]<;>decide
theorem eD (vs:List Pt) (i:Nat) (h:i<vs.length):(vs.map eP).getD i []=eP vs[i]:=by
 rw[Aj,An (by simpa using h)];simp
theorem v8 (k:IntKind) (xs:List Int) (i:Nat) (h:i<xs.length):(aH k xs).getD i []=[.lit (.int k xs[i])]:=by
 rw[Aj,An (by rw[bZ];exact h)];simp[aH]
theorem oK (vs:List Pt):∀ e∈vs.map eP,∀ c∈e,Flat c:=by
 intro e he c hc
 obtain⟨v,_,rfl⟩:=Ai.1 he
 simp only[eP,e4,Ad,List.not_mem_nil,or_false]at hc
 rcases hc with rfl|rfl|rfl|rfl|rfl|rfl|rfl|rfl<;>exact .lit _
theorem eP_in {K:Nat→Prop} (vs:List Pt):(∀ e∈vs.map eP,∀ c∈e,In K c)=True:=eq_true fun e he c hc=>(oK vs e he c hc).inn
attribute [go_sem] eP_in
end Go.Sx
