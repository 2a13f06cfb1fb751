import Derived.Test.YtjlfgmhmalbiiaaGreatDoorW17
set_option linter.all false
set_option maxHeartbeats 8000000
open Int renaming natAbs_natCast → Ac, mul_neg_of_pos_of_neg → Ak, mul_pos → A8
open List renaming mem_cons → Ad, take_of_length_le → Ae, take_succ_eq_append_getElem → Af, append_inj' → Ah, mem_map → Ai, getD_eq_getElem?_getD → Aj, getElem_append_left → Am, getElem?_eq_getElem → An, nodup_cons → Ap, perm_append_comm → Aq, eq_nil_or_concat → Ar, forall_mem_cons → As, mem_map_of_mem → Au, map_cons → Av, nodup_append → A3, foldl_cons → A4, foldl_nil → A5
open Nat renaming reduceAdd → Aa, le_trans → Ab, gcd_dvd_left → Ag, le_of_dvd → Al, succ_le_succ → Ao, gcd_eq_zero_iff → At, pos_of_ne_zero → Aw, gcd_zero_left → Ax, gcd_dvd_right → Ay, le_succ_of_le → Az, mod_lt → A6, dvd_trans → A7, gcd → A9
namespace Go.Proofs.Vx
open Go Go.Sx Go.Proofs Tryz
attribute [local irreducible] fnT CallOK CallFr AW aI callV aL aJ aH aK gcaseP hid
theorem b8z:agT prog 26=some true∧fdT prog 26 0=some (0,2,true)∧fdT prog 26 1=some (2,2,true)∧fdT prog 26 2=some (4,2,true)∧fdT prog 26 3=some (6,2,true)∧plT prog 26=some [(0,2),(2,2),(4,2),(6,2)]∧bH prog 103=false∧szT prog 26=some 8∧zeT prog 26=some [.lit (.bool false),.lit (.string ⟨#[]⟩),.lit (.bool false),.lit (.string ⟨#[]⟩),.lit (.bool false),.lit (.string ⟨#[]⟩),.lit (.bool false),.lit (.string ⟨#[]⟩)]:=by and_intros<;>kernel_rfl
attribute [go_sem] b8z
theorem c96 (a b c:Rat) (ka:Qs 1073741824 a) (kb:Qs 1073741824 b) (kc:Qs 1073741824 c):CallOK prog 96 [.agg (eV a b c)] [] (.agg (eP (mkP a b c))) []:=by
 refine zs func96 63 [.cell 2 51] results96 ?_
 simp only[aD,Aa]
 have na:=ka.num
 have da:=ka.den'
 have nb:=kb.num
 have db:=kb.den'
 have nc:=kc.num
 have dc:=kc.den'
 have z1:(Zm 1).size≤1:=by rw[cO];decide
 have w1:=aO 1 (a.den:Int) z1 da
 have w2:=aO (1*(a.den:Int)) (b.den:Int) w1 db
 have w3:=aO (1*(a.den:Int)*(b.den:Int)) (c.den:Int) w2 dc
 have qa:=Ab (mT (1*(a.den:Int)*(b.den:Int)*(c.den:Int)) (a.den:Int)) (Ao w3)
 have ra:=aO a.num ((1*(a.den:Int)*(b.den:Int)*(c.den:Int)) / (a.den:Int)) na qa
 have qb:=Ab (mT (1*(a.den:Int)*(b.den:Int)*(c.den:Int)) (b.den:Int)) (Ao w3)
 have rb:=aO b.num ((1*(a.den:Int)*(b.den:Int)*(c.den:Int)) / (b.den:Int)) nb qb
 have qc:=Ab (mT (1*(a.den:Int)*(b.den:Int)*(c.den:Int)) (c.den:Int)) (Ao w3)
 have rc:=aO c.num ((1*(a.den:Int)*(b.den:Int)*(c.den:Int)) / (c.den:Int)) nc qc
 have hbs:Bs 17179869183 (a.num*((1*(a.den:Int)*(b.den:Int)*(c.den:Int)) / (a.den:Int))) (b.num*((1*(a.den:Int)*(b.den:Int)*(c.den:Int)) / (b.den:Int))) (c.num*((1*(a.den:Int)*(b.den:Int)*(c.den:Int)) / (c.den:Int))) (1*(a.den:Int)*(b.den:Int)*(c.den:Int)):=⟨by omega,by omega,by omega,by omega⟩
 repeat'(first|refine zg ?_|refine dG 6 ?_|(refine zc ?_ ?_<;>intro hc<;>try simp only[NM]at hc)|refine zr ?_|(refine zf (c67 1 (by omega)) ?_)|(first|refine zf (c164 a (Qs.mono ka (by omega))) ?_|refine zf (c164 b (Qs.mono kb (by omega))) ?_|refine zf (c164 c (Qs.mono kc (by omega))) ?_)|(first|refine zf (aX (1) ((a.den:Int)) (by omega) (by omega)) ?_|refine zf (aX (1*(a.den:Int)) ((b.den:Int)) (by omega) (by omega)) ?_|refine zf (aX (1*(a.den:Int)*(b.den:Int)) ((c.den:Int)) (by omega) (by omega)) ?_|refine zf (aX (a.num) ((1*(a.den:Int)*(b.den:Int)*(c.den:Int)) / (a.den:Int)) (by omega) (by omega)) ?_|refine zf (aX (b.num) ((1*(a.den:Int)*(b.den:Int)*(c.den:Int)) / (b.den:Int)) (by omega) (by omega)) ?_|refine zf (aX (c.num) ((1*(a.den:Int)*(b.den:Int)*(c.den:Int)) / (c.den:Int)) (by omega) (by omega)) ?_)|(first|refine zf (gL (1*(a.den:Int)*(b.den:Int)*(c.den:Int)) (a.den:Int) (by omega) (by omega) (gC a)) ?_|refine zf (gL (1*(a.den:Int)*(b.den:Int)*(c.den:Int)) (b.den:Int) (by omega) (by omega) (gC b)) ?_|refine zf (gL (1*(a.den:Int)*(b.den:Int)*(c.den:Int)) (c.den:Int) (by omega) (by omega) (gC c)) ?_)|(refine zf (c98z _ _ _ _ hbs) ?_)|refine⟨by omega,?_⟩|(refine zb ?_ ?_<;>intro hg<;>(try rw[hg])<;>try simp only[NM]at hg)|omega|simp -dsimp (disch:=try exact zo)only[go_sem]|contradiction|rfl)
theorem c72 (n1:Bool) (m1:ByteArray) (n2:Bool) (m2:ByteArray) (n3:Bool) (m3:ByteArray) (n4:Bool) (m4:ByteArray):CallOK prog 72 [.agg [.lit (.bool n1),.lit (.string m1),.lit (.bool n2),.lit (.string m2),.lit (.bool n3),.lit (.string m3),.lit (.bool n4),.lit (.string m4)]] [] (.agg [.lit (.bool n1),.lit (.string m1),.lit (.bool n2),.lit (.string m2),.lit (.bool n3),.lit (.string m3),.lit (.bool n4),.lit (.string m4)]) []:=by
 refine zs func72 12 [.cell 2 95] results72 ?_
 simp only[aD,Aa]
 exact z1
theorem c74 (n1:Bool) (m1:ByteArray) (n2:Bool) (m2:ByteArray) (n3:Bool) (m3:ByteArray) (n4:Bool) (m4:ByteArray):CallOK prog 74 [.agg [.lit (.bool n1),.lit (.string m1),.lit (.bool n2),.lit (.string m2),.lit (.bool n3),.lit (.string m3),.lit (.bool n4),.lit (.string m4)]] [] (.agg [.lit (.bool n1),.lit (.string m1),.lit (.bool n2),.lit (.string m2),.lit (.bool n3),.lit (.string m3),.lit (.bool n4),.lit (.string m4)]) []:=by
 refine zs func74 12 [.cell 2 26] results74 ?_
 simp only[aD,Aa]
 exact z1
def g3 (x y z:Int):Nat:=A9 (A9 x.natAbs y.natAbs) z.natAbs
theorem tR {x y z:Int}:g3 x y z=0↔x=0∧y=0∧z=0:=by
 unfold g3
 rw[At,At]
 omega
theorem b1r (x y z w:Int):g4 x y z w=A9 (g3 x y z) w.natAbs:=rfl
theorem sT (n:Bool) (m:ByteArray):(iv n m).natAbs=nv m:=by unfold iv;cases n<;>simp
theorem nF (n:Bool) (m:ByteArray) (b:Int) (ha:m.size<68719476736) (hb:(Zm b).size<68719476736) (h:b≠0):CallOK prog 165 [.agg (eI n m),.agg (eZ b)] [] (.tup [.agg (eZ (iv n m / b)),.agg (eZ (iv n m % b)),.lit (.bool true)]) []:=by
 have:=c165 n m (Zn b) (Zm b) ha hb
 rwa [bA,if_neg h]at this
theorem b2a (l:List RI) (k:Nat) (hk:i8 l=k) (h:∀ p∈l,p.2.size<68719476736) (hn:l.length<1099511627776):CallOK prog 167 [.sl (ris l)] [] (.agg (eZ (k:Int))) []:=by
 subst hk;exact c167 l h hn
theorem c168 (n1:Bool) (m1:ByteArray) (n2:Bool) (m2:ByteArray) (n3:Bool) (m3:ByteArray) (n4:Bool) (m4:ByteArray) (h1:m1.size<17179869184) (h2:m2.size<17179869184) (h3:m3.size<17179869184) (h4:m4.size<17179869184):CallOK prog 168 [.agg [.lit (.bool n1),.lit (.string m1),.lit (.bool n2),.lit (.string m2),.lit (.bool n3),.lit (.string m3),.lit (.bool n4),.lit (.string m4)]] [] (if iv n1 m1=0∧iv n2 m2=0∧iv n3 m3=0 then .tup [.agg (eH ⟨0,0,0,0⟩),.lit (.bool false)]else .tup [.agg (eH (i5 (iv n1 m1) (iv n2 m2) (iv n3 m3) (iv n4 m4))),.lit (.bool true)]) []:=by
 refine CallOK.flat func168 rfl 33 rfl rfl (by split<;>rfl) [.cell 2 26,.tmp 3] (congrArg Array.toList results168) ?_
 simp only[aD,Aa]
 have cg3:=b2a [(n1,m1),(n2,m2),(n3,m3)] (g3 (iv n1 m1) (iv n2 m2) (iv n3 m3)) (by simp only[i8,A4,A5,Ax,g3,sT]) (by simp only[As];exact⟨by omega,by omega,by omega,by simp⟩) (by simp)
 have cg4:=b2a [(n1,m1),(n2,m2),(n3,m3),(n4,m4)] (g4 (iv n1 m1) (iv n2 m2) (iv n3 m3) (iv n4 m4)) (by simp only[i8,A4,A5,Ax,g4,sT]) (by simp only[As];exact⟨by omega,by omega,by omega,by omega,by simp⟩) (by simp)
 simp only[ris,Av,List.map_nil]at cg3 cg4
 have t1:=eA n1 m1
 have t2:=eA n2 m2
 have t3:=eA n3 m3
 generalize hx:iv n1 m1=x at *
 generalize hy:iv n2 m2=y at *
 generalize hz:iv n3 m3=z at *
 generalize hw:iv n4 m4=w at *
 have hle:(Zm (g3 x y z:Int)).size≤17179869184:=by
  by_cases h0:g3 x y z=0
  ·rw[h0];rw[show ((0:Nat):Int)=0 from rfl,dY];exact Nat.zero_le _
  ·have hd:g3 x y z∣x.natAbs:=A7 (Ag _ _) (Ag _ _)
   have hd2:g3 x y z∣y.natAbs:=A7 (Ag _ _) (Ay _ _)
   have hd3:g3 x y z∣z.natAbs:=Ay _ _
   by_cases hx0:x=0
   ·by_cases hy0:y=0
    ·have hz0:z≠0:=fun h=>h0 (tR.2 ⟨hx0,hy0,h⟩)
     have:(Zm (g3 x y z:Int)).size≤(Zm z).size:=iG (by rw[Ac];exact Al (by omega) hd3)
     omega
    ·have:(Zm (g3 x y z:Int)).size≤(Zm y).size:=iG (by rw[Ac];exact Al (by omega) hd2)
     omega
   ·have:(Zm (g3 x y z:Int)).size≤(Zm x).size:=iG (by rw[Ac];exact Al (by omega) hd)
    omega
 by_cases h0:x=0∧y=0∧z=0
 ·rw[if_pos h0]
  have hs3:(sg (g3 x y z:Int)=0)=True:=eq_true (fZ.2 (by rw[tR.2 h0];rfl))
  have ez:eH ⟨0,0,0,0⟩=[.lit (.bool false),.lit (.string ⟨#[]⟩),.lit (.bool false),.lit (.string ⟨#[]⟩),.lit (.bool false),.lit (.string ⟨#[]⟩),.lit (.bool false),.lit (.string ⟨#[]⟩)]:=by simp[eH,Zn,Zm,dJ]
  have hg0:True:=trivial
  rw[ez]
  clear h0
  repeat'(first|refine zg ?_|refine dG 6 ?_|(refine zc ?_ ?_<;>intro hc<;>try simp only[NM]at hc)|refine zr ?_|(refine zf (c72 n1 m1 n2 m2 n3 m3 n4 m4) ?_)|(first|refine bU (.agg (eZ (g3 x y z:Int))) oB (by simp -dsimp (disch:=try exact zo)only[go_sem];exact cg3) (by simp -dsimp (disch:=try exact zo)only[go_sem]) (.agg _ (by simp;exact⟨.lit _,.lit _⟩)) ?_|refine bU (.agg (eZ (g4 x y z w:Int))) oB (by simp -dsimp (disch:=try exact zo)only[go_sem];exact cg4) (by simp -dsimp (disch:=try exact zo)only[go_sem]) (.agg _ (by simp;exact⟨.lit _,.lit _⟩)) ?_)|(refine zf (e9 (g3 x y z:Int) (by omega)) ?_)|(first|refine zf (hx▸nF n1 m1 (g4 x y z w:Int) (by omega) (by omega) hg0) ?_|refine zf (hy▸nF n2 m2 (g4 x y z w:Int) (by omega) (by omega) hg0) ?_|refine zf (hz▸nF n3 m3 (g4 x y z w:Int) (by omega) (by omega) hg0) ?_|refine zf (hw▸nF n4 m4 (g4 x y z w:Int) (by omega) (by omega) hg0) ?_)|(refine zf (c74 _ _ _ _ _ _ _ _) ?_)|refine⟨by omega,?_⟩|(refine zb ?_ ?_<;>intro hg<;>(try rw[hg])<;>try simp only[NM]at hg)|omega|simp -dsimp (disch:=try exact zo)only[go_sem,hs3]|contradiction|rfl)
 ·rw[if_neg h0]
  have hs3:(sg (g3 x y z:Int)=0)=False:=eq_false fun h=>h0 (tR.1 (by have:=fZ.1 h;omega))
  have hgp:0<g4 x y z w:=by
   rw[b1r]
   exact Nat.gcd_pos_of_pos_left _ (Aw fun h=>h0 (tR.1 h))
  have hg0:(g4 x y z w:Int)≠0:=by omega
  have s6:(Zm (g4 x y z w:Int)).size≤17179869184:=by
   refine Ab (iG ?_) hle
   rw[Ac,Ac,b1r]
   exact Al (Aw fun h=>h0 (tR.1 h)) (Ag _ _)
  unfold i5
  clear h0
  repeat'(first|refine zg ?_|refine dG 6 ?_|(refine zc ?_ ?_<;>intro hc<;>try simp only[NM]at hc)|refine zr ?_|(refine zf (c72 n1 m1 n2 m2 n3 m3 n4 m4) ?_)|(first|refine bU (.agg (eZ (g3 x y z:Int))) oB (by simp -dsimp (disch:=try exact zo)only[go_sem];exact cg3) (by simp -dsimp (disch:=try exact zo)only[go_sem]) (.agg _ (by simp;exact⟨.lit _,.lit _⟩)) ?_|refine bU (.agg (eZ (g4 x y z w:Int))) oB (by simp -dsimp (disch:=try exact zo)only[go_sem];exact cg4) (by simp -dsimp (disch:=try exact zo)only[go_sem]) (.agg _ (by simp;exact⟨.lit _,.lit _⟩)) ?_)|(refine zf (e9 (g3 x y z:Int) (by omega)) ?_)|(first|refine zf (hx▸nF n1 m1 (g4 x y z w:Int) (by omega) (by omega) hg0) ?_|refine zf (hy▸nF n2 m2 (g4 x y z w:Int) (by omega) (by omega) hg0) ?_|refine zf (hz▸nF n3 m3 (g4 x y z w:Int) (by omega) (by omega) hg0) ?_|refine zf (hw▸nF n4 m4 (g4 x y z w:Int) (by omega) (by omega) hg0) ?_)|(refine zf (c74 _ _ _ _ _ _ _ _) ?_)|refine⟨by omega,?_⟩|(refine zb ?_ ?_<;>intro hg<;>(try rw[hg])<;>try simp only[NM]at hg)|omega|simp -dsimp (disch:=try exact zo)only[go_sem,hs3]|contradiction|rfl)
end Go.Proofs.Vx
namespace Go.Sx
set_option linter.unusedVariables false
theorem x6 (a b:Int):decide (Zn a=Zn b∧Zm a=Zm b)=decide (a=b):=by
 by_cases h:a=b
 ·subst h;simp
 ·have:¬ (Zn a=Zn b∧Zm a=Zm b):=fun h'=>h (fH h'.1 h'.2)
  simp[h,this]
theorem eq4 (a b c d a' b' c' d' : Int) : i9 [.lit (.bool (Zn a)), .lit (.string (Zm a)), .lit (.bool (Zn b)), .lit (.string (Zm b)), .lit (.bool (Zn c)), .lit (.string (Zm c)), .lit (.bool (Zn d)), .lit (.string (Zm d))]
  [.lit (.bool (Zn a')),.lit (.string (Zm a')),.lit (.bool (Zn b')),.lit (.string (Zm b')),.lit (.bool (Zn c')),.lit (.string (Zm c')),.lit (.bool (Zn d')),.lit (.string (Zm d'))]=decide (a=a'∧b=b'∧c=c'∧d=d'):=by
 have h1:=x6 a a'
 have h2:=x6 b b'
 have h3:=x6 c c'
 have h4:=x6 d d'
 simp only[i9,ceq,Bool.and_true]
 simp only[decide_eq_decide]at h1 h2 h3 h4
 rw[Bool.eq_iff_iff]
 simp only[Bool.and_eq_true,beq_iff_eq,decide_eq_true_eq]
 constructor
 ·rintro⟨q1,q2,q3,q4,q5,q6,q7,q8⟩
  exact⟨h1.1 ⟨q1,q2⟩,h2.1 ⟨q3,q4⟩,h3.1 ⟨q5,q6⟩,h4.1 ⟨q7,q8⟩⟩
 ·rintro⟨rfl,rfl,rfl,rfl⟩
  simp
attribute [go_sem ↓] eq4
def abv (p:Pl) (x:Pt):Int:=p.a*x.x+p.b*x.y+p.c*x.z - p.d*x.w
def aB (p:Pl) (x:Pt):Int:=sg (abv p x)
def aW (p:Pl):Pl:=⟨-p.a,-p.b,-p.c,-p.d⟩
theorem a0u (p:Pl) (x:Pt):abv (aW p) x=- abv p x:=by unfold abv aW;simp only[Int.neg_mul];omega
def bO (p:Pl) (a b:Pt):Pt:=nrm (a.x*abv p b - b.x*abv p a) (a.y*abv p b - b.y*abv p a) (a.z*abv p b - b.z*abv p a) (a.w*abv p b - b.w*abv p a)
structure BPt (k:Nat) (p:Pt):Prop where
 out:Bs k p.x p.y p.z p.w
structure BPl (k:Nat) (p:Pl):Prop where
 out:Bs k p.a p.b p.c p.d
theorem BPt.mono {k l:Nat} {p:Pt} (h:BPt k p) (hl:k≤l):BPt l p:=⟨⟨Ab h.out.a hl,Ab h.out.b hl,Ab h.out.c hl,Ab h.out.d hl⟩⟩
theorem BPl.mono {k l:Nat} {p:Pl} (h:BPl k p) (hl:k≤l):BPl l p:=⟨⟨Ab h.out.a hl,Ab h.out.b hl,Ab h.out.c hl,Ab h.out.d hl⟩⟩
theorem xE {p:Pl} {x:Pt} {k l:Nat} (hp:BPl k p) (hx:BPt l x):(Zm (abv p x)).size≤k+l+3:=by
 have h1:=aO p.a x.x hp.out.a hx.out.a
 have h2:=aO p.b x.y hp.out.b hx.out.b
 have h3:=aO p.c x.z hp.out.c hx.out.c
 have h4:=aO p.d x.w hp.out.d hx.out.d
 exact lJ _ _ (fO _ _ (fO _ _ h1 h2) (by omega)) (by omega)
theorem BPl.neg {k:Nat} {p:Pl} (h:BPl k p):BPl k (aW p):=⟨⟨by simpa [aW,jK]using h.out.a,by simpa [aW,jK]using h.out.b,by simpa [aW,jK]using h.out.c,by simpa [aW,jK]using h.out.d⟩⟩
theorem c5q {p:Pl} {a b:Pt} {k l:Nat} (hp:BPl k p) (ha:BPt l a) (hb:BPt l b):BPt (k+2*l+4) (bO p a b):=by
 have h1:=xE hp ha
 have h2:=xE hp hb
 have key:∀ x y:Int,(Zm x).size≤l→(Zm y).size≤l→(Zm (x*abv p b - y*abv p a)).size≤k+2*l+4:=fun x y hx hy =>
  Ab (lJ _ _ (aO x _ hx h2) (aO y _ hy h1)) (by omega)
 exact⟨a9u ⟨key _ _ ha.out.a hb.out.a,key _ _ ha.out.b hb.out.b,key _ _ ha.out.c hb.out.c,key _ _ ha.out.d hb.out.d⟩ (by omega)⟩
theorem a5u (p:Pl) (a b:Pt):CanP (bO p a b):=vU _ _ _ _
end Go.Sx
namespace Go.Proofs.Vx
open Go Go.Sx Go.Proofs Tryz
attribute [local irreducible] fnT CallOK CallFr AW aI callV aL aJ aH aK gcaseP hid
theorem b8y:agT prog 193=some true∧arT prog 193=some (3,2,true)∧plT prog 193=some [(0,2),(2,2),(4,2)]∧slT prog 193=none∧szT prog 193=some 6∧zeT prog 193=some [.lit (.bool false),.lit (.string ⟨#[]⟩),.lit (.bool false),.lit (.string ⟨#[]⟩),.lit (.bool false),.lit (.string ⟨#[]⟩)]:=by and_intros<;>kernel_rfl
attribute [go_sem] b8y
theorem c34 (p:Pl) (x:Pt) (hp:BPl 1073741824 p) (hx:BPt 1073741824 x):CallOK prog 34 [.agg (eH p),.agg (eP x)] [] (.lit (.int .i64 (aB p x))) []:=by
 refine zs func34 30 [.tmp 4] results34 ?_
 simp only[aD,Aa]
 have sp1:=hp.out.a
 have sp2:=hp.out.b
 have sp3:=hp.out.c
 have sp4:=hp.out.d
 have sx1:=hx.out.a
 have sx2:=hx.out.b
 have sx3:=hx.out.c
 have sx4:=hx.out.d
 have m1:=aO (p.a) (x.x) sp1 sx1
 have m2:=aO (p.b) (x.y) sp2 sx2
 have m3:=aO (p.c) (x.z) sp3 sx3
 have m4:=aO (p.d) (x.w) sp4 sx4
 have u1:=fO _ _ m1 m2
 have u2:=fO _ _ u1 (Az m3)
 try have zh0:=(aX (p.a) (x.x) (by omega) (by omega))
 try have zh1:=(aX (p.b) (x.y) (by omega) (by omega))
 try have zh2:=(aX (p.c) (x.z) (by omega) (by omega))
 try have zh3:=(aX (p.d) (x.w) (by omega) (by omega))
 try have zh4:=(nO (p.a*x.x) (p.b*x.y) (by omega) (by omega))
 try have zh5:=(nO (p.a*x.x+p.b*x.y) (p.c*x.z) (by omega) (by omega))
 try have zh6:=(gD (p.a*x.x+p.b*x.y+p.c*x.z) (p.d*x.w) (by omega) (by omega))
 exact z1
theorem c22 (p:Pl) (hp:BPl 1073741824 p):CallOK prog 22 [.agg (eH p)] [] (.agg (eH (aW p))) []:=by
 refine zs func22 19 [.cell 2 26] results22 ?_
 simp only[aD,Aa]
 have sp1:=hp.out.a
 have sp2:=hp.out.b
 have sp3:=hp.out.c
 have sp4:=hp.out.d
 unfold aW
 repeat'(first|refine zg ?_|refine dG 6 ?_|(refine zc ?_ ?_<;>intro hc<;>try simp only[NM]at hc)|refine zr ?_|(refine zf (c72 _ _ _ _ _ _ _ _) ?_)|(first|refine zf (gE p.a (by omega)) ?_|refine zf (gE p.b (by omega)) ?_|refine zf (gE p.c (by omega)) ?_|refine zf (gE p.d (by omega)) ?_)|(refine zf (c74 _ _ _ _ _ _ _ _) ?_)|refine⟨by omega,?_⟩|(refine zb ?_ ?_<;>intro hg<;>(try rw[hg])<;>try simp only[NM]at hg)|omega|simp -dsimp (disch:=try exact zo)only[go_sem]|contradiction|rfl)
theorem b2q:(Zm 0).size=0:=u7
theorem c82e (x:Int) (h:(Zm x).size<68719476736):CallOK prog 82 [.agg [.lit (.bool false),.lit (.string ⟨#[]⟩)],.agg (eZ x)] [] (.agg (eZ x)) []:=by
 have:=nO 0 x (by rw[b2q];omega) h
 rw[Int.zero_add]at this
 simpa only[eZ,dY,kZ (Int.le_refl 0)]using this
theorem c233 (p:Pl):CallOK prog 233 [.agg (eH p)] [] (.agg [.lit (.bool (Zn p.a)),.lit (.string (Zm p.a)),.lit (.bool (Zn p.b)),.lit (.string (Zm p.b)),.lit (.bool (Zn p.c)),.lit (.string (Zm p.c))]) []:=by
 refine zs func233 10 [.cell 2 193] results233 ?_
 simp only[aD,Aa]
 exact z1
theorem c232 (a b c x y z:Int) (h1:(Zm a).size≤1073741824) (h2:(Zm b).size≤1073741824) (h3:(Zm c).size≤1073741824) (k1:(Zm x).size≤1073741824) (k2:(Zm y).size≤1073741824) (k3:(Zm z).size≤1073741824):CallOK prog 232 [.agg [.lit (.bool (Zn a)),.lit (.string (Zm a)),.lit (.bool (Zn b)),.lit (.string (Zm b)),.lit (.bool (Zn c)),.lit (.string (Zm c))],.agg [.lit (.bool (Zn x)),.lit (.string (Zm x)),.lit (.bool (Zn y)),.lit (.string (Zm y)),.lit (.bool (Zn z)),.lit (.string (Zm z))]] [] (.agg (eZ (a*x+b*y+c*z))) []:=by
 refine zs func232 21 [.cell 4 24] results232 ?_
 simp only[aD,Aa]
 have m1:=aO a x h1 k1
 have m2:=aO b y h2 k2
 have m3:=aO c z h3 k3
 have u1:=fO (a*x) (b*y) m1 m2
 try have zh0:=(aX (a) (x) (by omega) (by omega))
 try have zh1:=(aX (b) (y) (by omega) (by omega))
 try have zh2:=(aX (c) (z) (by omega) (by omega))
 try have zh3:=(c82e (a*x) (by omega))
 try have zh4:=(nO (a*x) (b*y) (by omega) (by omega))
 try have zh5:=(nO (a*x+b*y) (c*z) (by omega) (by omega))
 exact z1f
theorem c187 (x y z w:Int) (hb:Bs 17179869183 x y z w) (hw:w≠0):CallOK prog 187 [.agg [.lit (.bool (Zn x)),.lit (.string (Zm x)),.lit (.bool (Zn y)),.lit (.string (Zm y)),.lit (.bool (Zn z)),.lit (.string (Zm z))],.agg (eZ w)] [] (.tup [.agg (eP (nrm x y z w)),.lit (.bool true)]) []:=by
 refine zs func187 19 [.cell 4 51,.tmp 5] results187 ?_
 simp only[aD,Aa]
 have sw:=hb.d
 have hs:(sg w=0)=False:=eq_false fun h=>hw (fZ.1 h)
 try have zh0:=(e9 w (by omega))
 try have zh1:=(c98z x y z w hb)
 exact z1
theorem c185 (p:Pl) (x:Pt) (hp:BPl 1073741824 p) (hx:BPt 1073741824 x):CallOK prog 185 [.agg (eH p),.agg (eP x)] [] (.agg (eZ (abv p x))) []:=by
 refine zs func185 21 [.cell 4 24] results185 ?_
 simp only[aD,Aa]
 have sp1:=hp.out.a
 have sp2:=hp.out.b
 have sp3:=hp.out.c
 have sp4:=hp.out.d
 have sx1:=hx.out.a
 have sx2:=hx.out.b
 have sx3:=hx.out.c
 have sx4:=hx.out.d
 have m1:=aO (p.a) (x.x) sp1 sx1
 have m2:=aO (p.b) (x.y) sp2 sx2
 have m3:=aO (p.c) (x.z) sp3 sx3
 have m4:=aO (p.d) (x.w) sp4 sx4
 have u1:=fO _ _ m1 m2
 have u2:=fO _ _ u1 (Az m3)
 try have zh0:=(c233 p)
 try have zh1:=(c232 p.a p.b p.c x.x x.y x.z sp1 sp2 sp3 sx1 sx2 sx3)
 try have zh2:=(aX p.d x.w (by omega) (by omega))
 try have zh3:=(rJ (p.a*x.x+p.b*x.y+p.c*x.z) (p.d*x.w) (by omega) (by omega))
 exact z1
end Go.Proofs.Vx
namespace Go.Proofs.Vx
open Go Go.Sx Go.Proofs Tryz
attribute [local irreducible] fnT CallOK CallFr AW aI callV aL aJ aH aK gcaseP hid
theorem b8x:boT prog 51=false∧Tryz.prog.eqGuardType Tryz.prog.depth 51=false∧lfT prog 30 51=some [.b,.s,.b,.s,.b,.s,.b,.s]:=by and_intros<;>kernel_rfl
attribute [go_sem] b8x
theorem wW:fnT prog 186=true:=by kernel_rfl
theorem c186 (x y t s:Int) (hx:(Zm x).size≤4294967296) (hy:(Zm y).size≤4294967296) (ht:(Zm t).size≤4294967296) (hs:(Zm s).size≤4294967296):CallOK prog 186 [.agg (eZ x),.agg (eZ y),.fp (eZ t),.fp (eZ s)] [] (.agg (eZ (x*t - y*s))) []:=by
 refine zs func186 14 [.cell 6 24] results186 ?_
 simp only[aD,Aa]
 have m1:=aO x t hx ht
 have m2:=aO y s hy hs
 try have zh0:=(aX x t (by omega) (by omega))
 try have zh1:=(aX y s (by omega) (by omega))
 try have zh2:=(rJ (x*t) (y*s) (by omega) (by omega))
 exact z1
theorem gF (p:Pl) (a b:Pt) (hp:BPl 1073741824 p) (ha:BPt 1073741824 a) (hb:BPt 1073741824 b) (hab:a≠b) (hw:a.w*abv p b - b.w*abv p a≠0):CallOK prog 141 [.agg (eH p),.agg (eP a),.agg (eP b)] [] (.tup [.agg (eP (bO p a b)),.lit (.bool true)]) []:=by
 refine zs func141 50 [.cell 6 51,.tmp 7] results141 ?_
 simp only[aD,Aa]
 have hne:(a.x=b.x∧a.y=b.y∧a.z=b.z∧a.w=b.w)=False:=eq_false fun h=>hab (by cases a;cases b;simp at h;simp[h])
 have va:=xE hp ha
 have vb:=xE hp hb
 have sa1:=ha.out.a
 have sa2:=ha.out.b
 have sa3:=ha.out.c
 have sa4:=ha.out.d
 have sb1:=hb.out.a
 have sb2:=hb.out.b
 have sb3:=hb.out.c
 have sb4:=hb.out.d
 have mx:=aO a.x _ sa1 vb
 have nx:=aO b.x _ sb1 va
 have qx:=lJ _ _ mx nx
 have my:=aO a.y _ sa2 vb
 have ny:=aO b.y _ sb2 va
 have qy:=lJ _ _ my ny
 have mz:=aO a.z _ sa3 vb
 have nz:=aO b.z _ sb3 va
 have qz:=lJ _ _ mz nz
 have mw:=aO a.w _ sa4 vb
 have nw:=aO b.w _ sb4 va
 have qw:=lJ _ _ mw nw
 have hbs:Bs 17179869183 (a.x*abv p b - b.x*abv p a) (a.y*abv p b - b.y*abv p a) (a.z*abv p b - b.z*abv p a) (a.w*abv p b - b.w*abv p a):=⟨by omega,by omega,by omega,by omega⟩
 unfold bO
 repeat'(first|refine zk ?_|(refine zu ?_ ?_<;>intro hc)|(first|refine zf (c185 p a hp ha) ?_|refine zf (c185 p b hp hb) ?_)|(first|refine bU (.agg (eZ (a.x*abv p b - b.x*abv p a))) wW (by simp -dsimp (disch:=try exact zo)only[go_sem];exact c186 a.x b.x (abv p b) (abv p a) (by omega) (by omega) (by omega) (by omega)) (by simp -dsimp (disch:=try exact zo)only[go_sem]) (.agg _ (by simp;exact⟨.lit _,.lit _⟩)) ?_|refine bU (.agg (eZ (a.y*abv p b - b.y*abv p a))) wW (by simp -dsimp (disch:=try exact zo)only[go_sem];exact c186 a.y b.y (abv p b) (abv p a) (by omega) (by omega) (by omega) (by omega)) (by simp -dsimp (disch:=try exact zo)only[go_sem]) (.agg _ (by simp;exact⟨.lit _,.lit _⟩)) ?_|refine bU (.agg (eZ (a.z*abv p b - b.z*abv p a))) wW (by simp -dsimp (disch:=try exact zo)only[go_sem];exact c186 a.z b.z (abv p b) (abv p a) (by omega) (by omega) (by omega) (by omega)) (by simp -dsimp (disch:=try exact zo)only[go_sem]) (.agg _ (by simp;exact⟨.lit _,.lit _⟩)) ?_|refine bU (.agg (eZ (a.w*abv p b - b.w*abv p a))) wW (by simp -dsimp (disch:=try exact zo)only[go_sem];exact c186 a.w b.w (abv p b) (abv p a) (by omega) (by omega) (by omega) (by omega)) (by simp -dsimp (disch:=try exact zo)only[go_sem]) (.agg _ (by simp;exact⟨.lit _,.lit _⟩)) ?_)|(refine zf (c187 _ _ _ _ hbs hw) ?_)|(refine zv ?_ ?_<;>intro hg)|omega|simp -dsimp (disch:=try exact zo)only[go_sem,hne]|contradiction|rfl)
end Go.Proofs.Vx
namespace Geo
variable {α β:Type}
def aM:List α→List (α × α)
 | []=>[]
 | [_]=>[]
 | a::b::t=>(a,b)::aM (b::t)
def edges:List α→List (α × α)
 | []=>[]
 | x::t=>aM (x::t++[x])
theorem mO (l:List α) (m:α) (r:List α):aM (l++m::r)=aM (l++[m])++aM (m::r):=by
 induction l with
 | nil=>simp[aM]
 | cons a l ih=>cases l with
  | nil=>simp[aM]
  | cons b l=>simpa [aM]using ih
theorem mG (a b:α) (A B:List α):edges (a::A++b::B)=aM (a::A++[b])++aM (b::B++[a]):=by
 have:=mO (a::A) b (B++[a])
 simpa [edges]using this
theorem sV (A B:List α):(edges (A++B)).Perm (edges (B++A)):=by
 cases A with
 | nil=>simp
 | cons a A=>cases B with
  | nil=>simp
  | cons b B=>rw[mG,mG];exact Aq
theorem tG (l:List α) (x:α):(aM (l++[x])).map (·.1)=l:=by
 induction l with
 | nil=>rfl
 | cons a l ih=>cases l with
  | nil=>rfl
  | cons b l=>simpa [aM]using ih
theorem tF (x:α) (l:List α):(aM (x::l)).map (·.2)=l:=by
 induction l generalizing x with
 | nil=>rfl
 | cons a l ih=>simpa [aM]using ih a
theorem jE (l:List α):(edges l).map (·.1)=l:=by
 cases l with
 | nil=>rfl
 | cons x t=>exact tG (x::t) x
theorem y8 (l:List α):((edges l).map (·.2)).Perm l:=by
 cases l with
 | nil=>exact List.Perm.refl _
 | cons x t =>
  show ((aM (x::(t++[x]))).map (·.2)).Perm _
  rw[tF]
  exact List.perm_append_singleton x t
theorem fN (l:List α):(edges l).length=l.length:=by
 have:=congrArg List.length (jE l);simpa using this
theorem bD {l:List α} {e:α × α} (h:e∈edges l):e.1∈l:=by
 have:=Au (f:=(·.1)) h;rwa [jE]at this
theorem bL {l:List α} {e:α × α} (h:e∈edges l):e.2∈l :=
 (y8 l).mem_iff.1 (Au (f:=(·.2)) h)
theorem oD {l:List α} {a:α} (h:a∈l):∃ b,(a,b)∈edges l:=by
 rw[← jE l]at h
 obtain⟨e,he,rfl⟩:=Ai.1 h
 exact⟨e.2,he⟩
theorem b0a {l:List α} {a:α} (h:a∈l):∃ b,(b,a)∈edges l:=by
 have h:=(y8 l).mem_iff.2 h
 obtain⟨e,he,rfl⟩:=Ai.1 h
 exact⟨e.1,he⟩
theorem sB {f:α→β} {l:List α} (h:(l.map f).Nodup) {a b:α} (ha:a∈l) (hb:b∈l) (e:f a=f b):a=b:=by
 induction l with
 | nil=>simp at ha
 | cons x l ih =>
  simp only[Av,Ap,Ai,not_exists,not_and]at h
  rcases Ad.1 ha with ea|ma<;>rcases Ad.1 hb with eb|mb
  ·rw[ea,eb]
  ·exact absurd (by rw[← e,ea]) (h.1 _ mb)
  ·exact absurd (by rw[e,eb]) (h.1 _ ma)
  ·exact ih h.2 ma mb
theorem a3n {l:List α} (h:l.Nodup) {a b c:α} (h1:(a,b)∈edges l) (h2:(a,c)∈edges l):b=c:=by
 have:=sB (f:=(·.1)) (by rw[jE];exact h) h1 h2 rfl
 exact congrArg (·.2) this
theorem sF {f:α→β} {l:List α} (h:(l.map f).Nodup):l.Nodup:=by
 induction l with
 | nil=>simp
 | cons x l ih =>
  simp only[Av,Ap,Ai,not_exists,not_and]at h ⊢
  exact⟨fun hx=>h.1 x hx rfl,ih h.2⟩
theorem sJ {l:List α} (h:l.Nodup):(edges l).Nodup:=by
 have:((edges l).map (·.1)).Nodup:=by rw[jE];exact h
 exact sF this
theorem c0g (f:α→β) (l:List α):aM (l.map f)=(aM l).map (fun e=>(f e.1,f e.2)):=by
 induction l with
 | nil=>rfl
 | cons a l ih=>cases l with
  | nil=>rfl
  | cons b l=>simpa [aM]using ih
theorem y9 (f:α→β) (l:List α):edges (l.map f)=(edges l).map (fun e=>(f e.1,f e.2)):=by
 cases l with
 | nil=>rfl
 | cons a l=>have:=c0g f (a::l++[a]);simpa [edges]using this
theorem b2g (A:List α) (x y:α) (B:List α):(x,y)∈aM (A++x::y::B):=by
 rw[mO];simp[aM]
theorem vH {l:List α} {e:α × α} (h:e∈aM l):∃ A B,l=A++e.1::e.2::B:=by
 induction l with
 | nil=>simp[aM]at h
 | cons a l ih=>cases l with
  | nil=>simp[aM]at h
  | cons b l =>
   simp only[aM,Ad]at h
   rcases h with rfl|h
   ·exact⟨[],l,rfl⟩
   ·obtain⟨A,B,hAB⟩:=ih h
    exact⟨a::A,B,by rw[hAB];rfl⟩
theorem c2c {l:List α} (h:l.Nodup) (h2:2≤l.length) {e:α × α} (he:e∈edges l):e.1≠e.2:=by
 intro heq
 match l,h,h2,he with
 | x::y::t,h,_,he =>
  obtain⟨A,B,hAB⟩:=vH (l:=x::y::t++[x]) he
  rw[← heq]at hAB
  rcases Ar B with rfl|⟨B',b,rfl⟩
  ·have h1:x::y::t=A++[e.1]∧[x]=[e.1]:=by
    have:(x::y::t)++[x]=(A++[e.1])++[e.1]:=by simpa using hAB
    exact Ah this rfl
   have hx:x=e.1:=by simpa using h1.2
   cases A with
   | nil=>simp at h1
   | cons a A =>
    have h3:x=a∧y::t=A++[e.1]:=by simpa using h1.1
    have:x∈y::t:=by rw[h3.2,hx];simp
    exact (Ap.1 h).1 this
  ·have h1:x::y::t=A++e.1::e.1::B':=by
    have:(x::y::t)++[x]=(A++e.1::e.1::B')++[b]:=by simpa using hAB
    exact (Ah this rfl).1
   rw[h1]at h
   have:=(A3.1 h).2.1
   simp at this
theorem yJ {p:α→Prop} {x:α} {t:List α} (h:∀ e∈aM (x::t),p e.1→p e.2) (hx:p x):∀ y∈x::t,p y:=by
 induction t generalizing x with
 | nil=>intro y hy;simp at hy;exact hy▸hx
 | cons b t ih =>
  intro y hy
  rcases Ad.1 hy with rfl|hy
  ·exact hx
  ·exact ih (fun e he=>h e (by simp[aM,he])) (h (x,b) (by simp[aM]) hx) y hy
theorem a5n {p:α→Prop} [DecidablePred p]:∀ {l:List α},(∀ e∈aM l,p e.1→p e.2)→∃ P N,l=P++N∧(∀ x∈P,¬ p x)∧∀ x∈N,p x
 | [],_=>⟨[],[],rfl,by simp,by simp⟩
 | x::t,h=>by
  by_cases hx:p x
  ·exact⟨[],x::t,rfl,by simp,yJ h hx⟩
  ·obtain⟨P,N,h1,h2,h3⟩:=a5n (p:=p) (l:=t) (fun e he=>h e (by cases t with|nil=>simp[aM]at he|cons b t=>simp[aM,he]))
   refine⟨x::P,N,by rw[h1];rfl,?_,h3⟩
   intro y hy
   rcases Ad.1 hy with rfl|hy
   ·exact hx
   ·exact h2 y hy
theorem c9y {p:α→Prop} [DecidablePred p] {l:List α} {a b:α} (ha:a∈l) (pa:p a) (hb:b∈l) (pb:¬ p b):∃ e∈edges l,p e.1∧¬ p e.2:=by
 apply Classical.byContradiction
 intro hno
 have hcl:∀ e∈edges l,p e.1→p e.2:=fun e he h1=>Classical.byContradiction fun h2=>hno ⟨e,he,h1,h2⟩
 cases l with
 | nil=>simp at ha
 | cons x t =>
  obtain⟨A,B,hAB⟩:=List.append_of_mem ha
  have h1:aM (x::t++[x])=aM (A++[a])++aM (a::(B++[x])):=by
   rw[hAB];have:=mO A a (B++[x]);simpa using this
  have hx:p x:=yJ (t:=B++[x]) (fun e he=>hcl e (by show e∈aM (x::t++[x]);rw[h1];simp[he])) pa x (by simp)
  exact pb (yJ (t:=t++[x]) (fun e he=>hcl e he) hx b (by
   rcases Ad.1 hb with rfl|hb
   ·simp
   ·simp[hb]))
theorem b6a {p : α → Prop} [DecidablePred p] {l : List α} (hnd : l.Nodup) (h1 : ∀ e ∈ edges l, ∀ e' ∈ edges l, (p e.1 ∧ ¬ p e.2) → (p e'.1 ∧ ¬ p e'.2) → e = e') {a b : α} (ha : a ∈ l) (pa : p a) (hb : b ∈ l) (pb : ¬ p b) :
  ∃ N P A B,l=A++B∧B++A=N++P∧N≠[]∧P≠[]∧(∀ x∈N,p x)∧∀ x∈P,¬ p x:=by
 obtain⟨u,hu,hu1,hu2⟩:=c9y ha pa hb pb
 have key:∃ A B T,l=A++B∧B++A=u.2::T∧aM (u.2::(T++[u.2]))=aM (u.2::T)++[(u.1,u.2)]:=by
  cases l with
  | nil=>simp at ha
  | cons x t =>
   obtain⟨A,B,hAB⟩:=vH (l:=x::t++[x]) hu
   rcases Ar B with rfl|⟨B',c,rfl⟩
   ·have h2:(x::t)++[x]=(A++[u.1])++[u.2]:=by simpa using hAB
    obtain⟨h3,h4⟩:=Ah h2 rfl
    have hx:x=u.2:=by simpa using h4
    refine⟨[],x::t,t,rfl,by simp[hx],?_⟩
    have h5:u.2::t=A++[u.1]:=by rw[← hx];exact h3
    have:aM ((u.2::t)++[u.2])=aM (u.2::t)++[(u.1,u.2)]:=by
     rw[h5]
     have:=mO A u.1 [u.2]
     simpa [aM]using this
    simpa using this
   ·have h2:(x::t)++[x]=(A++u.1::u.2::B')++[c]:=by simpa using hAB
    obtain⟨h3,h4⟩:=Ah h2 rfl
    refine⟨A++[u.1],u.2::B',B'++(A++[u.1]),by simpa using h3,by simp,?_⟩
    have:=mO (u.2::B'++A) u.1 [u.2]
    simpa [aM]using this
 obtain⟨A,B,T,hl,hT,hp⟩:=key
 have hnd2:(B++A).Nodup:=by
  rw[hl]at hnd
  exact (Aq.nodup_iff).1 hnd
 have hed:edges (B++A)=aM (u.2::T)++[(u.1,u.2)]:=by
  rw[hT];show aM (u.2::T++[u.2])=_;rw[← hp];rfl
 have hper:(edges l).Perm (edges (B++A)):=by rw[hl];exact sV A B
 have hndE:=sJ hnd2
 rw[hed]at hndE
 have hno:∀ e∈aM (u.2::T),p e.1→p e.2:=by
  intro e he h2
  apply Classical.byContradiction
  intro h3
  have hel:e∈edges l:=hper.mem_iff.2 (by rw[hed];simp[he])
  have:=h1 e hel u hu ⟨h2,h3⟩ ⟨hu1,hu2⟩
  subst this
  exact (A3.1 hndE).2.2 e he e (by simp) rfl
 obtain⟨P,N,q1,q2,q3⟩:=a5n hno
 have hmem:∀ y,y∈l↔y∈P++N:=fun y=>by
  rw[← q1,← hT,hl];simp[or_comm]
 have hN:N≠[]:=by
  intro h0;subst h0
  exact q2 a (by simpa using (hmem a).1 ha) pa
 have hP:P≠[]:=by
  intro h0;subst h0
  exact pb (q3 b (by simpa using (hmem b).1 hb))
 rw[q1]at hT
 rcases List.append_eq_append_iff.1 hT with⟨C,hc1,hc2⟩|⟨C,hc1,hc2⟩
 ·
  exact⟨N,P,C,N++B,by rw[hl,hc2];simp,by rw[hc1];simp,hN,hP,q3,q2⟩
 ·
  exact⟨N,P,A++P,C,by rw[hl,hc1];simp,by rw[hc2];simp,hN,hP,q3,q2⟩
end Geo
namespace Go.Sx
set_option linter.unusedVariables false
theorem a2l {α:Type}:∀ (l:List α) (i:Nat) (h:i<(Geo.aM l).length) (h1:i<l.length) (h2:i+1<l.length),(Geo.aM l)[i]=(l[i],l[i+1])
 | [],i,h,_,_=>by simp[Geo.aM]at h
 | [_],i,h,_,_=>by simp[Geo.aM]at h
 | a::b::t,0,h,_,_=>by simp[Geo.aM]
 | a::b::t,i+1,h,h1,h2=>by
  have:=a2l (b::t) i (by simpa [Geo.aM]using h) (by simpa using h1) (by simpa using h2)
  simpa [Geo.aM]using this
theorem c0r {i n:Nat} (h:i<n):(i+1) % n=if i+1=n then 0 else i+1:=by
 split
 ·rename_i e;rw[e,Nat.mod_self]
 ·exact Nat.mod_eq_of_lt (by omega)
theorem vY {α:Type} (l:List α) (i:Nat) (h:i<l.length) (h':i<(Geo.edges l).length):(Geo.edges l)[i]=(l[i],l[(i+1) % l.length]'(A6 _ (by omega))):=by
 cases l with
 | nil=>simp at h
 | cons x t =>
  have hp:(Geo.edges (x::t))=Geo.aM (x::t++[x]):=rfl
  have:=a2l (x::t++[x]) i (by rw[← hp];exact h') (by simp at h ⊢;omega) (by simp at h ⊢;omega)
  simp only[hp]
  rw[this]
  have e1:(x::t++[x])[i]'(by simp at h ⊢;omega)=(x::t)[i]:=Am h
  rw[e1]
  congr 1
  simp only[c0r h]
  split
  ·rename_i e
   rw[List.getElem_append_right (by omega)]
   simp[e]
  ·rename_i e
   rw[Am (by simp at h e ⊢;omega)]
abbrev eG (p:Pl) (vs:List Pt):List AV:=[.lit (.bool (Zn p.a)),.lit (.string (Zm p.a)),.lit (.bool (Zn p.b)),.lit (.string (Zm p.b)),.lit (.bool (Zn p.c)),.lit (.string (Zm p.c)),.lit (.bool (Zn p.d)),.lit (.string (Zm p.d)),.sl (vs.map eP)]
abbrev eG0:List AV:=[.lit (.bool false),.lit (.string ⟨#[]⟩),.lit (.bool false),.lit (.string ⟨#[]⟩),.lit (.bool false),.lit (.string ⟨#[]⟩),.lit (.bool false),.lit (.string ⟨#[]⟩),.lit (.slice none 0 0)]
def pc (h:Int) (by':Pl) (a b:Pt):List Pt:=(if aB by' a≠-h then [a]else [])++(if aB by' a*aB by' b<0 then [bO by' a b]else [])
def bC (h:Int) (by':Pl) (vs:List Pt):List Pt:=(Geo.edges vs).flatMap fun e=>pc h by' e.1 e.2
def aT (h:Int) (by':Pl) (vs:List Pt) (i:Nat):List Pt:=((Geo.edges vs).take i).flatMap fun e=>pc h by' e.1 e.2
def bF (h:Int) (by':Pl) (vs:List Pt) (i:Nat):Bool:=(vs.take i).any fun v=>decide (aB by' v=h)
theorem vI (h:Int) (by':Pl) (vs:List Pt):aT h by' vs 0=[]:=rfl
theorem vT (h:Int) (by':Pl) (vs:List Pt):aT h by' vs vs.length=bC h by' vs:=by
 unfold aT bC
 rw[Ae (by rw[Geo.fN];exact Nat.le_refl _)]
theorem vJ (h:Int) (by':Pl) (vs:List Pt) (i:Nat) (hi:i<vs.length):aT h by' vs (i+1)=aT h by' vs i++pc h by' vs[i] (vs[(i+1) % vs.length]'(A6 _ (by omega))):=by
 have hl:i<(Geo.edges vs).length:=by rw[Geo.fN];exact hi
 unfold aT
 rw[Af hl,List.flatMap_append,vY vs i hi hl]
 simp
theorem a3g (h:Int) (by':Pl) (vs:List Pt):bF h by' vs 0=false:=rfl
theorem a3h (h:Int) (by':Pl) (vs:List Pt) (i:Nat) (hi:i<vs.length):bF h by' vs (i+1)=(bF h by' vs i||decide (aB by' vs[i]=h)):=by
 unfold bF
 rw[Af hi,List.any_append]
 simp
theorem b6g (h:Int) (by':Pl) (a b:Pt):(pc h by' a b).length≤2:=by
 unfold pc
 split<;>split<;>simp
theorem u6 (h:Int) (by':Pl) (vs:List Pt) (i:Nat):(aT h by' vs i).length≤2*i:=by
 induction i with
 | zero=>simp[vI]
 | succ i ih =>
  by_cases hi:i<vs.length
  ·rw[vJ h by' vs i hi,List.length_append]
   have:=b6g h by' vs[i] (vs[(i+1) % vs.length]'(A6 _ (by omega)))
   omega
  ·have:aT h by' vs (i+1)=aT h by' vs i:=by
    unfold aT
    rw[Ae (by rw[Geo.fN];omega),Ae (by rw[Geo.fN];omega)]
   rw[this];omega
theorem gS (z:Int):(sg z=-1∧z<0)∨(sg z=0∧z=0)∨(sg z=1∧0<z):=by
 unfold sg
 split
 ·exact .inl ⟨rfl,by assumption⟩
 ·split
  ·exact .inr (.inl ⟨rfl,by assumption⟩)
  ·exact .inr (.inr ⟨rfl,by omega⟩)
theorem opp {p:Pl} {a b:Pt} (h:aB p a*aB p b<0):(abv p a<0∧0<abv p b)∨(0<abv p a∧abv p b<0):=by
 unfold aB at h
 rcases gS (abv p a)with⟨e1,h1⟩|⟨e1,h1⟩|⟨e1,h1⟩<;>rcases gS (abv p b)with⟨e2,h2⟩|⟨e2,h2⟩|⟨e2,h2⟩<;>rw[e1,e2]at h<;>simp at h
 ·exact .inl ⟨h1,h2⟩
 ·exact .inr ⟨h1,h2⟩
theorem gB {p:Pl} {a b:Pt} (h:aB p a*aB p b<0):a≠b:=by
 rintro rfl
 rcases opp h with h|h<;>omega
theorem fI {p:Pl} {a b:Pt} (ha:0<a.w) (hb:0<b.w) (h:aB p a*aB p b<0):a.w*abv p b - b.w*abv p a≠0:=by
 rcases opp h with⟨h1,h2⟩|⟨h1,h2⟩
 ·have:=A8 ha h2
  have:=Ak hb h1
  omega
 ·have:=Ak ha h2
  have:=A8 hb h1
  omega
theorem eC (p:Pl) (a b:Pt):IntKind.i64.wrap (aB p a*aB p b)=aB p a*aB p b:=by
 unfold aB
 rcases gS (abv p a)with⟨e1,h1⟩|⟨e1,h1⟩|⟨e1,h1⟩<;>rcases gS (abv p b)with⟨e2,h2⟩|⟨e2,h2⟩|⟨e2,h2⟩<;>rw[e1,e2]<;>decide
theorem cZ (vs:List Pt) (i:Nat) (h:i<vs.length):(vs.map eP).getD i []=eP vs[i]:=by
 rw[Aj,An (by simpa using h)];simp
theorem vN (k:IntKind) (xs:List Int) (i:Nat) (h:i<xs.length):(aG k xs).getD i []=[.lit (.int k xs[i])]:=by
 rw[Aj,An (by rw[bT];exact h)];simp[aG]
theorem oF (vs:List Pt):∀ e∈vs.map eP,∀ c∈e,Flat c:=by
 intro e he c hc
 obtain⟨v,_,rfl⟩:=Ai.1 he
 simp only[eP,e4,Ad,List.not_mem_nil,or_false]at hc
 rcases hc with rfl|rfl|rfl|rfl|rfl|rfl|rfl|rfl<;>exact .lit _
theorem eP_in {K:Nat→Prop} (vs:List Pt):(∀ e∈vs.map eP,∀ c∈e,In K c)=True:=eq_true fun e he c hc=>(oF vs e he c hc).inn
attribute [go_sem] eP_in
end Go.Sx
