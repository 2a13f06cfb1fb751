import Derived.Test.YtjlfgmhmalbiiaaGreatDoorW34
set_option linter.all false
set_option maxHeartbeats 40000000
open Array renaming toList → Ax
open Int renaming cast_ofNat_Int → Aa, mul_ediv_cancel_left → Af, eq_zero_of_ediv_eq_zero → Ag, neg_ediv_of_dvd → Ai, mul_comm → Ak, natAbs_dvd_natAbs → An, natAbs_mul → Av
open List renaming map_cons → Ab, map_nil → Ac, mem_map_of_mem → Ad, take → Ae, mem_map → Aj, length_map → Am, mem_filterMap → Ap, any_eq_true → Aq, mem_append → At, nodup_cons → Au
open Nat renaming le_trans → Ah, gcd_mul_left → Al, reduceMul → Ao, dvd_gcd → Ar, le_refl → As, reduceAdd → Aw, zero_le → Ay, mul_one → A3
open Option renaming some → Az
namespace Go.Proofs.Vx
open Go Go.Sx Go.Proofs Tryz
attribute [local irreducible] fnT CallOK CallFr AW aI callV aL aJ aH aK gcaseP hid
theorem fF (x y z:Int) (h:(-1≤x∧x≤1)∧(-1≤y∧y≤1)∧(-1≤z∧z≤1)):BPt 65536 (wpt x y z):=by
 obtain⟨h1,h2,h3⟩:=h
 have k:∀ t:Int,-1≤t∧t≤1→(Zm (1000*t)).size≤65536:=fun t ht=>Ah ((cO (1000*t) 2).2 (by omega)) (by decide)
 exact⟨⟨k x h1,k y h2,k z h3,Ah ((cO 1 1).2 (by decide)) (by decide)⟩⟩
theorem thr0u:CallOK prog 161 [.agg (eP (wpt 1 (-1) (-1))),.agg (eP (wpt 1 1 (-1))),.agg (eP (wpt 1 1 1))] [] (.tup [.agg (eH ⟨1,0,0,1000⟩),.lit (.bool true)]) []:=by
 have:=r5 (wpt 1 (-1) (-1)) (wpt 1 1 (-1)) (wpt 1 1 1) (eD (by decide +kernel)) (eD (by decide +kernel)) (eD (by decide +kernel)) (fF _ _ _ (by decide)) (fF _ _ _ (by decide)) (fF _ _ _ (by decide)) (by decide +kernel)
 rwa [show lR (wpt 1 (-1) (-1)) (wpt 1 1 (-1)) (wpt 1 1 1)=⟨1,0,0,1000⟩ by decide +kernel]at this
theorem thr0d:CallOK prog 161 [.agg (eP (wpt (-1) (-1) (-1))),.agg (eP (wpt (-1) (-1) 1)),.agg (eP (wpt (-1) 1 1))] [] (.tup [.agg (eH ⟨-1,0,0,1000⟩),.lit (.bool true)]) []:=by
 have:=r5 (wpt (-1) (-1) (-1)) (wpt (-1) (-1) 1) (wpt (-1) 1 1) (eD (by decide +kernel)) (eD (by decide +kernel)) (eD (by decide +kernel)) (fF _ _ _ (by decide)) (fF _ _ _ (by decide)) (fF _ _ _ (by decide)) (by decide +kernel)
 rwa [show lR (wpt (-1) (-1) (-1)) (wpt (-1) (-1) 1) (wpt (-1) 1 1)=⟨-1,0,0,1000⟩ by decide +kernel]at this
theorem thr1u:CallOK prog 161 [.agg (eP (wpt (-1) 1 (-1))),.agg (eP (wpt (-1) 1 1)),.agg (eP (wpt 1 1 1))] [] (.tup [.agg (eH ⟨0,1,0,1000⟩),.lit (.bool true)]) []:=by
 have:=r5 (wpt (-1) 1 (-1)) (wpt (-1) 1 1) (wpt 1 1 1) (eD (by decide +kernel)) (eD (by decide +kernel)) (eD (by decide +kernel)) (fF _ _ _ (by decide)) (fF _ _ _ (by decide)) (fF _ _ _ (by decide)) (by decide +kernel)
 rwa [show lR (wpt (-1) 1 (-1)) (wpt (-1) 1 1) (wpt 1 1 1)=⟨0,1,0,1000⟩ by decide +kernel]at this
theorem thr1d:CallOK prog 161 [.agg (eP (wpt (-1) (-1) (-1))),.agg (eP (wpt 1 (-1) (-1))),.agg (eP (wpt 1 (-1) 1))] [] (.tup [.agg (eH ⟨0,-1,0,1000⟩),.lit (.bool true)]) []:=by
 have:=r5 (wpt (-1) (-1) (-1)) (wpt 1 (-1) (-1)) (wpt 1 (-1) 1) (eD (by decide +kernel)) (eD (by decide +kernel)) (eD (by decide +kernel)) (fF _ _ _ (by decide)) (fF _ _ _ (by decide)) (fF _ _ _ (by decide)) (by decide +kernel)
 rwa [show lR (wpt (-1) (-1) (-1)) (wpt 1 (-1) (-1)) (wpt 1 (-1) 1)=⟨0,-1,0,1000⟩ by decide +kernel]at this
theorem thr2u:CallOK prog 161 [.agg (eP (wpt (-1) (-1) 1)),.agg (eP (wpt 1 (-1) 1)),.agg (eP (wpt 1 1 1))] [] (.tup [.agg (eH ⟨0,0,1,1000⟩),.lit (.bool true)]) []:=by
 have:=r5 (wpt (-1) (-1) 1) (wpt 1 (-1) 1) (wpt 1 1 1) (eD (by decide +kernel)) (eD (by decide +kernel)) (eD (by decide +kernel)) (fF _ _ _ (by decide)) (fF _ _ _ (by decide)) (fF _ _ _ (by decide)) (by decide +kernel)
 rwa [show lR (wpt (-1) (-1) 1) (wpt 1 (-1) 1) (wpt 1 1 1)=⟨0,0,1,1000⟩ by decide +kernel]at this
theorem thr2d:CallOK prog 161 [.agg (eP (wpt (-1) (-1) (-1))),.agg (eP (wpt (-1) 1 (-1))),.agg (eP (wpt 1 1 (-1)))] [] (.tup [.agg (eH ⟨0,0,-1,1000⟩),.lit (.bool true)]) []:=by
 have:=r5 (wpt (-1) (-1) (-1)) (wpt (-1) 1 (-1)) (wpt 1 1 (-1)) (eD (by decide +kernel)) (eD (by decide +kernel)) (eD (by decide +kernel)) (fF _ _ _ (by decide)) (fF _ _ _ (by decide)) (fF _ _ _ (by decide)) (by decide +kernel)
 rwa [show lR (wpt (-1) (-1) (-1)) (wpt (-1) 1 (-1)) (wpt 1 1 (-1))=⟨0,0,-1,1000⟩ by decide +kernel]at this
set_option maxRecDepth 20000 in
theorem c94:CallOK prog 94 [] [] (.agg [.sl (eS c6)]) []:=by
 refine fV func94 rfl 70 rfl rfl (by simp -dsimp (disch:=try exact zo)only[go_sem]) [.cell 0 33] (congrArg Ax results94) ?_
 simp only[aD,Aw]
 have hml:maxLen=9223372036854775807:=rfl
 repeat'(first|refine zk ?_|(refine zu ?_ ?_<;>intro hc)|(refine zv ?_ ?_<;>intro hg)|omega|simp -dsimp (disch:=try exact zo)only[go_sem]|contradiction|rfl)
 refine AW.weak (jT 10 0 9 _ (by decide) rfl (by simp) rfl (by simp)) ?_
 have hwl:eS (Ae 6 c6)=eS c6:=rfl
 have hz:eS (c6.take 0)=[]:=rfl
 refine AW.loop (fun z:{i:Nat // i≤3}=>⟨[(2,.lit (.int .i64 z.1)),(1,.loc 10 0),(0,.loc 8 0)],[(10,.blk [.ref 13 0 (2*z.1) (2*z.1)]),(13,.vec 9 (eS (c6.take (2*z.1)))),(8,.blk [.lit (.slice none 0 0)])],30⟩) (fun z=>3 - z.1) ⟨0,Ay _⟩ (aQ (by refine⟨?_,?_,?_,?_⟩<;>simp -dsimp (disch:=try exact zo)only[go_sem,Nat.mul_zero,hz,ZC])) ?_
 rintro⟨i,hi⟩
 dsimp only
 rcases (show i=0∨i=1∨i=2∨i=3 by omega)with rfl|rfl|rfl|rfl
 ·have hE:eS (Ae 2 c6)=eS (Ae 0 c6)++[eG ⟨1,0,0,1000⟩ [wpt 1 (-1) (-1),wpt 1 1 (-1),wpt 1 1 1,wpt 1 (-1) 1]]++[eG ⟨-1,0,0,1000⟩ [wpt (-1) (-1) (-1),wpt (-1) (-1) 1,wpt (-1) 1 1,wpt (-1) 1 (-1)]]:=rfl
  have hlE:(eS (Ae 0 c6)).length=0:=rfl
  simp only[Ao]
  generalize eS (Ae 0 c6)=E at *
  repeat'(first|refine AW.seq ?_|refine iB (id:=3) ?_|refine iB (id:=5) ?_|refine iB (id:=6) ?_|refine AW.block ?_|refine AW.blk ?_|refine AW.skip ?_|refine AW.exit rfl ?_|(refine zc ?_ ?_<;>intro hc<;>first|simp only[NM]at hc|omega|skip)|refine zr ?_|(first|refine zf (nI (1) (-1) (-1) (by decide) (by decide) (by decide)) ?_|refine zf (nI (1) (1) (-1) (by decide) (by decide) (by decide)) ?_|refine zf (nI (1) (1) (1) (by decide) (by decide) (by decide)) ?_|refine zf (nI (1) (-1) (1) (by decide) (by decide) (by decide)) ?_|refine zf (nI (-1) (-1) (-1) (by decide) (by decide) (by decide)) ?_|refine zf (nI (-1) (-1) (1) (by decide) (by decide) (by decide)) ?_|refine zf (nI (-1) (1) (1) (by decide) (by decide) (by decide)) ?_|refine zf (nI (-1) (1) (-1) (by decide) (by decide) (by decide)) ?_)|refine⟨by omega,?_⟩|(refine zb ?_ ?_<;>intro hg<;>(try rw[hg])<;>try simp only[NM]at hg)|omega|simp -dsimp (disch:=try exact zo)only[go_sem,hlE]|contradiction|rfl)
  refine AW.weak (mI 40 4 8 ([wpt 1 (-1) (-1),wpt 1 1 (-1),wpt 1 1 1,wpt 1 (-1) 1].map eP) (t:=[(4,.ref 50 0 4 4),(3,.sl ([wpt 1 (-1) (-1),wpt 1 1 (-1),wpt 1 1 1,wpt 1 (-1) 1].map eP)),(2,.lit (.int .i64 ((0:Nat):Int))),(1,.loc 10 0),(0,.loc 8 0)]) (o:=[(50,.vec 8 ([wpt (-1) (-1) (-1),wpt (-1) (-1) 1,wpt (-1) 1 1,wpt (-1) 1 (-1)].map eP)),(10,.blk [.ref 13 0 0 0]),(13,.vec 9 E),(8,.blk [.lit (.slice none 0 0)])]) rfl rfl (by simp -dsimp (disch:=try exact zo)only[go_sem,and_self,Ab,Ac]) (by simp -dsimp (disch:=try exact zo)only[go_sem,and_self,Ab,Ac])) ?_
  refine AW.weak (mI 50 4 8 ([wpt (-1) (-1) (-1),wpt (-1) (-1) 1,wpt (-1) 1 1,wpt (-1) 1 (-1)].map eP) (t:=[(4,.sl ([wpt (-1) (-1) (-1),wpt (-1) (-1) 1,wpt (-1) 1 1,wpt (-1) 1 (-1)].map eP)),(3,.sl ([wpt 1 (-1) (-1),wpt 1 1 (-1),wpt 1 1 1,wpt 1 (-1) 1].map eP)),(2,.lit (.int .i64 ((0:Nat):Int))),(1,.loc 10 0),(0,.loc 8 0)]) (o:=[(10,.blk [.ref 13 0 0 0]),(13,.vec 9 E),(8,.blk [.lit (.slice none 0 0)])]) rfl rfl (by simp -dsimp (disch:=try exact zo)only[go_sem,and_self,Ab,Ac]) (by simp -dsimp (disch:=try exact zo)only[go_sem,and_self,Ab,Ac])) ?_
  repeat'(first|refine zk ?_|(refine zu ?_ ?_<;>intro hc)|(first|refine zf thr0u ?_|refine zf thr0d ?_)|(refine zv ?_ ?_<;>intro hg)|omega|simp -dsimp (disch:=try exact zo)only[go_sem,hlE,Ab,Ac]|rfl)
  all_goals exact AW.stop ⟨⟨1,by omega⟩,(mZ (by simp -dsimp (disch:=try exact zo)only[go_sem,Aa]) (by simp -dsimp (disch:=try exact zo)only[go_sem,hE,Aa];try rfl) (by decide) (by simp -dsimp (disch:=try exact zo)only[go_sem,Aa]) (by simp -dsimp (disch:=try exact zo)only[go_sem,Aa])),by dsimp only;omega⟩
 ·have hE:eS (Ae 4 c6)=eS (Ae 2 c6)++[eG ⟨0,1,0,1000⟩ [wpt (-1) 1 (-1),wpt (-1) 1 1,wpt 1 1 1,wpt 1 1 (-1)]]++[eG ⟨0,-1,0,1000⟩ [wpt (-1) (-1) (-1),wpt 1 (-1) (-1),wpt 1 (-1) 1,wpt (-1) (-1) 1]]:=rfl
  have hlE:(eS (Ae 2 c6)).length=2:=rfl
  simp only[Ao]
  generalize eS (Ae 2 c6)=E at *
  repeat'(first|refine AW.seq ?_|refine iB (id:=3) ?_|refine iB (id:=5) ?_|refine iB (id:=6) ?_|refine AW.block ?_|refine AW.blk ?_|refine AW.skip ?_|refine AW.exit rfl ?_|(refine zc ?_ ?_<;>intro hc<;>first|simp only[NM]at hc|omega|skip)|refine zr ?_|(first|refine zf (nH (1) (-1) (-1) (by decide) (by decide) (by decide)) ?_|refine zf (nH (1) (1) (-1) (by decide) (by decide) (by decide)) ?_|refine zf (nH (1) (1) (1) (by decide) (by decide) (by decide)) ?_|refine zf (nH (1) (-1) (1) (by decide) (by decide) (by decide)) ?_|refine zf (nH (-1) (-1) (-1) (by decide) (by decide) (by decide)) ?_|refine zf (nH (-1) (-1) (1) (by decide) (by decide) (by decide)) ?_|refine zf (nH (-1) (1) (1) (by decide) (by decide) (by decide)) ?_|refine zf (nH (-1) (1) (-1) (by decide) (by decide) (by decide)) ?_)|refine⟨by omega,?_⟩|(refine zb ?_ ?_<;>intro hg<;>(try rw[hg])<;>try simp only[NM]at hg)|omega|simp -dsimp (disch:=try exact zo)only[go_sem,hlE]|contradiction|rfl)
  refine AW.weak (mI 40 4 8 ([wpt (-1) 1 (-1),wpt (-1) 1 1,wpt 1 1 1,wpt 1 1 (-1)].map eP) (t:=[(4,.ref 50 0 4 4),(3,.sl ([wpt (-1) 1 (-1),wpt (-1) 1 1,wpt 1 1 1,wpt 1 1 (-1)].map eP)),(2,.lit (.int .i64 ((1:Nat):Int))),(1,.loc 10 0),(0,.loc 8 0)]) (o:=[(50,.vec 8 ([wpt (-1) (-1) (-1),wpt 1 (-1) (-1),wpt 1 (-1) 1,wpt (-1) (-1) 1].map eP)),(10,.blk [.ref 13 0 2 2]),(13,.vec 9 E),(8,.blk [.lit (.slice none 0 0)])]) rfl rfl (by simp -dsimp (disch:=try exact zo)only[go_sem,and_self,Ab,Ac]) (by simp -dsimp (disch:=try exact zo)only[go_sem,and_self,Ab,Ac])) ?_
  refine AW.weak (mI 50 4 8 ([wpt (-1) (-1) (-1),wpt 1 (-1) (-1),wpt 1 (-1) 1,wpt (-1) (-1) 1].map eP) (t:=[(4,.sl ([wpt (-1) (-1) (-1),wpt 1 (-1) (-1),wpt 1 (-1) 1,wpt (-1) (-1) 1].map eP)),(3,.sl ([wpt (-1) 1 (-1),wpt (-1) 1 1,wpt 1 1 1,wpt 1 1 (-1)].map eP)),(2,.lit (.int .i64 ((1:Nat):Int))),(1,.loc 10 0),(0,.loc 8 0)]) (o:=[(10,.blk [.ref 13 0 2 2]),(13,.vec 9 E),(8,.blk [.lit (.slice none 0 0)])]) rfl rfl (by simp -dsimp (disch:=try exact zo)only[go_sem,and_self,Ab,Ac]) (by simp -dsimp (disch:=try exact zo)only[go_sem,and_self,Ab,Ac])) ?_
  repeat'(first|refine zk ?_|(refine zu ?_ ?_<;>intro hc)|(first|refine zf thr1u ?_|refine zf thr1d ?_)|(refine zv ?_ ?_<;>intro hg)|omega|simp -dsimp (disch:=try exact zo)only[go_sem,hlE,Ab,Ac]|rfl)
  all_goals exact AW.stop ⟨⟨2,by omega⟩,(mZ (by simp -dsimp (disch:=try exact zo)only[go_sem,Aa]) (by simp -dsimp (disch:=try exact zo)only[go_sem,hE,Aa];try rfl) (by decide) (by simp -dsimp (disch:=try exact zo)only[go_sem,Aa]) (by simp -dsimp (disch:=try exact zo)only[go_sem,Aa])),by dsimp only;omega⟩
 ·have hE:eS (Ae 6 c6)=eS (Ae 4 c6)++[eG ⟨0,0,1,1000⟩ [wpt (-1) (-1) 1,wpt 1 (-1) 1,wpt 1 1 1,wpt (-1) 1 1]]++[eG ⟨0,0,-1,1000⟩ [wpt (-1) (-1) (-1),wpt (-1) 1 (-1),wpt 1 1 (-1),wpt 1 (-1) (-1)]]:=rfl
  have hlE:(eS (Ae 4 c6)).length=4:=rfl
  simp only[Ao]
  generalize eS (Ae 4 c6)=E at *
  repeat'(first|refine AW.seq ?_|refine iB (id:=3) ?_|refine iB (id:=5) ?_|refine iB (id:=6) ?_|refine AW.block ?_|refine AW.blk ?_|refine AW.skip ?_|refine AW.exit rfl ?_|(refine zc ?_ ?_<;>intro hc<;>first|simp only[NM]at hc|omega|skip)|refine zr ?_|(first|refine zf (nG (1) (-1) (-1) (by decide) (by decide) (by decide)) ?_|refine zf (nG (1) (1) (-1) (by decide) (by decide) (by decide)) ?_|refine zf (nG (1) (1) (1) (by decide) (by decide) (by decide)) ?_|refine zf (nG (1) (-1) (1) (by decide) (by decide) (by decide)) ?_|refine zf (nG (-1) (-1) (-1) (by decide) (by decide) (by decide)) ?_|refine zf (nG (-1) (-1) (1) (by decide) (by decide) (by decide)) ?_|refine zf (nG (-1) (1) (1) (by decide) (by decide) (by decide)) ?_|refine zf (nG (-1) (1) (-1) (by decide) (by decide) (by decide)) ?_)|refine⟨by omega,?_⟩|(refine zb ?_ ?_<;>intro hg<;>(try rw[hg])<;>try simp only[NM]at hg)|omega|simp -dsimp (disch:=try exact zo)only[go_sem,hlE]|contradiction|rfl)
  refine AW.weak (mI 40 4 8 ([wpt (-1) (-1) 1,wpt 1 (-1) 1,wpt 1 1 1,wpt (-1) 1 1].map eP) (t:=[(4,.ref 50 0 4 4),(3,.sl ([wpt (-1) (-1) 1,wpt 1 (-1) 1,wpt 1 1 1,wpt (-1) 1 1].map eP)),(2,.lit (.int .i64 ((2:Nat):Int))),(1,.loc 10 0),(0,.loc 8 0)]) (o:=[(50,.vec 8 ([wpt (-1) (-1) (-1),wpt (-1) 1 (-1),wpt 1 1 (-1),wpt 1 (-1) (-1)].map eP)),(10,.blk [.ref 13 0 4 4]),(13,.vec 9 E),(8,.blk [.lit (.slice none 0 0)])]) rfl rfl (by simp -dsimp (disch:=try exact zo)only[go_sem,and_self,Ab,Ac]) (by simp -dsimp (disch:=try exact zo)only[go_sem,and_self,Ab,Ac])) ?_
  refine AW.weak (mI 50 4 8 ([wpt (-1) (-1) (-1),wpt (-1) 1 (-1),wpt 1 1 (-1),wpt 1 (-1) (-1)].map eP) (t:=[(4,.sl ([wpt (-1) (-1) (-1),wpt (-1) 1 (-1),wpt 1 1 (-1),wpt 1 (-1) (-1)].map eP)),(3,.sl ([wpt (-1) (-1) 1,wpt 1 (-1) 1,wpt 1 1 1,wpt (-1) 1 1].map eP)),(2,.lit (.int .i64 ((2:Nat):Int))),(1,.loc 10 0),(0,.loc 8 0)]) (o:=[(10,.blk [.ref 13 0 4 4]),(13,.vec 9 E),(8,.blk [.lit (.slice none 0 0)])]) rfl rfl (by simp -dsimp (disch:=try exact zo)only[go_sem,and_self,Ab,Ac]) (by simp -dsimp (disch:=try exact zo)only[go_sem,and_self,Ab,Ac])) ?_
  repeat'(first|refine zk ?_|(refine zu ?_ ?_<;>intro hc)|(first|refine zf thr2u ?_|refine zf thr2d ?_)|(refine zv ?_ ?_<;>intro hg)|omega|simp -dsimp (disch:=try exact zo)only[go_sem,hlE,Ab,Ac]|rfl)
  all_goals exact AW.stop ⟨⟨3,by omega⟩,(mZ (by simp -dsimp (disch:=try exact zo)only[go_sem,Aa]) (by simp -dsimp (disch:=try exact zo)only[go_sem,hE,Aa];try rfl) (by decide) (by simp -dsimp (disch:=try exact zo)only[go_sem,Aa]) (by simp -dsimp (disch:=try exact zo)only[go_sem,Aa])),by dsimp only;omega⟩
 ·exact z1
theorem b1g {K:Nat→Prop}:In K (.agg [.lit (.slice none 0 0)]):=.agg _ (by intro c hc;simp only[zM,or_false]at hc;subst hc;exact .lit _)
theorem splIn {K:Nat→Prop} {l:aC} {b:Pl}:In K (if aY b l=false then .tup [.agg [.sl (eS l)],.agg [.lit (.slice none 0 0)]]else if aZ b l=false then .tup [.agg [.lit (.slice none 0 0)],.agg [.sl (eS l)]]else .tup [.agg [.sl (eS (jJ b l))],.agg [.sl (eS (jJ (aW b) l))]]):=by
 have key:∀ a c:AV,In K a→In K c→In K (.tup [a,c]):=fun a c ha hc=>.tup _ (by intro x hx;simp only[zM,or_false]at hx;rcases hx with rfl|rfl<;>assumption)
 split
 ·exact key _ _ (fG _) b1g
 ·split
  ·exact key _ _ b1g (fG _)
  ·exact key _ _ (fG _) (fG _)
theorem c95x (l:aC) (b:Pl) (h:CellOK l) (hb:BPl 1048576 b) (hn:l.length≤4096) (hv:∀ s∈l,s.2.length≤65536∧∀ v∈s.2,BPt 1048576 v):CallOK prog 95 [.agg [.sl (eS l)],.agg (eH b)] [] (if aY b l=false then .tup [.agg [.sl (eS l)],.agg [.lit (.slice none 0 0)]]else if aZ b l=false then .tup [.agg [.lit (.slice none 0 0)],.agg [.sl (eS l)]]else .tup [.agg [.sl (eS (jJ b l))],.agg [.sl (eS (jJ (aW b) l))]]) []:=by
 refine fV func95 rfl 29 rfl rfl splIn [.cell 4 33,.cell 5 33] (congrArg Ax results95) ?_
 simp only[aD,Aw]
 have cr:=c162 l b (hb.mono (by decide)) (by omega) (fun s hs=>⟨Ah (hv s hs).1 (by decide),fun v hvm=>((hv s hs).2 v hvm).mono (by decide)⟩)
 have cf:=c51 b (hb.mono (by decide))
 by_cases hf:aY b l=false
 ·rw[if_pos hf]
  have ca:True:=trivial
  have cb:True:=trivial
  rw[hf]at cr
  clear h hv hf
  generalize aZ b l=B at *
  exact z1
 ·rw[if_neg hf]
  have hf':aY b l=true:=by simpa using hf
  rw[hf']at cr
  by_cases hbb:aZ b l=false
  ·rw[if_pos hbb]
   rw[hbb]at cr
   have ca:True:=trivial
   have cb:True:=trivial
   clear h hv hf hbb hf'
   exact z1
  ·rw[if_neg hbb]
   have hb':aZ b l=true:=by simpa using hbb
   rw[hb']at cr
   have ca:=c163 l b h (gA h hf' hb') hb hn hv
   have cb:=c163 l (aW b) h (gA h (by rw[kT];exact hb') (by rw[mK];exact hf')) hb.neg hn hv
   clear h hv hf hbb hf' hb'
   exact z1
theorem c95 (l:aC) (b:Pl) (h:CellOK l) (hb:BPl 1048576 b) (hn:l.length≤4096) (hv:∀ s∈l,s.2.length≤65536∧∀ v∈s.2,BPt 1048576 v):CallOK prog 95 [.agg [.sl (eS l)],.agg (eH b)] [] (.tup [.agg [.sl (eS (cP b l).1)],.agg [.sl (eS (cP b l).2)]]) []:=by
 have:=c95x l b h hb hn hv
 unfold cP
 by_cases hf:aY b l=false
 ·rw[if_pos hf]at this ⊢
  exact this.wk fun g v=>wI (fun v h=>h) (fun v h=>vS h)
 ·rw[if_neg hf]at this ⊢
  by_cases hbb:aZ b l=false
  ·rw[if_pos hbb]at this ⊢
   exact this.wk fun g v=>wI (fun v h=>vS h) (fun v h=>h)
  ·rw[if_neg hbb]at this ⊢
   exact this
end Go.Proofs.Vx
namespace Go.Proofs.Vx
open Go Go.Sx Go.Proofs Tryz
attribute [local irreducible] fnT CallOK CallFr AW aI callV aL aJ aH aK gcaseP hid
def ptR (x:RP):Pt:=nrm (iv x.n1 x.m1) (iv x.n2 x.m2) (iv x.n3 x.m3) (iv x.n4 x.m4)
theorem c4z (x:RP):CanP (ptR x):=vU _ _ _ _
theorem c9d {x:RP} (h:¬ gR x=true):BPt 6 (ptR x):=by
 obtain⟨h1,h2,h3,h4⟩:=a6s (by simpa using h)
 exact⟨a9u ⟨nC h1,nC h2,nC h3,nC h4⟩ (by decide)⟩
theorem c29x (x:RP) (h:¬ gR x=true):CallOK prog 29 [.agg (eRP x)] [] (.agg (eP (ptR x))) []:=by
 obtain⟨h1,h2,h3,h4⟩:=a6s (by simpa using h)
 exact c29 x.n1 x.n2 x.n3 x.n4 x.m1 x.m2 x.m3 x.m4 (by omega) (by omega) (by omega) (by omega)
end Go.Proofs.Vx
namespace Go.Proofs.Vx
open Go Go.Sx Go.Proofs Tryz
attribute [local irreducible] fnT CallOK CallFr AW aI callV aL aJ aH aK gcaseP hid
theorem xA {l:aC} (h:CellOK l) {x:Pt} (hx:0<x.w):(cJ l x=-1↔¬ Geo.Cl (sds l) (tv x))∧(cJ l x=1↔Geo.Inn (sds l) (tv x))∧(cJ l x=-1∨cJ l x=0∨cJ l x=1):=by
 have ho:kG l x=true↔¬ Geo.Cl (sds l) (tv x):=by
  unfold kG Geo.Cl
  rw[Aq]
  constructor
  ·rintro⟨s,hs,hd⟩ hc
   have h1:=hc (sd s) (Ad hs)
   have h2:=(kA s.1 hx).2 (lL.1 (of_decide_eq_true hd))
   exact absurd h1 (Rat.not_le.2 h2)
  ·intro hc
   apply Classical.byContradiction
   intro hn
   refine hc fun t ht=>?_
   obtain⟨s,hs,rfl⟩:=Aj.1 ht
   apply Rat.not_lt.1
   intro hlt
   exact hn ⟨s,hs,decide_eq_true (lL.2 ((kA s.1 hx).1 hlt))⟩
 have hi:(¬ kG l x=true∧¬ onB l x=true)↔Geo.Inn (sds l) (tv x):=by
  rw[ho,Classical.not_not]
  unfold onB Geo.Inn
  rw[Aq]
  constructor
  ·rintro⟨hc,hn⟩ t ht
   obtain⟨s,hs,rfl⟩:=Aj.1 ht
   rcases Geo.fD (hc (sd s) (Ad hs))with h1|h1
   ·exact h1
   ·exact absurd ⟨s,hs,decide_eq_true (mW.2 ((jN s.1 hx).1 h1))⟩ hn
  ·intro hn
   refine⟨fun t ht=>Rat.le_of_lt (hn t ht),?_⟩
   rintro⟨s,hs,hd⟩
   have h1:=hn (sd s) (Ad hs)
   have h2:=(jN s.1 hx).2 (mW.1 (of_decide_eq_true hd))
   rw[show (sd s).h.at (tv x)=(tH s.1).at (tv x)from rfl,h2]at h1
   exact absurd h1 (by decide)
 unfold cJ
 have hne:=h.ne
 by_cases h1:kG l x=true
 ·rw[if_pos (.inr h1)]
  refine⟨⟨fun _=>ho.1 h1,fun _=>rfl⟩,⟨fun e=>absurd e (by decide),fun hh=>absurd h1 (hi.2 hh).1⟩,.inl rfl⟩
 ·rw[if_neg (fun e=>e.elim hne h1)]
  by_cases h2:onB l x=true
  ·rw[if_pos h2]
   refine⟨⟨fun e=>absurd e (by decide),fun hh=>absurd (ho.2 hh) h1⟩,⟨fun e=>absurd e (by decide),fun hh=>absurd h2 (hi.2 hh).2⟩,.inr (.inl rfl)⟩
  ·rw[if_neg h2]
   exact⟨⟨fun e=>absurd e (by decide),fun hh=>absurd (ho.2 hh) h1⟩,⟨fun _=>hi.1 ⟨h1,h2⟩,fun _=>rfl⟩,.inr (.inr rfl)⟩
def jC (l:aC):Prop:=∀ s∈l,CanH s.1
theorem c2x {p:Pl} (h:CanH p):CanH (aW p):=by
 have hg:g4 (-p.a) (-p.b) (-p.c) (-p.d)=g4 p.a p.b p.c p.d:=by unfold g4;simp only[Int.natAbs_neg]
 have hn:=h.nrm
 obtain⟨d1,d2,d3,d4⟩:=j4 p.a p.b p.c p.d
 refine⟨?_,fun e=>h.ne ?_⟩
 ·unfold i5 at hn ⊢
  unfold aW
  simp only[hg]
  rw[Ai d1,Ai d2,Ai d3,Ai d4]
  have ha:=congrArg Pl.a hn
  have hb:=congrArg Pl.b hn
  have hc:=congrArg Pl.c hn
  have hd:=congrArg Pl.d hn
  simp only at ha hb hc hd
  rw[ha,hb,hc,hd]
 ·unfold aW at e
  simp only at e
  omega
theorem bh_H {b:Pl} {l:aC} (h:jC l):jC (bh b l):=by
 intro s hs
 obtain⟨t,ht,e⟩:=Ap.1 hs
 split at e
 ·obtain rfl:=Az.inj e
  exact h t ht
 ·contradiction
theorem a8w {b:Pl} {l:aC} (h:jC l) (hb:CanH b):jC (iK b l):=by
 intro s hs
 rcases At.1 hs with hs|hs
 ·exact bh_H h s hs
 ·obtain rfl:s=_:=by simpa using hs
  exact hb
theorem c4l {b:Pl} {l:aC} (h:jC l) (hb:CanH b):jC (aP b l).1∧jC (aP b l).2:=by
 have h0:jC []:=fun s hs=>by simp at hs
 unfold aP
 by_cases hf:aY b l=false
 ·rw[if_pos hf];exact⟨h,h0⟩
 ·rw[if_neg hf]
  by_cases hbb:aZ b l=false
  ·rw[if_pos hbb];exact⟨h0,h⟩
  ·rw[if_neg hbb];exact⟨a8w h hb,a8w h (c2x hb)⟩
def b1u (p:Pl):Bool:=decide (i5 p.a p.b p.c p.d=p)&&decide (¬ (p.a=0∧p.b=0∧p.c=0))
theorem c3z:jC aN:=by
 have:aN.all (fun s=>b1u s.1)=true:=by decide +kernel
 intro s hs
 have:=List.all_eq_true.1 this s hs
 simp only[b1u,Bool.and_eq_true,decide_eq_true_eq]at this
 exact⟨this.1,this.2⟩
theorem c9l {r:RP} (h5:¬ (iv r.n1 r.m1=0∧iv r.n2 r.m2=0∧iv r.n3 r.m3=0)):CanH (eY r):=by
 obtain⟨d1,d2,d3,d4⟩:=j4 (iv r.n1 r.m1) (iv r.n2 r.m2) (iv r.n3 r.m3) (iv r.n4 r.m4)
 have hG:0<g4 (iv r.n1 r.m1) (iv r.n2 r.m2) (iv r.n3 r.m3) (iv r.n4 r.m4):=by
  apply Nat.pos_of_ne_zero
  intro h0
  rw[h0]at d1 d2 d3
  exact h5 ⟨by simpa using d1,by simpa using d2,by simpa using d3⟩
 refine⟨?_,fun e=>h5 ⟨Ag d1 e.1,Ag d2 e.2.1,Ag d3 e.2.2⟩⟩
 unfold eY
 generalize iv r.n1 r.m1=x at *
 generalize iv r.n2 r.m2=y at *
 generalize iv r.n3 r.m3=z at *
 generalize iv r.n4 r.m4=w at *
 obtain⟨x',ex⟩:=d1
 obtain⟨y',ey⟩:=d2
 obtain⟨z',ez⟩:=d3
 obtain⟨w',ew⟩:=d4
 have hg1:g4 x' y' z' w'=1:=by
  have:=w7 (g4 x y z w:Int) x' y' z' w'
  rw[← ex,← ey,← ez,← ew,Int.natAbs_natCast]at this
  have h2:g4 x y z w*1=g4 x y z w*g4 x' y' z' w':=by rw[A3];exact this
  exact (Nat.eq_of_mul_eq_mul_left hG h2).symm
 have hG':(g4 x y z w:Int)≠0:=by omega
 have q1:x / (g4 x y z w:Int)=x':=by (conv=>lhs;lhs;rw[ex]);exact Af _ hG'
 have q2:y / (g4 x y z w:Int)=y':=by (conv=>lhs;lhs;rw[ey]);exact Af _ hG'
 have q3:z / (g4 x y z w:Int)=z':=by (conv=>lhs;lhs;rw[ez]);exact Af _ hG'
 have q4:w / (g4 x y z w:Int)=w':=by (conv=>lhs;lhs;rw[ew]);exact Af _ hG'
 unfold i5
 rw[q1,q2,q3,q4]
 simp only[hg1]
 simp
end Go.Proofs.Vx
namespace Geo
namespace Cell
variable {c:List Sd}
theorem a5r {α:Type} [DecidableEq α]:∀ {l m:List α},l.Nodup→(∀ x∈l,x∈m)→l.length≤m.length
 | [],_,_,_=>Ay _
 | a::l,m,hn,h=>by
  have ha:a∈m:=h a (by simp)
  have h2:=a5r (m:=m.erase a) (Au.1 hn).2 fun x hx=>(List.mem_erase_of_ne (fun (e:x=a)=>(Au.1 hn).1 (e▸hx))).2 (h x (by simp[hx]))
  have h3:=List.length_erase_of_mem ha
  have h4:=List.length_pos_of_mem ha
  simp only[List.length_cons]
  omega
open Classical in
theorem side_len (C:Cell c) {s:Sd} (hs:s∈c):s.vs.length≤c.length:=by
 have pv:=C.pv s hs
 have hch:∀ e∈edges s.vs,∃ t,t∈c∧t.h.at e.1=0∧t.h.at e.2=0∧∀ x∈s.vs,x≠e.1→x≠e.2→t.h.at x<0:=fun e he=>by
  obtain⟨t,ht,hts,hte,k,hk,hf⟩:=C.beside hs he
  refine⟨t,ht,C.pl t ht _ (bL hte),C.pl t ht _ (bD hte),fun x hx h1 h2=>?_⟩
  have ho:=pv.lf _ he x hx h1 h2
  have:=hf x (C.pl s hs x hx)
  rcases fD (C.le t ht s hs x hx)with h|h
  ·exact h
  ·rw[h]at this;grind
 let f:V × V→Sd:=fun e=>if h:e∈edges s.vs then (hch e h).choose else s
 have hf:∀ e∈edges s.vs,f e∈c∧(f e).h.at e.1=0∧(f e).h.at e.2=0∧∀ x∈s.vs,x≠e.1→x≠e.2→(f e).h.at x<0:=fun e he=>by
  simp only[f,dif_pos he]
  exact (hch e he).choose_spec
 have inj:∀ a∈edges s.vs,∀ b∈edges s.vs,f a=f b→a=b:=by
  intro a ha b hb e
  obtain⟨_,a1,a2,a3⟩:=hf a ha
  obtain⟨_,b1,b2,b3⟩:=hf b hb
  rw[← e]at b1 b2
  have two:∀ x∈s.vs,(f a).h.at x=0→x=a.1∨x=a.2:=fun x hx h0=>by
   by_cases h1:x=a.1
   ·exact .inl h1
   ·by_cases h2:x=a.2
    ·exact .inr h2
    ·have:=a3 x hx h1 h2;rw[h0]at this;exact absurd this (by grind)
  rcases two _ (bD hb) b1 with h|h
  ·have:(a.1,b.2)∈edges s.vs:=h▸hb
   exact Prod.ext h.symm (a3n pv.nd (show (a.1,a.2)∈edges s.vs from ha) this)
  ·rcases two _ (bL hb) b2 with h'|h'
   ·have:b=sw a:=Prod.ext h h'
    exact (sZ pv ha (this▸hb)).elim
   ·exact absurd (h.trans h'.symm) (pv.ne hb)
 have hnd:((edges s.vs).map f).Nodup:=by
  have he:=sJ pv.nd
  unfold List.Nodup at he ⊢
  rw[List.pairwise_map]
  exact he.imp_of_mem fun ha hb hab e=>hab (inj _ ha _ hb e)
 have:=a5r hnd (m:=c) fun x hx=>by
  obtain⟨e,he,rfl⟩:=Aj.1 hx
  exact (hf e he).1
 rw[Am,fN]at this
 exact this
theorem indep (C:Cell c) {s:Sd} (hs:s∈c) {v:V} (hv:v∈s.vs):∃ p∈c,∃ q∈c,∃ r∈c,p.h.at v=0∧q.h.at v=0∧r.h.at v=0∧dot r.h.n (aA p.h.n q.h.n)≠0:=by
 have hx:=C.vert_ext hs hv
 have get:∀ d:V,d≠⟨0,0,0⟩→∃ t∈c,t.h.at v=0∧dot t.h.n d≠0:=by
  intro d hd
  apply Classical.byContradiction
  intro hno
  obtain⟨t,t0,h1,h2⟩:=b7x (l:=c) (x:=v) (d:=d) fun u hu=>by
   rcases fD (hx.1 u hu)with h|h
   ·exact .inl h
   ·refine .inr ⟨h,Classical.byContradiction fun hn=>hno ⟨u,hu,h,hn⟩⟩
  exact c6g hx hd ⟨t,t0,h1,h2⟩
 obtain⟨p,hp,p0,pd⟩:=get ⟨1,0,0⟩ (fun h=>by have:=congrArg V.x h;simp at this)
 have pa:p.h.n.x≠0:=fun h=>pd (by simp only[dot,h];grind)
 obtain⟨q,hq,q0,qd⟩:=get ⟨p.h.n.y,- p.h.n.x,0⟩ (fun h=>by have:=congrArg V.y h;simp only at this;grind)
 have hcr:aA p.h.n q.h.n≠⟨0,0,0⟩:=fun h=>by
  have hz:=congrArg V.z h
  simp only[aA]at hz
  refine qd ?_
  simp only[dot]
  grind
 obtain⟨r,hr,r0,rd⟩:=get _ hcr
 exact⟨p,hp,q,hq,r,hr,p0,q0,r0,rd⟩
end Cell
end Geo
namespace Go.Sx
open Geo
theorem d0j {v : Pt} (hv : CanP v) {a1 b1 c1 d1 a2 b2 c2 d2 a3 b3 c3 d3 : Int} (e1 : a1 * v.x + b1 * v.y + c1 * v.z = d1 * v.w) (e2 : a2 * v.x + b2 * v.y + c2 * v.z = d2 * v.w) (e3 : a3 * v.x + b3 * v.y + c3 * v.z = d3 * v.w)
  (hD:a1*(b2*c3 - b3*c2) - b1*(a2*c3 - a3*c2)+c1*(a2*b3 - a3*b2)≠0) {K:Nat} (h1:Bs K a1 b1 c1 d1) (h2:Bs K a2 b2 c2 d2) (h3:Bs K a3 b3 c3 d3):BPt (3*K+4) v:=by
 generalize hDe:a1*(b2*c3 - b3*c2) - b1*(a2*c3 - a3*c2)+c1*(a2*b3 - a3*b2)=D at hD
 have x1:D*v.x=(d1*(b2*c3 - b3*c2) - b1*(d2*c3 - d3*c2)+c1*(d2*b3 - d3*b2))*v.w:=by rw[← hDe];grind
 have y1:D*v.y=(a1*(d2*c3 - d3*c2) - d1*(a2*c3 - a3*c2)+c1*(a2*d3 - a3*d2))*v.w:=by rw[← hDe];grind
 have z1:D*v.z=(a1*(b2*d3 - b3*d2) - b1*(a2*d3 - a3*d2)+d1*(a2*b3 - a3*b2))*v.w:=by rw[← hDe];grind
 have sz : ∀ p q r p' q' r' p'' q'' r'' : Int, (Zm p).size ≤ K → (Zm q).size ≤ K → (Zm r).size ≤ K → (Zm p').size ≤ K → (Zm q').size ≤ K → (Zm r').size ≤ K → (Zm p'').size ≤ K → (Zm q'').size ≤ K → (Zm r'').size ≤ K →
   (Zm (p*(q'*r'' - q''*r') - q*(p'*r'' - p''*r')+r*(p'*q'' - p''*q'))).size≤3*K+4:=by
  intro p q r p' q' r' p'' q'' r'' k1 k2 k3 k4 k5 k6 k7 k8 k9
  have two:∀ s t u w:Int,(Zm s).size≤K→(Zm t).size≤K→(Zm u).size≤K→(Zm w).size≤K→(Zm (s*t - u*w)).size≤2*K+1:=fun s t u w m1 m2 m3 m4=>by
   have:=lJ (s*t) (u*w) (k:=2*K) (Ah (aO s t m1 m2) (by omega)) (Ah (aO u w m3 m4) (by omega))
   exact this
  have t1:=aO p (q'*r'' - q''*r') k1 (two _ _ _ _ k5 k9 k8 k6)
  have t2:=aO q (p'*r'' - p''*r') k2 (two _ _ _ _ k4 k9 k7 k6)
  have t3:=aO r (p'*q'' - p''*q') k3 (two _ _ _ _ k4 k8 k7 k5)
  have t4:=lJ _ _ t1 t2
  have t5:=fO _ _ t4 (Nat.le_succ_of_le t3)
  exact Ah t5 (by omega)
 have hg:v.w∣D:=by
  have key:∀ m:Int,v.w∣D*m→v.w.natAbs∣D.natAbs*m.natAbs:=fun m hm=>by rw[← Av];exact An.2 hm
  have k1:=key v.x ⟨_,by rw[x1,Ak]⟩
  have k2:=key v.y ⟨_,by rw[y1,Ak]⟩
  have k3:=key v.z ⟨_,by rw[z1,Ak]⟩
  have k4:=key v.w ⟨D,Ak _ _⟩
  have h12:=Ar k1 k2
  rw[Al]at h12
  have h3:=Ar h12 k3
  rw[Al]at h3
  have h4:=Ar h3 k4
  rw[Al]at h4
  have hg:=hv.g
  unfold g4 at hg
  rw[hg,A3]at h4
  exact An.1 h4
 obtain⟨t,ht⟩:=hg
 have hw:=hv.w
 have ht0:t≠0:=fun h=>hD (by rw[ht,h];simp)
 have canc:∀ m n:Int,D*m=n*v.w→n=t*m:=fun m n h=>by
  have:v.w*(t*m)=v.w*n:=by rw[← Int.mul_assoc,← ht,h,Ak]
  exact (Int.eq_of_mul_eq_mul_left (by omega) this).symm
 have le:∀ m n:Int,n=t*m→(Zm n).size≤3*K+4→(Zm m).size≤3*K+4:=fun m n h hn=>by
  refine Ah (iG ?_) hn
  rw[h,Av]
  exact Nat.le_mul_of_pos_left _ (Int.natAbs_pos.2 ht0)
 refine⟨⟨le _ _ (canc _ _ x1) (sz _ _ _ _ _ _ _ _ _ h1.d h1.b h1.c h2.d h2.b h2.c h3.d h3.b h3.c),le _ _ (canc _ _ y1) (sz _ _ _ _ _ _ _ _ _ h1.a h1.d h1.c h2.a h2.d h2.c h3.a h3.d h3.c),le _ _ (canc _ _ z1) (sz _ _ _ _ _ _ _ _ _ h1.a h1.b h1.d h2.a h2.b h2.d h3.a h3.b h3.d),?_⟩⟩
 refine le v.w D (by rw[ht,Ak]) ?_
 rw[← hDe]
 exact sz _ _ _ _ _ _ _ _ _ h1.a h1.b h1.c h2.a h2.b h2.c h3.a h3.b h3.c
theorem c4a {l:aC} (h:CellOK l) {K:Nat} (hp:∀ s∈l,BPl K s.1) {s:Pl × List Pt} (hs:s∈l) {v:Pt} (hv:v∈s.2):BPt (3*K+4) v:=by
 have hc:=h.can s hs v hv
 obtain⟨p,hp',q,hq',r,hr',p0,q0,r0,hd⟩:=h.cell.indep (s:=sd s) (Ad hs) (v:=tv v) (Ad hv)
 obtain⟨p,hpl,rfl⟩:=Aj.1 hp'
 obtain⟨q,hql,rfl⟩:=Aj.1 hq'
 obtain⟨r,hrl,rfl⟩:=Aj.1 hr'
 have f1:=(jN p.1 hc.w).1 p0
 have f2:=(jN q.1 hc.w).1 q0
 have f3:=(jN r.1 hc.w).1 r0
 unfold abv at f1 f2 f3
 have hD:p.1.a*(q.1.b*r.1.c - r.1.b*q.1.c) - p.1.b*(q.1.a*r.1.c - r.1.a*q.1.c)+p.1.c*(q.1.a*r.1.b - r.1.a*q.1.b)≠0:=by
  intro e
  refine hd ?_
  have:((p.1.a*(q.1.b*r.1.c - r.1.b*q.1.c) - p.1.b*(q.1.a*r.1.c - r.1.a*q.1.c)+p.1.c*(q.1.a*r.1.b - r.1.a*q.1.b):Int):Rat)=0:=by rw[e];rfl
  simp only[Rat.intCast_add,Rat.intCast_mul,Rat.intCast_sub]at this
  simp only[sd,tH,dot,aA]
  grind
 exact d0j hc (by omega) (by omega) (by omega) hD (hp p hpl).out (hp q hql).out (hp r hrl).out
structure SmC (d:Nat) (l:aC):Prop extends CellOK l where
 n:l.length≤d
 p:∀ s∈l,BPl 6 s.1
theorem SmC.bd {d:Nat} {l:aC} (h:SmC d l):Bd d d 22 l:=by
 refine⟨h.n,fun s hs=>?_,fun s hs v hv=>c4a h.toCellOK (K:=6) h.p hs hv,fun s hs=>(h.p s hs).mono (by decide)⟩
 have:=h.cell.side_len (s:=sd s) (Ad hs)
 have e1:(sd s).vs.length=s.2.length:=Am _
 have e2:(sds l).length=l.length:=Am _
 have:=h.n
 omega
theorem wH {b:Pl} {l:aC} {d:Nat} (h:SmC d l) (hb:BPl 6 b):((aP b l).1=[]∨SmC (d+1) (aP b l).1)∧((aP b l).2=[]∨SmC (d+1) (aP b l).2):=by
 have hb':=h.bd
 have hs:=a5j (.inr h.toCellOK) (hb'.mono (K':=22) (S':=d) (M':=d) (As _) (As _) (As _)) hb (by omega)
 have ho:=zF (b:=b) h.toCellOK
 have hpl:∀ s,s∈(aP b l).1∨s∈(aP b l).2→BPl 6 s.1:=by
  intro s hs
  have key:∀ b',BPl 6 b'→∀ s∈iK b' l,BPl 6 s.1:=fun b' hb' s hs=>by
   unfold iK at hs
   rcases At.1 hs with hs|hs
   ·obtain⟨t,ht,e⟩:=Ap.1 hs
    split at e
    ·obtain rfl:=Az.inj e
     exact h.p t ht
    ·contradiction
   ·obtain rfl:=List.mem_singleton.1 hs
    exact hb'
  unfold aP at hs
  split at hs
  ·rcases hs with hs|hs
   ·exact h.p s hs
   ·simp at hs
  ·split at hs
   ·rcases hs with hs|hs
    ·simp at hs
    ·exact h.p s hs
   ·rcases hs with hs|hs
    ·exact key b hb s hs
    ·exact key _ hb.neg s hs
 exact⟨ho.1.imp id fun q=>⟨q,hs.1.n,fun s hs=>hpl s (.inl hs)⟩,ho.2.imp id fun q=>⟨q,hs.2.n,fun s hs=>hpl s (.inr hs)⟩⟩
theorem wF:SmC 6 aN:=⟨jD,zD.n,fun s hs=>(a5f s hs).mono (by decide)⟩
end Go.Sx
