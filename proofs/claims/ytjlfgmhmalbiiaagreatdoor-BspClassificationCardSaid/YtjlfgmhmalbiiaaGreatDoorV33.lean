import Derived.Test.YtjlfgmhmalbiiaaGreatDoorV32
set_option linter.all false
set_option maxHeartbeats 40000000
namespace Go.Proofs.Vx
open Go Go.Sx Go.Proofs Tryz
attribute [local irreducible] fnT CallOK CallFr AW aO callV aP aN aM aQ gcaseP hid
theorem fD (x y z:Int) (h:(-1≤x∧x≤1)∧(-1≤y∧y≤1)∧(-1≤z∧z≤1)):BPt 65536 (wpt x y z):=by
 obtain⟨h1,h2,h3⟩:=h
 have k:∀ t:Int,-1≤t∧t≤1→(Zm (1000*t)).size≤65536:=fun t ht=>Nat.le_trans ((cI (1000*t) 2).2 (by omega)) (by decide)
 exact⟨⟨k x h1,k y h2,k z h3,Nat.le_trans ((cI 1 1).2 (by decide)) (by decide)⟩⟩
theorem thr0u:CallOK prog 161 [.agg (eP (wpt 1 (-1) (-1))),.agg (eP (wpt 1 1 (-1))),.agg (eP (wpt 1 1 1))] [] (.tup [.agg (eH ⟨1,0,0,1000⟩),.lit (.bool true)]) []:=by
 have:=q9 (wpt 1 (-1) (-1)) (wpt 1 1 (-1)) (wpt 1 1 1) (Sx.d8 (by decide +kernel)) (Sx.d8 (by decide +kernel)) (Sx.d8 (by decide +kernel)) (fD _ _ _ (by decide)) (fD _ _ _ (by decide)) (fD _ _ _ (by decide)) (by decide +kernel)
 rwa [show kX (wpt 1 (-1) (-1)) (wpt 1 1 (-1)) (wpt 1 1 1)=⟨1,0,0,1000⟩ by decide +kernel]at this
theorem thr0d:CallOK prog 161 [.agg (eP (wpt (-1) (-1) (-1))),.agg (eP (wpt (-1) (-1) 1)),.agg (eP (wpt (-1) 1 1))] [] (.tup [.agg (eH ⟨-1,0,0,1000⟩),.lit (.bool true)]) []:=by
 have:=q9 (wpt (-1) (-1) (-1)) (wpt (-1) (-1) 1) (wpt (-1) 1 1) (Sx.d8 (by decide +kernel)) (Sx.d8 (by decide +kernel)) (Sx.d8 (by decide +kernel)) (fD _ _ _ (by decide)) (fD _ _ _ (by decide)) (fD _ _ _ (by decide)) (by decide +kernel)
 rwa [show kX (wpt (-1) (-1) (-1)) (wpt (-1) (-1) 1) (wpt (-1) 1 1)=⟨-1,0,0,1000⟩ by decide +kernel]at this
theorem thr1u:CallOK prog 161 [.agg (eP (wpt (-1) 1 (-1))),.agg (eP (wpt (-1) 1 1)),.agg (eP (wpt 1 1 1))] [] (.tup [.agg (eH ⟨0,1,0,1000⟩),.lit (.bool true)]) []:=by
 have:=q9 (wpt (-1) 1 (-1)) (wpt (-1) 1 1) (wpt 1 1 1) (Sx.d8 (by decide +kernel)) (Sx.d8 (by decide +kernel)) (Sx.d8 (by decide +kernel)) (fD _ _ _ (by decide)) (fD _ _ _ (by decide)) (fD _ _ _ (by decide)) (by decide +kernel)
 rwa [show kX (wpt (-1) 1 (-1)) (wpt (-1) 1 1) (wpt 1 1 1)=⟨0,1,0,1000⟩ by decide +kernel]at this
theorem thr1d:CallOK prog 161 [.agg (eP (wpt (-1) (-1) (-1))),.agg (eP (wpt 1 (-1) (-1))),.agg (eP (wpt 1 (-1) 1))] [] (.tup [.agg (eH ⟨0,-1,0,1000⟩),.lit (.bool true)]) []:=by
 have:=q9 (wpt (-1) (-1) (-1)) (wpt 1 (-1) (-1)) (wpt 1 (-1) 1) (Sx.d8 (by decide +kernel)) (Sx.d8 (by decide +kernel)) (Sx.d8 (by decide +kernel)) (fD _ _ _ (by decide)) (fD _ _ _ (by decide)) (fD _ _ _ (by decide)) (by decide +kernel)
 rwa [show kX (wpt (-1) (-1) (-1)) (wpt 1 (-1) (-1)) (wpt 1 (-1) 1)=⟨0,-1,0,1000⟩ by decide +kernel]at this
theorem thr2u:CallOK prog 161 [.agg (eP (wpt (-1) (-1) 1)),.agg (eP (wpt 1 (-1) 1)),.agg (eP (wpt 1 1 1))] [] (.tup [.agg (eH ⟨0,0,1,1000⟩),.lit (.bool true)]) []:=by
 have:=q9 (wpt (-1) (-1) 1) (wpt 1 (-1) 1) (wpt 1 1 1) (Sx.d8 (by decide +kernel)) (Sx.d8 (by decide +kernel)) (Sx.d8 (by decide +kernel)) (fD _ _ _ (by decide)) (fD _ _ _ (by decide)) (fD _ _ _ (by decide)) (by decide +kernel)
 rwa [show kX (wpt (-1) (-1) 1) (wpt 1 (-1) 1) (wpt 1 1 1)=⟨0,0,1,1000⟩ by decide +kernel]at this
theorem thr2d:CallOK prog 161 [.agg (eP (wpt (-1) (-1) (-1))),.agg (eP (wpt (-1) 1 (-1))),.agg (eP (wpt 1 1 (-1)))] [] (.tup [.agg (eH ⟨0,0,-1,1000⟩),.lit (.bool true)]) []:=by
 have:=q9 (wpt (-1) (-1) (-1)) (wpt (-1) 1 (-1)) (wpt 1 1 (-1)) (Sx.d8 (by decide +kernel)) (Sx.d8 (by decide +kernel)) (Sx.d8 (by decide +kernel)) (fD _ _ _ (by decide)) (fD _ _ _ (by decide)) (fD _ _ _ (by decide)) (by decide +kernel)
 rwa [show kX (wpt (-1) (-1) (-1)) (wpt (-1) 1 (-1)) (wpt 1 1 (-1))=⟨0,0,-1,1000⟩ by decide +kernel]at this
set_option maxRecDepth 20000 in
theorem c94:CallOK prog 94 [] [] (.agg [.sl (eS cZ)]) []:=by
 refine fN func94 rfl 70 rfl rfl (by simp -dsimp (disch:=try exact zo)only[go_sem,aG]) [.cell 0 33] (congrArg Array.toList results94) ?_
 simp only[aD,Nat.reduceAdd]
 have hml:maxLen=9223372036854775807:=rfl
 repeat'(first|refine zg ?_|(refine zc ?_ ?_<;>intro hc<;>first|simp only[NM]at hc|omega|skip)|refine zr ?_|refine⟨by omega,?_⟩|(refine zb ?_ ?_<;>intro hg<;>(try rw[hg])<;>try simp only[NM]at hg)|omega|simp -dsimp (disch:=try exact zo)only[go_sem]|contradiction|rfl)
 refine AW.weak (jK 10 0 9 _ (by decide) rfl (by simp) rfl (by simp)) ?_
 have hwl:eS (List.take 6 cZ)=eS cZ:=rfl
 have hz:eS (cZ.take 0)=[]:=rfl
 refine AW.loop (fun z:{i:Nat // i≤3}=>⟨[(2,.lit (.int .i64 z.1)),(1,.loc 10 0),(0,.loc 8 0)],[(10,.blk [.ref 13 0 (2*z.1) (2*z.1)]),(13,.vec 9 (eS (cZ.take (2*z.1)))),(8,.blk [.lit (.slice none 0 0)])],30⟩) (fun z=>3 - z.1) ⟨0,Nat.zero_le _⟩ (aH (by refine⟨?_,?_,?_,?_⟩<;>simp -dsimp (disch:=try exact zo)only[go_sem,Nat.mul_zero,hz,ZC])) ?_
 rintro⟨i,hi⟩
 dsimp only
 rcases (show i=0∨i=1∨i=2∨i=3 by omega)with rfl|rfl|rfl|rfl
 ·have hE:eS (List.take 2 cZ)=eS (List.take 0 cZ)++[eG ⟨1,0,0,1000⟩ [wpt 1 (-1) (-1),wpt 1 1 (-1),wpt 1 1 1,wpt 1 (-1) 1]]++[eG ⟨-1,0,0,1000⟩ [wpt (-1) (-1) (-1),wpt (-1) (-1) 1,wpt (-1) 1 1,wpt (-1) 1 (-1)]]:=rfl
  have hlE:(eS (List.take 0 cZ)).length=0:=rfl
  simp only[Nat.reduceMul]
  generalize eS (List.take 0 cZ)=E at *
  repeat'(first|refine AW.seq ?_|refine i5 (id:=3) ?_|refine i5 (id:=5) ?_|refine i5 (id:=6) ?_|refine AW.block ?_|refine AW.blk ?_|refine AW.skip ?_|refine AW.exit rfl ?_|(refine zc ?_ ?_<;>intro hc<;>first|simp only[NM]at hc|omega|skip)|refine zr ?_|(first|refine zf (mR (1) (-1) (-1) (by decide) (by decide) (by decide)) ?_|refine zf (mR (1) (1) (-1) (by decide) (by decide) (by decide)) ?_|refine zf (mR (1) (1) (1) (by decide) (by decide) (by decide)) ?_|refine zf (mR (1) (-1) (1) (by decide) (by decide) (by decide)) ?_|refine zf (mR (-1) (-1) (-1) (by decide) (by decide) (by decide)) ?_|refine zf (mR (-1) (-1) (1) (by decide) (by decide) (by decide)) ?_|refine zf (mR (-1) (1) (1) (by decide) (by decide) (by decide)) ?_|refine zf (mR (-1) (1) (-1) (by decide) (by decide) (by decide)) ?_)|refine⟨by omega,?_⟩|(refine zb ?_ ?_<;>intro hg<;>(try rw[hg])<;>try simp only[NM]at hg)|omega|simp -dsimp (disch:=try exact zo)only[go_sem,hlE]|contradiction|rfl)
  refine AW.weak (lS 40 4 8 ([wpt 1 (-1) (-1),wpt 1 1 (-1),wpt 1 1 1,wpt 1 (-1) 1].map eP) (t:=[(4,.ref 50 0 4 4),(3,.sl ([wpt 1 (-1) (-1),wpt 1 1 (-1),wpt 1 1 1,wpt 1 (-1) 1].map eP)),(2,.lit (.int .i64 ((0:Nat):Int))),(1,.loc 10 0),(0,.loc 8 0)]) (o:=[(50,.vec 8 ([wpt (-1) (-1) (-1),wpt (-1) (-1) 1,wpt (-1) 1 1,wpt (-1) 1 (-1)].map eP)),(10,.blk [.ref 13 0 0 0]),(13,.vec 9 E),(8,.blk [.lit (.slice none 0 0)])]) rfl rfl (by simp -dsimp (disch:=try exact zo)only[go_sem,and_self,List.map_cons,List.map_nil]) (by simp -dsimp (disch:=try exact zo)only[go_sem,and_self,List.map_cons,List.map_nil])) ?_
  refine AW.weak (lS 50 4 8 ([wpt (-1) (-1) (-1),wpt (-1) (-1) 1,wpt (-1) 1 1,wpt (-1) 1 (-1)].map eP) (t:=[(4,.sl ([wpt (-1) (-1) (-1),wpt (-1) (-1) 1,wpt (-1) 1 1,wpt (-1) 1 (-1)].map eP)),(3,.sl ([wpt 1 (-1) (-1),wpt 1 1 (-1),wpt 1 1 1,wpt 1 (-1) 1].map eP)),(2,.lit (.int .i64 ((0:Nat):Int))),(1,.loc 10 0),(0,.loc 8 0)]) (o:=[(10,.blk [.ref 13 0 0 0]),(13,.vec 9 E),(8,.blk [.lit (.slice none 0 0)])]) rfl rfl (by simp -dsimp (disch:=try exact zo)only[go_sem,and_self,List.map_cons,List.map_nil]) (by simp -dsimp (disch:=try exact zo)only[go_sem,and_self,List.map_cons,List.map_nil])) ?_
  repeat'(first|refine zg ?_|(refine zc ?_ ?_<;>intro hc<;>first|simp only[NM]at hc|omega|skip)|refine zr ?_|(first|refine zf thr0u ?_|refine zf thr0d ?_)|refine⟨by omega,?_⟩|(refine zb ?_ ?_<;>intro hg<;>(try rw[hg])<;>try simp only[NM]at hg)|omega|simp -dsimp (disch:=try exact zo)only[go_sem,hlE,List.map_cons,List.map_nil]|rfl)
  all_goals exact AW.stop ⟨⟨1,by omega⟩,(mC (by simp -dsimp (disch:=try exact zo)only[go_sem,Int.cast_ofNat_Int]) (by simp -dsimp (disch:=try exact zo)only[go_sem,hE,Int.cast_ofNat_Int];try rfl) (by decide) (by simp -dsimp (disch:=try exact zo)only[go_sem,Int.cast_ofNat_Int]) (by simp -dsimp (disch:=try exact zo)only[go_sem,aG,Int.cast_ofNat_Int])),by dsimp only;omega⟩
 ·have hE:eS (List.take 4 cZ)=eS (List.take 2 cZ)++[eG ⟨0,1,0,1000⟩ [wpt (-1) 1 (-1),wpt (-1) 1 1,wpt 1 1 1,wpt 1 1 (-1)]]++[eG ⟨0,-1,0,1000⟩ [wpt (-1) (-1) (-1),wpt 1 (-1) (-1),wpt 1 (-1) 1,wpt (-1) (-1) 1]]:=rfl
  have hlE:(eS (List.take 2 cZ)).length=2:=rfl
  simp only[Nat.reduceMul]
  generalize eS (List.take 2 cZ)=E at *
  repeat'(first|refine AW.seq ?_|refine i5 (id:=3) ?_|refine i5 (id:=5) ?_|refine i5 (id:=6) ?_|refine AW.block ?_|refine AW.blk ?_|refine AW.skip ?_|refine AW.exit rfl ?_|(refine zc ?_ ?_<;>intro hc<;>first|simp only[NM]at hc|omega|skip)|refine zr ?_|(first|refine zf (mQ (1) (-1) (-1) (by decide) (by decide) (by decide)) ?_|refine zf (mQ (1) (1) (-1) (by decide) (by decide) (by decide)) ?_|refine zf (mQ (1) (1) (1) (by decide) (by decide) (by decide)) ?_|refine zf (mQ (1) (-1) (1) (by decide) (by decide) (by decide)) ?_|refine zf (mQ (-1) (-1) (-1) (by decide) (by decide) (by decide)) ?_|refine zf (mQ (-1) (-1) (1) (by decide) (by decide) (by decide)) ?_|refine zf (mQ (-1) (1) (1) (by decide) (by decide) (by decide)) ?_|refine zf (mQ (-1) (1) (-1) (by decide) (by decide) (by decide)) ?_)|refine⟨by omega,?_⟩|(refine zb ?_ ?_<;>intro hg<;>(try rw[hg])<;>try simp only[NM]at hg)|omega|simp -dsimp (disch:=try exact zo)only[go_sem,hlE]|contradiction|rfl)
  refine AW.weak (lS 40 4 8 ([wpt (-1) 1 (-1),wpt (-1) 1 1,wpt 1 1 1,wpt 1 1 (-1)].map eP) (t:=[(4,.ref 50 0 4 4),(3,.sl ([wpt (-1) 1 (-1),wpt (-1) 1 1,wpt 1 1 1,wpt 1 1 (-1)].map eP)),(2,.lit (.int .i64 ((1:Nat):Int))),(1,.loc 10 0),(0,.loc 8 0)]) (o:=[(50,.vec 8 ([wpt (-1) (-1) (-1),wpt 1 (-1) (-1),wpt 1 (-1) 1,wpt (-1) (-1) 1].map eP)),(10,.blk [.ref 13 0 2 2]),(13,.vec 9 E),(8,.blk [.lit (.slice none 0 0)])]) rfl rfl (by simp -dsimp (disch:=try exact zo)only[go_sem,and_self,List.map_cons,List.map_nil]) (by simp -dsimp (disch:=try exact zo)only[go_sem,and_self,List.map_cons,List.map_nil])) ?_
  refine AW.weak (lS 50 4 8 ([wpt (-1) (-1) (-1),wpt 1 (-1) (-1),wpt 1 (-1) 1,wpt (-1) (-1) 1].map eP) (t:=[(4,.sl ([wpt (-1) (-1) (-1),wpt 1 (-1) (-1),wpt 1 (-1) 1,wpt (-1) (-1) 1].map eP)),(3,.sl ([wpt (-1) 1 (-1),wpt (-1) 1 1,wpt 1 1 1,wpt 1 1 (-1)].map eP)),(2,.lit (.int .i64 ((1:Nat):Int))),(1,.loc 10 0),(0,.loc 8 0)]) (o:=[(10,.blk [.ref 13 0 2 2]),(13,.vec 9 E),(8,.blk [.lit (.slice none 0 0)])]) rfl rfl (by simp -dsimp (disch:=try exact zo)only[go_sem,and_self,List.map_cons,List.map_nil]) (by simp -dsimp (disch:=try exact zo)only[go_sem,and_self,List.map_cons,List.map_nil])) ?_
  repeat'(first|refine zg ?_|(refine zc ?_ ?_<;>intro hc<;>first|simp only[NM]at hc|omega|skip)|refine zr ?_|(first|refine zf thr1u ?_|refine zf thr1d ?_)|refine⟨by omega,?_⟩|(refine zb ?_ ?_<;>intro hg<;>(try rw[hg])<;>try simp only[NM]at hg)|omega|simp -dsimp (disch:=try exact zo)only[go_sem,hlE,List.map_cons,List.map_nil]|rfl)
  all_goals exact AW.stop ⟨⟨2,by omega⟩,(mC (by simp -dsimp (disch:=try exact zo)only[go_sem,Int.cast_ofNat_Int]) (by simp -dsimp (disch:=try exact zo)only[go_sem,hE,Int.cast_ofNat_Int];try rfl) (by decide) (by simp -dsimp (disch:=try exact zo)only[go_sem,Int.cast_ofNat_Int]) (by simp -dsimp (disch:=try exact zo)only[go_sem,aG,Int.cast_ofNat_Int])),by dsimp only;omega⟩
 ·have hE:eS (List.take 6 cZ)=eS (List.take 4 cZ)++[eG ⟨0,0,1,1000⟩ [wpt (-1) (-1) 1,wpt 1 (-1) 1,wpt 1 1 1,wpt (-1) 1 1]]++[eG ⟨0,0,-1,1000⟩ [wpt (-1) (-1) (-1),wpt (-1) 1 (-1),wpt 1 1 (-1),wpt 1 (-1) (-1)]]:=rfl
  have hlE:(eS (List.take 4 cZ)).length=4:=rfl
  simp only[Nat.reduceMul]
  generalize eS (List.take 4 cZ)=E at *
  repeat'(first|refine AW.seq ?_|refine i5 (id:=3) ?_|refine i5 (id:=5) ?_|refine i5 (id:=6) ?_|refine AW.block ?_|refine AW.blk ?_|refine AW.skip ?_|refine AW.exit rfl ?_|(refine zc ?_ ?_<;>intro hc<;>first|simp only[NM]at hc|omega|skip)|refine zr ?_|(first|refine zf (mO (1) (-1) (-1) (by decide) (by decide) (by decide)) ?_|refine zf (mO (1) (1) (-1) (by decide) (by decide) (by decide)) ?_|refine zf (mO (1) (1) (1) (by decide) (by decide) (by decide)) ?_|refine zf (mO (1) (-1) (1) (by decide) (by decide) (by decide)) ?_|refine zf (mO (-1) (-1) (-1) (by decide) (by decide) (by decide)) ?_|refine zf (mO (-1) (-1) (1) (by decide) (by decide) (by decide)) ?_|refine zf (mO (-1) (1) (1) (by decide) (by decide) (by decide)) ?_|refine zf (mO (-1) (1) (-1) (by decide) (by decide) (by decide)) ?_)|refine⟨by omega,?_⟩|(refine zb ?_ ?_<;>intro hg<;>(try rw[hg])<;>try simp only[NM]at hg)|omega|simp -dsimp (disch:=try exact zo)only[go_sem,hlE]|contradiction|rfl)
  refine AW.weak (lS 40 4 8 ([wpt (-1) (-1) 1,wpt 1 (-1) 1,wpt 1 1 1,wpt (-1) 1 1].map eP) (t:=[(4,.ref 50 0 4 4),(3,.sl ([wpt (-1) (-1) 1,wpt 1 (-1) 1,wpt 1 1 1,wpt (-1) 1 1].map eP)),(2,.lit (.int .i64 ((2:Nat):Int))),(1,.loc 10 0),(0,.loc 8 0)]) (o:=[(50,.vec 8 ([wpt (-1) (-1) (-1),wpt (-1) 1 (-1),wpt 1 1 (-1),wpt 1 (-1) (-1)].map eP)),(10,.blk [.ref 13 0 4 4]),(13,.vec 9 E),(8,.blk [.lit (.slice none 0 0)])]) rfl rfl (by simp -dsimp (disch:=try exact zo)only[go_sem,and_self,List.map_cons,List.map_nil]) (by simp -dsimp (disch:=try exact zo)only[go_sem,and_self,List.map_cons,List.map_nil])) ?_
  refine AW.weak (lS 50 4 8 ([wpt (-1) (-1) (-1),wpt (-1) 1 (-1),wpt 1 1 (-1),wpt 1 (-1) (-1)].map eP) (t:=[(4,.sl ([wpt (-1) (-1) (-1),wpt (-1) 1 (-1),wpt 1 1 (-1),wpt 1 (-1) (-1)].map eP)),(3,.sl ([wpt (-1) (-1) 1,wpt 1 (-1) 1,wpt 1 1 1,wpt (-1) 1 1].map eP)),(2,.lit (.int .i64 ((2:Nat):Int))),(1,.loc 10 0),(0,.loc 8 0)]) (o:=[(10,.blk [.ref 13 0 4 4]),(13,.vec 9 E),(8,.blk [.lit (.slice none 0 0)])]) rfl rfl (by simp -dsimp (disch:=try exact zo)only[go_sem,and_self,List.map_cons,List.map_nil]) (by simp -dsimp (disch:=try exact zo)only[go_sem,and_self,List.map_cons,List.map_nil])) ?_
  repeat'(first|refine zg ?_|(refine zc ?_ ?_<;>intro hc<;>first|simp only[NM]at hc|omega|skip)|refine zr ?_|(first|refine zf thr2u ?_|refine zf thr2d ?_)|refine⟨by omega,?_⟩|(refine zb ?_ ?_<;>intro hg<;>(try rw[hg])<;>try simp only[NM]at hg)|omega|simp -dsimp (disch:=try exact zo)only[go_sem,hlE,List.map_cons,List.map_nil]|rfl)
  all_goals exact AW.stop ⟨⟨3,by omega⟩,(mC (by simp -dsimp (disch:=try exact zo)only[go_sem,Int.cast_ofNat_Int]) (by simp -dsimp (disch:=try exact zo)only[go_sem,hE,Int.cast_ofNat_Int];try rfl) (by decide) (by simp -dsimp (disch:=try exact zo)only[go_sem,Int.cast_ofNat_Int]) (by simp -dsimp (disch:=try exact zo)only[go_sem,aG,Int.cast_ofNat_Int])),by dsimp only;omega⟩
 ·repeat'(first|refine zg ?_|(refine zc ?_ ?_<;>intro hc<;>first|simp only[NM]at hc|omega|skip)|refine zr ?_|refine⟨by omega,?_⟩|(refine zb ?_ ?_<;>intro hg<;>(try rw[hg])<;>try simp only[NM]at hg)|omega|simp -dsimp (disch:=try exact zo)only[go_sem,hwl]|contradiction|rfl)
theorem a8f {K:Nat→Prop}:In K (.agg [.lit (.slice none 0 0)]):=.agg _ (by intro c hc;simp only[zM,or_false]at hc;subst hc;exact .lit _)
theorem splIn {K:Nat→Prop} {l:aF} {b:Pl}:In K (if bI b l=false then .tup [.agg [.sl (eS l)],.agg [.lit (.slice none 0 0)]]else if bJ b l=false then .tup [.agg [.lit (.slice none 0 0)],.agg [.sl (eS l)]]else .tup [.agg [.sl (eS (jA b l))],.agg [.sl (eS (jA (bH b) l))]]):=by
 have key:∀ a c:AV,In K a→In K c→In K (.tup [a,c]):=fun a c ha hc=>.tup _ (by intro x hx;simp only[zM,or_false]at hx;rcases hx with rfl|rfl<;>assumption)
 split
 ·exact key _ _ (bV _) a8f
 ·split
  ·exact key _ _ a8f (bV _)
  ·exact key _ _ (bV _) (bV _)
theorem c95x (l:aF) (b:Pl) (h:CellOK l) (hb:BPl 1048576 b) (hn:l.length≤4096) (hv:∀ s∈l,s.2.length≤65536∧∀ v∈s.2,BPt 1048576 v):CallOK prog 95 [.agg [.sl (eS l)],.agg (eH b)] [] (if bI b l=false then .tup [.agg [.sl (eS l)],.agg [.lit (.slice none 0 0)]]else if bJ b l=false then .tup [.agg [.lit (.slice none 0 0)],.agg [.sl (eS l)]]else .tup [.agg [.sl (eS (jA b l))],.agg [.sl (eS (jA (bH b) l))]]) []:=by
 refine fN func95 rfl 29 rfl rfl splIn [.cell 4 33,.cell 5 33] (congrArg Array.toList results95) ?_
 simp only[aD,Nat.reduceAdd]
 have cr:=c162 l b (hb.mono (by decide)) (by omega) (fun s hs=>⟨Nat.le_trans (hv s hs).1 (by decide),fun v hvm=>((hv s hs).2 v hvm).mono (by decide)⟩)
 have cf:=c51 b (hb.mono (by decide))
 by_cases hf:bI b l=false
 ·rw[if_pos hf]
  have ca:True:=trivial
  have cb:True:=trivial
  rw[hf]at cr
  clear h hv hf
  generalize bJ b l=B at *
  repeat'(first|refine zg ?_|(refine zc ?_ ?_<;>intro hc<;>first|simp only[NM]at hc|omega|skip)|refine zr ?_|(refine zp cr (by simp -dsimp (disch:=try exact zo)only[go_sem,aG]) (.tup _ (by intro c hc;simp only[zM,or_false]at hc;rcases hc with rfl|rfl<;>exact .lit _)) ?_)|(first|refine zp ca (by simp -dsimp (disch:=try exact zo)only[go_sem,aG]) (bV _) ?_|refine zp cb (by simp -dsimp (disch:=try exact zo)only[go_sem,aG]) (bV _) ?_)|(refine zf cf ?_)|refine⟨by omega,?_⟩|(refine zb ?_ ?_<;>intro hg<;>(try rw[hg])<;>try simp only[NM]at hg)|omega|simp -dsimp (disch:=try exact zo)only[go_sem,aG]|contradiction|rfl)
 ·rw[if_neg hf]
  have hf':bI b l=true:=by simpa using hf
  rw[hf']at cr
  by_cases hbb:bJ b l=false
  ·rw[if_pos hbb]
   rw[hbb]at cr
   have ca:True:=trivial
   have cb:True:=trivial
   clear h hv hf hbb hf'
   repeat'(first|refine zg ?_|(refine zc ?_ ?_<;>intro hc<;>first|simp only[NM]at hc|omega|skip)|refine zr ?_|(refine zp cr (by simp -dsimp (disch:=try exact zo)only[go_sem,aG]) (.tup _ (by intro c hc;simp only[zM,or_false]at hc;rcases hc with rfl|rfl<;>exact .lit _)) ?_)|(first|refine zp ca (by simp -dsimp (disch:=try exact zo)only[go_sem,aG]) (bV _) ?_|refine zp cb (by simp -dsimp (disch:=try exact zo)only[go_sem,aG]) (bV _) ?_)|(refine zf cf ?_)|refine⟨by omega,?_⟩|(refine zb ?_ ?_<;>intro hg<;>(try rw[hg])<;>try simp only[NM]at hg)|omega|simp -dsimp (disch:=try exact zo)only[go_sem,aG]|contradiction|rfl)
  ·rw[if_neg hbb]
   have hb':bJ b l=true:=by simpa using hbb
   rw[hb']at cr
   have ca:=c163 l b h (gP h hf' hb') hb hn hv
   have cb:=c163 l (bH b) h (gP h (by rw[nD];exact hb') (by rw[nA];exact hf')) hb.neg hn hv
   clear h hv hf hbb hf' hb'
   repeat'(first|refine zg ?_|(refine zc ?_ ?_<;>intro hc<;>first|simp only[NM]at hc|omega|skip)|refine zr ?_|(refine zp cr (by simp -dsimp (disch:=try exact zo)only[go_sem,aG]) (.tup _ (by intro c hc;simp only[zM,or_false]at hc;rcases hc with rfl|rfl<;>exact .lit _)) ?_)|(first|refine zp ca (by simp -dsimp (disch:=try exact zo)only[go_sem,aG]) (bV _) ?_|refine zp cb (by simp -dsimp (disch:=try exact zo)only[go_sem,aG]) (bV _) ?_)|(refine zf cf ?_)|refine⟨by omega,?_⟩|(refine zb ?_ ?_<;>intro hg<;>(try rw[hg])<;>try simp only[NM]at hg)|omega|simp -dsimp (disch:=try exact zo)only[go_sem,aG]|contradiction|rfl)
theorem c95 (l:aF) (b:Pl) (h:CellOK l) (hb:BPl 1048576 b) (hn:l.length≤4096) (hv:∀ s∈l,s.2.length≤65536∧∀ v∈s.2,BPt 1048576 v):CallOK prog 95 [.agg [.sl (eS l)],.agg (eH b)] [] (.tup [.agg [.sl (eS (cP b l).1)],.agg [.sl (eS (cP b l).2)]]) []:=by
 have:=c95x l b h hb hn hv
 unfold cP
 by_cases hf:bI b l=false
 ·rw[if_pos hf]at this ⊢
  exact this.wk fun g v=>uV (fun v h=>h) (fun v h=>uL h)
 ·rw[if_neg hf]at this ⊢
  by_cases hbb:bJ b l=false
  ·rw[if_pos hbb]at this ⊢
   exact this.wk fun g v=>uV (fun v h=>uL h) (fun v h=>h)
  ·rw[if_neg hbb]at this ⊢
   exact this
end Go.Proofs.Vx
namespace Go.Proofs.Vx
open Go Go.Sx Go.Proofs Tryz
attribute [local irreducible] fnT CallOK CallFr AW aO callV aP aN aM aQ gcaseP hid
def ptR (x:RP):Pt:=nrm (iv x.n1 x.m1) (iv x.n2 x.m2) (iv x.n3 x.m3) (iv x.n4 x.m4)
theorem c4w {x:RP} (h:¬ gN x=true):BPt 6 (ptR x):=by
 obtain⟨h1,h2,h3,h4⟩:=a4g (by simpa using h)
 exact⟨a7b ⟨mI h1,mI h2,mI h3,mI h4⟩ (by decide)⟩
theorem c29x (x:RP) (h:¬ gN x=true):CallOK prog 29 [.agg (eRP x)] [] (.agg (eP (ptR x))) []:=by
 obtain⟨h1,h2,h3,h4⟩:=a4g (by simpa using h)
 exact c29 x.n1 x.n2 x.n3 x.n4 x.m1 x.m2 x.m3 x.m4 (by omega) (by omega) (by omega) (by omega)
end Go.Proofs.Vx
namespace Go.Proofs.Vx
open Go Go.Sx Go.Proofs Tryz
attribute [local irreducible] fnT CallOK CallFr AW aO callV aP aN aM aQ gcaseP hid
theorem c5d {r:RP} (h5:¬ (iv r.n1 r.m1=0∧iv r.n2 r.m2=0∧iv r.n3 r.m3=0)):CanH (eX r):=by
 obtain⟨d1,d2,d3,d4⟩:=kV (iv r.n1 r.m1) (iv r.n2 r.m2) (iv r.n3 r.m3) (iv r.n4 r.m4)
 have hG:0<g4 (iv r.n1 r.m1) (iv r.n2 r.m2) (iv r.n3 r.m3) (iv r.n4 r.m4):=by
  apply Nat.pos_of_ne_zero
  intro h0
  rw[h0]at d1 d2 d3
  exact h5 ⟨by simpa using d1,by simpa using d2,by simpa using d3⟩
 refine⟨?_,fun e=>h5 ⟨Int.eq_zero_of_ediv_eq_zero d1 e.1,Int.eq_zero_of_ediv_eq_zero d2 e.2.1,Int.eq_zero_of_ediv_eq_zero d3 e.2.2⟩⟩
 unfold eX
 generalize iv r.n1 r.m1=x at *
 generalize iv r.n2 r.m2=y at *
 generalize iv r.n3 r.m3=z at *
 generalize iv r.n4 r.m4=w at *
 obtain⟨x',ex⟩:=d1
 obtain⟨y',ey⟩:=d2
 obtain⟨z',ez⟩:=d3
 obtain⟨w',ew⟩:=d4
 have hg1:g4 x' y' z' w'=1:=by
  have:=vH (g4 x y z w:Int) x' y' z' w'
  rw[← ex,← ey,← ez,← ew,Int.natAbs_natCast]at this
  have h2:g4 x y z w*1=g4 x y z w*g4 x' y' z' w':=by rw[Nat.mul_one];exact this
  exact (Nat.eq_of_mul_eq_mul_left hG h2).symm
 have hG':(g4 x y z w:Int)≠0:=by omega
 have q1:x / (g4 x y z w:Int)=x':=by (conv=>lhs;lhs;rw[ex]);exact Int.mul_ediv_cancel_left _ hG'
 have q2:y / (g4 x y z w:Int)=y':=by (conv=>lhs;lhs;rw[ey]);exact Int.mul_ediv_cancel_left _ hG'
 have q3:z / (g4 x y z w:Int)=z':=by (conv=>lhs;lhs;rw[ez]);exact Int.mul_ediv_cancel_left _ hG'
 have q4:w / (g4 x y z w:Int)=w':=by (conv=>lhs;lhs;rw[ew]);exact Int.mul_ediv_cancel_left _ hG'
 unfold j4
 rw[q1,q2,q3,q4]
 simp only[hg1]
 simp
end Go.Proofs.Vx
namespace Geo
namespace Cell
variable {c:List Sd}
theorem a3k {α:Type} [DecidableEq α]:∀ {l m:List α},l.Nodup→(∀ x∈l,x∈m)→l.length≤m.length
 | [],_,_,_=>Nat.zero_le _
 | a::l,m,hn,h=>by
  have ha:a∈m:=h a (by simp)
  have h2:=a3k (m:=m.erase a) (List.nodup_cons.1 hn).2 fun x hx=>(List.mem_erase_of_ne (fun (e:x=a)=>(List.nodup_cons.1 hn).1 (e▸hx))).2 (h x (by simp[hx]))
  have h3:=List.length_erase_of_mem ha
  have h4:=List.length_pos_of_mem ha
  simp only[List.length_cons]
  omega
open Classical in
theorem side_len (C:Cell c) {s:Sd} (hs:s∈c):s.vs.length≤c.length:=by
 have pv:=C.pv s hs
 have hch:∀ e∈edges s.vs,∃ t,t∈c∧t.h.at e.1=0∧t.h.at e.2=0∧∀ x∈s.vs,x≠e.1→x≠e.2→t.h.at x<0:=fun e he=>by
  obtain⟨t,ht,hts,hte,k,hk,hf⟩:=C.beside hs he
  refine⟨t,ht,C.pl t ht _ (bU hte),C.pl t ht _ (bL hte),fun x hx h1 h2=>?_⟩
  have ho:=pv.lf _ he x hx h1 h2
  have:=hf x (C.pl s hs x hx)
  rcases fR (C.le t ht s hs x hx)with h|h
  ·exact h
  ·rw[h]at this;grind
 let f:V × V→Sd:=fun e=>if h:e∈edges s.vs then (hch e h).choose else s
 have hf:∀ e∈edges s.vs,f e∈c∧(f e).h.at e.1=0∧(f e).h.at e.2=0∧∀ x∈s.vs,x≠e.1→x≠e.2→(f e).h.at x<0:=fun e he=>by
  simp only[f,dif_pos he]
  exact (hch e he).choose_spec
 have inj:∀ a∈edges s.vs,∀ b∈edges s.vs,f a=f b→a=b:=by
  intro a ha b hb e
  obtain⟨_,a1,a2,a3⟩:=hf a ha
  obtain⟨_,b1,b2,b3⟩:=hf b hb
  rw[← e]at b1 b2
  have two:∀ x∈s.vs,(f a).h.at x=0→x=a.1∨x=a.2:=fun x hx h0=>by
   by_cases h1:x=a.1
   ·exact .inl h1
   ·by_cases h2:x=a.2
    ·exact .inr h2
    ·have:=a3 x hx h1 h2;rw[h0]at this;exact absurd this (by grind)
  rcases two _ (bL hb) b1 with h|h
  ·have:(a.1,b.2)∈edges s.vs:=h▸hb
   exact Prod.ext h.symm (a1g pv.nd (show (a.1,a.2)∈edges s.vs from ha) this)
  ·rcases two _ (bU hb) b2 with h'|h'
   ·have:b=sw a:=Prod.ext h h'
    exact (uT pv ha (this▸hb)).elim
   ·exact absurd (h.trans h'.symm) (pv.ne hb)
 have hnd:((edges s.vs).map f).Nodup:=by
  have he:=rJ pv.nd
  unfold List.Nodup at he ⊢
  rw[List.pairwise_map]
  exact he.imp_of_mem fun ha hb hab e=>hab (inj _ ha _ hb e)
 have:=a3k hnd (m:=c) fun x hx=>by
  obtain⟨e,he,rfl⟩:=List.mem_map.1 hx
  exact (hf e he).1
 rw[List.length_map,gC]at this
 exact this
theorem indep (C:Cell c) {s:Sd} (hs:s∈c) {v:V} (hv:v∈s.vs):∃ p∈c,∃ q∈c,∃ r∈c,p.h.at v=0∧q.h.at v=0∧r.h.at v=0∧dot r.h.n (aA p.h.n q.h.n)≠0:=by
 have hx:=C.vert_ext hs hv
 have get:∀ d:V,d≠⟨0,0,0⟩→∃ t∈c,t.h.at v=0∧dot t.h.n d≠0:=by
  intro d hd
  apply Classical.byContradiction
  intro hno
  obtain⟨t,t0,h1,h2⟩:=b4o (l:=c) (x:=v) (d:=d) fun u hu=>by
   rcases fR (hx.1 u hu)with h|h
   ·exact .inl h
   ·refine .inr ⟨h,Classical.byContradiction fun hn=>hno ⟨u,hu,h,hn⟩⟩
  exact c2b hx hd ⟨t,t0,h1,h2⟩
 obtain⟨p,hp,p0,pd⟩:=get ⟨1,0,0⟩ (fun h=>by have:=congrArg V.x h;simp at this)
 have pa:p.h.n.x≠0:=fun h=>pd (by simp only[dot,h];grind)
 obtain⟨q,hq,q0,qd⟩:=get ⟨p.h.n.y,- p.h.n.x,0⟩ (fun h=>by have:=congrArg V.y h;simp only at this;grind)
 have hcr:aA p.h.n q.h.n≠⟨0,0,0⟩:=fun h=>by
  have hz:=congrArg V.z h
  simp only[aA]at hz
  refine qd ?_
  simp only[dot]
  grind
 obtain⟨r,hr,r0,rd⟩:=get _ hcr
 exact⟨p,hp,q,hq,r,hr,p0,q0,r0,rd⟩
end Cell
end Geo
namespace Go.Sx
open Geo
theorem c5x {v : Pt} (hv : CanP v) {a1 b1 c1 d1 a2 b2 c2 d2 a3 b3 c3 d3 : Int} (e1 : a1 * v.x + b1 * v.y + c1 * v.z = d1 * v.w) (e2 : a2 * v.x + b2 * v.y + c2 * v.z = d2 * v.w) (e3 : a3 * v.x + b3 * v.y + c3 * v.z = d3 * v.w)
  (hD:a1*(b2*c3 - b3*c2) - b1*(a2*c3 - a3*c2)+c1*(a2*b3 - a3*b2)≠0) {K:Nat} (h1:Bs K a1 b1 c1 d1) (h2:Bs K a2 b2 c2 d2) (h3:Bs K a3 b3 c3 d3):BPt (3*K+4) v:=by
 generalize hDe:a1*(b2*c3 - b3*c2) - b1*(a2*c3 - a3*c2)+c1*(a2*b3 - a3*b2)=D at hD
 have x1:D*v.x=(d1*(b2*c3 - b3*c2) - b1*(d2*c3 - d3*c2)+c1*(d2*b3 - d3*b2))*v.w:=by rw[← hDe];grind
 have y1:D*v.y=(a1*(d2*c3 - d3*c2) - d1*(a2*c3 - a3*c2)+c1*(a2*d3 - a3*d2))*v.w:=by rw[← hDe];grind
 have z1:D*v.z=(a1*(b2*d3 - b3*d2) - b1*(a2*d3 - a3*d2)+d1*(a2*b3 - a3*b2))*v.w:=by rw[← hDe];grind
 have sz : ∀ p q r p' q' r' p'' q'' r'' : Int, (Zm p).size ≤ K → (Zm q).size ≤ K → (Zm r).size ≤ K → (Zm p').size ≤ K → (Zm q').size ≤ K → (Zm r').size ≤ K → (Zm p'').size ≤ K → (Zm q'').size ≤ K → (Zm r'').size ≤ K →
   (Zm (p*(q'*r'' - q''*r') - q*(p'*r'' - p''*r')+r*(p'*q'' - p''*q'))).size≤3*K+4:=by
  intro p q r p' q' r' p'' q'' r'' k1 k2 k3 k4 k5 k6 k7 k8 k9
  have two:∀ s t u w:Int,(Zm s).size≤K→(Zm t).size≤K→(Zm u).size≤K→(Zm w).size≤K→(Zm (s*t - u*w)).size≤2*K+1:=fun s t u w m1 m2 m3 m4=>by
   have:=zs_sub (s*t) (u*w) (k:=2*K) (Nat.le_trans (aR s t m1 m2) (by omega)) (Nat.le_trans (aR u w m3 m4) (by omega))
   exact this
  have t1:=aR p (q'*r'' - q''*r') k1 (two _ _ _ _ k5 k9 k8 k6)
  have t2:=aR q (p'*r'' - p''*r') k2 (two _ _ _ _ k4 k9 k7 k6)
  have t3:=aR r (p'*q'' - p''*q') k3 (two _ _ _ _ k4 k8 k7 k5)
  have t4:=zs_sub _ _ t1 t2
  have t5:=gH _ _ t4 (Nat.le_succ_of_le t3)
  exact Nat.le_trans t5 (by omega)
 have hg:v.w∣D:=by
  have key:∀ m:Int,v.w∣D*m→v.w.natAbs∣D.natAbs*m.natAbs:=fun m hm=>by rw[← Int.natAbs_mul];exact Int.natAbs_dvd_natAbs.2 hm
  have k1:=key v.x ⟨_,by rw[x1,Int.mul_comm]⟩
  have k2:=key v.y ⟨_,by rw[y1,Int.mul_comm]⟩
  have k3:=key v.z ⟨_,by rw[z1,Int.mul_comm]⟩
  have k4:=key v.w ⟨D,Int.mul_comm _ _⟩
  have h12:=Nat.dvd_gcd k1 k2
  rw[Nat.gcd_mul_left]at h12
  have h3:=Nat.dvd_gcd h12 k3
  rw[Nat.gcd_mul_left]at h3
  have h4:=Nat.dvd_gcd h3 k4
  rw[Nat.gcd_mul_left]at h4
  have hg:=hv.g
  unfold g4 at hg
  rw[hg,Nat.mul_one]at h4
  exact Int.natAbs_dvd_natAbs.1 h4
 obtain⟨t,ht⟩:=hg
 have hw:=hv.w
 have ht0:t≠0:=fun h=>hD (by rw[ht,h];simp)
 have canc:∀ m n:Int,D*m=n*v.w→n=t*m:=fun m n h=>by
  have:v.w*(t*m)=v.w*n:=by rw[← Int.mul_assoc,← ht,h,Int.mul_comm]
  exact (Int.eq_of_mul_eq_mul_left (by omega) this).symm
 have le:∀ m n:Int,n=t*m→(Zm n).size≤3*K+4→(Zm m).size≤3*K+4:=fun m n h hn=>by
  refine Nat.le_trans (g9 ?_) hn
  rw[h,Int.natAbs_mul]
  exact Nat.le_mul_of_pos_left _ (Int.natAbs_pos.2 ht0)
 refine⟨⟨le _ _ (canc _ _ x1) (sz _ _ _ _ _ _ _ _ _ h1.d h1.b h1.c h2.d h2.b h2.c h3.d h3.b h3.c),le _ _ (canc _ _ y1) (sz _ _ _ _ _ _ _ _ _ h1.a h1.d h1.c h2.a h2.d h2.c h3.a h3.d h3.c),le _ _ (canc _ _ z1) (sz _ _ _ _ _ _ _ _ _ h1.a h1.b h1.d h2.a h2.b h2.d h3.a h3.b h3.d),?_⟩⟩
 refine le v.w D (by rw[ht,Int.mul_comm]) ?_
 rw[← hDe]
 exact sz _ _ _ _ _ _ _ _ _ h1.a h1.b h1.c h2.a h2.b h2.c h3.a h3.b h3.c
theorem c0c {l:aF} (h:CellOK l) {K:Nat} (hp:∀ s∈l,BPl K s.1) {s:Pl × List Pt} (hs:s∈l) {v:Pt} (hv:v∈s.2):BPt (3*K+4) v:=by
 have hc:=h.can s hs v hv
 obtain⟨p,hp',q,hq',r,hr',p0,q0,r0,hd⟩:=h.cell.indep (s:=sd s) (List.mem_map_of_mem hs) (v:=tv v) (List.mem_map_of_mem hv)
 obtain⟨p,hpl,rfl⟩:=List.mem_map.1 hp'
 obtain⟨q,hql,rfl⟩:=List.mem_map.1 hq'
 obtain⟨r,hrl,rfl⟩:=List.mem_map.1 hr'
 have f1:=(qK p.1 hc.w).1 p0
 have f2:=(qK q.1 hc.w).1 q0
 have f3:=(qK r.1 hc.w).1 r0
 unfold abv at f1 f2 f3
 have hD:p.1.a*(q.1.b*r.1.c - r.1.b*q.1.c) - p.1.b*(q.1.a*r.1.c - r.1.a*q.1.c)+p.1.c*(q.1.a*r.1.b - r.1.a*q.1.b)≠0:=by
  intro e
  refine hd ?_
  have:((p.1.a*(q.1.b*r.1.c - r.1.b*q.1.c) - p.1.b*(q.1.a*r.1.c - r.1.a*q.1.c)+p.1.c*(q.1.a*r.1.b - r.1.a*q.1.b):Int):Rat)=0:=by rw[e];rfl
  simp only[Rat.intCast_add,Rat.intCast_mul,Rat.intCast_sub]at this
  simp only[sd,tH,dot,aA]
  grind
 exact c5x hc (by omega) (by omega) (by omega) hD (hp p hpl).out (hp q hql).out (hp r hrl).out
structure SmC (d:Nat) (l:aF):Prop extends CellOK l where
 n:l.length≤d
 p:∀ s∈l,BPl 6 s.1
theorem SmC.bd {d:Nat} {l:aF} (h:SmC d l):Bd d d 22 l:=by
 refine⟨h.n,fun s hs=>?_,fun s hs v hv=>c0c h.toCellOK (K:=6) h.p hs hv,fun s hs=>(h.p s hs).mono (by decide)⟩
 have:=h.cell.side_len (s:=sd s) (List.mem_map_of_mem hs)
 have e1:(sd s).vs.length=s.2.length:=List.length_map _
 have e2:(sds l).length=l.length:=List.length_map _
 have:=h.n
 omega
theorem xT {b:Pl} {l:aF} {d:Nat} (h:SmC d l) (hb:BPl 6 b):((aS b l).1=[]∨SmC (d+1) (aS b l).1)∧((aS b l).2=[]∨SmC (d+1) (aS b l).2):=by
 have hb':=h.bd
 have hs:=a3b (.inr h.toCellOK) (hb'.mono (K':=22) (S':=d) (M':=d) (Nat.le_refl _) (Nat.le_refl _) (Nat.le_refl _)) hb (by omega)
 have ho:=a3a (b:=b) h.toCellOK
 have hpl:∀ s,s∈(aS b l).1∨s∈(aS b l).2→BPl 6 s.1:=by
  intro s hs
  have key:∀ b',BPl 6 b'→∀ s∈iR b' l,BPl 6 s.1:=fun b' hb' s hs=>by
   unfold iR at hs
   rcases List.mem_append.1 hs with hs|hs
   ·obtain⟨t,ht,e⟩:=List.mem_filterMap.1 hs
    split at e
    ·obtain rfl:=Option.some.inj e
     exact h.p t ht
    ·contradiction
   ·obtain rfl:=List.mem_singleton.1 hs
    exact hb'
  unfold aS at hs
  split at hs
  ·rcases hs with hs|hs
   ·exact h.p s hs
   ·simp at hs
  ·split at hs
   ·rcases hs with hs|hs
    ·simp at hs
    ·exact h.p s hs
   ·rcases hs with hs|hs
    ·exact key b hb s hs
    ·exact key _ hb.neg s hs
 exact⟨ho.1.imp id fun q=>⟨q,hs.1.n,fun s hs=>hpl s (.inl hs)⟩,ho.2.imp id fun q=>⟨q,hs.2.n,fun s hs=>hpl s (.inr hs)⟩⟩
theorem xP:SmC 6 aX:=⟨rN,xR.n,fun s hs=>(a2x s hs).mono (by decide)⟩
end Go.Sx
namespace Go.Sx
open Geo (V Sd)
set_option linter.unusedVariables false
inductive BT where
 | lf (b:Bool)
 | nd (k:Nat) (p:Pl) (l r:BT)
def lfv (b:Bool):Int:=if b then -1 else 0
namespace BT
def ids:BT→List Nat
 | lf _=>[]
 | nd k _ l r=>k::(ids l++ids r)
def ht:BT→Nat
 | lf _=>0
 | nd _ _ l r=>max (ht l) (ht r)+1
def leaves (x:Pt):BT→List Int
 | lf b=>[lfv b]
 | nd _ p l r=>(if 0<aB p x then []else leaves x l)++(if aB p x<0 then []else leaves x r)
def cells:BT→aF→List aF
 | lf b,c=>if b then [c]else []
 | nd _ p l r,c=>cells l (aS p c).1++cells r (aS p c).2
def chk:BT→aF→Bool
 | lf _,c=>!c.isEmpty
 | nd _ p l r,c=>!c.isEmpty&&(chk l (aS p c).1&&chk r (aS p c).2)
def turn:BT→BT
 | lf b=>lf (!b)
 | nd k p l r=>nd k p (turn l) (turn r)
def tl:BT→Nat
 | lf b=>if b then 1 else 0
 | nd _ _ l r=>tl l+tl r
def reach:BT→Bool→V→Prop
 | lf b',b,_=>b'=b
 | nd _ p l r,b,x=>((tH p).at x≤0∧reach l b x)∨(0≤(tH p).at x∧reach r b x)
theorem chk_ne {T:BT} {c:aF} (h:T.chk c=true):c≠[]:=by
 intro e;subst e;cases T<;>simp[chk]at h
theorem chk_nd {k:Nat} {p:Pl} {l r:BT} {c:aF}:(nd k p l r).chk c=true↔c≠[]∧l.chk (aS p c).1=true∧r.chk (aS p c).2=true:=by
 simp[chk]
theorem cells_len (T:BT):∀ c,(T.cells c).length=T.tl:=by
 induction T with
 | lf b=>intro c;cases b<;>rfl
 | nd k p l r hl hr=>intro c;simp only[cells,tl,List.length_append,hl,hr]
theorem tl_turn (T:BT):T.tl+T.turn.tl=T.ids.length+1:=by
 induction T with
 | lf b=>cases b<;>rfl
 | nd k p l r hl hr=>simp only[tl,turn,ids,List.length_cons,List.length_append]at *;omega
theorem c0p {p:Pl} {x:Pt} (hw:0<x.w):¬ 0<aB p x↔(tH p).at (tv x)≤0:=by
 have h1:0<(tH p).at (tv x)↔0<aB p x:=(qJ p hw).trans a6t.symm
 rw[← h1]
 exact Rat.not_lt
theorem c0q {p:Pl} {x:Pt} (hw:0<x.w):¬ aB p x<0↔0≤(tH p).at (tv x):=by
 have h1:(tH p).at (tv x)<0↔aB p x<0:=(mS p hw).trans mD.symm
 rw[← h1]
 exact Rat.not_lt
theorem c6y (T:BT) {x:Pt} (hw:0<x.w) (b:Bool):lfv b∈T.leaves x↔T.reach b (tv x):=by
 induction T with
 | lf b'=>cases b'<;>cases b<;>simp[leaves,reach,lfv]
 | nd k p l r hl hr =>
  simp only[leaves,reach,List.mem_append,← c0p hw,← c0q hw,← hl,← hr]
  refine or_congr ?_ ?_<;>split<;>rename_i h<;>simp[h]
theorem leaves_two (T:BT) (x:Pt):∀ k∈T.leaves x,k=-1∨k=0:=by
 induction T with
 | lf b=>cases b<;>simp[leaves,lfv]
 | nd k p l r hl hr =>
  intro q hq
  simp only[leaves,List.mem_append]at hq
  rcases hq with hq|hq
  ·split at hq
   ·simp at hq
   ·exact hl q hq
  ·split at hq
   ·simp at hq
   ·exact hr q hq
end BT
def eW (x:Pt):Int:=if 1000*x.w<x.x.natAbs∨1000*x.w<x.y.natAbs∨1000*x.w<x.z.natAbs then -1 else if x.x.natAbs=1000*x.w∨x.y.natAbs=1000*x.w∨x.z.natAbs=1000*x.w then 0 else 1
end Go.Sx
