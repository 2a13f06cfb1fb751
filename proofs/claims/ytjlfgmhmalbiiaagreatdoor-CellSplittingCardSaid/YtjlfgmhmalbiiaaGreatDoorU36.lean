import Derived.Test.YtjlfgmhmalbiiaaGreatDoorProg
import Derived.Test.YtjlfgmhmalbiiaaGreatDoorU10
import Derived.Test.YtjlfgmhmalbiiaaGreatDoorU31
import Derived.Test.YtjlfgmhmalbiiaaGreatDoorU34
import Derived.Test.YtjlfgmhmalbiiaaGreatDoorU35
set_option linter.all false
namespace Go.Proofs.Vx
open Go Go.Sx Go.Proofs
attribute [local irreducible] fnT CallOK CallFr AW effV callV runP runO oneP oneO gcaseP hid
theorem yfn_32:fnT Tryz.prog 32=true:=by kernel_rfl
theorem yfn_95:fnT Tryz.prog 95=true:=by kernel_rfl
theorem wpt_bs (x y z:Int) (h:(-1≤x∧x≤1)∧(-1≤y∧y≤1)∧(-1≤z∧z≤1)):BPt 65536 (wpt x y z):=by
 obtain ⟨h1,h2,h3⟩:=h
 have k:∀ t:Int,-1≤t∧t≤1→(Zm (1000*t)).size≤65536:=fun t ht=>Nat.le_trans ((Zm_size (1000*t) 2).2 (by omega)) (by decide)
 exact ⟨⟨k x h1,k y h2,k z h3,Nat.le_trans ((Zm_size 1 1).2 (by decide)) (by decide)⟩⟩
theorem thr0u:CallOK Tryz.prog 161 [.agg (eP (wpt 1 (-1) (-1))),.agg (eP (wpt 1 1 (-1))),.agg (eP (wpt 1 1 1))] [] (.tup [.agg (eH ⟨1,0,0,1000⟩),.lit (.bool true)]) []:=by
 have:=c161 (wpt 1 (-1) (-1)) (wpt 1 1 (-1)) (wpt 1 1 1) (canB_ok (by decide +kernel)) (canB_ok (by decide +kernel)) (canB_ok (by decide +kernel)) (wpt_bs _ _ _ (by decide)) (wpt_bs _ _ _ (by decide)) (wpt_bs _ _ _ (by decide)) (by decide +kernel)
 rwa [show thruP (wpt 1 (-1) (-1)) (wpt 1 1 (-1)) (wpt 1 1 1)=⟨1,0,0,1000⟩ by decide +kernel]at this
theorem thr0d:CallOK Tryz.prog 161 [.agg (eP (wpt (-1) (-1) (-1))),.agg (eP (wpt (-1) (-1) 1)),.agg (eP (wpt (-1) 1 1))] [] (.tup [.agg (eH ⟨-1,0,0,1000⟩),.lit (.bool true)]) []:=by
 have:=c161 (wpt (-1) (-1) (-1)) (wpt (-1) (-1) 1) (wpt (-1) 1 1) (canB_ok (by decide +kernel)) (canB_ok (by decide +kernel)) (canB_ok (by decide +kernel)) (wpt_bs _ _ _ (by decide)) (wpt_bs _ _ _ (by decide)) (wpt_bs _ _ _ (by decide)) (by decide +kernel)
 rwa [show thruP (wpt (-1) (-1) (-1)) (wpt (-1) (-1) 1) (wpt (-1) 1 1)=⟨-1,0,0,1000⟩ by decide +kernel]at this
theorem thr1u:CallOK Tryz.prog 161 [.agg (eP (wpt (-1) 1 (-1))),.agg (eP (wpt (-1) 1 1)),.agg (eP (wpt 1 1 1))] [] (.tup [.agg (eH ⟨0,1,0,1000⟩),.lit (.bool true)]) []:=by
 have:=c161 (wpt (-1) 1 (-1)) (wpt (-1) 1 1) (wpt 1 1 1) (canB_ok (by decide +kernel)) (canB_ok (by decide +kernel)) (canB_ok (by decide +kernel)) (wpt_bs _ _ _ (by decide)) (wpt_bs _ _ _ (by decide)) (wpt_bs _ _ _ (by decide)) (by decide +kernel)
 rwa [show thruP (wpt (-1) 1 (-1)) (wpt (-1) 1 1) (wpt 1 1 1)=⟨0,1,0,1000⟩ by decide +kernel]at this
theorem thr1d:CallOK Tryz.prog 161 [.agg (eP (wpt (-1) (-1) (-1))),.agg (eP (wpt 1 (-1) (-1))),.agg (eP (wpt 1 (-1) 1))] [] (.tup [.agg (eH ⟨0,-1,0,1000⟩),.lit (.bool true)]) []:=by
 have:=c161 (wpt (-1) (-1) (-1)) (wpt 1 (-1) (-1)) (wpt 1 (-1) 1) (canB_ok (by decide +kernel)) (canB_ok (by decide +kernel)) (canB_ok (by decide +kernel)) (wpt_bs _ _ _ (by decide)) (wpt_bs _ _ _ (by decide)) (wpt_bs _ _ _ (by decide)) (by decide +kernel)
 rwa [show thruP (wpt (-1) (-1) (-1)) (wpt 1 (-1) (-1)) (wpt 1 (-1) 1)=⟨0,-1,0,1000⟩ by decide +kernel]at this
theorem thr2u:CallOK Tryz.prog 161 [.agg (eP (wpt (-1) (-1) 1)),.agg (eP (wpt 1 (-1) 1)),.agg (eP (wpt 1 1 1))] [] (.tup [.agg (eH ⟨0,0,1,1000⟩),.lit (.bool true)]) []:=by
 have:=c161 (wpt (-1) (-1) 1) (wpt 1 (-1) 1) (wpt 1 1 1) (canB_ok (by decide +kernel)) (canB_ok (by decide +kernel)) (canB_ok (by decide +kernel)) (wpt_bs _ _ _ (by decide)) (wpt_bs _ _ _ (by decide)) (wpt_bs _ _ _ (by decide)) (by decide +kernel)
 rwa [show thruP (wpt (-1) (-1) 1) (wpt 1 (-1) 1) (wpt 1 1 1)=⟨0,0,1,1000⟩ by decide +kernel]at this
theorem thr2d:CallOK Tryz.prog 161 [.agg (eP (wpt (-1) (-1) (-1))),.agg (eP (wpt (-1) 1 (-1))),.agg (eP (wpt 1 1 (-1)))] [] (.tup [.agg (eH ⟨0,0,-1,1000⟩),.lit (.bool true)]) []:=by
 have:=c161 (wpt (-1) (-1) (-1)) (wpt (-1) 1 (-1)) (wpt 1 1 (-1)) (canB_ok (by decide +kernel)) (canB_ok (by decide +kernel)) (canB_ok (by decide +kernel)) (wpt_bs _ _ _ (by decide)) (wpt_bs _ _ _ (by decide)) (wpt_bs _ _ _ (by decide)) (by decide +kernel)
 rwa [show thruP (wpt (-1) (-1) (-1)) (wpt (-1) 1 (-1)) (wpt 1 1 (-1))=⟨0,0,-1,1000⟩ by decide +kernel]at this
set_option maxRecDepth 20000 in
set_option maxHeartbeats 40000000 in
theorem c94:CallOK Tryz.prog 94 [] [] (.agg [.sl (eS worldR)]) []:=by
 refine CallOK.closed Tryz.func94 rfl 70 rfl rfl (by simp -dsimp (disch:=try exact zo) only[go_sem,eS_in]) [.cell 0 33] (congrArg Array.toList Tryz.results94) ?_
 simp only[startT,Nat.reduceAdd]
 have hml:maxLen=9223372036854775807:=rfl
 repeat' (first|refine zg ?_|(refine AW.cond rfl ?_ ?_<;>intro hc<;>first|simp only[NM]at hc|omega|skip)|refine zr ?_|refine ⟨by omega,?_⟩|(refine zb ?_ ?_<;>intro hg<;>(try rw[hg])<;>try simp only[NM]at hg)|omega|simp -dsimp (disch:=try exact zo) only[go_sem]|contradiction|rfl)
 refine AW.weak (Weak.nilB 10 0 9 _ (by decide) rfl (by simp) rfl (by simp)) ?_
 have hwl:eS (List.take 6 worldR)=eS worldR:=rfl
 have hz:eS (worldR.take 0)=[]:=rfl
 refine AW.loop (fun z:{i:Nat // i≤3}=>⟨[(2,.lit (.int .i64 z.1)),(1,.loc 10 0),(0,.loc 8 0)],[(10,.blk [.ref 13 0 (2*z.1) (2*z.1)]),(13,.vec 9 (eS (worldR.take (2*z.1)))),(8,.blk [.lit (.slice none 0 0)])],30⟩) (fun z=>3 - z.1) ⟨0,Nat.zero_le _⟩ (Weak.t4 (by refine ⟨?_,?_,?_,?_⟩<;>simp -dsimp (disch:=try exact zo) only[go_sem,Nat.mul_zero,hz,ZC])) ?_
 rintro ⟨i,hi⟩
 dsimp only
 rcases (show i=0∨i=1∨i=2∨i=3 by omega)with rfl|rfl|rfl|rfl
 ·have hE:eS (List.take 2 worldR)=eS (List.take 0 worldR)++[eG ⟨1,0,0,1000⟩ [wpt 1 (-1) (-1),wpt 1 1 (-1),wpt 1 1 1,wpt 1 (-1) 1]]++[eG ⟨-1,0,0,1000⟩ [wpt (-1) (-1) (-1),wpt (-1) (-1) 1,wpt (-1) 1 1,wpt (-1) 1 (-1)]]:=rfl
  have hlE:(eS (List.take 0 worldR)).length=0:=rfl
  simp only[Nat.reduceMul]
  generalize eS (List.take 0 worldR)=E at *
  repeat' (first|refine AW.seq ?_|refine AW.regionP (id:=3) ?_|refine AW.regionP (id:=5) ?_|refine AW.regionP (id:=6) ?_|refine AW.block ?_|refine AW.blk ?_|refine AW.skip ?_|refine AW.exit rfl ?_|(refine AW.cond rfl ?_ ?_<;>intro hc<;>first|simp only[NM]at hc|omega|skip)|refine zr ?_|(first|refine callV.flat _ yfn_160 (c160a (1) (-1) (-1) (by decide) (by decide) (by decide)) rfl rfl ?_|refine callV.flat _ yfn_160 (c160a (1) (1) (-1) (by decide) (by decide) (by decide)) rfl rfl ?_|refine callV.flat _ yfn_160 (c160a (1) (1) (1) (by decide) (by decide) (by decide)) rfl rfl ?_|refine callV.flat _ yfn_160 (c160a (1) (-1) (1) (by decide) (by decide) (by decide)) rfl rfl ?_|refine callV.flat _ yfn_160 (c160a (-1) (-1) (-1) (by decide) (by decide) (by decide)) rfl rfl ?_|refine callV.flat _ yfn_160 (c160a (-1) (-1) (1) (by decide) (by decide) (by decide)) rfl rfl ?_|refine callV.flat _ yfn_160 (c160a (-1) (1) (1) (by decide) (by decide) (by decide)) rfl rfl ?_|refine callV.flat _ yfn_160 (c160a (-1) (1) (-1) (by decide) (by decide) (by decide)) rfl rfl ?_)|refine ⟨by omega,?_⟩|(refine zb ?_ ?_<;>intro hg<;>(try rw[hg])<;>try simp only[NM]at hg)|omega|simp -dsimp (disch:=try exact zo) only[go_sem,hlE]|contradiction|rfl)
  refine AW.weak (Weak.freezeV 40 4 8 ([wpt 1 (-1) (-1),wpt 1 1 (-1),wpt 1 1 1,wpt 1 (-1) 1].map eP) (t:=[(4,.ref 50 0 4 4),(3,.sl ([wpt 1 (-1) (-1),wpt 1 1 (-1),wpt 1 1 1,wpt 1 (-1) 1].map eP)),(2,.lit (.int .i64 ((0:Nat):Int))),(1,.loc 10 0),(0,.loc 8 0)]) (o:=[(50,.vec 8 ([wpt (-1) (-1) (-1),wpt (-1) (-1) 1,wpt (-1) 1 1,wpt (-1) 1 (-1)].map eP)),(10,.blk [.ref 13 0 0 0]),(13,.vec 9 E),(8,.blk [.lit (.slice none 0 0)])]) rfl rfl (by simp -dsimp (disch:=try exact zo) only[go_sem,and_self,List.map_cons,List.map_nil]) (by simp -dsimp (disch:=try exact zo) only[go_sem,and_self,List.map_cons,List.map_nil])) ?_
  refine AW.weak (Weak.freezeV 50 4 8 ([wpt (-1) (-1) (-1),wpt (-1) (-1) 1,wpt (-1) 1 1,wpt (-1) 1 (-1)].map eP) (t:=[(4,.sl ([wpt (-1) (-1) (-1),wpt (-1) (-1) 1,wpt (-1) 1 1,wpt (-1) 1 (-1)].map eP)),(3,.sl ([wpt 1 (-1) (-1),wpt 1 1 (-1),wpt 1 1 1,wpt 1 (-1) 1].map eP)),(2,.lit (.int .i64 ((0:Nat):Int))),(1,.loc 10 0),(0,.loc 8 0)]) (o:=[(10,.blk [.ref 13 0 0 0]),(13,.vec 9 E),(8,.blk [.lit (.slice none 0 0)])]) rfl rfl (by simp -dsimp (disch:=try exact zo) only[go_sem,and_self,List.map_cons,List.map_nil]) (by simp -dsimp (disch:=try exact zo) only[go_sem,and_self,List.map_cons,List.map_nil])) ?_
  repeat' (first|refine zg ?_|(refine AW.cond rfl ?_ ?_<;>intro hc<;>first|simp only[NM]at hc|omega|skip)|refine zr ?_|(first|refine callV.flat _ yfn_161 thr0u rfl rfl ?_|refine callV.flat _ yfn_161 thr0d rfl rfl ?_)|refine ⟨by omega,?_⟩|(refine zb ?_ ?_<;>intro hg<;>(try rw[hg])<;>try simp only[NM]at hg)|omega|simp -dsimp (disch:=try exact zo) only[go_sem,hlE,List.map_cons,List.map_nil]|rfl)
  all_goals exact AW.stop ⟨⟨1,by omega⟩,(Weak.to (by simp -dsimp (disch:=try exact zo) only[go_sem,Int.cast_ofNat_Int]) (by simp -dsimp (disch:=try exact zo) only[go_sem,hE,Int.cast_ofNat_Int];try rfl) (by decide) (by simp -dsimp (disch:=try exact zo) only[go_sem,Int.cast_ofNat_Int]) (by simp -dsimp (disch:=try exact zo) only[go_sem,eS_in,Int.cast_ofNat_Int])),by dsimp only;omega⟩
 ·have hE:eS (List.take 4 worldR)=eS (List.take 2 worldR)++[eG ⟨0,1,0,1000⟩ [wpt (-1) 1 (-1),wpt (-1) 1 1,wpt 1 1 1,wpt 1 1 (-1)]]++[eG ⟨0,-1,0,1000⟩ [wpt (-1) (-1) (-1),wpt 1 (-1) (-1),wpt 1 (-1) 1,wpt (-1) (-1) 1]]:=rfl
  have hlE:(eS (List.take 2 worldR)).length=2:=rfl
  simp only[Nat.reduceMul]
  generalize eS (List.take 2 worldR)=E at *
  repeat' (first|refine AW.seq ?_|refine AW.regionP (id:=3) ?_|refine AW.regionP (id:=5) ?_|refine AW.regionP (id:=6) ?_|refine AW.block ?_|refine AW.blk ?_|refine AW.skip ?_|refine AW.exit rfl ?_|(refine AW.cond rfl ?_ ?_<;>intro hc<;>first|simp only[NM]at hc|omega|skip)|refine zr ?_|(first|refine callV.flat _ yfn_160 (c160b (1) (-1) (-1) (by decide) (by decide) (by decide)) rfl rfl ?_|refine callV.flat _ yfn_160 (c160b (1) (1) (-1) (by decide) (by decide) (by decide)) rfl rfl ?_|refine callV.flat _ yfn_160 (c160b (1) (1) (1) (by decide) (by decide) (by decide)) rfl rfl ?_|refine callV.flat _ yfn_160 (c160b (1) (-1) (1) (by decide) (by decide) (by decide)) rfl rfl ?_|refine callV.flat _ yfn_160 (c160b (-1) (-1) (-1) (by decide) (by decide) (by decide)) rfl rfl ?_|refine callV.flat _ yfn_160 (c160b (-1) (-1) (1) (by decide) (by decide) (by decide)) rfl rfl ?_|refine callV.flat _ yfn_160 (c160b (-1) (1) (1) (by decide) (by decide) (by decide)) rfl rfl ?_|refine callV.flat _ yfn_160 (c160b (-1) (1) (-1) (by decide) (by decide) (by decide)) rfl rfl ?_)|refine ⟨by omega,?_⟩|(refine zb ?_ ?_<;>intro hg<;>(try rw[hg])<;>try simp only[NM]at hg)|omega|simp -dsimp (disch:=try exact zo) only[go_sem,hlE]|contradiction|rfl)
  refine AW.weak (Weak.freezeV 40 4 8 ([wpt (-1) 1 (-1),wpt (-1) 1 1,wpt 1 1 1,wpt 1 1 (-1)].map eP) (t:=[(4,.ref 50 0 4 4),(3,.sl ([wpt (-1) 1 (-1),wpt (-1) 1 1,wpt 1 1 1,wpt 1 1 (-1)].map eP)),(2,.lit (.int .i64 ((1:Nat):Int))),(1,.loc 10 0),(0,.loc 8 0)]) (o:=[(50,.vec 8 ([wpt (-1) (-1) (-1),wpt 1 (-1) (-1),wpt 1 (-1) 1,wpt (-1) (-1) 1].map eP)),(10,.blk [.ref 13 0 2 2]),(13,.vec 9 E),(8,.blk [.lit (.slice none 0 0)])]) rfl rfl (by simp -dsimp (disch:=try exact zo) only[go_sem,and_self,List.map_cons,List.map_nil]) (by simp -dsimp (disch:=try exact zo) only[go_sem,and_self,List.map_cons,List.map_nil])) ?_
  refine AW.weak (Weak.freezeV 50 4 8 ([wpt (-1) (-1) (-1),wpt 1 (-1) (-1),wpt 1 (-1) 1,wpt (-1) (-1) 1].map eP) (t:=[(4,.sl ([wpt (-1) (-1) (-1),wpt 1 (-1) (-1),wpt 1 (-1) 1,wpt (-1) (-1) 1].map eP)),(3,.sl ([wpt (-1) 1 (-1),wpt (-1) 1 1,wpt 1 1 1,wpt 1 1 (-1)].map eP)),(2,.lit (.int .i64 ((1:Nat):Int))),(1,.loc 10 0),(0,.loc 8 0)]) (o:=[(10,.blk [.ref 13 0 2 2]),(13,.vec 9 E),(8,.blk [.lit (.slice none 0 0)])]) rfl rfl (by simp -dsimp (disch:=try exact zo) only[go_sem,and_self,List.map_cons,List.map_nil]) (by simp -dsimp (disch:=try exact zo) only[go_sem,and_self,List.map_cons,List.map_nil])) ?_
  repeat' (first|refine zg ?_|(refine AW.cond rfl ?_ ?_<;>intro hc<;>first|simp only[NM]at hc|omega|skip)|refine zr ?_|(first|refine callV.flat _ yfn_161 thr1u rfl rfl ?_|refine callV.flat _ yfn_161 thr1d rfl rfl ?_)|refine ⟨by omega,?_⟩|(refine zb ?_ ?_<;>intro hg<;>(try rw[hg])<;>try simp only[NM]at hg)|omega|simp -dsimp (disch:=try exact zo) only[go_sem,hlE,List.map_cons,List.map_nil]|rfl)
  all_goals exact AW.stop ⟨⟨2,by omega⟩,(Weak.to (by simp -dsimp (disch:=try exact zo) only[go_sem,Int.cast_ofNat_Int]) (by simp -dsimp (disch:=try exact zo) only[go_sem,hE,Int.cast_ofNat_Int];try rfl) (by decide) (by simp -dsimp (disch:=try exact zo) only[go_sem,Int.cast_ofNat_Int]) (by simp -dsimp (disch:=try exact zo) only[go_sem,eS_in,Int.cast_ofNat_Int])),by dsimp only;omega⟩
 ·have hE:eS (List.take 6 worldR)=eS (List.take 4 worldR)++[eG ⟨0,0,1,1000⟩ [wpt (-1) (-1) 1,wpt 1 (-1) 1,wpt 1 1 1,wpt (-1) 1 1]]++[eG ⟨0,0,-1,1000⟩ [wpt (-1) (-1) (-1),wpt (-1) 1 (-1),wpt 1 1 (-1),wpt 1 (-1) (-1)]]:=rfl
  have hlE:(eS (List.take 4 worldR)).length=4:=rfl
  simp only[Nat.reduceMul]
  generalize eS (List.take 4 worldR)=E at *
  repeat' (first|refine AW.seq ?_|refine AW.regionP (id:=3) ?_|refine AW.regionP (id:=5) ?_|refine AW.regionP (id:=6) ?_|refine AW.block ?_|refine AW.blk ?_|refine AW.skip ?_|refine AW.exit rfl ?_|(refine AW.cond rfl ?_ ?_<;>intro hc<;>first|simp only[NM]at hc|omega|skip)|refine zr ?_|(first|refine callV.flat _ yfn_160 (c160c (1) (-1) (-1) (by decide) (by decide) (by decide)) rfl rfl ?_|refine callV.flat _ yfn_160 (c160c (1) (1) (-1) (by decide) (by decide) (by decide)) rfl rfl ?_|refine callV.flat _ yfn_160 (c160c (1) (1) (1) (by decide) (by decide) (by decide)) rfl rfl ?_|refine callV.flat _ yfn_160 (c160c (1) (-1) (1) (by decide) (by decide) (by decide)) rfl rfl ?_|refine callV.flat _ yfn_160 (c160c (-1) (-1) (-1) (by decide) (by decide) (by decide)) rfl rfl ?_|refine callV.flat _ yfn_160 (c160c (-1) (-1) (1) (by decide) (by decide) (by decide)) rfl rfl ?_|refine callV.flat _ yfn_160 (c160c (-1) (1) (1) (by decide) (by decide) (by decide)) rfl rfl ?_|refine callV.flat _ yfn_160 (c160c (-1) (1) (-1) (by decide) (by decide) (by decide)) rfl rfl ?_)|refine ⟨by omega,?_⟩|(refine zb ?_ ?_<;>intro hg<;>(try rw[hg])<;>try simp only[NM]at hg)|omega|simp -dsimp (disch:=try exact zo) only[go_sem,hlE]|contradiction|rfl)
  refine AW.weak (Weak.freezeV 40 4 8 ([wpt (-1) (-1) 1,wpt 1 (-1) 1,wpt 1 1 1,wpt (-1) 1 1].map eP) (t:=[(4,.ref 50 0 4 4),(3,.sl ([wpt (-1) (-1) 1,wpt 1 (-1) 1,wpt 1 1 1,wpt (-1) 1 1].map eP)),(2,.lit (.int .i64 ((2:Nat):Int))),(1,.loc 10 0),(0,.loc 8 0)]) (o:=[(50,.vec 8 ([wpt (-1) (-1) (-1),wpt (-1) 1 (-1),wpt 1 1 (-1),wpt 1 (-1) (-1)].map eP)),(10,.blk [.ref 13 0 4 4]),(13,.vec 9 E),(8,.blk [.lit (.slice none 0 0)])]) rfl rfl (by simp -dsimp (disch:=try exact zo) only[go_sem,and_self,List.map_cons,List.map_nil]) (by simp -dsimp (disch:=try exact zo) only[go_sem,and_self,List.map_cons,List.map_nil])) ?_
  refine AW.weak (Weak.freezeV 50 4 8 ([wpt (-1) (-1) (-1),wpt (-1) 1 (-1),wpt 1 1 (-1),wpt 1 (-1) (-1)].map eP) (t:=[(4,.sl ([wpt (-1) (-1) (-1),wpt (-1) 1 (-1),wpt 1 1 (-1),wpt 1 (-1) (-1)].map eP)),(3,.sl ([wpt (-1) (-1) 1,wpt 1 (-1) 1,wpt 1 1 1,wpt (-1) 1 1].map eP)),(2,.lit (.int .i64 ((2:Nat):Int))),(1,.loc 10 0),(0,.loc 8 0)]) (o:=[(10,.blk [.ref 13 0 4 4]),(13,.vec 9 E),(8,.blk [.lit (.slice none 0 0)])]) rfl rfl (by simp -dsimp (disch:=try exact zo) only[go_sem,and_self,List.map_cons,List.map_nil]) (by simp -dsimp (disch:=try exact zo) only[go_sem,and_self,List.map_cons,List.map_nil])) ?_
  repeat' (first|refine zg ?_|(refine AW.cond rfl ?_ ?_<;>intro hc<;>first|simp only[NM]at hc|omega|skip)|refine zr ?_|(first|refine callV.flat _ yfn_161 thr2u rfl rfl ?_|refine callV.flat _ yfn_161 thr2d rfl rfl ?_)|refine ⟨by omega,?_⟩|(refine zb ?_ ?_<;>intro hg<;>(try rw[hg])<;>try simp only[NM]at hg)|omega|simp -dsimp (disch:=try exact zo) only[go_sem,hlE,List.map_cons,List.map_nil]|rfl)
  all_goals exact AW.stop ⟨⟨3,by omega⟩,(Weak.to (by simp -dsimp (disch:=try exact zo) only[go_sem,Int.cast_ofNat_Int]) (by simp -dsimp (disch:=try exact zo) only[go_sem,hE,Int.cast_ofNat_Int];try rfl) (by decide) (by simp -dsimp (disch:=try exact zo) only[go_sem,Int.cast_ofNat_Int]) (by simp -dsimp (disch:=try exact zo) only[go_sem,eS_in,Int.cast_ofNat_Int])),by dsimp only;omega⟩
 ·repeat' (first|refine zg ?_|(refine AW.cond rfl ?_ ?_<;>intro hc<;>first|simp only[NM]at hc|omega|skip)|refine zr ?_|refine ⟨by omega,?_⟩|(refine zb ?_ ?_<;>intro hg<;>(try rw[hg])<;>try simp only[NM]at hg)|omega|simp -dsimp (disch:=try exact zo) only[go_sem,hwl]|contradiction|rfl)
theorem nilIn {K:Nat→Prop}:In K (.agg [.lit (.slice none 0 0)]):=.agg _ (by intro c hc;simp only[List.mem_cons,List.not_mem_nil,or_false]at hc;subst hc;exact .lit _)
theorem splIn {K:Nat→Prop} {l:PCell} {b:Pl}:In K (if frontB b l=false then .tup [.agg [.sl (eS l)],.agg [.lit (.slice none 0 0)]]else if behindB b l=false then .tup [.agg [.lit (.slice none 0 0)],.agg [.sl (eS l)]]else .tup [.agg [.sl (eS (bcellR b l))],.agg [.sl (eS (bcellR (negP b) l))]]):=by
 have key:∀ a c:AV,In K a→In K c→In K (.tup [a,c]):=fun a c ha hc=>.tup _ (by intro x hx;simp only[List.mem_cons,List.not_mem_nil,or_false]at hx;rcases hx with rfl|rfl<;>assumption)
 split
 ·exact key _ _ (inCell _) nilIn
 ·split
  ·exact key _ _ nilIn (inCell _)
  ·exact key _ _ (inCell _) (inCell _)
set_option maxHeartbeats 16000000 in
theorem c95x (l:PCell) (b:Pl) (h:CellOK l) (hb:BPl 1048576 b) (hn:l.length≤4096) (hv:∀ s∈l,s.2.length≤65536∧∀ v∈s.2,BPt 1048576 v):CallOK Tryz.prog 95 [.agg [.sl (eS l)],.agg (eH b)] [] (if frontB b l=false then .tup [.agg [.sl (eS l)],.agg [.lit (.slice none 0 0)]]else if behindB b l=false then .tup [.agg [.lit (.slice none 0 0)],.agg [.sl (eS l)]]else .tup [.agg [.sl (eS (bcellR b l))],.agg [.sl (eS (bcellR (negP b) l))]]) []:=by
 refine CallOK.closed Tryz.func95 rfl 29 rfl rfl splIn [.cell 4 33,.cell 5 33] (congrArg Array.toList Tryz.results95) ?_
 simp only[startT,Nat.reduceAdd]
 have cr:=c162 l b (hb.mono (by decide)) (by omega) (fun s hs=>⟨Nat.le_trans (hv s hs).1 (by decide),fun v hvm=>((hv s hs).2 v hvm).mono (by decide)⟩)
 have cf:=c51 b (hb.mono (by decide))
 by_cases hf:frontB b l=false
 ·rw[if_pos hf]
  have ca:True:=trivial
  have cb:True:=trivial
  rw[hf]at cr
  clear h hv hf
  generalize behindB b l=B at *
  repeat' (first|refine zg ?_|(refine AW.cond rfl ?_ ?_<;>intro hc<;>first|simp only[NM]at hc|omega|skip)|refine zr ?_|(refine callV.plain _ yfn_162 cr (by simp -dsimp (disch:=try exact zo) only[go_sem,eS_in]) (.tup _ (by intro c hc;simp only[List.mem_cons,List.not_mem_nil,or_false]at hc;rcases hc with rfl|rfl<;>exact .lit _)) ?_)|(first|refine callV.plain _ yfn_163 ca (by simp -dsimp (disch:=try exact zo) only[go_sem,eS_in]) (inCell _) ?_|refine callV.plain _ yfn_163 cb (by simp -dsimp (disch:=try exact zo) only[go_sem,eS_in]) (inCell _) ?_)|(refine callV.flat _ yfn_51 cf rfl rfl ?_)|refine ⟨by omega,?_⟩|(refine zb ?_ ?_<;>intro hg<;>(try rw[hg])<;>try simp only[NM]at hg)|omega|simp -dsimp (disch:=try exact zo) only[go_sem,eS_in]|contradiction|rfl)
 ·rw[if_neg hf]
  have hf':frontB b l=true:=by simpa using hf
  rw[hf']at cr
  by_cases hbb:behindB b l=false
  ·rw[if_pos hbb]
   rw[hbb]at cr
   have ca:True:=trivial
   have cb:True:=trivial
   clear h hv hf hbb hf'
   repeat' (first|refine zg ?_|(refine AW.cond rfl ?_ ?_<;>intro hc<;>first|simp only[NM]at hc|omega|skip)|refine zr ?_|(refine callV.plain _ yfn_162 cr (by simp -dsimp (disch:=try exact zo) only[go_sem,eS_in]) (.tup _ (by intro c hc;simp only[List.mem_cons,List.not_mem_nil,or_false]at hc;rcases hc with rfl|rfl<;>exact .lit _)) ?_)|(first|refine callV.plain _ yfn_163 ca (by simp -dsimp (disch:=try exact zo) only[go_sem,eS_in]) (inCell _) ?_|refine callV.plain _ yfn_163 cb (by simp -dsimp (disch:=try exact zo) only[go_sem,eS_in]) (inCell _) ?_)|(refine callV.flat _ yfn_51 cf rfl rfl ?_)|refine ⟨by omega,?_⟩|(refine zb ?_ ?_<;>intro hg<;>(try rw[hg])<;>try simp only[NM]at hg)|omega|simp -dsimp (disch:=try exact zo) only[go_sem,eS_in]|contradiction|rfl)
  ·rw[if_neg hbb]
   have hb':behindB b l=true:=by simpa using hbb
   rw[hb']at cr
   have ca:=c163 l b h (spl_of h hf' hb') hb hn hv
   have cb:=c163 l (negP b) h (spl_of h (by rw[front_neg];exact hb') (by rw[behind_neg];exact hf')) hb.neg hn hv
   clear h hv hf hbb hf' hb'
   repeat' (first|refine zg ?_|(refine AW.cond rfl ?_ ?_<;>intro hc<;>first|simp only[NM]at hc|omega|skip)|refine zr ?_|(refine callV.plain _ yfn_162 cr (by simp -dsimp (disch:=try exact zo) only[go_sem,eS_in]) (.tup _ (by intro c hc;simp only[List.mem_cons,List.not_mem_nil,or_false]at hc;rcases hc with rfl|rfl<;>exact .lit _)) ?_)|(first|refine callV.plain _ yfn_163 ca (by simp -dsimp (disch:=try exact zo) only[go_sem,eS_in]) (inCell _) ?_|refine callV.plain _ yfn_163 cb (by simp -dsimp (disch:=try exact zo) only[go_sem,eS_in]) (inCell _) ?_)|(refine callV.flat _ yfn_51 cf rfl rfl ?_)|refine ⟨by omega,?_⟩|(refine zb ?_ ?_<;>intro hg<;>(try rw[hg])<;>try simp only[NM]at hg)|omega|simp -dsimp (disch:=try exact zo) only[go_sem,eS_in]|contradiction|rfl)
theorem c95 (l:PCell) (b:Pl) (h:CellOK l) (hb:BPl 1048576 b) (hn:l.length≤4096) (hv:∀ s∈l,s.2.length≤65536∧∀ v∈s.2,BPt 1048576 v):CallOK Tryz.prog 95 [.agg [.sl (eS l)],.agg (eH b)] [] (.tup [.agg [.sl (eS (splitR b l).1)],.agg [.sl (eS (splitR b l).2)]]) []:=by
 have:=c95x l b h hb hn hv
 unfold splitR
 by_cases hf:frontB b l=false
 ·rw[if_pos hf]at this ⊢
  exact this.wk fun g v=>rel_pair (fun v h=>h) (fun v h=>rel_cell0 h)
 ·rw[if_neg hf]at this ⊢
  by_cases hbb:behindB b l=false
  ·rw[if_pos hbb]at this ⊢
   exact this.wk fun g v=>rel_pair (fun v h=>rel_cell0 h) (fun v h=>h)
  ·rw[if_neg hbb]at this ⊢
   exact this
theorem cutR_succ (ps:List Pl) (i:Nat) (h:i<ps.length):cutR (ps.take (i+1))=cutStepR (cutR (ps.take i)) ps[i]:=by
 unfold cutR
 rw[List.take_succ_eq_append_getElem h,List.foldl_append]
 rfl
theorem cutR_bd {ps:List Pl} (hb:∀ p∈ps,BPl 3 p) (hn:ps.length≤8):BdC (cutR ps):=(cutR_ok ps).2.bd (cut_bdC hb hn)
set_option maxHeartbeats 8000000 in
theorem c32 (ps:List Pl) (hb:∀ p∈ps,BPl 3 p) (hn:ps.length≤8):CallOK Tryz.prog 32 [.sl (ps.map eH)] [] (.agg [.sl (eS (cutR ps))]) []:=by
 refine CallOK.closed Tryz.func32 rfl 28 rfl rfl (inCell _) [.cell 2 33] (congrArg Array.toList Tryz.results32) ?_
 simp only[startT,Nat.reduceAdd]
 have hml:maxLen=9223372036854775807:=rfl
 have hl:(ps.map eH).length=ps.length:=List.length_map _
 have h00:cutR []=worldR:=rfl
 repeat' (first|refine zg ?_|(refine AW.cond rfl ?_ ?_<;>intro hc<;>first|simp only[NM]at hc|omega|skip)|refine zr ?_|(refine callV.plain _ yfn_94 c94 (by simp) (inCell _) ?_)|refine ⟨by omega,?_⟩|(refine zb ?_ ?_<;>intro hg<;>(try rw[hg])<;>try simp only[NM]at hg)|omega|simp -dsimp (disch:=try exact zo) only[go_sem,hl]|contradiction|rfl)
 refine AW.loop (fun z:{i:Nat // i≤ps.length}=>⟨[(11,.lit (.int .i64 z.1)),(9,.sl (ps.map eH)),(10,.lit (.int .i64 ps.length)),(3,.loc 10 0),(2,.loc 8 0)],[(10,.blk [.sl (eS (cutR (ps.take z.1)))]),(8,.blk [.lit (.slice none 0 0)])],60⟩) (fun z=>ps.length - z.1) ⟨0,Nat.zero_le _⟩ (Weak.t4 (by refine ⟨?_,?_,?_,?_⟩<;>simp -dsimp (disch:=try exact zo) only[go_sem,List.take_zero,h00,eS_in,eHs_in,ZC])) ?_
 rintro ⟨i,hi⟩
 dsimp only
 by_cases hlt:i<ps.length
 ·have es1:=eH_getD ps i hlt
  have hst:=cutR_succ ps i hlt
  have hbi:=hb _ (List.getElem_mem hlt)
  have hok:=(cutR_ok (ps.take i)).1
  have hbd:=cutR_bd (ps:=ps.take i) (fun p hp=>hb p (List.mem_of_mem_take hp)) (by rw[List.length_take];omega)
  generalize ps[i]=p at *
  have cs:=c95 (cutR (ps.take i)) p hok (hbi.mono (by decide)) (Nat.le_trans hbd.n (by decide)) (fun s hs=>⟨Nat.le_trans (hbd.m s hs) (by decide),fun v hv=>(hbd.k s hs v hv).mono (by decide)⟩)
  generalize cutR (ps.take i)=c at *
  unfold cutStepR at hst
  generalize (splitR p c).1=X at *
  generalize (splitR p c).2=Y at *
  have hlX:(eS X).length=X.length:=List.length_map _
  simp only[eH,e4]at es1
  clear hok hbd hbi hb
  by_cases q:X=[]
  ·rw[if_pos q]at hst
   have k1:(0<(X.length:Int))=False:=eq_false (by subst q;simp)
   clear q
   repeat' (first|refine zg ?_|(refine AW.cond rfl ?_ ?_<;>intro hc<;>first|simp only[NM]at hc|omega|skip)|refine zr ?_|(refine callV.plain _ yfn_95 cs (by simp -dsimp (disch:=try exact zo) only[go_sem,eS_in,eP_in]) (inPair _ _) ?_)|refine ⟨by omega,?_⟩|(refine zb ?_ ?_<;>intro hg<;>(try rw[hg])<;>try simp only[NM]at hg)|omega|simp -dsimp (disch:=try exact zo) only[go_sem,hl,es1,k1,hlX,ZT,eS_in,eHs_in]|contradiction|rfl)
   all_goals exact AW.stop ⟨⟨i+1,by omega⟩,(Weak.t4 (by refine ⟨?_,?_,?_,?_⟩<;>simp -dsimp (disch:=try exact zo) only[go_sem,eS_in,eHs_in,hst,ZC])),by dsimp only;omega⟩
  ·rw[if_neg q]at hst
   have k1:(0<(X.length:Int))=True:=eq_true (by have:=List.length_pos_iff.2 q;omega)
   clear q
   repeat' (first|refine zg ?_|(refine AW.cond rfl ?_ ?_<;>intro hc<;>first|simp only[NM]at hc|omega|skip)|refine zr ?_|(refine callV.plain _ yfn_95 cs (by simp -dsimp (disch:=try exact zo) only[go_sem,eS_in,eP_in]) (inPair _ _) ?_)|refine ⟨by omega,?_⟩|(refine zb ?_ ?_<;>intro hg<;>(try rw[hg])<;>try simp only[NM]at hg)|omega|simp -dsimp (disch:=try exact zo) only[go_sem,hl,es1,k1,hlX,ZT,eS_in,eHs_in]|contradiction|rfl)
   all_goals exact AW.stop ⟨⟨i+1,by omega⟩,(Weak.t4 (by refine ⟨?_,?_,?_,?_⟩<;>simp -dsimp (disch:=try exact zo) only[go_sem,eS_in,eHs_in,hst,ZC])),by dsimp only;omega⟩
 ·have hil:i=ps.length:=by omega
  subst hil
  rw[List.take_length]
  repeat' (first|refine zg ?_|(refine AW.cond rfl ?_ ?_<;>intro hc<;>first|simp only[NM]at hc|omega|skip)|refine zr ?_|refine ⟨by omega,?_⟩|(refine zb ?_ ?_<;>intro hg<;>(try rw[hg])<;>try simp only[NM]at hg)|omega|simp -dsimp (disch:=try exact zo) only[go_sem,hl]|contradiction|rfl)
end Go.Proofs.Vx
namespace Go.Proofs.Vx
open Go Go.Sx Go.Proofs
attribute [local irreducible] fnT CallOK CallFr AW effV callV runP runO oneP oneO gcaseP hid
theorem yfn_6:fnT Tryz.prog 6=true:=by kernel_rfl
theorem flatPt {p:Pt}:Flat (.agg (eP p)):=.agg _ (fun c hc=>eP_flat [p] (eP p) (by simp) c hc)
end Go.Proofs.Vx
namespace Go.Proofs.Vx
open Go Go.Sx Go.Proofs
attribute [local irreducible] fnT CallOK CallFr AW effV callV runP runO oneP oneO gcaseP hid
theorem yfn_5:fnT Tryz.prog 5=true:=by kernel_rfl
end Go.Proofs.Vx
namespace Go.Proofs.Vx
open Go Go.Sx Go.Proofs
attribute [local irreducible] fnT CallOK CallFr AW effV callV runP runO oneP oneO gcaseP hid
theorem yfn_127:fnT Tryz.prog 127=true:=by kernel_rfl
theorem yfn_180:fnT Tryz.prog 180=true:=by kernel_rfl
theorem yfn_229:fnT Tryz.prog 229=true:=by kernel_rfl
set_option maxHeartbeats 3200000 in
theorem c229 (a:Rat) (hsa:Qs 33554431 a) (b:Rat) (hsb:Qs 33554431 b):CallOK Tryz.prog 229 [.agg (eQ a),.agg (eQ b)] [] (.lit (.int .i64 (sg (a - b).num))) []:=by
 refine CallOK.flat Tryz.func229 rfl 9 rfl rfl rfl [.tmp 4] (congrArg Array.toList Tryz.results229) ?_
 simp only[startT,Nat.reduceAdd]
 repeat' (first|refine zg ?_|(refine AW.cond rfl ?_ ?_<;>intro hc<;>try simp only[NM]at hc)|refine zr ?_|(refine callV.flat _ yfn_183 (c183 a (hsa.mono (by decide)) b (hsb.mono (by decide))) rfl rfl ?_)|(refine callV.flat _ yfn_63 (c63 (a - b) ((hsa.sub hsb).mono (by decide))) rfl rfl ?_)|refine ⟨by omega,?_⟩|(refine zb ?_ ?_<;>intro hg<;>(try rw[hg])<;>try simp only[NM]at hg)|omega|simp -dsimp (disch:=try exact zo) only[go_sem]|contradiction|rfl)
theorem sg_rat (q:Rat):(sg q.num=-1↔q<0)∧(sg q.num=0↔q=0)∧(sg q.num=1↔0<q):=by
 have h1:0<q↔0<q.num:=by rw[Rat.lt_iff];simp
 have h2:q=0↔q.num=0:=Rat.num_eq_zero.symm
 have h3:q<0↔¬ 0<q∧¬ q=0:=by constructor<;>intro h<;>grind
 rw[h3,h1,h2]
 rcases sg_cases q.num with ⟨e,h⟩|⟨e,h⟩|⟨e,h⟩<;>rw[e]<;>omega
theorem sg_cross {a b c d:Int} (hb:0<b) (hd:0<d):sg ((a:Rat) / (b:Rat) - (c:Rat) / (d:Rat)).num=sg (a*d - c*b):=by
 have h1:=cross_lt (a:=a) (c:=c) hb hd
 have h2:=cross_eq (a:=a) (c:=c) hb hd
 obtain ⟨r1,r2,r3⟩:=sg_rat ((a:Rat) / (b:Rat) - (c:Rat) / (d:Rat))
 generalize (a:Rat) / (b:Rat)=u at *
 generalize (c:Rat) / (d:Rat)=v at *
 rcases sg_cases (a*d - c*b)with ⟨e,h⟩|⟨e,h⟩|⟨e,h⟩
 ·rw[e,r1];have:=h1.2 h;grind
 ·rw[e,r2];have:=h2.2 h;grind
 ·rw[e,r3]
  have n1:¬ u<v:=fun k=>by have:=h1.1 k;omega
  have n2:¬ u=v:=fun k=>by have:=h2.1 k;omega
  grind
theorem cmpR {a b:Pt} (ha:0<a.w) (hb:0<b.w):sg ((tv a).x - (tv b).x).num=sg (a.x*b.w - b.x*a.w)∧sg ((tv a).y - (tv b).y).num=sg (a.y*b.w - b.y*a.w)∧sg ((tv a).z - (tv b).z).num=sg (a.z*b.w - b.z*a.w):=⟨sg_cross ha hb,sg_cross ha hb,sg_cross ha hb⟩
set_option maxHeartbeats 8000000 in
theorem c180 (a b:Pt) (ha:CanP a) (hb:CanP b) (ba:BPt 33554431 a) (bb:BPt 33554431 b):CallOK Tryz.prog 180 [.agg (eP a),.agg (eP b)] [] (.lit (.int .i64 (cmpP a b))) []:=by
 refine CallOK.flat Tryz.func180 rfl 27 rfl rfl rfl [.tmp 4] (congrArg Array.toList Tryz.results180) ?_
 simp only[startT,Nat.reduceAdd]
 have ca:=c128 a ha (ba.mono (by decide))
 have cb:=c128 b hb (bb.mono (by decide))
 have qa:=tv_qs ha ba
 have qb:=tv_qs hb bb
 have dx:=c229 _ qa.x _ qb.x
 have dy:=c229 _ qa.y _ qb.y
 have dz:=c229 _ qa.z _ qb.z
 obtain ⟨e1,e2,e3⟩:=cmpR ha.w hb.w
 rw[e1]at dx
 rw[e2]at dy
 rw[e3]at dz
 unfold cmpP
 clear qa qb e1 e2 e3 ha hb ba bb
 generalize tv a=s at *
 generalize tv b=t at *
 generalize sg (a.x*b.w - b.x*a.w)=u1 at *
 generalize sg (a.y*b.w - b.y*a.w)=u2 at *
 generalize sg (a.z*b.w - b.z*a.w)=u3 at *
 by_cases q1:u1=0
 ·have k1:=eq_true q1
  rw[if_neg (by simp[q1])]
  by_cases q2:u2=0
  ·have k2:=eq_true q2
   rw[if_neg (by simp[q2])]
   by_cases q3:u3=0
   ·have k3:=eq_true q3
    rw[q3]
    repeat' (first|refine zg ?_|refine AW.unroll 6 ?_|(refine AW.cond rfl ?_ ?_<;>intro hc<;>first|simp only[NM]at hc|omega|skip)|refine zr ?_|(first|refine callV.flat _ yfn_128 ca rfl rfl ?_|refine callV.flat _ yfn_128 cb rfl rfl ?_)|(first|refine callV.flat _ yfn_229 dx rfl rfl ?_|refine callV.flat _ yfn_229 dy rfl rfl ?_|refine callV.flat _ yfn_229 dz rfl rfl ?_)|refine ⟨by omega,?_⟩|(refine zb ?_ ?_<;>intro hg<;>(try rw[hg])<;>try simp only[NM]at hg)|omega|simp -dsimp (disch:=try exact zo) only[go_sem,k1,k2,k3]|contradiction|rfl)
   ·have k3:=eq_false q3
    repeat' (first|refine zg ?_|refine AW.unroll 6 ?_|(refine AW.cond rfl ?_ ?_<;>intro hc<;>first|simp only[NM]at hc|omega|skip)|refine zr ?_|(first|refine callV.flat _ yfn_128 ca rfl rfl ?_|refine callV.flat _ yfn_128 cb rfl rfl ?_)|(first|refine callV.flat _ yfn_229 dx rfl rfl ?_|refine callV.flat _ yfn_229 dy rfl rfl ?_|refine callV.flat _ yfn_229 dz rfl rfl ?_)|refine ⟨by omega,?_⟩|(refine zb ?_ ?_<;>intro hg<;>(try rw[hg])<;>try simp only[NM]at hg)|omega|simp -dsimp (disch:=try exact zo) only[go_sem,k1,k2,k3]|contradiction|rfl)
  ·have k2:=eq_false q2
   rw[if_pos q2]
   have k3:True:=trivial
   repeat' (first|refine zg ?_|refine AW.unroll 6 ?_|(refine AW.cond rfl ?_ ?_<;>intro hc<;>first|simp only[NM]at hc|omega|skip)|refine zr ?_|(first|refine callV.flat _ yfn_128 ca rfl rfl ?_|refine callV.flat _ yfn_128 cb rfl rfl ?_)|(first|refine callV.flat _ yfn_229 dx rfl rfl ?_|refine callV.flat _ yfn_229 dy rfl rfl ?_|refine callV.flat _ yfn_229 dz rfl rfl ?_)|refine ⟨by omega,?_⟩|(refine zb ?_ ?_<;>intro hg<;>(try rw[hg])<;>try simp only[NM]at hg)|omega|simp -dsimp (disch:=try exact zo) only[go_sem,k1,k2,k3]|contradiction|rfl)
 ·have k1:=eq_false q1
  rw[if_pos q1]
  have k2:True:=trivial
  have k3:True:=trivial
  repeat' (first|refine zg ?_|refine AW.unroll 6 ?_|(refine AW.cond rfl ?_ ?_<;>intro hc<;>first|simp only[NM]at hc|omega|skip)|refine zr ?_|(first|refine callV.flat _ yfn_128 ca rfl rfl ?_|refine callV.flat _ yfn_128 cb rfl rfl ?_)|(first|refine callV.flat _ yfn_229 dx rfl rfl ?_|refine callV.flat _ yfn_229 dy rfl rfl ?_|refine callV.flat _ yfn_229 dz rfl rfl ?_)|refine ⟨by omega,?_⟩|(refine zb ?_ ?_<;>intro hg<;>(try rw[hg])<;>try simp only[NM]at hg)|omega|simp -dsimp (disch:=try exact zo) only[go_sem,k1,k2,k3]|contradiction|rfl)
def laidL (x:Pt) (l:List Pt):Bool:=l.any fun y=>decide (0<cmpP y x)
def insO (x:Pt):Bool→List Pt→List Pt
 | _,[]=>[]
 | b,y::ys=>if 0<cmpP y x∧b=false then x::y::insO x true ys else y::insO x b ys
def insF (x:Pt):List Pt→List Pt
 | []=>[x]
 | y::ys=>if 0<cmpP y x then x::y::ys else y::insF x ys
def insP (l:List Pt) (x:Pt):List Pt:=if l.any (fun y=>decide (cmpP y x=0))=true then l else insF x l
theorem insO_true (x:Pt) (l:List Pt):insO x true l=l:=by
 induction l with
 | nil=>rfl
 | cons y ys ih=>unfold insO;rw[if_neg (by simp),ih]
theorem insO_snoc (x y:Pt) (l:List Pt):insO x false (l++[y])=insO x false l++(if 0<cmpP y x∧laidL x l=false then [x,y]else [y]):=by
 induction l with
 | nil=>simp[insO,laidL]
 | cons z l ih =>
  rw[List.cons_append]
  unfold insO
  by_cases h:0<cmpP z x
  ·rw[if_pos ⟨h,rfl⟩,if_pos ⟨h,rfl⟩,insO_true,insO_true]
   have:laidL x (z::l)=true:=by unfold laidL;simp[h]
   rw[this]
   simp
  ·rw[if_neg (fun k=>h k.1),if_neg (fun k=>h k.1),ih]
   have:laidL x (z::l)=laidL x l:=by unfold laidL;simp[h]
   rw[this,List.cons_append]
theorem insO_fin (x:Pt) (l:List Pt):insO x false l++(if laidL x l=true then []else [x])=insF x l:=by
 induction l with
 | nil=>rfl
 | cons z l ih =>
  unfold insO insF
  by_cases h:0<cmpP z x
  ·rw[if_pos ⟨h,rfl⟩,if_pos h,insO_true]
   have:laidL x (z::l)=true:=by unfold laidL;simp[h]
   rw[this];simp
  ·rw[if_neg (fun k=>h k.1),if_neg h]
   have:laidL x (z::l)=laidL x l:=by unfold laidL;simp[h]
   rw[this,List.cons_append,ih]
theorem insO_len (x:Pt) (l:List Pt):(insO x false l).length=l.length+(if laidL x l=true then 1 else 0):=by
 induction l with
 | nil=>rfl
 | cons z l ih =>
  unfold insO
  by_cases h:0<cmpP z x
  ·rw[if_pos ⟨h,rfl⟩,insO_true]
   have:laidL x (z::l)=true:=by unfold laidL;simp[h]
   rw[this];simp
  ·rw[if_neg (fun k=>h k.1)]
   have:laidL x (z::l)=laidL x l:=by unfold laidL;simp[h]
   rw[this,List.length_cons,ih,List.length_cons]
   omega
theorem laid_succ (x y:Pt) (l:List Pt):laidL x (l++[y])=(laidL x l||decide (0<cmpP y x)):=by unfold laidL;simp
theorem insF_len (x:Pt) (l:List Pt):(insF x l).length=l.length+1:=by
 induction l with
 | nil=>rfl
 | cons z l ih=>unfold insF;split<;>simp[ih]
theorem insF_mem {x z:Pt} {l:List Pt}:z∈insF x l↔z=x∨z∈l:=by
 induction l with
 | nil=>simp[insF]
 | cons y l ih=>unfold insF;split<;>simp[ih]<;>grind
theorem cmp_zero {a b:Pt} (ha:CanP a) (hb:CanP b):cmpP a b=0↔a=b:=by
 constructor
 ·intro h
  have n1:¬ ltV (tv a) (tv b):=fun k=>by have:=(cmpP_lt ha.w hb.w).2 k;omega
  by_cases k:ltV (tv b) (tv a)
  ·exfalso
   unfold cmpP at h
   split at h
   ·contradiction
   ·split at h
    ·contradiction
    ·rename_i h1 h2
     have q1:=(cross_eq ha.w hb.w).2 ((sg_zero_iff _).1 (by simpa using h1))
     have q2:=(cross_eq ha.w hb.w).2 ((sg_zero_iff _).1 (by simpa using h2))
     have q3:=(cross_eq ha.w hb.w).2 ((sg_zero_iff _).1 h)
     have:tv a=tv b:=Geo.V.ext q1 q2 q3
     rw[this]at k
     exact ltV_irrefl _ k
  ·exact tv_inj ha hb (ltV_eq n1 k)
 ·rintro rfl
  unfold cmpP
  simp[Int.mul_comm,sg]
theorem cmp_pos {a b:Pt} (ha:CanP a) (hb:CanP b):0<cmpP a b↔ltV (tv b) (tv a):=by
 have h1:=cmpP_lt ha.w hb.w
 have h2:=cmp_zero ha hb
 constructor
 ·intro h
  have n1:¬ ltV (tv a) (tv b):=fun k=>by have:=h1.2 k;omega
  apply Classical.byContradiction
  intro k
  have:=h2.2 (tv_inj ha hb (ltV_eq n1 k))
  omega
 ·intro h
  have n1:¬ cmpP a b<0:=fun k=>ltV_irrefl _ (ltV_trans h (h1.1 k))
  have n2:¬ cmpP a b=0:=fun k=>by rw[h2.1 k]at h;exact ltV_irrefl _ h
  omega
def Asc (l:List Pt):Prop:=l.Pairwise fun a b=>ltV (tv a) (tv b)
theorem insF_asc {x:Pt} {l:List Pt} (hx:CanP x) (hl:∀ y∈l,CanP y) (h:Asc l) (hn:x∉l):Asc (insF x l):=by
 induction l with
 | nil=>exact List.pairwise_singleton _ _
 | cons y l ih =>
  have hy:=hl y (by simp)
  obtain ⟨h1,h2⟩:=List.pairwise_cons.1 h
  unfold insF
  split
  ·rename_i hp
   have hxy:=(cmp_pos hy hx).1 hp
   refine List.pairwise_cons.2 ⟨fun z hz=>?_,h⟩
   rcases List.mem_cons.1 hz with rfl|hz
   ·exact hxy
   ·exact ltV_trans hxy (h1 z hz)
  ·rename_i hp
   have hyx:ltV (tv y) (tv x):=by
    apply Classical.byContradiction
    intro k
    have n2:¬ ltV (tv x) (tv y):=fun q=>hp ((cmp_pos hy hx).2 q)
    exact hn (by rw[tv_inj hy hx (ltV_eq k n2)];simp)
   refine List.pairwise_cons.2 ⟨fun z hz=>?_,ih (fun z hz=>hl z (by simp[hz])) h2 fun hh=>hn (by simp[hh])⟩
   rcases insF_mem.1 hz with rfl|hz
   ·exact hyx
   ·exact h1 z hz
structure InsI (l s:List Pt):Prop where
 can:∀ y∈s,CanP y
 asc:Asc s
 mem:∀ y,y∈s↔y∈l
theorem any_zero {x:Pt} {s:List Pt} (hx:CanP x) (hs:∀ y∈s,CanP y):s.any (fun y=>decide (cmpP y x=0))=true↔x∈s:=by
 rw[List.any_eq_true]
 constructor
 ·rintro ⟨y,hy,h⟩
  rw[← (cmp_zero (hs y hy) hx).1 (of_decide_eq_true h)];exact hy
 ·intro h
  exact ⟨x,h,decide_eq_true ((cmp_zero hx hx).2 rfl)⟩
theorem InsI.step {l s:List Pt} {x:Pt} (I:InsI l s) (hx:CanP x):InsI (l++[x]) (insP s x):=by
 unfold insP
 by_cases h:s.any (fun y=>decide (cmpP y x=0))=true
 ·rw[if_pos h]
  have hm:=(any_zero hx I.can).1 h
  refine ⟨I.can,I.asc,fun y=>?_⟩
  rw[I.mem,List.mem_append,List.mem_singleton]
  constructor
  ·exact .inl
  ·rintro (h|rfl)
   ·exact h
   ·exact (I.mem _).1 hm
 ·rw[if_neg h]
  have hm:x∉s:=fun k=>h ((any_zero hx I.can).2 k)
  refine ⟨fun y hy=>?_,insF_asc hx I.can I.asc hm,fun y=>?_⟩
  ·rcases insF_mem.1 hy with rfl|hy
   ·exact hx
   ·exact I.can y hy
  ·rw[insF_mem,I.mem,List.mem_append,List.mem_singleton,or_comm]
def insAll (l:List Pt):List Pt:=l.foldl insP []
theorem insAll_snoc (l:List Pt) (x:Pt):insAll (l++[x])=insP (insAll l) x:=by unfold insAll;rw[List.foldl_append];rfl
theorem insAll_ok {l:List Pt} (hl:∀ y∈l,CanP y):InsI l (insAll l):=by
 have key:∀ (r l:List Pt),(∀ y∈r,CanP y)→∀ s,InsI l s→InsI (l++r) (r.foldl insP s):=by
  intro r
  induction r with
  | nil=>intro l _ s I;simpa using I
  | cons x r ih =>
   intro l hr s I
   have:=ih (l++[x]) (fun y hy=>hr y (by simp[hy])) _ (I.step (hr x (by simp)))
   simpa using this
 have:=key l [] hl [] ⟨by simp,List.Pairwise.nil,by simp⟩
 simpa [insAll]using this
theorem insAll_len (l:List Pt):(insAll l).length≤l.length:=by
 have key:∀ (r s:List Pt),(r.foldl insP s).length≤s.length+r.length:=by
  intro r
  induction r with
  | nil=>intro s;simp
  | cons x r ih =>
   intro s
   have h1:=ih (insP s x)
   have h2:(insP s x).length≤s.length+1:=by
    unfold insP
    split
    ·omega
    ·rw[insF_len];exact Nat.le_refl _
   rw[List.foldl_cons,List.length_cons]
   omega
 have:=key l []
 simpa [insAll]using this
theorem insAll_verts {l:PCell} (h:CanC l):insAll (cornersP l)=vertsP l:=by
 have hc:∀ y∈cornersP l,CanP y:=fun y hy=>by
  obtain ⟨s,hs,hy⟩:=List.mem_flatMap.1 hy
  exact h.can s hs y hy
 have I:=insAll_ok hc
 have nd:(insAll (cornersP l)).Nodup:=List.Pairwise.imp (fun {a b} hab e=>by rw[e]at hab;exact ltV_irrefl _ hab) I.asc
 have hcd:∀ p∈ddP (cornersP l),CanP p:=fun p hp=>hc p (dd_mem.1 hp)
 unfold vertsP
 refine sortP_unique hcd ?_ ?_
 ·have hs:∀ p,p∈insAll (cornersP l)↔p∈ddP (cornersP l):=fun p=>(I.mem p).trans dd_mem.symm
  exact (List.perm_ext_iff_of_nodup nd (dd_nodup _)).2 hs
 ·refine List.Pairwise.imp (fun {a b} hab=>?_) I.asc
  unfold leP
  simp only[Bool.not_eq_true',decide_eq_false_iff_not]
  exact fun k=>ltV_irrefl _ (ltV_trans hab k)
end Go.Proofs.Vx
