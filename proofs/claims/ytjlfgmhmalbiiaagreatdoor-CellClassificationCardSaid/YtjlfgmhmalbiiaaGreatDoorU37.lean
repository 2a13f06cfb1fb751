import Derived.Test.YtjlfgmhmalbiiaaGreatDoorProg
import Derived.Test.YtjlfgmhmalbiiaaGreatDoorU10
import Derived.Test.YtjlfgmhmalbiiaaGreatDoorU31
import Derived.Test.YtjlfgmhmalbiiaaGreatDoorU34
import Derived.Test.YtjlfgmhmalbiiaaGreatDoorU35
import Derived.Test.YtjlfgmhmalbiiaaGreatDoorU36
set_option linter.all false
namespace Go.Proofs.Vx
open Go Go.Sx Go.Proofs
attribute [local irreducible] fnT CallOK CallFr AW effV callV runP runO oneP oneO gcaseP hid
theorem yfn_32:fnT Tryz.prog 32=true:=by kernel_rfl
theorem yfn_95:fnT Tryz.prog 95=true:=by kernel_rfl
theorem wpt_bs (x y z:Int) (h:(-1≤x∧x≤1)∧(-1≤y∧y≤1)∧(-1≤z∧z≤1)):BPt 65536 (wpt x y z):=by
 obtain ⟨h1,h2,h3⟩:=h
 have k:∀ t:Int,-1≤t∧t≤1→(Zm (1000*t)).size≤65536:=fun t ht=>Nat.le_trans ((Zm_size (1000*t) 2).2 (by omega)) (by decide)
 exact ⟨⟨k x h1,k y h2,k z h3,Nat.le_trans ((Zm_size 1 1).2 (by decide)) (by decide)⟩⟩
theorem thr0u:CallOK Tryz.prog 161 [.agg (eP (wpt 1 (-1) (-1))),.agg (eP (wpt 1 1 (-1))),.agg (eP (wpt 1 1 1))] [] (.tup [.agg (eH ⟨1,0,0,1000⟩),.lit (.bool true)]) []:=by
 have:=c161 (wpt 1 (-1) (-1)) (wpt 1 1 (-1)) (wpt 1 1 1) (canB_ok (by decide +kernel)) (canB_ok (by decide +kernel)) (canB_ok (by decide +kernel)) (wpt_bs _ _ _ (by decide)) (wpt_bs _ _ _ (by decide)) (wpt_bs _ _ _ (by decide)) (by decide +kernel)
 rwa [show thruP (wpt 1 (-1) (-1)) (wpt 1 1 (-1)) (wpt 1 1 1)=⟨1,0,0,1000⟩ by decide +kernel]at this
theorem thr0d:CallOK Tryz.prog 161 [.agg (eP (wpt (-1) (-1) (-1))),.agg (eP (wpt (-1) (-1) 1)),.agg (eP (wpt (-1) 1 1))] [] (.tup [.agg (eH ⟨-1,0,0,1000⟩),.lit (.bool true)]) []:=by
 have:=c161 (wpt (-1) (-1) (-1)) (wpt (-1) (-1) 1) (wpt (-1) 1 1) (canB_ok (by decide +kernel)) (canB_ok (by decide +kernel)) (canB_ok (by decide +kernel)) (wpt_bs _ _ _ (by decide)) (wpt_bs _ _ _ (by decide)) (wpt_bs _ _ _ (by decide)) (by decide +kernel)
 rwa [show thruP (wpt (-1) (-1) (-1)) (wpt (-1) (-1) 1) (wpt (-1) 1 1)=⟨-1,0,0,1000⟩ by decide +kernel]at this
theorem thr1u:CallOK Tryz.prog 161 [.agg (eP (wpt (-1) 1 (-1))),.agg (eP (wpt (-1) 1 1)),.agg (eP (wpt 1 1 1))] [] (.tup [.agg (eH ⟨0,1,0,1000⟩),.lit (.bool true)]) []:=by
 have:=c161 (wpt (-1) 1 (-1)) (wpt (-1) 1 1) (wpt 1 1 1) (canB_ok (by decide +kernel)) (canB_ok (by decide +kernel)) (canB_ok (by decide +kernel)) (wpt_bs _ _ _ (by decide)) (wpt_bs _ _ _ (by decide)) (wpt_bs _ _ _ (by decide)) (by decide +kernel)
 rwa [show thruP (wpt (-1) 1 (-1)) (wpt (-1) 1 1) (wpt 1 1 1)=⟨0,1,0,1000⟩ by decide +kernel]at this
theorem thr1d:CallOK Tryz.prog 161 [.agg (eP (wpt (-1) (-1) (-1))),.agg (eP (wpt 1 (-1) (-1))),.agg (eP (wpt 1 (-1) 1))] [] (.tup [.agg (eH ⟨0,-1,0,1000⟩),.lit (.bool true)]) []:=by
 have:=c161 (wpt (-1) (-1) (-1)) (wpt 1 (-1) (-1)) (wpt 1 (-1) 1) (canB_ok (by decide +kernel)) (canB_ok (by decide +kernel)) (canB_ok (by decide +kernel)) (wpt_bs _ _ _ (by decide)) (wpt_bs _ _ _ (by decide)) (wpt_bs _ _ _ (by decide)) (by decide +kernel)
 rwa [show thruP (wpt (-1) (-1) (-1)) (wpt 1 (-1) (-1)) (wpt 1 (-1) 1)=⟨0,-1,0,1000⟩ by decide +kernel]at this
theorem thr2u:CallOK Tryz.prog 161 [.agg (eP (wpt (-1) (-1) 1)),.agg (eP (wpt 1 (-1) 1)),.agg (eP (wpt 1 1 1))] [] (.tup [.agg (eH ⟨0,0,1,1000⟩),.lit (.bool true)]) []:=by
 have:=c161 (wpt (-1) (-1) 1) (wpt 1 (-1) 1) (wpt 1 1 1) (canB_ok (by decide +kernel)) (canB_ok (by decide +kernel)) (canB_ok (by decide +kernel)) (wpt_bs _ _ _ (by decide)) (wpt_bs _ _ _ (by decide)) (wpt_bs _ _ _ (by decide)) (by decide +kernel)
 rwa [show thruP (wpt (-1) (-1) 1) (wpt 1 (-1) 1) (wpt 1 1 1)=⟨0,0,1,1000⟩ by decide +kernel]at this
theorem thr2d:CallOK Tryz.prog 161 [.agg (eP (wpt (-1) (-1) (-1))),.agg (eP (wpt (-1) 1 (-1))),.agg (eP (wpt 1 1 (-1)))] [] (.tup [.agg (eH ⟨0,0,-1,1000⟩),.lit (.bool true)]) []:=by
 have:=c161 (wpt (-1) (-1) (-1)) (wpt (-1) 1 (-1)) (wpt 1 1 (-1)) (canB_ok (by decide +kernel)) (canB_ok (by decide +kernel)) (canB_ok (by decide +kernel)) (wpt_bs _ _ _ (by decide)) (wpt_bs _ _ _ (by decide)) (wpt_bs _ _ _ (by decide)) (by decide +kernel)
 rwa [show thruP (wpt (-1) (-1) (-1)) (wpt (-1) 1 (-1)) (wpt 1 1 (-1))=⟨0,0,-1,1000⟩ by decide +kernel]at this
set_option maxRecDepth 20000 in
set_option maxHeartbeats 40000000 in
theorem c94:CallOK Tryz.prog 94 [] [] (.agg [.sl (eS worldR)]) []:=by
 refine CallOK.closed Tryz.func94 rfl 70 rfl rfl (by simp -dsimp (disch:=try exact zo) only[go_sem,eS_in]) [.cell 0 33] (congrArg Array.toList Tryz.results94) ?_
 simp only[startT,Nat.reduceAdd]
 have hml:maxLen=9223372036854775807:=rfl
 repeat' (first|refine zg ?_|(refine AW.cond rfl ?_ ?_<;>intro hc<;>first|simp only[NM]at hc|omega|skip)|refine zr ?_|refine ⟨by omega,?_⟩|(refine zb ?_ ?_<;>intro hg<;>(try rw[hg])<;>try simp only[NM]at hg)|omega|simp -dsimp (disch:=try exact zo) only[go_sem]|contradiction|rfl)
 refine AW.weak (Weak.nilB 10 0 9 _ (by decide) rfl (by simp) rfl (by simp)) ?_
 have hwl:eS (List.take 6 worldR)=eS worldR:=rfl
 have hz:eS (worldR.take 0)=[]:=rfl
 refine AW.loop (fun z:{i:Nat // i≤3}=>⟨[(2,.lit (.int .i64 z.1)),(1,.loc 10 0),(0,.loc 8 0)],[(10,.blk [.ref 13 0 (2*z.1) (2*z.1)]),(13,.vec 9 (eS (worldR.take (2*z.1)))),(8,.blk [.lit (.slice none 0 0)])],30⟩) (fun z=>3 - z.1) ⟨0,Nat.zero_le _⟩ (Weak.t4 (by refine ⟨?_,?_,?_,?_⟩<;>simp -dsimp (disch:=try exact zo) only[go_sem,Nat.mul_zero,hz,ZC])) ?_
 rintro ⟨i,hi⟩
 dsimp only
 rcases (show i=0∨i=1∨i=2∨i=3 by omega)with rfl|rfl|rfl|rfl
 ·have hE:eS (List.take 2 worldR)=eS (List.take 0 worldR)++[eG ⟨1,0,0,1000⟩ [wpt 1 (-1) (-1),wpt 1 1 (-1),wpt 1 1 1,wpt 1 (-1) 1]]++[eG ⟨-1,0,0,1000⟩ [wpt (-1) (-1) (-1),wpt (-1) (-1) 1,wpt (-1) 1 1,wpt (-1) 1 (-1)]]:=rfl
  have hlE:(eS (List.take 0 worldR)).length=0:=rfl
  simp only[Nat.reduceMul]
  generalize eS (List.take 0 worldR)=E at *
  repeat' (first|refine AW.seq ?_|refine AW.regionP (id:=3) ?_|refine AW.regionP (id:=5) ?_|refine AW.regionP (id:=6) ?_|refine AW.block ?_|refine AW.blk ?_|refine AW.skip ?_|refine AW.exit rfl ?_|(refine AW.cond rfl ?_ ?_<;>intro hc<;>first|simp only[NM]at hc|omega|skip)|refine zr ?_|(first|refine callV.flat _ yfn_160 (c160a (1) (-1) (-1) (by decide) (by decide) (by decide)) rfl rfl ?_|refine callV.flat _ yfn_160 (c160a (1) (1) (-1) (by decide) (by decide) (by decide)) rfl rfl ?_|refine callV.flat _ yfn_160 (c160a (1) (1) (1) (by decide) (by decide) (by decide)) rfl rfl ?_|refine callV.flat _ yfn_160 (c160a (1) (-1) (1) (by decide) (by decide) (by decide)) rfl rfl ?_|refine callV.flat _ yfn_160 (c160a (-1) (-1) (-1) (by decide) (by decide) (by decide)) rfl rfl ?_|refine callV.flat _ yfn_160 (c160a (-1) (-1) (1) (by decide) (by decide) (by decide)) rfl rfl ?_|refine callV.flat _ yfn_160 (c160a (-1) (1) (1) (by decide) (by decide) (by decide)) rfl rfl ?_|refine callV.flat _ yfn_160 (c160a (-1) (1) (-1) (by decide) (by decide) (by decide)) rfl rfl ?_)|refine ⟨by omega,?_⟩|(refine zb ?_ ?_<;>intro hg<;>(try rw[hg])<;>try simp only[NM]at hg)|omega|simp -dsimp (disch:=try exact zo) only[go_sem,hlE]|contradiction|rfl)
  refine AW.weak (Weak.freezeV 40 4 8 ([wpt 1 (-1) (-1),wpt 1 1 (-1),wpt 1 1 1,wpt 1 (-1) 1].map eP) (t:=[(4,.ref 50 0 4 4),(3,.sl ([wpt 1 (-1) (-1),wpt 1 1 (-1),wpt 1 1 1,wpt 1 (-1) 1].map eP)),(2,.lit (.int .i64 ((0:Nat):Int))),(1,.loc 10 0),(0,.loc 8 0)]) (o:=[(50,.vec 8 ([wpt (-1) (-1) (-1),wpt (-1) (-1) 1,wpt (-1) 1 1,wpt (-1) 1 (-1)].map eP)),(10,.blk [.ref 13 0 0 0]),(13,.vec 9 E),(8,.blk [.lit (.slice none 0 0)])]) rfl rfl (by simp -dsimp (disch:=try exact zo) only[go_sem,and_self,List.map_cons,List.map_nil]) (by simp -dsimp (disch:=try exact zo) only[go_sem,and_self,List.map_cons,List.map_nil])) ?_
  refine AW.weak (Weak.freezeV 50 4 8 ([wpt (-1) (-1) (-1),wpt (-1) (-1) 1,wpt (-1) 1 1,wpt (-1) 1 (-1)].map eP) (t:=[(4,.sl ([wpt (-1) (-1) (-1),wpt (-1) (-1) 1,wpt (-1) 1 1,wpt (-1) 1 (-1)].map eP)),(3,.sl ([wpt 1 (-1) (-1),wpt 1 1 (-1),wpt 1 1 1,wpt 1 (-1) 1].map eP)),(2,.lit (.int .i64 ((0:Nat):Int))),(1,.loc 10 0),(0,.loc 8 0)]) (o:=[(10,.blk [.ref 13 0 0 0]),(13,.vec 9 E),(8,.blk [.lit (.slice none 0 0)])]) rfl rfl (by simp -dsimp (disch:=try exact zo) only[go_sem,and_self,List.map_cons,List.map_nil]) (by simp -dsimp (disch:=try exact zo) only[go_sem,and_self,List.map_cons,List.map_nil])) ?_
  repeat' (first|refine zg ?_|(refine AW.cond rfl ?_ ?_<;>intro hc<;>first|simp only[NM]at hc|omega|skip)|refine zr ?_|(first|refine callV.flat _ yfn_161 thr0u rfl rfl ?_|refine callV.flat _ yfn_161 thr0d rfl rfl ?_)|refine ⟨by omega,?_⟩|(refine zb ?_ ?_<;>intro hg<;>(try rw[hg])<;>try simp only[NM]at hg)|omega|simp -dsimp (disch:=try exact zo) only[go_sem,hlE,List.map_cons,List.map_nil]|rfl)
  all_goals exact AW.stop ⟨⟨1,by omega⟩,(Weak.to (by simp -dsimp (disch:=try exact zo) only[go_sem,Int.cast_ofNat_Int]) (by simp -dsimp (disch:=try exact zo) only[go_sem,hE,Int.cast_ofNat_Int];try rfl) (by decide) (by simp -dsimp (disch:=try exact zo) only[go_sem,Int.cast_ofNat_Int]) (by simp -dsimp (disch:=try exact zo) only[go_sem,eS_in,Int.cast_ofNat_Int])),by dsimp only;omega⟩
 ·have hE:eS (List.take 4 worldR)=eS (List.take 2 worldR)++[eG ⟨0,1,0,1000⟩ [wpt (-1) 1 (-1),wpt (-1) 1 1,wpt 1 1 1,wpt 1 1 (-1)]]++[eG ⟨0,-1,0,1000⟩ [wpt (-1) (-1) (-1),wpt 1 (-1) (-1),wpt 1 (-1) 1,wpt (-1) (-1) 1]]:=rfl
  have hlE:(eS (List.take 2 worldR)).length=2:=rfl
  simp only[Nat.reduceMul]
  generalize eS (List.take 2 worldR)=E at *
  repeat' (first|refine AW.seq ?_|refine AW.regionP (id:=3) ?_|refine AW.regionP (id:=5) ?_|refine AW.regionP (id:=6) ?_|refine AW.block ?_|refine AW.blk ?_|refine AW.skip ?_|refine AW.exit rfl ?_|(refine AW.cond rfl ?_ ?_<;>intro hc<;>first|simp only[NM]at hc|omega|skip)|refine zr ?_|(first|refine callV.flat _ yfn_160 (c160b (1) (-1) (-1) (by decide) (by decide) (by decide)) rfl rfl ?_|refine callV.flat _ yfn_160 (c160b (1) (1) (-1) (by decide) (by decide) (by decide)) rfl rfl ?_|refine callV.flat _ yfn_160 (c160b (1) (1) (1) (by decide) (by decide) (by decide)) rfl rfl ?_|refine callV.flat _ yfn_160 (c160b (1) (-1) (1) (by decide) (by decide) (by decide)) rfl rfl ?_|refine callV.flat _ yfn_160 (c160b (-1) (-1) (-1) (by decide) (by decide) (by decide)) rfl rfl ?_|refine callV.flat _ yfn_160 (c160b (-1) (-1) (1) (by decide) (by decide) (by decide)) rfl rfl ?_|refine callV.flat _ yfn_160 (c160b (-1) (1) (1) (by decide) (by decide) (by decide)) rfl rfl ?_|refine callV.flat _ yfn_160 (c160b (-1) (1) (-1) (by decide) (by decide) (by decide)) rfl rfl ?_)|refine ⟨by omega,?_⟩|(refine zb ?_ ?_<;>intro hg<;>(try rw[hg])<;>try simp only[NM]at hg)|omega|simp -dsimp (disch:=try exact zo) only[go_sem,hlE]|contradiction|rfl)
  refine AW.weak (Weak.freezeV 40 4 8 ([wpt (-1) 1 (-1),wpt (-1) 1 1,wpt 1 1 1,wpt 1 1 (-1)].map eP) (t:=[(4,.ref 50 0 4 4),(3,.sl ([wpt (-1) 1 (-1),wpt (-1) 1 1,wpt 1 1 1,wpt 1 1 (-1)].map eP)),(2,.lit (.int .i64 ((1:Nat):Int))),(1,.loc 10 0),(0,.loc 8 0)]) (o:=[(50,.vec 8 ([wpt (-1) (-1) (-1),wpt 1 (-1) (-1),wpt 1 (-1) 1,wpt (-1) (-1) 1].map eP)),(10,.blk [.ref 13 0 2 2]),(13,.vec 9 E),(8,.blk [.lit (.slice none 0 0)])]) rfl rfl (by simp -dsimp (disch:=try exact zo) only[go_sem,and_self,List.map_cons,List.map_nil]) (by simp -dsimp (disch:=try exact zo) only[go_sem,and_self,List.map_cons,List.map_nil])) ?_
  refine AW.weak (Weak.freezeV 50 4 8 ([wpt (-1) (-1) (-1),wpt 1 (-1) (-1),wpt 1 (-1) 1,wpt (-1) (-1) 1].map eP) (t:=[(4,.sl ([wpt (-1) (-1) (-1),wpt 1 (-1) (-1),wpt 1 (-1) 1,wpt (-1) (-1) 1].map eP)),(3,.sl ([wpt (-1) 1 (-1),wpt (-1) 1 1,wpt 1 1 1,wpt 1 1 (-1)].map eP)),(2,.lit (.int .i64 ((1:Nat):Int))),(1,.loc 10 0),(0,.loc 8 0)]) (o:=[(10,.blk [.ref 13 0 2 2]),(13,.vec 9 E),(8,.blk [.lit (.slice none 0 0)])]) rfl rfl (by simp -dsimp (disch:=try exact zo) only[go_sem,and_self,List.map_cons,List.map_nil]) (by simp -dsimp (disch:=try exact zo) only[go_sem,and_self,List.map_cons,List.map_nil])) ?_
  repeat' (first|refine zg ?_|(refine AW.cond rfl ?_ ?_<;>intro hc<;>first|simp only[NM]at hc|omega|skip)|refine zr ?_|(first|refine callV.flat _ yfn_161 thr1u rfl rfl ?_|refine callV.flat _ yfn_161 thr1d rfl rfl ?_)|refine ⟨by omega,?_⟩|(refine zb ?_ ?_<;>intro hg<;>(try rw[hg])<;>try simp only[NM]at hg)|omega|simp -dsimp (disch:=try exact zo) only[go_sem,hlE,List.map_cons,List.map_nil]|rfl)
  all_goals exact AW.stop ⟨⟨2,by omega⟩,(Weak.to (by simp -dsimp (disch:=try exact zo) only[go_sem,Int.cast_ofNat_Int]) (by simp -dsimp (disch:=try exact zo) only[go_sem,hE,Int.cast_ofNat_Int];try rfl) (by decide) (by simp -dsimp (disch:=try exact zo) only[go_sem,Int.cast_ofNat_Int]) (by simp -dsimp (disch:=try exact zo) only[go_sem,eS_in,Int.cast_ofNat_Int])),by dsimp only;omega⟩
 ·have hE:eS (List.take 6 worldR)=eS (List.take 4 worldR)++[eG ⟨0,0,1,1000⟩ [wpt (-1) (-1) 1,wpt 1 (-1) 1,wpt 1 1 1,wpt (-1) 1 1]]++[eG ⟨0,0,-1,1000⟩ [wpt (-1) (-1) (-1),wpt (-1) 1 (-1),wpt 1 1 (-1),wpt 1 (-1) (-1)]]:=rfl
  have hlE:(eS (List.take 4 worldR)).length=4:=rfl
  simp only[Nat.reduceMul]
  generalize eS (List.take 4 worldR)=E at *
  repeat' (first|refine AW.seq ?_|refine AW.regionP (id:=3) ?_|refine AW.regionP (id:=5) ?_|refine AW.regionP (id:=6) ?_|refine AW.block ?_|refine AW.blk ?_|refine AW.skip ?_|refine AW.exit rfl ?_|(refine AW.cond rfl ?_ ?_<;>intro hc<;>first|simp only[NM]at hc|omega|skip)|refine zr ?_|(first|refine callV.flat _ yfn_160 (c160c (1) (-1) (-1) (by decide) (by decide) (by decide)) rfl rfl ?_|refine callV.flat _ yfn_160 (c160c (1) (1) (-1) (by decide) (by decide) (by decide)) rfl rfl ?_|refine callV.flat _ yfn_160 (c160c (1) (1) (1) (by decide) (by decide) (by decide)) rfl rfl ?_|refine callV.flat _ yfn_160 (c160c (1) (-1) (1) (by decide) (by decide) (by decide)) rfl rfl ?_|refine callV.flat _ yfn_160 (c160c (-1) (-1) (-1) (by decide) (by decide) (by decide)) rfl rfl ?_|refine callV.flat _ yfn_160 (c160c (-1) (-1) (1) (by decide) (by decide) (by decide)) rfl rfl ?_|refine callV.flat _ yfn_160 (c160c (-1) (1) (1) (by decide) (by decide) (by decide)) rfl rfl ?_|refine callV.flat _ yfn_160 (c160c (-1) (1) (-1) (by decide) (by decide) (by decide)) rfl rfl ?_)|refine ⟨by omega,?_⟩|(refine zb ?_ ?_<;>intro hg<;>(try rw[hg])<;>try simp only[NM]at hg)|omega|simp -dsimp (disch:=try exact zo) only[go_sem,hlE]|contradiction|rfl)
  refine AW.weak (Weak.freezeV 40 4 8 ([wpt (-1) (-1) 1,wpt 1 (-1) 1,wpt 1 1 1,wpt (-1) 1 1].map eP) (t:=[(4,.ref 50 0 4 4),(3,.sl ([wpt (-1) (-1) 1,wpt 1 (-1) 1,wpt 1 1 1,wpt (-1) 1 1].map eP)),(2,.lit (.int .i64 ((2:Nat):Int))),(1,.loc 10 0),(0,.loc 8 0)]) (o:=[(50,.vec 8 ([wpt (-1) (-1) (-1),wpt (-1) 1 (-1),wpt 1 1 (-1),wpt 1 (-1) (-1)].map eP)),(10,.blk [.ref 13 0 4 4]),(13,.vec 9 E),(8,.blk [.lit (.slice none 0 0)])]) rfl rfl (by simp -dsimp (disch:=try exact zo) only[go_sem,and_self,List.map_cons,List.map_nil]) (by simp -dsimp (disch:=try exact zo) only[go_sem,and_self,List.map_cons,List.map_nil])) ?_
  refine AW.weak (Weak.freezeV 50 4 8 ([wpt (-1) (-1) (-1),wpt (-1) 1 (-1),wpt 1 1 (-1),wpt 1 (-1) (-1)].map eP) (t:=[(4,.sl ([wpt (-1) (-1) (-1),wpt (-1) 1 (-1),wpt 1 1 (-1),wpt 1 (-1) (-1)].map eP)),(3,.sl ([wpt (-1) (-1) 1,wpt 1 (-1) 1,wpt 1 1 1,wpt (-1) 1 1].map eP)),(2,.lit (.int .i64 ((2:Nat):Int))),(1,.loc 10 0),(0,.loc 8 0)]) (o:=[(10,.blk [.ref 13 0 4 4]),(13,.vec 9 E),(8,.blk [.lit (.slice none 0 0)])]) rfl rfl (by simp -dsimp (disch:=try exact zo) only[go_sem,and_self,List.map_cons,List.map_nil]) (by simp -dsimp (disch:=try exact zo) only[go_sem,and_self,List.map_cons,List.map_nil])) ?_
  repeat' (first|refine zg ?_|(refine AW.cond rfl ?_ ?_<;>intro hc<;>first|simp only[NM]at hc|omega|skip)|refine zr ?_|(first|refine callV.flat _ yfn_161 thr2u rfl rfl ?_|refine callV.flat _ yfn_161 thr2d rfl rfl ?_)|refine ⟨by omega,?_⟩|(refine zb ?_ ?_<;>intro hg<;>(try rw[hg])<;>try simp only[NM]at hg)|omega|simp -dsimp (disch:=try exact zo) only[go_sem,hlE,List.map_cons,List.map_nil]|rfl)
  all_goals exact AW.stop ⟨⟨3,by omega⟩,(Weak.to (by simp -dsimp (disch:=try exact zo) only[go_sem,Int.cast_ofNat_Int]) (by simp -dsimp (disch:=try exact zo) only[go_sem,hE,Int.cast_ofNat_Int];try rfl) (by decide) (by simp -dsimp (disch:=try exact zo) only[go_sem,Int.cast_ofNat_Int]) (by simp -dsimp (disch:=try exact zo) only[go_sem,eS_in,Int.cast_ofNat_Int])),by dsimp only;omega⟩
 ·repeat' (first|refine zg ?_|(refine AW.cond rfl ?_ ?_<;>intro hc<;>first|simp only[NM]at hc|omega|skip)|refine zr ?_|refine ⟨by omega,?_⟩|(refine zb ?_ ?_<;>intro hg<;>(try rw[hg])<;>try simp only[NM]at hg)|omega|simp -dsimp (disch:=try exact zo) only[go_sem,hwl]|contradiction|rfl)
theorem nilIn {K:Nat→Prop}:In K (.agg [.lit (.slice none 0 0)]):=.agg _ (by intro c hc;simp only[List.mem_cons,List.not_mem_nil,or_false]at hc;subst hc;exact .lit _)
theorem splIn {K:Nat→Prop} {l:PCell} {b:Pl}:In K (if frontB b l=false then .tup [.agg [.sl (eS l)],.agg [.lit (.slice none 0 0)]]else if behindB b l=false then .tup [.agg [.lit (.slice none 0 0)],.agg [.sl (eS l)]]else .tup [.agg [.sl (eS (bcellR b l))],.agg [.sl (eS (bcellR (negP b) l))]]):=by
 have key:∀ a c:AV,In K a→In K c→In K (.tup [a,c]):=fun a c ha hc=>.tup _ (by intro x hx;simp only[List.mem_cons,List.not_mem_nil,or_false]at hx;rcases hx with rfl|rfl<;>assumption)
 split
 ·exact key _ _ (inCell _) nilIn
 ·split
  ·exact key _ _ nilIn (inCell _)
  ·exact key _ _ (inCell _) (inCell _)
set_option maxHeartbeats 16000000 in
theorem c95x (l:PCell) (b:Pl) (h:CellOK l) (hb:BPl 1048576 b) (hn:l.length≤4096) (hv:∀ s∈l,s.2.length≤65536∧∀ v∈s.2,BPt 1048576 v):CallOK Tryz.prog 95 [.agg [.sl (eS l)],.agg (eH b)] [] (if frontB b l=false then .tup [.agg [.sl (eS l)],.agg [.lit (.slice none 0 0)]]else if behindB b l=false then .tup [.agg [.lit (.slice none 0 0)],.agg [.sl (eS l)]]else .tup [.agg [.sl (eS (bcellR b l))],.agg [.sl (eS (bcellR (negP b) l))]]) []:=by
 refine CallOK.closed Tryz.func95 rfl 29 rfl rfl splIn [.cell 4 33,.cell 5 33] (congrArg Array.toList Tryz.results95) ?_
 simp only[startT,Nat.reduceAdd]
 have cr:=c162 l b (hb.mono (by decide)) (by omega) (fun s hs=>⟨Nat.le_trans (hv s hs).1 (by decide),fun v hvm=>((hv s hs).2 v hvm).mono (by decide)⟩)
 have cf:=c51 b (hb.mono (by decide))
 by_cases hf:frontB b l=false
 ·rw[if_pos hf]
  have ca:True:=trivial
  have cb:True:=trivial
  rw[hf]at cr
  clear h hv hf
  generalize behindB b l=B at *
  repeat' (first|refine zg ?_|(refine AW.cond rfl ?_ ?_<;>intro hc<;>first|simp only[NM]at hc|omega|skip)|refine zr ?_|(refine callV.plain _ yfn_162 cr (by simp -dsimp (disch:=try exact zo) only[go_sem,eS_in]) (.tup _ (by intro c hc;simp only[List.mem_cons,List.not_mem_nil,or_false]at hc;rcases hc with rfl|rfl<;>exact .lit _)) ?_)|(first|refine callV.plain _ yfn_163 ca (by simp -dsimp (disch:=try exact zo) only[go_sem,eS_in]) (inCell _) ?_|refine callV.plain _ yfn_163 cb (by simp -dsimp (disch:=try exact zo) only[go_sem,eS_in]) (inCell _) ?_)|(refine callV.flat _ yfn_51 cf rfl rfl ?_)|refine ⟨by omega,?_⟩|(refine zb ?_ ?_<;>intro hg<;>(try rw[hg])<;>try simp only[NM]at hg)|omega|simp -dsimp (disch:=try exact zo) only[go_sem,eS_in]|contradiction|rfl)
 ·rw[if_neg hf]
  have hf':frontB b l=true:=by simpa using hf
  rw[hf']at cr
  by_cases hbb:behindB b l=false
  ·rw[if_pos hbb]
   rw[hbb]at cr
   have ca:True:=trivial
   have cb:True:=trivial
   clear h hv hf hbb hf'
   repeat' (first|refine zg ?_|(refine AW.cond rfl ?_ ?_<;>intro hc<;>first|simp only[NM]at hc|omega|skip)|refine zr ?_|(refine callV.plain _ yfn_162 cr (by simp -dsimp (disch:=try exact zo) only[go_sem,eS_in]) (.tup _ (by intro c hc;simp only[List.mem_cons,List.not_mem_nil,or_false]at hc;rcases hc with rfl|rfl<;>exact .lit _)) ?_)|(first|refine callV.plain _ yfn_163 ca (by simp -dsimp (disch:=try exact zo) only[go_sem,eS_in]) (inCell _) ?_|refine callV.plain _ yfn_163 cb (by simp -dsimp (disch:=try exact zo) only[go_sem,eS_in]) (inCell _) ?_)|(refine callV.flat _ yfn_51 cf rfl rfl ?_)|refine ⟨by omega,?_⟩|(refine zb ?_ ?_<;>intro hg<;>(try rw[hg])<;>try simp only[NM]at hg)|omega|simp -dsimp (disch:=try exact zo) only[go_sem,eS_in]|contradiction|rfl)
  ·rw[if_neg hbb]
   have hb':behindB b l=true:=by simpa using hbb
   rw[hb']at cr
   have ca:=c163 l b h (spl_of h hf' hb') hb hn hv
   have cb:=c163 l (negP b) h (spl_of h (by rw[front_neg];exact hb') (by rw[behind_neg];exact hf')) hb.neg hn hv
   clear h hv hf hbb hf' hb'
   repeat' (first|refine zg ?_|(refine AW.cond rfl ?_ ?_<;>intro hc<;>first|simp only[NM]at hc|omega|skip)|refine zr ?_|(refine callV.plain _ yfn_162 cr (by simp -dsimp (disch:=try exact zo) only[go_sem,eS_in]) (.tup _ (by intro c hc;simp only[List.mem_cons,List.not_mem_nil,or_false]at hc;rcases hc with rfl|rfl<;>exact .lit _)) ?_)|(first|refine callV.plain _ yfn_163 ca (by simp -dsimp (disch:=try exact zo) only[go_sem,eS_in]) (inCell _) ?_|refine callV.plain _ yfn_163 cb (by simp -dsimp (disch:=try exact zo) only[go_sem,eS_in]) (inCell _) ?_)|(refine callV.flat _ yfn_51 cf rfl rfl ?_)|refine ⟨by omega,?_⟩|(refine zb ?_ ?_<;>intro hg<;>(try rw[hg])<;>try simp only[NM]at hg)|omega|simp -dsimp (disch:=try exact zo) only[go_sem,eS_in]|contradiction|rfl)
theorem c95 (l:PCell) (b:Pl) (h:CellOK l) (hb:BPl 1048576 b) (hn:l.length≤4096) (hv:∀ s∈l,s.2.length≤65536∧∀ v∈s.2,BPt 1048576 v):CallOK Tryz.prog 95 [.agg [.sl (eS l)],.agg (eH b)] [] (.tup [.agg [.sl (eS (splitR b l).1)],.agg [.sl (eS (splitR b l).2)]]) []:=by
 have:=c95x l b h hb hn hv
 unfold splitR
 by_cases hf:frontB b l=false
 ·rw[if_pos hf]at this ⊢
  exact this.wk fun g v=>rel_pair (fun v h=>h) (fun v h=>rel_cell0 h)
 ·rw[if_neg hf]at this ⊢
  by_cases hbb:behindB b l=false
  ·rw[if_pos hbb]at this ⊢
   exact this.wk fun g v=>rel_pair (fun v h=>rel_cell0 h) (fun v h=>h)
  ·rw[if_neg hbb]at this ⊢
   exact this
theorem cutR_succ (ps:List Pl) (i:Nat) (h:i<ps.length):cutR (ps.take (i+1))=cutStepR (cutR (ps.take i)) ps[i]:=by
 unfold cutR
 rw[List.take_succ_eq_append_getElem h,List.foldl_append]
 rfl
theorem cutR_bd {ps:List Pl} (hb:∀ p∈ps,BPl 3 p) (hn:ps.length≤8):BdC (cutR ps):=(cutR_ok ps).2.bd (cut_bdC hb hn)
set_option maxHeartbeats 8000000 in
theorem c32 (ps:List Pl) (hb:∀ p∈ps,BPl 3 p) (hn:ps.length≤8):CallOK Tryz.prog 32 [.sl (ps.map eH)] [] (.agg [.sl (eS (cutR ps))]) []:=by
 refine CallOK.closed Tryz.func32 rfl 28 rfl rfl (inCell _) [.cell 2 33] (congrArg Array.toList Tryz.results32) ?_
 simp only[startT,Nat.reduceAdd]
 have hml:maxLen=9223372036854775807:=rfl
 have hl:(ps.map eH).length=ps.length:=List.length_map _
 have h00:cutR []=worldR:=rfl
 repeat' (first|refine zg ?_|(refine AW.cond rfl ?_ ?_<;>intro hc<;>first|simp only[NM]at hc|omega|skip)|refine zr ?_|(refine callV.plain _ yfn_94 c94 (by simp) (inCell _) ?_)|refine ⟨by omega,?_⟩|(refine zb ?_ ?_<;>intro hg<;>(try rw[hg])<;>try simp only[NM]at hg)|omega|simp -dsimp (disch:=try exact zo) only[go_sem,hl]|contradiction|rfl)
 refine AW.loop (fun z:{i:Nat // i≤ps.length}=>⟨[(11,.lit (.int .i64 z.1)),(9,.sl (ps.map eH)),(10,.lit (.int .i64 ps.length)),(3,.loc 10 0),(2,.loc 8 0)],[(10,.blk [.sl (eS (cutR (ps.take z.1)))]),(8,.blk [.lit (.slice none 0 0)])],60⟩) (fun z=>ps.length - z.1) ⟨0,Nat.zero_le _⟩ (Weak.t4 (by refine ⟨?_,?_,?_,?_⟩<;>simp -dsimp (disch:=try exact zo) only[go_sem,List.take_zero,h00,eS_in,eHs_in,ZC])) ?_
 rintro ⟨i,hi⟩
 dsimp only
 by_cases hlt:i<ps.length
 ·have es1:=eH_getD ps i hlt
  have hst:=cutR_succ ps i hlt
  have hbi:=hb _ (List.getElem_mem hlt)
  have hok:=(cutR_ok (ps.take i)).1
  have hbd:=cutR_bd (ps:=ps.take i) (fun p hp=>hb p (List.mem_of_mem_take hp)) (by rw[List.length_take];omega)
  generalize ps[i]=p at *
  have cs:=c95 (cutR (ps.take i)) p hok (hbi.mono (by decide)) (Nat.le_trans hbd.n (by decide)) (fun s hs=>⟨Nat.le_trans (hbd.m s hs) (by decide),fun v hv=>(hbd.k s hs v hv).mono (by decide)⟩)
  generalize cutR (ps.take i)=c at *
  unfold cutStepR at hst
  generalize (splitR p c).1=X at *
  generalize (splitR p c).2=Y at *
  have hlX:(eS X).length=X.length:=List.length_map _
  simp only[eH,e4]at es1
  clear hok hbd hbi hb
  by_cases q:X=[]
  ·rw[if_pos q]at hst
   have k1:(0<(X.length:Int))=False:=eq_false (by subst q;simp)
   clear q
   repeat' (first|refine zg ?_|(refine AW.cond rfl ?_ ?_<;>intro hc<;>first|simp only[NM]at hc|omega|skip)|refine zr ?_|(refine callV.plain _ yfn_95 cs (by simp -dsimp (disch:=try exact zo) only[go_sem,eS_in,eP_in]) (inPair _ _) ?_)|refine ⟨by omega,?_⟩|(refine zb ?_ ?_<;>intro hg<;>(try rw[hg])<;>try simp only[NM]at hg)|omega|simp -dsimp (disch:=try exact zo) only[go_sem,hl,es1,k1,hlX,ZT,eS_in,eHs_in]|contradiction|rfl)
   all_goals exact AW.stop ⟨⟨i+1,by omega⟩,(Weak.t4 (by refine ⟨?_,?_,?_,?_⟩<;>simp -dsimp (disch:=try exact zo) only[go_sem,eS_in,eHs_in,hst,ZC])),by dsimp only;omega⟩
  ·rw[if_neg q]at hst
   have k1:(0<(X.length:Int))=True:=eq_true (by have:=List.length_pos_iff.2 q;omega)
   clear q
   repeat' (first|refine zg ?_|(refine AW.cond rfl ?_ ?_<;>intro hc<;>first|simp only[NM]at hc|omega|skip)|refine zr ?_|(refine callV.plain _ yfn_95 cs (by simp -dsimp (disch:=try exact zo) only[go_sem,eS_in,eP_in]) (inPair _ _) ?_)|refine ⟨by omega,?_⟩|(refine zb ?_ ?_<;>intro hg<;>(try rw[hg])<;>try simp only[NM]at hg)|omega|simp -dsimp (disch:=try exact zo) only[go_sem,hl,es1,k1,hlX,ZT,eS_in,eHs_in]|contradiction|rfl)
   all_goals exact AW.stop ⟨⟨i+1,by omega⟩,(Weak.t4 (by refine ⟨?_,?_,?_,?_⟩<;>simp -dsimp (disch:=try exact zo) only[go_sem,eS_in,eHs_in,hst,ZC])),by dsimp only;omega⟩
 ·have hil:i=ps.length:=by omega
  subst hil
  rw[List.take_length]
  repeat' (first|refine zg ?_|(refine AW.cond rfl ?_ ?_<;>intro hc<;>first|simp only[NM]at hc|omega|skip)|refine zr ?_|refine ⟨by omega,?_⟩|(refine zb ?_ ?_<;>intro hg<;>(try rw[hg])<;>try simp only[NM]at hg)|omega|simp -dsimp (disch:=try exact zo) only[go_sem,hl]|contradiction|rfl)
end Go.Proofs.Vx
namespace Go.Proofs.Vx
open Go Go.Sx Go.Proofs
attribute [local irreducible] fnT CallOK CallFr AW effV callV runP runO oneP oneO gcaseP hid
theorem yfn_6:fnT Tryz.prog 6=true:=by kernel_rfl
theorem flatPt {p:Pt}:Flat (.agg (eP p)):=.agg _ (fun c hc=>eP_flat [p] (eP p) (by simp) c hc)
end Go.Proofs.Vx
namespace Go.Sx
theorem CallOK.arg1 {P:Program} {f:Nat} {a a':AV} {rest:List AV} {pre post:List (Nat × AV)} {r:AV} (h:CallOK P f (a::rest) pre r post) (ha:∀ g v,Rel g a' v→Rel g a v):CallOK P f (a'::rest) pre r post:=by
 intro g vals h1 h2 h3
 refine h g vals h1 h2 ⟨h3.1,fun i q1 q2=>?_⟩
 have:=h3.2 i (by simpa using q1) q2
 cases i with
 | zero=>exact ha _ _ this
 | succ i=>exact this
end Go.Sx
namespace Go.Proofs.Vx
open Go Go.Sx Go.Proofs
attribute [local irreducible] fnT CallOK CallFr AW effV callV runP runO oneP oneO gcaseP hid
theorem yfn_5:fnT Tryz.prog 5=true:=by kernel_rfl
theorem great1 (x:RP):greatP [x]=if bigR x=true then 1 else 0:=by unfold greatP;simp
theorem c28o (x:RP):CallOK Tryz.prog 28 [.sl [eRP x]] [] (.lit (.int .i64 (if bigR x=true then 1 else 0))) []:=by
 have:=c28 [x] (by simp)
 rw[great1]at this
 exact this
def ptR (x:RP):Pt:=nrm (iv x.n1 x.m1) (iv x.n2 x.m2) (iv x.n3 x.m3) (iv x.n4 x.m4)
theorem ptR_bs {x:RP} (h:¬ bigR x=true):BPt 6 (ptR x):=by
 obtain ⟨h1,h2,h3,h4⟩:=bigR_not (by simpa using h)
 exact ⟨nrm_bs ⟨iv_zs h1,iv_zs h2,iv_zs h3,iv_zs h4⟩ (by decide)⟩
theorem c29x (x:RP) (h:¬ bigR x=true):CallOK Tryz.prog 29 [.agg (eRP x)] [] (.agg (eP (ptR x))) []:=by
 obtain ⟨h1,h2,h3,h4⟩:=bigR_not (by simpa using h)
 exact c29 x.n1 x.n2 x.n3 x.n4 x.m1 x.m2 x.m3 x.m4 (by omega) (by omega) (by omega) (by omega)
set_option maxRecDepth 20000 in
set_option maxHeartbeats 16000000 in
theorem c5bad (rs:List RP) (x:RP) (hbad:¬ (rs.length≤5∧∀ r∈rs,goodR r=true)):CallOK Tryz.prog 5 [.sl (eRPs rs),.agg (eRP x)] [] (.lit (.bool true)) []:=by
 refine CallOK.flat Tryz.func5 rfl 40 rfl rfl rfl [.tmp 4] (congrArg Array.toList Tryz.results5) ?_
 simp only[startT,Nat.reduceAdd]
 have hml:maxLen=9223372036854775807:=rfl
 have pa:=badPlanes rs 5 (by decide) hbad
 clear hbad
 have cg:True:=trivial
 repeat' (first|refine zg ?_|(refine AW.cond rfl ?_ ?_<;>intro hc<;>first|simp only[NM]at hc|omega|skip)|refine zr ?_|(refine callV.lend _ yfn_18 (by simp -dsimp (disch:=try exact zo) only[go_sem];exact pa) (by simp -dsimp (disch:=try exact zo) only[go_sem,eRPs_in]) flatNo ?_)|(refine callV.flat _ yfn_19 c19 rfl rfl ?_)|refine ⟨by omega,?_⟩|(refine zb ?_ ?_<;>intro hg<;>(try rw[hg])<;>try simp only[NM]at hg)|omega|simp -dsimp (disch:=try exact zo) only[go_sem,eRPs_in,eHs_in]|contradiction|rfl)
set_option maxRecDepth 20000 in
set_option maxHeartbeats 16000000 in
theorem c5big (rs:List RP) (x:RP) (hn:rs.length≤5) (hall:∀ r∈rs,goodR r=true) (hx:bigR x=true):CallOK Tryz.prog 5 [.sl (eRPs rs),.agg (eRP x)] [] (.lit (.bool true)) []:=by
 refine CallOK.flat Tryz.func5 rfl 40 rfl rfl rfl [.tmp 4] (congrArg Array.toList Tryz.results5) ?_
 simp only[startT,Nat.reduceAdd]
 have hml:maxLen=9223372036854775807:=rfl
 have pa:=c18b rs 5 hn (by decide) hall
 have cg:=c28o x
 rw[if_pos hx]at cg
 clear hall hx
 generalize nrmL rs=ps at *
 repeat' (first|refine zg ?_|(refine AW.cond rfl ?_ ?_<;>intro hc<;>first|simp only[NM]at hc|omega|skip)|refine zr ?_|(refine callV.new _ yfn_18 (by simp -dsimp (disch:=try exact zo) only[go_sem];exact pa) (by simp -dsimp (disch:=try exact zo) only[go_sem,eRPs_in]) (inPls _) ?_)|(refine callV.flat _ yfn_19 c19 rfl rfl ?_)|(refine callV.lend1 _ yfn_28 cg rfl rfl (by simp -dsimp (disch:=try exact zo) only[go_sem]) (.lit _) ?_)|refine ⟨by omega,?_⟩|(refine zb ?_ ?_<;>intro hg<;>(try rw[hg])<;>try simp only[NM]at hg)|omega|simp -dsimp (disch:=try exact zo) only[go_sem,eRPs_in,eHs_in]|contradiction|rfl)
set_option maxRecDepth 20000 in
set_option maxHeartbeats 40000000 in
theorem c5good (rs:List RP) (x:RP) (hn:rs.length≤5) (hall:∀ r∈rs,goodR r=true) (hx:¬ bigR x=true):CallOK Tryz.prog 5 [.sl (eRPs rs),.agg (eRP x)] [] (.lit (.bool true)) []:=by
 refine CallOK.flat Tryz.func5 rfl 40 rfl rfl rfl [.tmp 4] (congrArg Array.toList Tryz.results5) ?_
 simp only[startT,Nat.reduceAdd]
 have hml:maxLen=9223372036854775807:=rfl
 have pa:=c18b rs 5 hn (by decide) hall
 have hps:∀ p∈nrmL rs,BPl 3 p:=fun p hp=>by
  obtain ⟨r,hr,rfl⟩:=List.mem_map.1 hp
  exact nrm_bs3 (hall r hr)
 have hpn:(nrmL rs).length≤8:=by unfold nrmL;rw[List.length_map];omega
 have cg:=c28o x
 rw[if_neg hx]at cg
 have cx:=c29x x hx
 have hb:=ptR_bs hx
 have cc:=c20 (nrmL rs) hps hpn
 have cr:=c32 (nrmL rs) hps hpn
 have hbC:=cut_bdC hps hpn
 have hbR:=cutR_bd hps hpn
 have c1:=c30 (cutP (nrmL rs)) (ptR x) (Nat.le_trans hbC.n (by decide)) (fun s hs=>(hbC.p s hs).mono (by decide)) (hb.mono (by decide))
 have c2:=c31 (cutR (nrmL rs)) (ptR x) (Nat.le_trans hbR.n (by decide)) (fun s hs=>(hbR.p s hs).mono (by decide)) (hb.mono (by decide))
 rw[(cutR_ok (nrmL rs)).2.cls,← classP_eq]at c2
 have c3:=(c30 [] (ptR x) (Nat.zero_le _) (fun s hs=>by simp at hs) (hb.mono (by decide))).arg1 (a':=.agg [.lit (.slice none 0 0)]) (fun g v=>rel_cell0)
 have e3:classP [] (ptR x)=-1:=rfl
 rw[e3]at c3
 clear hall hps hpn hbC hbR hb hx
 generalize classP (cutP (nrmL rs)) (ptR x)=k at *
 generalize cutP (nrmL rs)=C at *
 generalize cutR (nrmL rs)=R at *
 generalize nrmL rs=ps at *
 generalize ptR x=p at *
 simp only[eP,e4]at cx c1 c2 c3
 simp only[eRP]at cg
 repeat' (first|refine zg ?_|(refine AW.cond rfl ?_ ?_<;>intro hc<;>first|simp only[NM]at hc|omega|skip)|refine zr ?_|(refine callV.new _ yfn_18 (by simp -dsimp (disch:=try exact zo) only[go_sem];exact pa) (by simp -dsimp (disch:=try exact zo) only[go_sem,eRPs_in]) (inPls _) ?_)|(refine callV.flat _ yfn_19 c19 rfl rfl ?_)|(refine callV.lend1 _ yfn_28 cg rfl rfl (by simp -dsimp (disch:=try exact zo) only[go_sem]) (.lit _) ?_)|(refine callV.flat _ yfn_29 cx rfl rfl ?_)|(refine callV.plain _ yfn_20 cc (by simp -dsimp (disch:=try exact zo) only[go_sem,eHs_in]) (inCell _) ?_)|(refine callV.plain _ yfn_32 cr (by simp -dsimp (disch:=try exact zo) only[go_sem,eHs_in]) (inCell _) ?_)|(first|refine callV.plain _ yfn_30 c1 (by simp -dsimp (disch:=try exact zo) only[go_sem,eS_in]) (.lit _) ?_|refine callV.plain _ yfn_30 c3 (by simp -dsimp (disch:=try exact zo) only[go_sem]) (.lit _) ?_)|(refine callV.plain _ yfn_31 c2 (by simp -dsimp (disch:=try exact zo) only[go_sem,eS_in]) (.lit _) ?_)|refine ⟨by omega,?_⟩|(refine zb ?_ ?_<;>intro hg<;>(try rw[hg])<;>try simp only[NM]at hg)|omega|simp -dsimp (disch:=try exact zo) only[go_sem,eRPs_in,eHs_in,eS_in]|contradiction|rfl)
end Go.Proofs.Vx
