import Derived.Test.YtjlfgmhmalbiiaaGreatDoorX33
set_option linter.all false
set_option maxHeartbeats 40000000
open Array renaming toList → Aw
open Int renaming cast_ofNat_Int → Aa, mul_ediv_cancel_left → Ae, eq_zero_of_ediv_eq_zero → Af, mul_comm → Ah, natAbs_dvd_natAbs → An, natAbs_mul → Au
open List renaming map_cons → Ab, map_nil → Ac, take → Ad, mem_append → Ai, mem_map_of_mem → Aj, mem_map → Al, length_map → Am, length_append → Ap, length_cons → Aq, nodup_cons → At
open Nat renaming le_trans → Ag, gcd_mul_left → Ak, reduceMul → Ao, dvd_gcd → Ar, le_refl → As, reduceAdd → Av, zero_le → Ax, mul_one → Ay
open Rat renaming not_lt → Az
namespace Go.Proofs.Vx
open Go Go.Sx Go.Proofs Tryz
attribute [local irreducible] fnT CallOK CallFr AW aK callV aL aJ aI aM gcaseP hid
theorem fN (x y z:Int) (h:(-1≤x∧x≤1)∧(-1≤y∧y≤1)∧(-1≤z∧z≤1)):BPt 65536 (wpt x y z):=by
 obtain⟨h1,h2,h3⟩:=h
 have k:∀ t:Int,-1≤t∧t≤1→(Zm (1000*t)).size≤65536:=fun t ht=>Ag ((bX (1000*t) 2).2 (by omega)) (by decide)
 exact⟨⟨k x h1,k y h2,k z h3,Ag ((bX 1 1).2 (by decide)) (by decide)⟩⟩
theorem thr0u:CallOK prog 161 [.agg (eP (wpt 1 (-1) (-1))),.agg (eP (wpt 1 1 (-1))),.agg (eP (wpt 1 1 1))] [] (.tup [.agg (eH ⟨1,0,0,1000⟩),.lit (.bool true)]) []:=by
 have:=sO (wpt 1 (-1) (-1)) (wpt 1 1 (-1)) (wpt 1 1 1) (eW (by decide +kernel)) (eW (by decide +kernel)) (eW (by decide +kernel)) (fN _ _ _ (by decide)) (fN _ _ _ (by decide)) (fN _ _ _ (by decide)) (by decide +kernel)
 rwa [show mC (wpt 1 (-1) (-1)) (wpt 1 1 (-1)) (wpt 1 1 1)=⟨1,0,0,1000⟩ by decide +kernel]at this
theorem thr0d:CallOK prog 161 [.agg (eP (wpt (-1) (-1) (-1))),.agg (eP (wpt (-1) (-1) 1)),.agg (eP (wpt (-1) 1 1))] [] (.tup [.agg (eH ⟨-1,0,0,1000⟩),.lit (.bool true)]) []:=by
 have:=sO (wpt (-1) (-1) (-1)) (wpt (-1) (-1) 1) (wpt (-1) 1 1) (eW (by decide +kernel)) (eW (by decide +kernel)) (eW (by decide +kernel)) (fN _ _ _ (by decide)) (fN _ _ _ (by decide)) (fN _ _ _ (by decide)) (by decide +kernel)
 rwa [show mC (wpt (-1) (-1) (-1)) (wpt (-1) (-1) 1) (wpt (-1) 1 1)=⟨-1,0,0,1000⟩ by decide +kernel]at this
theorem thr1u:CallOK prog 161 [.agg (eP (wpt (-1) 1 (-1))),.agg (eP (wpt (-1) 1 1)),.agg (eP (wpt 1 1 1))] [] (.tup [.agg (eH ⟨0,1,0,1000⟩),.lit (.bool true)]) []:=by
 have:=sO (wpt (-1) 1 (-1)) (wpt (-1) 1 1) (wpt 1 1 1) (eW (by decide +kernel)) (eW (by decide +kernel)) (eW (by decide +kernel)) (fN _ _ _ (by decide)) (fN _ _ _ (by decide)) (fN _ _ _ (by decide)) (by decide +kernel)
 rwa [show mC (wpt (-1) 1 (-1)) (wpt (-1) 1 1) (wpt 1 1 1)=⟨0,1,0,1000⟩ by decide +kernel]at this
theorem thr1d:CallOK prog 161 [.agg (eP (wpt (-1) (-1) (-1))),.agg (eP (wpt 1 (-1) (-1))),.agg (eP (wpt 1 (-1) 1))] [] (.tup [.agg (eH ⟨0,-1,0,1000⟩),.lit (.bool true)]) []:=by
 have:=sO (wpt (-1) (-1) (-1)) (wpt 1 (-1) (-1)) (wpt 1 (-1) 1) (eW (by decide +kernel)) (eW (by decide +kernel)) (eW (by decide +kernel)) (fN _ _ _ (by decide)) (fN _ _ _ (by decide)) (fN _ _ _ (by decide)) (by decide +kernel)
 rwa [show mC (wpt (-1) (-1) (-1)) (wpt 1 (-1) (-1)) (wpt 1 (-1) 1)=⟨0,-1,0,1000⟩ by decide +kernel]at this
theorem thr2u:CallOK prog 161 [.agg (eP (wpt (-1) (-1) 1)),.agg (eP (wpt 1 (-1) 1)),.agg (eP (wpt 1 1 1))] [] (.tup [.agg (eH ⟨0,0,1,1000⟩),.lit (.bool true)]) []:=by
 have:=sO (wpt (-1) (-1) 1) (wpt 1 (-1) 1) (wpt 1 1 1) (eW (by decide +kernel)) (eW (by decide +kernel)) (eW (by decide +kernel)) (fN _ _ _ (by decide)) (fN _ _ _ (by decide)) (fN _ _ _ (by decide)) (by decide +kernel)
 rwa [show mC (wpt (-1) (-1) 1) (wpt 1 (-1) 1) (wpt 1 1 1)=⟨0,0,1,1000⟩ by decide +kernel]at this
theorem thr2d:CallOK prog 161 [.agg (eP (wpt (-1) (-1) (-1))),.agg (eP (wpt (-1) 1 (-1))),.agg (eP (wpt 1 1 (-1)))] [] (.tup [.agg (eH ⟨0,0,-1,1000⟩),.lit (.bool true)]) []:=by
 have:=sO (wpt (-1) (-1) (-1)) (wpt (-1) 1 (-1)) (wpt 1 1 (-1)) (eW (by decide +kernel)) (eW (by decide +kernel)) (eW (by decide +kernel)) (fN _ _ _ (by decide)) (fN _ _ _ (by decide)) (fN _ _ _ (by decide)) (by decide +kernel)
 rwa [show mC (wpt (-1) (-1) (-1)) (wpt (-1) 1 (-1)) (wpt 1 1 (-1))=⟨0,0,-1,1000⟩ by decide +kernel]at this
set_option maxRecDepth 20000 in
theorem c94:CallOK prog 94 [] [] (.agg [.sl (eS dB)]) []:=by
 refine fF func94 rfl 70 rfl rfl (by simp -dsimp (disch:=try exact zo)only[go_sem]) [.cell 0 33] (congrArg Aw results94) ?_
 simp only[aD,Av]
 have hml:maxLen=9223372036854775807:=rfl
 repeat'(first|refine zk ?_|(refine zu ?_ ?_<;>intro hc)|(refine zv ?_ ?_<;>intro hg)|omega|simp -dsimp (disch:=try exact zo)only[go_sem]|contradiction|rfl)
 refine AW.weak (jQ 10 0 9 _ (by decide) rfl (by simp) rfl (by simp)) ?_
 have hwl:eS (Ad 6 dB)=eS dB:=rfl
 have hz:eS (dB.take 0)=[]:=rfl
 refine AW.loop (fun z:{i:Nat // i≤3}=>⟨[(2,.lit (.int .i64 z.1)),(1,.loc 10 0),(0,.loc 8 0)],[(10,.blk [.ref 13 0 (2*z.1) (2*z.1)]),(13,.vec 9 (eS (dB.take (2*z.1)))),(8,.blk [.lit (.slice none 0 0)])],30⟩) (fun z=>3 - z.1) ⟨0,Ax _⟩ (aR (by refine⟨?_,?_,?_,?_⟩<;>simp -dsimp (disch:=try exact zo)only[go_sem,Nat.mul_zero,hz,ZC])) ?_
 rintro⟨i,hi⟩
 dsimp only
 rcases (show i=0∨i=1∨i=2∨i=3 by omega)with rfl|rfl|rfl|rfl
 ·have hE:eS (Ad 2 dB)=eS (Ad 0 dB)++[eG ⟨1,0,0,1000⟩ [wpt 1 (-1) (-1),wpt 1 1 (-1),wpt 1 1 1,wpt 1 (-1) 1]]++[eG ⟨-1,0,0,1000⟩ [wpt (-1) (-1) (-1),wpt (-1) (-1) 1,wpt (-1) 1 1,wpt (-1) 1 (-1)]]:=rfl
  have hlE:(eS (Ad 0 dB)).length=0:=rfl
  simp only[Ao]
  generalize eS (Ad 0 dB)=E at *
  repeat'(first|refine AW.seq ?_|refine iM (id:=3) ?_|refine iM (id:=5) ?_|refine iM (id:=6) ?_|refine AW.block ?_|refine AW.blk ?_|refine AW.skip ?_|refine AW.exit rfl ?_|(refine zc ?_ ?_<;>intro hc<;>first|simp only[NM]at hc|omega|skip)|refine zr ?_|(first|refine zf (nO (1) (-1) (-1) (by decide) (by decide) (by decide)) ?_|refine zf (nO (1) (1) (-1) (by decide) (by decide) (by decide)) ?_|refine zf (nO (1) (1) (1) (by decide) (by decide) (by decide)) ?_|refine zf (nO (1) (-1) (1) (by decide) (by decide) (by decide)) ?_|refine zf (nO (-1) (-1) (-1) (by decide) (by decide) (by decide)) ?_|refine zf (nO (-1) (-1) (1) (by decide) (by decide) (by decide)) ?_|refine zf (nO (-1) (1) (1) (by decide) (by decide) (by decide)) ?_|refine zf (nO (-1) (1) (-1) (by decide) (by decide) (by decide)) ?_)|refine⟨by omega,?_⟩|(refine zb ?_ ?_<;>intro hg<;>(try rw[hg])<;>try simp only[NM]at hg)|omega|simp -dsimp (disch:=try exact zo)only[go_sem,hlE]|contradiction|rfl)
  refine AW.weak (lH 40 4 8 ([wpt 1 (-1) (-1),wpt 1 1 (-1),wpt 1 1 1,wpt 1 (-1) 1].map eP) (t:=[(4,.ref 50 0 4 4),(3,.sl ([wpt 1 (-1) (-1),wpt 1 1 (-1),wpt 1 1 1,wpt 1 (-1) 1].map eP)),(2,.lit (.int .i64 ((0:Nat):Int))),(1,.loc 10 0),(0,.loc 8 0)]) (o:=[(50,.vec 8 ([wpt (-1) (-1) (-1),wpt (-1) (-1) 1,wpt (-1) 1 1,wpt (-1) 1 (-1)].map eP)),(10,.blk [.ref 13 0 0 0]),(13,.vec 9 E),(8,.blk [.lit (.slice none 0 0)])]) rfl rfl (by simp -dsimp (disch:=try exact zo)only[go_sem,and_self,Ab,Ac]) (by simp -dsimp (disch:=try exact zo)only[go_sem,and_self,Ab,Ac])) ?_
  refine AW.weak (lH 50 4 8 ([wpt (-1) (-1) (-1),wpt (-1) (-1) 1,wpt (-1) 1 1,wpt (-1) 1 (-1)].map eP) (t:=[(4,.sl ([wpt (-1) (-1) (-1),wpt (-1) (-1) 1,wpt (-1) 1 1,wpt (-1) 1 (-1)].map eP)),(3,.sl ([wpt 1 (-1) (-1),wpt 1 1 (-1),wpt 1 1 1,wpt 1 (-1) 1].map eP)),(2,.lit (.int .i64 ((0:Nat):Int))),(1,.loc 10 0),(0,.loc 8 0)]) (o:=[(10,.blk [.ref 13 0 0 0]),(13,.vec 9 E),(8,.blk [.lit (.slice none 0 0)])]) rfl rfl (by simp -dsimp (disch:=try exact zo)only[go_sem,and_self,Ab,Ac]) (by simp -dsimp (disch:=try exact zo)only[go_sem,and_self,Ab,Ac])) ?_
  repeat'(first|refine zk ?_|(refine zu ?_ ?_<;>intro hc)|(first|refine zf thr0u ?_|refine zf thr0d ?_)|(refine zv ?_ ?_<;>intro hg)|omega|simp -dsimp (disch:=try exact zo)only[go_sem,hlE,Ab,Ac]|rfl)
  all_goals exact AW.stop ⟨⟨1,by omega⟩,(nF (by simp -dsimp (disch:=try exact zo)only[go_sem,Aa]) (by simp -dsimp (disch:=try exact zo)only[go_sem,hE,Aa];try rfl) (by decide) (by simp -dsimp (disch:=try exact zo)only[go_sem,Aa]) (by simp -dsimp (disch:=try exact zo)only[go_sem,Aa])),by dsimp only;omega⟩
 ·have hE:eS (Ad 4 dB)=eS (Ad 2 dB)++[eG ⟨0,1,0,1000⟩ [wpt (-1) 1 (-1),wpt (-1) 1 1,wpt 1 1 1,wpt 1 1 (-1)]]++[eG ⟨0,-1,0,1000⟩ [wpt (-1) (-1) (-1),wpt 1 (-1) (-1),wpt 1 (-1) 1,wpt (-1) (-1) 1]]:=rfl
  have hlE:(eS (Ad 2 dB)).length=2:=rfl
  simp only[Ao]
  generalize eS (Ad 2 dB)=E at *
  repeat'(first|refine AW.seq ?_|refine iM (id:=3) ?_|refine iM (id:=5) ?_|refine iM (id:=6) ?_|refine AW.block ?_|refine AW.blk ?_|refine AW.skip ?_|refine AW.exit rfl ?_|(refine zc ?_ ?_<;>intro hc<;>first|simp only[NM]at hc|omega|skip)|refine zr ?_|(first|refine zf (nN (1) (-1) (-1) (by decide) (by decide) (by decide)) ?_|refine zf (nN (1) (1) (-1) (by decide) (by decide) (by decide)) ?_|refine zf (nN (1) (1) (1) (by decide) (by decide) (by decide)) ?_|refine zf (nN (1) (-1) (1) (by decide) (by decide) (by decide)) ?_|refine zf (nN (-1) (-1) (-1) (by decide) (by decide) (by decide)) ?_|refine zf (nN (-1) (-1) (1) (by decide) (by decide) (by decide)) ?_|refine zf (nN (-1) (1) (1) (by decide) (by decide) (by decide)) ?_|refine zf (nN (-1) (1) (-1) (by decide) (by decide) (by decide)) ?_)|refine⟨by omega,?_⟩|(refine zb ?_ ?_<;>intro hg<;>(try rw[hg])<;>try simp only[NM]at hg)|omega|simp -dsimp (disch:=try exact zo)only[go_sem,hlE]|contradiction|rfl)
  refine AW.weak (lH 40 4 8 ([wpt (-1) 1 (-1),wpt (-1) 1 1,wpt 1 1 1,wpt 1 1 (-1)].map eP) (t:=[(4,.ref 50 0 4 4),(3,.sl ([wpt (-1) 1 (-1),wpt (-1) 1 1,wpt 1 1 1,wpt 1 1 (-1)].map eP)),(2,.lit (.int .i64 ((1:Nat):Int))),(1,.loc 10 0),(0,.loc 8 0)]) (o:=[(50,.vec 8 ([wpt (-1) (-1) (-1),wpt 1 (-1) (-1),wpt 1 (-1) 1,wpt (-1) (-1) 1].map eP)),(10,.blk [.ref 13 0 2 2]),(13,.vec 9 E),(8,.blk [.lit (.slice none 0 0)])]) rfl rfl (by simp -dsimp (disch:=try exact zo)only[go_sem,and_self,Ab,Ac]) (by simp -dsimp (disch:=try exact zo)only[go_sem,and_self,Ab,Ac])) ?_
  refine AW.weak (lH 50 4 8 ([wpt (-1) (-1) (-1),wpt 1 (-1) (-1),wpt 1 (-1) 1,wpt (-1) (-1) 1].map eP) (t:=[(4,.sl ([wpt (-1) (-1) (-1),wpt 1 (-1) (-1),wpt 1 (-1) 1,wpt (-1) (-1) 1].map eP)),(3,.sl ([wpt (-1) 1 (-1),wpt (-1) 1 1,wpt 1 1 1,wpt 1 1 (-1)].map eP)),(2,.lit (.int .i64 ((1:Nat):Int))),(1,.loc 10 0),(0,.loc 8 0)]) (o:=[(10,.blk [.ref 13 0 2 2]),(13,.vec 9 E),(8,.blk [.lit (.slice none 0 0)])]) rfl rfl (by simp -dsimp (disch:=try exact zo)only[go_sem,and_self,Ab,Ac]) (by simp -dsimp (disch:=try exact zo)only[go_sem,and_self,Ab,Ac])) ?_
  repeat'(first|refine zk ?_|(refine zu ?_ ?_<;>intro hc)|(first|refine zf thr1u ?_|refine zf thr1d ?_)|(refine zv ?_ ?_<;>intro hg)|omega|simp -dsimp (disch:=try exact zo)only[go_sem,hlE,Ab,Ac]|rfl)
  all_goals exact AW.stop ⟨⟨2,by omega⟩,(nF (by simp -dsimp (disch:=try exact zo)only[go_sem,Aa]) (by simp -dsimp (disch:=try exact zo)only[go_sem,hE,Aa];try rfl) (by decide) (by simp -dsimp (disch:=try exact zo)only[go_sem,Aa]) (by simp -dsimp (disch:=try exact zo)only[go_sem,Aa])),by dsimp only;omega⟩
 ·have hE:eS (Ad 6 dB)=eS (Ad 4 dB)++[eG ⟨0,0,1,1000⟩ [wpt (-1) (-1) 1,wpt 1 (-1) 1,wpt 1 1 1,wpt (-1) 1 1]]++[eG ⟨0,0,-1,1000⟩ [wpt (-1) (-1) (-1),wpt (-1) 1 (-1),wpt 1 1 (-1),wpt 1 (-1) (-1)]]:=rfl
  have hlE:(eS (Ad 4 dB)).length=4:=rfl
  simp only[Ao]
  generalize eS (Ad 4 dB)=E at *
  repeat'(first|refine AW.seq ?_|refine iM (id:=3) ?_|refine iM (id:=5) ?_|refine iM (id:=6) ?_|refine AW.block ?_|refine AW.blk ?_|refine AW.skip ?_|refine AW.exit rfl ?_|(refine zc ?_ ?_<;>intro hc<;>first|simp only[NM]at hc|omega|skip)|refine zr ?_|(first|refine zf (nM (1) (-1) (-1) (by decide) (by decide) (by decide)) ?_|refine zf (nM (1) (1) (-1) (by decide) (by decide) (by decide)) ?_|refine zf (nM (1) (1) (1) (by decide) (by decide) (by decide)) ?_|refine zf (nM (1) (-1) (1) (by decide) (by decide) (by decide)) ?_|refine zf (nM (-1) (-1) (-1) (by decide) (by decide) (by decide)) ?_|refine zf (nM (-1) (-1) (1) (by decide) (by decide) (by decide)) ?_|refine zf (nM (-1) (1) (1) (by decide) (by decide) (by decide)) ?_|refine zf (nM (-1) (1) (-1) (by decide) (by decide) (by decide)) ?_)|refine⟨by omega,?_⟩|(refine zb ?_ ?_<;>intro hg<;>(try rw[hg])<;>try simp only[NM]at hg)|omega|simp -dsimp (disch:=try exact zo)only[go_sem,hlE]|contradiction|rfl)
  refine AW.weak (lH 40 4 8 ([wpt (-1) (-1) 1,wpt 1 (-1) 1,wpt 1 1 1,wpt (-1) 1 1].map eP) (t:=[(4,.ref 50 0 4 4),(3,.sl ([wpt (-1) (-1) 1,wpt 1 (-1) 1,wpt 1 1 1,wpt (-1) 1 1].map eP)),(2,.lit (.int .i64 ((2:Nat):Int))),(1,.loc 10 0),(0,.loc 8 0)]) (o:=[(50,.vec 8 ([wpt (-1) (-1) (-1),wpt (-1) 1 (-1),wpt 1 1 (-1),wpt 1 (-1) (-1)].map eP)),(10,.blk [.ref 13 0 4 4]),(13,.vec 9 E),(8,.blk [.lit (.slice none 0 0)])]) rfl rfl (by simp -dsimp (disch:=try exact zo)only[go_sem,and_self,Ab,Ac]) (by simp -dsimp (disch:=try exact zo)only[go_sem,and_self,Ab,Ac])) ?_
  refine AW.weak (lH 50 4 8 ([wpt (-1) (-1) (-1),wpt (-1) 1 (-1),wpt 1 1 (-1),wpt 1 (-1) (-1)].map eP) (t:=[(4,.sl ([wpt (-1) (-1) (-1),wpt (-1) 1 (-1),wpt 1 1 (-1),wpt 1 (-1) (-1)].map eP)),(3,.sl ([wpt (-1) (-1) 1,wpt 1 (-1) 1,wpt 1 1 1,wpt (-1) 1 1].map eP)),(2,.lit (.int .i64 ((2:Nat):Int))),(1,.loc 10 0),(0,.loc 8 0)]) (o:=[(10,.blk [.ref 13 0 4 4]),(13,.vec 9 E),(8,.blk [.lit (.slice none 0 0)])]) rfl rfl (by simp -dsimp (disch:=try exact zo)only[go_sem,and_self,Ab,Ac]) (by simp -dsimp (disch:=try exact zo)only[go_sem,and_self,Ab,Ac])) ?_
  repeat'(first|refine zk ?_|(refine zu ?_ ?_<;>intro hc)|(first|refine zf thr2u ?_|refine zf thr2d ?_)|(refine zv ?_ ?_<;>intro hg)|omega|simp -dsimp (disch:=try exact zo)only[go_sem,hlE,Ab,Ac]|rfl)
  all_goals exact AW.stop ⟨⟨3,by omega⟩,(nF (by simp -dsimp (disch:=try exact zo)only[go_sem,Aa]) (by simp -dsimp (disch:=try exact zo)only[go_sem,hE,Aa];try rfl) (by decide) (by simp -dsimp (disch:=try exact zo)only[go_sem,Aa]) (by simp -dsimp (disch:=try exact zo)only[go_sem,Aa])),by dsimp only;omega⟩
 ·exact z1
theorem b2j {K:Nat→Prop}:In K (.agg [.lit (.slice none 0 0)]):=.agg _ (by intro c hc;simp only[zM,or_false]at hc;subst hc;exact .lit _)
theorem splIn {K:Nat→Prop} {l:aE} {b:Pl}:In K (if bC b l=false then .tup [.agg [.sl (eS l)],.agg [.lit (.slice none 0 0)]]else if bD b l=false then .tup [.agg [.lit (.slice none 0 0)],.agg [.sl (eS l)]]else .tup [.agg [.sl (eS (jW b l))],.agg [.sl (eS (jW (aY b) l))]]):=by
 have key:∀ a c:AV,In K a→In K c→In K (.tup [a,c]):=fun a c ha hc=>.tup _ (by intro x hx;simp only[zM,or_false]at hx;rcases hx with rfl|rfl<;>assumption)
 split
 ·exact key _ _ (fO _) b2j
 ·split
  ·exact key _ _ b2j (fO _)
  ·exact key _ _ (fO _) (fO _)
theorem c95x (l:aE) (b:Pl) (h:CellOK l) (hb:BPl 1048576 b) (hn:l.length≤4096) (hv:∀ s∈l,s.2.length≤65536∧∀ v∈s.2,BPt 1048576 v):CallOK prog 95 [.agg [.sl (eS l)],.agg (eH b)] [] (if bC b l=false then .tup [.agg [.sl (eS l)],.agg [.lit (.slice none 0 0)]]else if bD b l=false then .tup [.agg [.lit (.slice none 0 0)],.agg [.sl (eS l)]]else .tup [.agg [.sl (eS (jW b l))],.agg [.sl (eS (jW (aY b) l))]]) []:=by
 refine fF func95 rfl 29 rfl rfl splIn [.cell 4 33,.cell 5 33] (congrArg Aw results95) ?_
 simp only[aD,Av]
 have cr:=c162 l b (hb.mono (by decide)) (by omega) (fun s hs=>⟨Ag (hv s hs).1 (by decide),fun v hvm=>((hv s hs).2 v hvm).mono (by decide)⟩)
 have cf:=c51 b (hb.mono (by decide))
 by_cases hf:bC b l=false
 ·rw[if_pos hf]
  have ca:True:=trivial
  have cb:True:=trivial
  rw[hf]at cr
  clear h hv hf
  generalize bD b l=B at *
  exact z1
 ·rw[if_neg hf]
  have hf':bC b l=true:=by simpa using hf
  rw[hf']at cr
  by_cases hbb:bD b l=false
  ·rw[if_pos hbb]
   rw[hbb]at cr
   have ca:True:=trivial
   have cb:True:=trivial
   clear h hv hf hbb hf'
   exact z1
  ·rw[if_neg hbb]
   have hb':bD b l=true:=by simpa using hbb
   rw[hb']at cr
   have ca:=c163 l b h (gO h hf' hb') hb hn hv
   have cb:=c163 l (aY b) h (gO h (by rw[lM];exact hb') (by rw[lK];exact hf')) hb.neg hn hv
   clear h hv hf hbb hf' hb'
   exact z1
theorem c95 (l:aE) (b:Pl) (h:CellOK l) (hb:BPl 1048576 b) (hn:l.length≤4096) (hv:∀ s∈l,s.2.length≤65536∧∀ v∈s.2,BPt 1048576 v):CallOK prog 95 [.agg [.sl (eS l)],.agg (eH b)] [] (.tup [.agg [.sl (eS (cY b l).1)],.agg [.sl (eS (cY b l).2)]]) []:=by
 have:=c95x l b h hb hn hv
 unfold cY
 by_cases hf:bC b l=false
 ·rw[if_pos hf]at this ⊢
  exact this.wk fun g v=>wZ (fun v h=>h) (fun v h=>wI h)
 ·rw[if_neg hf]at this ⊢
  by_cases hbb:bD b l=false
  ·rw[if_pos hbb]at this ⊢
   exact this.wk fun g v=>wZ (fun v h=>wI h) (fun v h=>h)
  ·rw[if_neg hbb]at this ⊢
   exact this
end Go.Proofs.Vx
namespace Go.Proofs.Vx
open Go Go.Sx Go.Proofs Tryz
attribute [local irreducible] fnT CallOK CallFr AW aK callV aL aJ aI aM gcaseP hid
theorem d1c {r:RP} (h5:¬ (iv r.n1 r.m1=0∧iv r.n2 r.m2=0∧iv r.n3 r.m3=0)):CanH (fJ r):=by
 obtain⟨d1,d2,d3,d4⟩:=mB (iv r.n1 r.m1) (iv r.n2 r.m2) (iv r.n3 r.m3) (iv r.n4 r.m4)
 have hG:0<g4 (iv r.n1 r.m1) (iv r.n2 r.m2) (iv r.n3 r.m3) (iv r.n4 r.m4):=by
  apply Nat.pos_of_ne_zero
  intro h0
  rw[h0]at d1 d2 d3
  exact h5 ⟨by simpa using d1,by simpa using d2,by simpa using d3⟩
 refine⟨?_,fun e=>h5 ⟨Af d1 e.1,Af d2 e.2.1,Af d3 e.2.2⟩⟩
 unfold fJ
 generalize iv r.n1 r.m1=x at *
 generalize iv r.n2 r.m2=y at *
 generalize iv r.n3 r.m3=z at *
 generalize iv r.n4 r.m4=w at *
 obtain⟨x',ex⟩:=d1
 obtain⟨y',ey⟩:=d2
 obtain⟨z',ez⟩:=d3
 obtain⟨w',ew⟩:=d4
 have hg1:g4 x' y' z' w'=1:=by
  have:=xN (g4 x y z w:Int) x' y' z' w'
  rw[← ex,← ey,← ez,← ew,Int.natAbs_natCast]at this
  have h2:g4 x y z w*1=g4 x y z w*g4 x' y' z' w':=by rw[Ay];exact this
  exact (Nat.eq_of_mul_eq_mul_left hG h2).symm
 have hG':(g4 x y z w:Int)≠0:=by omega
 have q1:x / (g4 x y z w:Int)=x':=by (conv=>lhs;lhs;rw[ex]);exact Ae _ hG'
 have q2:y / (g4 x y z w:Int)=y':=by (conv=>lhs;lhs;rw[ey]);exact Ae _ hG'
 have q3:z / (g4 x y z w:Int)=z':=by (conv=>lhs;lhs;rw[ez]);exact Ae _ hG'
 have q4:w / (g4 x y z w:Int)=w':=by (conv=>lhs;lhs;rw[ew]);exact Ae _ hG'
 unfold kY
 rw[q1,q2,q3,q4]
 simp only[hg1]
 simp
end Go.Proofs.Vx
namespace Geo
namespace Cell
variable {c:List Sd}
theorem a7e {α:Type} [DecidableEq α]:∀ {l m:List α},l.Nodup→(∀ x∈l,x∈m)→l.length≤m.length
 | [],_,_,_=>Ax _
 | a::l,m,hn,h=>by
  have ha:a∈m:=h a (by simp)
  have h2:=a7e (m:=m.erase a) (At.1 hn).2 fun x hx=>(List.mem_erase_of_ne (fun (e:x=a)=>(At.1 hn).1 (e▸hx))).2 (h x (by simp[hx]))
  have h3:=List.length_erase_of_mem ha
  have h4:=List.length_pos_of_mem ha
  simp only[Aq]
  omega
open Classical in
theorem side_len (C:Cell c) {s:Sd} (hs:s∈c):s.vs.length≤c.length:=by
 have pv:=C.pv s hs
 have hch:∀ e∈edges s.vs,∃ t,t∈c∧t.h.at e.1=0∧t.h.at e.2=0∧∀ x∈s.vs,x≠e.1→x≠e.2→t.h.at x<0:=fun e he=>by
  obtain⟨t,ht,hts,hte,k,hk,hf⟩:=C.beside hs he
  refine⟨t,ht,C.pl t ht _ (bO hte),C.pl t ht _ (bJ hte),fun x hx h1 h2=>?_⟩
  have ho:=pv.lf _ he x hx h1 h2
  have:=hf x (C.pl s hs x hx)
  rcases fG (C.le t ht s hs x hx)with h|h
  ·exact h
  ·rw[h]at this;grind
 let f:V × V→Sd:=fun e=>if h:e∈edges s.vs then (hch e h).choose else s
 have hf:∀ e∈edges s.vs,f e∈c∧(f e).h.at e.1=0∧(f e).h.at e.2=0∧∀ x∈s.vs,x≠e.1→x≠e.2→(f e).h.at x<0:=fun e he=>by
  simp only[f,dif_pos he]
  exact (hch e he).choose_spec
 have inj:∀ a∈edges s.vs,∀ b∈edges s.vs,f a=f b→a=b:=by
  intro a ha b hb e
  obtain⟨_,a1,a2,a3⟩:=hf a ha
  obtain⟨_,b1,b2,b3⟩:=hf b hb
  rw[← e]at b1 b2
  have two:∀ x∈s.vs,(f a).h.at x=0→x=a.1∨x=a.2:=fun x hx h0=>by
   by_cases h1:x=a.1
   ·exact .inl h1
   ·by_cases h2:x=a.2
    ·exact .inr h2
    ·have:=a3 x hx h1 h2;rw[h0]at this;exact absurd this (by grind)
  rcases two _ (bJ hb) b1 with h|h
  ·have:(a.1,b.2)∈edges s.vs:=h▸hb
   exact Prod.ext h.symm (a4r pv.nd (show (a.1,a.2)∈edges s.vs from ha) this)
  ·rcases two _ (bO hb) b2 with h'|h'
   ·have:b=sw a:=Prod.ext h h'
    exact (wV pv ha (this▸hb)).elim
   ·exact absurd (h.trans h'.symm) (pv.ne hb)
 have hnd:((edges s.vs).map f).Nodup:=by
  have he:=tA pv.nd
  unfold List.Nodup at he ⊢
  rw[List.pairwise_map]
  exact he.imp_of_mem fun ha hb hab e=>hab (inj _ ha _ hb e)
 have:=a7e hnd (m:=c) fun x hx=>by
  obtain⟨e,he,rfl⟩:=Al.1 hx
  exact (hf e he).1
 rw[Am,gA]at this
 exact this
theorem indep (C:Cell c) {s:Sd} (hs:s∈c) {v:V} (hv:v∈s.vs):∃ p∈c,∃ q∈c,∃ r∈c,p.h.at v=0∧q.h.at v=0∧r.h.at v=0∧dot r.h.n (aA p.h.n q.h.n)≠0:=by
 have hx:=C.vert_ext hs hv
 have get:∀ d:V,d≠⟨0,0,0⟩→∃ t∈c,t.h.at v=0∧dot t.h.n d≠0:=by
  intro d hd
  apply Classical.byContradiction
  intro hno
  obtain⟨t,t0,h1,h2⟩:=b9h (l:=c) (x:=v) (d:=d) fun u hu=>by
   rcases fG (hx.1 u hu)with h|h
   ·exact .inl h
   ·refine .inr ⟨h,Classical.byContradiction fun hn=>hno ⟨u,hu,h,hn⟩⟩
  exact c8a hx hd ⟨t,t0,h1,h2⟩
 obtain⟨p,hp,p0,pd⟩:=get ⟨1,0,0⟩ (fun h=>by have:=congrArg V.x h;simp at this)
 have pa:p.h.n.x≠0:=fun h=>pd (by simp only[dot,h];grind)
 obtain⟨q,hq,q0,qd⟩:=get ⟨p.h.n.y,- p.h.n.x,0⟩ (fun h=>by have:=congrArg V.y h;simp only at this;grind)
 have hcr:aA p.h.n q.h.n≠⟨0,0,0⟩:=fun h=>by
  have hz:=congrArg V.z h
  simp only[aA]at hz
  refine qd ?_
  simp only[dot]
  grind
 obtain⟨r,hr,r0,rd⟩:=get _ hcr
 exact⟨p,hp,q,hq,r,hr,p0,q0,r0,rd⟩
end Cell
end Geo
namespace Go.Sx
open Geo
theorem d2b {v : Pt} (hv : CanP v) {a1 b1 c1 d1 a2 b2 c2 d2 a3 b3 c3 d3 : Int} (e1 : a1 * v.x + b1 * v.y + c1 * v.z = d1 * v.w) (e2 : a2 * v.x + b2 * v.y + c2 * v.z = d2 * v.w) (e3 : a3 * v.x + b3 * v.y + c3 * v.z = d3 * v.w)
  (hD:a1*(b2*c3 - b3*c2) - b1*(a2*c3 - a3*c2)+c1*(a2*b3 - a3*b2)≠0) {K:Nat} (h1:Bs K a1 b1 c1 d1) (h2:Bs K a2 b2 c2 d2) (h3:Bs K a3 b3 c3 d3):BPt (3*K+4) v:=by
 generalize hDe:a1*(b2*c3 - b3*c2) - b1*(a2*c3 - a3*c2)+c1*(a2*b3 - a3*b2)=D at hD
 have x1:D*v.x=(d1*(b2*c3 - b3*c2) - b1*(d2*c3 - d3*c2)+c1*(d2*b3 - d3*b2))*v.w:=by rw[← hDe];grind
 have y1:D*v.y=(a1*(d2*c3 - d3*c2) - d1*(a2*c3 - a3*c2)+c1*(a2*d3 - a3*d2))*v.w:=by rw[← hDe];grind
 have z1:D*v.z=(a1*(b2*d3 - b3*d2) - b1*(a2*d3 - a3*d2)+d1*(a2*b3 - a3*b2))*v.w:=by rw[← hDe];grind
 have sz : ∀ p q r p' q' r' p'' q'' r'' : Int, (Zm p).size ≤ K → (Zm q).size ≤ K → (Zm r).size ≤ K → (Zm p').size ≤ K → (Zm q').size ≤ K → (Zm r').size ≤ K → (Zm p'').size ≤ K → (Zm q'').size ≤ K → (Zm r'').size ≤ K →
   (Zm (p*(q'*r'' - q''*r') - q*(p'*r'' - p''*r')+r*(p'*q'' - p''*q'))).size≤3*K+4:=by
  intro p q r p' q' r' p'' q'' r'' k1 k2 k3 k4 k5 k6 k7 k8 k9
  have two:∀ s t u w:Int,(Zm s).size≤K→(Zm t).size≤K→(Zm u).size≤K→(Zm w).size≤K→(Zm (s*t - u*w)).size≤2*K+1:=fun s t u w m1 m2 m3 m4=>by
   have:=kE (s*t) (u*w) (k:=2*K) (Ag (aP s t m1 m2) (by omega)) (Ag (aP u w m3 m4) (by omega))
   exact this
  have t1:=aP p (q'*r'' - q''*r') k1 (two _ _ _ _ k5 k9 k8 k6)
  have t2:=aP q (p'*r'' - p''*r') k2 (two _ _ _ _ k4 k9 k7 k6)
  have t3:=aP r (p'*q'' - p''*q') k3 (two _ _ _ _ k4 k8 k7 k5)
  have t4:=kE _ _ t1 t2
  have t5:=gY _ _ t4 (Nat.le_succ_of_le t3)
  exact Ag t5 (by omega)
 have hg:v.w∣D:=by
  have key:∀ m:Int,v.w∣D*m→v.w.natAbs∣D.natAbs*m.natAbs:=fun m hm=>by rw[← Au];exact An.2 hm
  have k1:=key v.x ⟨_,by rw[x1,Ah]⟩
  have k2:=key v.y ⟨_,by rw[y1,Ah]⟩
  have k3:=key v.z ⟨_,by rw[z1,Ah]⟩
  have k4:=key v.w ⟨D,Ah _ _⟩
  have h12:=Ar k1 k2
  rw[Ak]at h12
  have h3:=Ar h12 k3
  rw[Ak]at h3
  have h4:=Ar h3 k4
  rw[Ak]at h4
  have hg:=hv.g
  unfold g4 at hg
  rw[hg,Ay]at h4
  exact An.1 h4
 obtain⟨t,ht⟩:=hg
 have hw:=hv.w
 have ht0:t≠0:=fun h=>hD (by rw[ht,h];simp)
 have canc:∀ m n:Int,D*m=n*v.w→n=t*m:=fun m n h=>by
  have:v.w*(t*m)=v.w*n:=by rw[← Int.mul_assoc,← ht,h,Ah]
  exact (Int.eq_of_mul_eq_mul_left (by omega) this).symm
 have le:∀ m n:Int,n=t*m→(Zm n).size≤3*K+4→(Zm m).size≤3*K+4:=fun m n h hn=>by
  refine Ag (jD ?_) hn
  rw[h,Au]
  exact Nat.le_mul_of_pos_left _ (Int.natAbs_pos.2 ht0)
 refine⟨⟨le _ _ (canc _ _ x1) (sz _ _ _ _ _ _ _ _ _ h1.d h1.b h1.c h2.d h2.b h2.c h3.d h3.b h3.c),le _ _ (canc _ _ y1) (sz _ _ _ _ _ _ _ _ _ h1.a h1.d h1.c h2.a h2.d h2.c h3.a h3.d h3.c),le _ _ (canc _ _ z1) (sz _ _ _ _ _ _ _ _ _ h1.a h1.b h1.d h2.a h2.b h2.d h3.a h3.b h3.d),?_⟩⟩
 refine le v.w D (by rw[ht,Ah]) ?_
 rw[← hDe]
 exact sz _ _ _ _ _ _ _ _ _ h1.a h1.b h1.c h2.a h2.b h2.c h3.a h3.b h3.c
theorem c5v {l:aE} (h:CellOK l) {K:Nat} (hp:∀ s∈l,BPl K s.1) {s:Pl × List Pt} (hs:s∈l) {v:Pt} (hv:v∈s.2):BPt (3*K+4) v:=by
 have hc:=h.can s hs v hv
 obtain⟨p,hp',q,hq',r,hr',p0,q0,r0,hd⟩:=h.cell.indep (s:=sd s) (Aj hs) (v:=tv v) (Aj hv)
 obtain⟨p,hpl,rfl⟩:=Al.1 hp'
 obtain⟨q,hql,rfl⟩:=Al.1 hq'
 obtain⟨r,hrl,rfl⟩:=Al.1 hr'
 have f1:=(oY p.1 hc.w).1 p0
 have f2:=(oY q.1 hc.w).1 q0
 have f3:=(oY r.1 hc.w).1 r0
 unfold abv at f1 f2 f3
 have hD:p.1.a*(q.1.b*r.1.c - r.1.b*q.1.c) - p.1.b*(q.1.a*r.1.c - r.1.a*q.1.c)+p.1.c*(q.1.a*r.1.b - r.1.a*q.1.b)≠0:=by
  intro e
  refine hd ?_
  have:((p.1.a*(q.1.b*r.1.c - r.1.b*q.1.c) - p.1.b*(q.1.a*r.1.c - r.1.a*q.1.c)+p.1.c*(q.1.a*r.1.b - r.1.a*q.1.b):Int):Rat)=0:=by rw[e];rfl
  simp only[Rat.intCast_add,Rat.intCast_mul,Rat.intCast_sub]at this
  simp only[sd,tH,dot,aA]
  grind
 exact d2b hc (by omega) (by omega) (by omega) hD (hp p hpl).out (hp q hql).out (hp r hrl).out
structure SmC (d:Nat) (l:aE):Prop extends CellOK l where
 n:l.length≤d
 p:∀ s∈l,BPl 6 s.1
theorem SmC.bd {d:Nat} {l:aE} (h:SmC d l):Bd d d 22 l:=by
 refine⟨h.n,fun s hs=>?_,fun s hs v hv=>c5v h.toCellOK (K:=6) h.p hs hv,fun s hs=>(h.p s hs).mono (by decide)⟩
 have:=h.cell.side_len (s:=sd s) (Aj hs)
 have e1:(sd s).vs.length=s.2.length:=Am _
 have e2:(sds l).length=l.length:=Am _
 have:=h.n
 omega
theorem wY {b:Pl} {l:aE} {d:Nat} (h:SmC d l) (hb:BPl 6 b):((aQ b l).1=[]∨SmC (d+1) (aQ b l).1)∧((aQ b l).2=[]∨SmC (d+1) (aQ b l).2):=by
 have hb':=h.bd
 have hs:=a6u (.inr h.toCellOK) (hb'.mono (K':=22) (S':=d) (M':=d) (As _) (As _) (As _)) hb (by omega)
 have ho:=a0c (b:=b) h.toCellOK
 have hpl:∀ s,s∈(aQ b l).1∨s∈(aQ b l).2→BPl 6 s.1:=by
  intro s hs
  have key:∀ b',BPl 6 b'→∀ s∈jG b' l,BPl 6 s.1:=fun b' hb' s hs=>by
   unfold jG at hs
   rcases Ai.1 hs with hs|hs
   ·obtain⟨t,ht,e⟩:=List.mem_filterMap.1 hs
    split at e
    ·obtain rfl:=Option.some.inj e
     exact h.p t ht
    ·contradiction
   ·obtain rfl:=List.mem_singleton.1 hs
    exact hb'
  unfold aQ at hs
  split at hs
  ·rcases hs with hs|hs
   ·exact h.p s hs
   ·simp at hs
  ·split at hs
   ·rcases hs with hs|hs
    ·simp at hs
    ·exact h.p s hs
   ·rcases hs with hs|hs
    ·exact key b hb s hs
    ·exact key _ hb.neg s hs
 exact⟨ho.1.imp id fun q=>⟨q,hs.1.n,fun s hs=>hpl s (.inl hs)⟩,ho.2.imp id fun q=>⟨q,hs.2.n,fun s hs=>hpl s (.inr hs)⟩⟩
theorem wT:SmC 6 aO:=⟨pO,a0a.n,fun s hs=>(a6n s hs).mono (by decide)⟩
end Go.Sx
namespace Go.Sx
open Geo (V Sd)
set_option linter.unusedVariables false
inductive BT where
 | lf (b:Bool)
 | nd (k:Nat) (p:Pl) (l r:BT)
def lfv (b:Bool):Int:=if b then -1 else 0
namespace BT
def ids:BT→List Nat
 | lf _=>[]
 | nd k _ l r=>k::(ids l++ids r)
def pls:BT→List Pl
 | lf _=>[]
 | nd _ p l r=>p::(pls l++pls r)
def ht:BT→Nat
 | lf _=>0
 | nd _ _ l r=>max (ht l) (ht r)+1
def leaves (x:Pt):BT→List Int
 | lf b=>[lfv b]
 | nd _ p l r=>(if 0<aC p x then []else leaves x l)++(if aC p x<0 then []else leaves x r)
def cells:BT→aE→List aE
 | lf b,c=>if b then [c]else []
 | nd _ p l r,c=>cells l (aQ p c).1++cells r (aQ p c).2
def chk:BT→aE→Bool
 | lf _,c=>!c.isEmpty
 | nd _ p l r,c=>!c.isEmpty&&(chk l (aQ p c).1&&chk r (aQ p c).2)
def turn:BT→BT
 | lf b=>lf (!b)
 | nd k p l r=>nd k p (turn l) (turn r)
def tl:BT→Nat
 | lf b=>if b then 1 else 0
 | nd _ _ l r=>tl l+tl r
def reach:BT→Bool→V→Prop
 | lf b',b,_=>b'=b
 | nd _ p l r,b,x=>((tH p).at x≤0∧reach l b x)∨(0≤(tH p).at x∧reach r b x)
theorem chk_ne {T:BT} {c:aE} (h:T.chk c=true):c≠[]:=by
 intro e;subst e;cases T<;>simp[chk]at h
theorem chk_nd {k:Nat} {p:Pl} {l r:BT} {c:aE}:(nd k p l r).chk c=true↔c≠[]∧l.chk (aQ p c).1=true∧r.chk (aQ p c).2=true:=by
 simp[chk]
theorem cells_len (T:BT):∀ c,(T.cells c).length=T.tl:=by
 induction T with
 | lf b=>intro c;cases b<;>rfl
 | nd k p l r hl hr=>intro c;simp only[cells,tl,Ap,hl,hr]
theorem tl_turn (T:BT):T.tl+T.turn.tl=T.ids.length+1:=by
 induction T with
 | lf b=>cases b<;>rfl
 | nd k p l r hl hr=>simp only[tl,turn,ids,Aq,Ap]at *;omega
theorem turn_ids (T:BT):T.turn.ids=T.ids:=by
 induction T with
 | lf b=>rfl
 | nd k p l r hl hr=>simp only[turn,ids,hl,hr]
theorem turn_chk (T:BT):∀ c,T.turn.chk c=T.chk c:=by
 induction T with
 | lf b=>intro c;rfl
 | nd k p l r hl hr=>intro c;simp only[turn,chk,hl,hr]
theorem c6h {p:Pl} {x:Pt} (hw:0<x.w):¬ 0<aC p x↔(tH p).at (tv x)≤0:=by
 have h1:0<(tH p).at (tv x)↔0<aC p x:=(r8 p hw).trans xV.symm
 rw[← h1]
 exact Az
theorem c6i {p:Pl} {x:Pt} (hw:0<x.w):¬ aC p x<0↔0≤(tH p).at (tv x):=by
 have h1:(tH p).at (tv x)<0↔aC p x<0:=(nQ p hw).trans l9.symm
 rw[← h1]
 exact Az
theorem d3i (T:BT) {x:Pt} (hw:0<x.w) (b:Bool):lfv b∈T.leaves x↔T.reach b (tv x):=by
 induction T with
 | lf b'=>cases b'<;>cases b<;>simp[leaves,reach,lfv]
 | nd k p l r hl hr =>
  simp only[leaves,reach,Ai,← c6h hw,← c6i hw,← hl,← hr]
  refine or_congr ?_ ?_<;>split<;>rename_i h<;>simp[h]
def nz (T:BT):Prop:=∀ p∈T.pls,(tH p).n≠⟨0,0,0⟩
theorem u6 {k:Nat} {p:Pl} {l r:BT}:(nd k p l r).nz↔(tH p).n≠⟨0,0,0⟩∧l.nz∧r.nz:=by
 unfold nz
 simp only[pls,List.mem_cons,Ai]
 constructor
 ·intro h;exact⟨h p (.inl rfl),fun q hq=>h q (.inr (.inl hq)),fun q hq=>h q (.inr (.inr hq))⟩
 ·rintro⟨h1,h2,h3⟩ q (rfl|hq|hq)
  ·exact h1
  ·exact h2 q hq
  ·exact h3 q hq
theorem b2i {k : Nat} {p : Pl} {l r : BT} {c : aE} (hc : CellOK c) (hn : (nd k p l r).nz) (h : (nd k p l r).chk c = true) :
  CellOK (beh p c)∧CellOK (beh (aY p) c)∧(aQ p c).1=beh p c∧(aQ p c).2=beh (aY p) c∧l.chk (beh p c)=true∧r.chk (beh (aY p) c)=true:=by
 obtain⟨h0,h1,h2⟩:=chk_nd.1 h
 obtain⟨n0,_,_⟩:=u6.1 hn
 have hf:=b8s (.inr hc) n0
 have e1:(aQ p c).1=beh p c:=rfl
 rw[e1]at h1
 rw[hf]at h2
 have o1:=b1u (b:=p) (.inr hc)
 have o2:=b1u (b:=aY p) (.inr hc)
 exact⟨o1.elim (fun e=>absurd e (chk_ne h1)) id,o2.elim (fun e=>absurd e (chk_ne h2)) id,rfl,hf,h1,h2⟩
theorem cells_sm {T:BT}:∀ {c:aE} {d:Nat},SmC d c→T.nz→(∀ p∈T.pls,BPl 6 p)→T.chk c=true→∀ e∈T.cells c,SmC (d+T.ht) e:=by
 induction T with
 | lf b=>intro c d hc _ _ _ e he;cases b<;>simp[cells]at he;subst he;exact hc
 | nd k p l r hl hr =>
  intro c d hc hn hp h e he
  obtain⟨c1,c2,e1,e2,h1,h2⟩:=b2i hc.toCellOK hn h
  have hs:=wY hc (hp p (by simp[pls]))
  rw[e1,e2]at hs
  have s1:=hs.1.elim (fun q=>absurd q (chk_ne h1)) id
  have s2:=hs.2.elim (fun q=>absurd q (chk_ne h2)) id
  simp only[cells,Ai,e1,e2]at he
  have key:∀ j,j≤max l.ht r.ht→SmC (d+1+j) e→SmC (d+(nd k p l r).ht) e:=fun j hj q=>⟨q.toCellOK,by have:=q.n;simp only[ht];omega,q.p⟩
  rcases he with he|he
  ·exact key _ (Nat.le_max_left _ _) (hl s1 (u6.1 hn).2.1 (fun q hq=>hp q (by simp[pls,hq])) h1 e he)
  ·exact key _ (Nat.le_max_right _ _) (hr s2 (u6.1 hn).2.2 (fun q hq=>hp q (by simp[pls,hq])) h2 e he)
def vols (l:List aE):Rat:=l.foldr (fun c s=>dM c+s) 0
theorem vols_app (l m:List aE):vols (l++m)=vols l+vols m:=by
 unfold vols
 induction l with
 | nil=>simp only[List.nil_append,List.foldr_nil];grind
 | cons c l ih=>simp only[List.cons_append,List.foldr_cons];rw[ih];grind
theorem cells_vol {T:BT}:∀ {c:aE},CellOK c→T.nz→T.chk c=true→vols (T.cells c)+vols (T.turn.cells c)=dM c:=by
 induction T with
 | lf b=>intro c hc _ _;cases b<;>simp[cells,turn,vols]<;>grind
 | nd k p l r hl hr =>
  intro c hc hn h
  obtain⟨c1,c2,e1,e2,h1,h2⟩:=b2i hc hn h
  have i1:=hl c1 (u6.1 hn).2.1 h1
  have i2:=hr c2 (u6.1 hn).2.2 h2
  have hv:=b6s (b:=p) hc
  rw[e1,e2]at hv
  simp only[cells,turn,e1,e2,vols_app]
  grind
end BT
def rZ (x:Pt):Int:=if 1000*x.w<x.x.natAbs∨1000*x.w<x.y.natAbs∨1000*x.w<x.z.natAbs then -1 else if x.x.natAbs=1000*x.w∨x.y.natAbs=1000*x.w∨x.z.natAbs=1000*x.w then 0 else 1
end Go.Sx
