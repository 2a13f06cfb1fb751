import Derived.Test.YtjlfgmhmalbiiaaGreatDoorV26
set_option linter.all false
set_option maxHeartbeats 40000000
namespace Go.Proofs.Vx
open Go Go.Sx Go.Proofs Tryz
attribute [local irreducible] fnT CallOK CallFr AW aO callV aP aN aM aQ gcaseP hid
theorem b5c:arT prog 139=none∧arT prog 142=some (2,1,false)∧arT prog 143=some (4,2,true)∧plT prog 142=some [(0,1),(1,1)]∧plT prog 143=some [(0,2),(2,2),(4,2),(6,2)]∧slT prog 139=some (2,1)∧slT prog 140=none∧slT prog 141=none∧slT prog 142=none∧bM prog 139=false∧bM prog 143=false∧szT prog 142=some 2∧szT prog 2=some 1∧zeT prog 141=some [.lit (.int .i64 0),.lit (.int .i64 0),.lit (.int .i64 0),.lit (.int .i64 0),.lit (.int .i64 0),.lit (.int .i64 0),.lit (.int .i64 0),.lit (.int .i64 0),.lit (.int .i64 0),.lit (.int .i64 0),.lit (.int .i64 0),.lit (.int .i64 0)]∧zeT prog 142=some [.lit (.int .i64 0),.lit (.int .i64 0)]∧zeT prog 143=some [.lit (.int .i64 0),.lit (.int .i64 0),.lit (.int .i64 0),.lit (.int .i64 0),.lit (.int .i64 0),.lit (.int .i64 0),.lit (.int .i64 0),.lit (.int .i64 0)]∧zeT prog 2=some [.lit (.int .i64 0)]:=by and_intros<;>kernel_rfl
attribute [go_sem] b5c
theorem yE:fnT prog 121=true:=by kernel_rfl
theorem pA:fnT prog 122=true:=by kernel_rfl
set_option maxRecDepth 20000 in
theorem c57:CallOK prog 57 [] [] (.agg [.sl (eS aX)]) []:=by
 refine fN func57 rfl 77 rfl rfl (by simp -dsimp (disch:=try exact zo)only[go_sem,aG]) [.cell 0 33] (congrArg Array.toList results57) ?_
 simp only[aD,Nat.reduceAdd]
 have hml:maxLen=9223372036854775807:=rfl
 repeat'(first|refine zg ?_|(refine zc ?_ ?_<;>intro hc<;>try simp only[NM]at hc)|refine zr ?_|(first|refine zf (c67 1000 (by decide)) ?_|refine zf (c67 (-1) (by decide)) ?_|refine zf (c67 1 (by decide)) ?_)|refine⟨by omega,?_⟩|(refine zb ?_ ?_<;>intro hg<;>(try rw[hg])<;>try simp only[NM]at hg)|omega|simp -dsimp (disch:=try exact zo)only[go_sem]|contradiction|rfl)
 refine AW.weak (jK 9 0 9 _ (by decide) rfl (by simp) rfl (by simp)) ?_
 have hwl:eS (List.take 6 aX)=eS aX:=rfl
 have hz:eS (aX.take 0)=[]:=rfl
 refine AW.loop (fun z:{i:Nat // i≤3}=>⟨[(11,.lit (.int .i64 z.1)),(2,.loc 11 0),(1,.loc 9 0),(0,.loc 8 0)],[(11,.blk (eZ 1000)),(9,.blk [.ref 14 0 (2*z.1) (2*z.1)]),(14,.vec 9 (eS (aX.take (2*z.1)))),(8,.blk [.lit (.slice none 0 0)])],30⟩) (fun z=>3 - z.1) ⟨0,Nat.zero_le _⟩ (aH (by refine⟨?_,?_,?_,?_⟩<;>simp -dsimp (disch:=try exact zo)only[go_sem,Nat.mul_zero,hz,ZC])) ?_
 rintro⟨i,hi⟩
 dsimp only
 rcases (show i=0∨i=1∨i=2∨i=3 by omega)with rfl|rfl|rfl|rfl
 ·have hE:eS (List.take 2 aX)=eS (List.take 0 aX)++[eG ⟨-1,0,0,1000⟩ [wpt (-1) (-1) (1),wpt (-1) (1) (1),wpt (-1) (1) (-1),wpt (-1) (-1) (-1)]]++[eG ⟨1,0,0,1000⟩ [wpt (1) (-1) (-1),wpt (1) (1) (-1),wpt (1) (1) (1),wpt (1) (-1) (1)]]:=rfl
  have hlE:(eS (List.take 0 aX)).length=0:=rfl
  have he0:AV.agg [.lit (.bool (Zn (-1))),.lit (.string (Zm (-1))),.lit (.bool false),.lit (.string ⟨#[]⟩),.lit (.bool false),.lit (.string ⟨#[]⟩),.lit (.bool (Zn (1000))),.lit (.string (Zm (1000)))]=.agg (eH ⟨-1,0,0,1000⟩):=by simp only[eH,e4,kQ,eD]
  have w0:=rB ⟨-1,0,0,1000⟩ (-1) (-1) (1) (-1) (1) (1) (-1) (1) (-1) (-1) (-1) (-1) (by decide) (by decide) (by decide) (by decide) (by decide) (by decide) (by decide) (by decide) (by decide) (by decide) (by decide) (by decide)
  have he1:AV.agg [.lit (.bool (Zn (1))),.lit (.string (Zm (1))),.lit (.bool false),.lit (.string ⟨#[]⟩),.lit (.bool false),.lit (.string ⟨#[]⟩),.lit (.bool (Zn (1000))),.lit (.string (Zm (1000)))]=.agg (eH ⟨1,0,0,1000⟩):=by simp only[eH,e4,kQ,eD]
  have w1:=rB ⟨1,0,0,1000⟩ (1) (-1) (-1) (1) (1) (-1) (1) (1) (1) (1) (-1) (1) (by decide) (by decide) (by decide) (by decide) (by decide) (by decide) (by decide) (by decide) (by decide) (by decide) (by decide) (by decide)
  simp only[Nat.reduceMul]
  generalize eS (List.take 0 aX)=E at *
  repeat'(first|refine zg ?_|refine bQ 6 ?_|(refine zc ?_ ?_<;>intro hc<;>first|simp only[NM]at hc|omega|skip)|refine zr ?_|(first|refine zf (c67 1000 (by decide)) ?_|refine zf (c67 (-1) (by decide)) ?_|refine zf (c67 1 (by decide)) ?_)|(refine lR _ _ _ _ yE (oM (c121 _ _ _ _ _ _ _ _ _ _ _ _) (by simp -dsimp (disch:=try exact zo)only[go_sem]) (by simp -dsimp (disch:=try exact zo)only[go_sem]) (.tup _ (by simp)) (by simp[jE]) _) rfl (by simp[wK]) (by simp -dsimp (disch:=try exact zo)only[go_sem]) (by simp -dsimp (disch:=try exact zo)only[go_sem]) (.tup _ (by simp)) rfl ?_)|(first|refine fQ _ pA (by simp -dsimp (disch:=try exact zo)only[go_sem];rw[he0];exact w0) (by simp -dsimp (disch:=try exact zo)only[go_sem]) (gG _ _).in ?_|refine fQ _ pA (by simp -dsimp (disch:=try exact zo)only[go_sem];rw[he1];exact w1) (by simp -dsimp (disch:=try exact zo)only[go_sem]) (gG _ _).in ?_)|refine⟨by omega,?_⟩|(refine zb ?_ ?_<;>intro hg<;>(try rw[hg])<;>try simp only[NM]at hg)|omega|simp -dsimp (disch:=try exact zo)only[go_sem,Int.cast_ofNat_Int,hlE,Int.reduceMod,Int.reduceTMod]|rfl)
  all_goals exact AW.stop ⟨⟨1,by omega⟩,(mC (by simp -dsimp (disch:=try exact zo)only[go_sem,Int.cast_ofNat_Int]) (by simp -dsimp (disch:=try exact zo)only[go_sem,hE,Int.cast_ofNat_Int];try rfl) (by decide) (by simp -dsimp (disch:=try exact zo)only[go_sem,Int.cast_ofNat_Int]) (by simp -dsimp (disch:=try exact zo)only[go_sem,aG,Int.cast_ofNat_Int])),by dsimp only;omega⟩
 ·have hE:eS (List.take 4 aX)=eS (List.take 2 aX)++[eG ⟨0,-1,0,1000⟩ [wpt (1) (-1) (-1),wpt (1) (-1) (1),wpt (-1) (-1) (1),wpt (-1) (-1) (-1)]]++[eG ⟨0,1,0,1000⟩ [wpt (-1) (1) (-1),wpt (-1) (1) (1),wpt (1) (1) (1),wpt (1) (1) (-1)]]:=rfl
  have hlE:(eS (List.take 2 aX)).length=2:=rfl
  have he0:AV.agg [.lit (.bool false),.lit (.string ⟨#[]⟩),.lit (.bool (Zn (-1))),.lit (.string (Zm (-1))),.lit (.bool false),.lit (.string ⟨#[]⟩),.lit (.bool (Zn (1000))),.lit (.string (Zm (1000)))]=.agg (eH ⟨0,-1,0,1000⟩):=by simp only[eH,e4,kQ,eD]
  have w0:=rB ⟨0,-1,0,1000⟩ (1) (-1) (-1) (1) (-1) (1) (-1) (-1) (1) (-1) (-1) (-1) (by decide) (by decide) (by decide) (by decide) (by decide) (by decide) (by decide) (by decide) (by decide) (by decide) (by decide) (by decide)
  have he1:AV.agg [.lit (.bool false),.lit (.string ⟨#[]⟩),.lit (.bool (Zn (1))),.lit (.string (Zm (1))),.lit (.bool false),.lit (.string ⟨#[]⟩),.lit (.bool (Zn (1000))),.lit (.string (Zm (1000)))]=.agg (eH ⟨0,1,0,1000⟩):=by simp only[eH,e4,kQ,eD]
  have w1:=rB ⟨0,1,0,1000⟩ (-1) (1) (-1) (-1) (1) (1) (1) (1) (1) (1) (1) (-1) (by decide) (by decide) (by decide) (by decide) (by decide) (by decide) (by decide) (by decide) (by decide) (by decide) (by decide) (by decide)
  simp only[Nat.reduceMul]
  generalize eS (List.take 2 aX)=E at *
  repeat'(first|refine zg ?_|refine bQ 6 ?_|(refine zc ?_ ?_<;>intro hc<;>first|simp only[NM]at hc|omega|skip)|refine zr ?_|(first|refine zf (c67 1000 (by decide)) ?_|refine zf (c67 (-1) (by decide)) ?_|refine zf (c67 1 (by decide)) ?_)|(refine lR _ _ _ _ yE (oM (c121 _ _ _ _ _ _ _ _ _ _ _ _) (by simp -dsimp (disch:=try exact zo)only[go_sem]) (by simp -dsimp (disch:=try exact zo)only[go_sem]) (.tup _ (by simp)) (by simp[jE]) _) rfl (by simp[wK]) (by simp -dsimp (disch:=try exact zo)only[go_sem]) (by simp -dsimp (disch:=try exact zo)only[go_sem]) (.tup _ (by simp)) rfl ?_)|(first|refine fQ _ pA (by simp -dsimp (disch:=try exact zo)only[go_sem];rw[he0];exact w0) (by simp -dsimp (disch:=try exact zo)only[go_sem]) (gG _ _).in ?_|refine fQ _ pA (by simp -dsimp (disch:=try exact zo)only[go_sem];rw[he1];exact w1) (by simp -dsimp (disch:=try exact zo)only[go_sem]) (gG _ _).in ?_)|refine⟨by omega,?_⟩|(refine zb ?_ ?_<;>intro hg<;>(try rw[hg])<;>try simp only[NM]at hg)|omega|simp -dsimp (disch:=try exact zo)only[go_sem,Int.cast_ofNat_Int,hlE,Int.reduceMod,Int.reduceTMod]|rfl)
  all_goals exact AW.stop ⟨⟨2,by omega⟩,(mC (by simp -dsimp (disch:=try exact zo)only[go_sem,Int.cast_ofNat_Int]) (by simp -dsimp (disch:=try exact zo)only[go_sem,hE,Int.cast_ofNat_Int];try rfl) (by decide) (by simp -dsimp (disch:=try exact zo)only[go_sem,Int.cast_ofNat_Int]) (by simp -dsimp (disch:=try exact zo)only[go_sem,aG,Int.cast_ofNat_Int])),by dsimp only;omega⟩
 ·have hE:eS (List.take 6 aX)=eS (List.take 4 aX)++[eG ⟨0,0,-1,1000⟩ [wpt (-1) (1) (-1),wpt (1) (1) (-1),wpt (1) (-1) (-1),wpt (-1) (-1) (-1)]]++[eG ⟨0,0,1,1000⟩ [wpt (-1) (-1) (1),wpt (1) (-1) (1),wpt (1) (1) (1),wpt (-1) (1) (1)]]:=rfl
  have hlE:(eS (List.take 4 aX)).length=4:=rfl
  have he0:AV.agg [.lit (.bool false),.lit (.string ⟨#[]⟩),.lit (.bool false),.lit (.string ⟨#[]⟩),.lit (.bool (Zn (-1))),.lit (.string (Zm (-1))),.lit (.bool (Zn (1000))),.lit (.string (Zm (1000)))]=.agg (eH ⟨0,0,-1,1000⟩):=by simp only[eH,e4,kQ,eD]
  have w0:=rB ⟨0,0,-1,1000⟩ (-1) (1) (-1) (1) (1) (-1) (1) (-1) (-1) (-1) (-1) (-1) (by decide) (by decide) (by decide) (by decide) (by decide) (by decide) (by decide) (by decide) (by decide) (by decide) (by decide) (by decide)
  have he1:AV.agg [.lit (.bool false),.lit (.string ⟨#[]⟩),.lit (.bool false),.lit (.string ⟨#[]⟩),.lit (.bool (Zn (1))),.lit (.string (Zm (1))),.lit (.bool (Zn (1000))),.lit (.string (Zm (1000)))]=.agg (eH ⟨0,0,1,1000⟩):=by simp only[eH,e4,kQ,eD]
  have w1:=rB ⟨0,0,1,1000⟩ (-1) (-1) (1) (1) (-1) (1) (1) (1) (1) (-1) (1) (1) (by decide) (by decide) (by decide) (by decide) (by decide) (by decide) (by decide) (by decide) (by decide) (by decide) (by decide) (by decide)
  simp only[Nat.reduceMul]
  generalize eS (List.take 4 aX)=E at *
  repeat'(first|refine zg ?_|refine bQ 6 ?_|(refine zc ?_ ?_<;>intro hc<;>first|simp only[NM]at hc|omega|skip)|refine zr ?_|(first|refine zf (c67 1000 (by decide)) ?_|refine zf (c67 (-1) (by decide)) ?_|refine zf (c67 1 (by decide)) ?_)|(refine lR _ _ _ _ yE (oM (c121 _ _ _ _ _ _ _ _ _ _ _ _) (by simp -dsimp (disch:=try exact zo)only[go_sem]) (by simp -dsimp (disch:=try exact zo)only[go_sem]) (.tup _ (by simp)) (by simp[jE]) _) rfl (by simp[wK]) (by simp -dsimp (disch:=try exact zo)only[go_sem]) (by simp -dsimp (disch:=try exact zo)only[go_sem]) (.tup _ (by simp)) rfl ?_)|(first|refine fQ _ pA (by simp -dsimp (disch:=try exact zo)only[go_sem];rw[he0];exact w0) (by simp -dsimp (disch:=try exact zo)only[go_sem]) (gG _ _).in ?_|refine fQ _ pA (by simp -dsimp (disch:=try exact zo)only[go_sem];rw[he1];exact w1) (by simp -dsimp (disch:=try exact zo)only[go_sem]) (gG _ _).in ?_)|refine⟨by omega,?_⟩|(refine zb ?_ ?_<;>intro hg<;>(try rw[hg])<;>try simp only[NM]at hg)|omega|simp -dsimp (disch:=try exact zo)only[go_sem,Int.cast_ofNat_Int,hlE,Int.reduceMod,Int.reduceTMod]|rfl)
  all_goals exact AW.stop ⟨⟨3,by omega⟩,(mC (by simp -dsimp (disch:=try exact zo)only[go_sem,Int.cast_ofNat_Int]) (by simp -dsimp (disch:=try exact zo)only[go_sem,hE,Int.cast_ofNat_Int];try rfl) (by decide) (by simp -dsimp (disch:=try exact zo)only[go_sem,Int.cast_ofNat_Int]) (by simp -dsimp (disch:=try exact zo)only[go_sem,aG,Int.cast_ofNat_Int])),by dsimp only;omega⟩
 ·repeat'(first|refine zg ?_|(refine zc ?_ ?_<;>intro hc<;>first|simp only[NM]at hc|omega|skip)|refine zr ?_|refine⟨by omega,?_⟩|(refine zb ?_ ?_<;>intro hg<;>(try rw[hg])<;>try simp only[NM]at hg)|omega|simp -dsimp (disch:=try exact zo)only[go_sem,hwl]|contradiction|rfl)
end Go.Proofs.Vx
namespace Go.Sx
set_option linter.unusedVariables false
def w8:List Int→Int
 | []=>0
 | d::t=>d+256*w8 t
def gB (xs:List Int):Prop:=∀ x∈xs,0≤x∧x<256
theorem nC (n:Nat):(256:Int) ^ (n+1)=256*256 ^ n:=by rw[Int.pow_succ,Int.mul_comm]
theorem x5 (n:Nat):((256 ^ n:Nat):Int)=(256:Int) ^ n:=Int.natCast_pow 256 n
theorem xZ (n:Nat):(0:Int)<256 ^ n:=Int.pow_pos (by decide)
theorem a1x (a b:List Int):w8 (a++b)=w8 a+256 ^ a.length*w8 b:=by
 induction a with
 | nil=>simp[w8]
 | cons x a ih =>
  simp only[List.cons_append,w8,ih,List.length_cons,nC,Int.mul_add,Int.mul_assoc]
  omega
theorem a6o (n:Nat):w8 (List.replicate n 0)=0:=by
 induction n with
 | zero=>rfl
 | succ n ih=>simp[List.replicate_succ,w8,ih]
theorem a6n {xs:List Int} {i:Nat} (h:i<xs.length) (d:Int):w8 (xs.set i d)=w8 xs+(d - xs.getD i 0)*256 ^ i:=by
 induction xs generalizing i with
 | nil=>simp at h
 | cons x xs ih =>
  cases i with
  | zero=>simp[w8];omega
  | succ i =>
   have:=ih (i:=i) (by simpa using h)
   simp only[List.set_cons_succ,w8,this,List.getD_cons_succ,nC,Int.mul_add,Int.mul_left_comm (256:Int)]
   omega
theorem a4c {xs:List Int} (h:gB xs) {i:Nat} {d:Int} (hd:0≤d∧d<256):gB (xs.set i d):=fun x hx=>by
 rcases List.mem_or_eq_of_mem_set hx with hx|rfl
 ·exact h x hx
 ·exact hd
theorem oZ {xs:List Int} (h:gB xs) {d:Int} (hd:0≤d∧d<256):gB (xs++[d]):=fun x hx=>by
 rcases List.mem_append.1 hx with hx|hx
 ·exact h x hx
 ·obtain rfl:x=d:=by simpa using hx
  exact hd
theorem a2t {xs:List Int} (h:gB xs) (i:Nat):0≤xs.getD i 0∧xs.getD i 0<256:=by
 rw[List.getD_eq_getElem?_getD]
 by_cases hi:i<xs.length
 ·rw[List.getElem?_eq_getElem hi];exact h _ (List.getElem_mem hi)
 ·rw[List.getElem?_eq_none (by omega)];decide
theorem a7u {xs:List Int} (h:gB xs):0≤w8 xs∧w8 xs<256 ^ xs.length:=by
 induction xs with
 | nil=>decide
 | cons x xs ih =>
  obtain⟨i1,i2⟩:=ih fun y hy=>h y (by simp[hy])
  have:=h x (by simp)
  simp only[w8,List.length_cons,nC]
  omega
theorem c1e {xs:List Int} (h:gB xs):(nvL (ofI xs):Int)=w8 xs:=by
 induction xs with
 | nil=>rfl
 | cons x xs ih =>
  have ih:=ih fun y hy=>h y (by simp[hy])
  have hx:=h x (by simp)
  have e:(UInt8.ofNat x.toNat).toNat=x.toNat:=by
   rw[UInt8.toNat_ofNat'];exact Nat.mod_eq_of_lt (by omega)
  simp only[ofI,List.map_cons,nvL,w8,e]at ih ⊢
  rw[← ih]
  omega
def bR (m:ByteArray) (i:Nat):Int:=((nv m % 256 ^ i:Nat):Int)
theorem uN (m:ByteArray):bR m 0=0:=by simp[bR,Nat.mod_one]
theorem oW {m:ByteArray} {i:Nat} (h:m.size≤i):bR m i=(nv m:Int):=by
 unfold bR
 rw[Nat.mod_eq_of_lt (Nat.lt_of_lt_of_le (eO m) (Nat.pow_le_pow_right (by decide) h))]
theorem oS (m:ByteArray) (i:Nat):bR m (i+1)=bR m i+bt m i*256 ^ i:=by
 unfold bR
 rw[jV]
 have h:nv m % 256 ^ (i+1)=nv m % 256 ^ i+256 ^ i*(nv m / 256 ^ i % 256):=by rw[Nat.pow_succ,Nat.mod_mul]
 rw[h,Int.natCast_add,Int.natCast_mul,x5,Int.mul_comm ((256:Int) ^ i)]
theorem a5l (m:ByteArray) (i:Nat):0≤bR m i∧bR m i<256 ^ i:=by
 unfold bR
 have h:=Nat.mod_lt (nv m) (Nat.pow_pos (n:=i) (show 0<256 by decide))
 have h2:=x5 i
 omega
theorem b0a (m:ByteArray) (i:Nat):0≤bR m i:=(a5l m i).1
theorem zO {m:ByteArray} {i:Nat} (h:m.size≤i):bt m i=0:=by
 unfold bt
 have:m.data.getD i 0=0:=by
  simp only[Array.getD_eq_getD_getElem?]
  rw[Array.getElem?_eq_none (by exact h)];rfl
 rw[this];rfl
def cE (m:ByteArray) (i:Nat):Nat:=nv m / 256 ^ i
theorem a1m (m:ByteArray):cE m 0=nv m:=by simp[cE]
theorem a2p {m:ByteArray} {i:Nat} (h:m.size≤i):cE m i=0:=Nat.div_eq_of_lt (Nat.lt_of_lt_of_le (eO m) (Nat.pow_le_pow_right (by decide) h))
theorem b1j (m:ByteArray) (i:Nat):cE m i=(bt m i).toNat+256*cE m (i+1):=by
 unfold cE
 rw[jV,Int.toNat_natCast,Nat.pow_succ,← Nat.div_div_eq_div_mul]
 omega
end Go.Sx
namespace Go.Sx
set_option linter.unusedVariables false
theorem a7o {m:ByteArray} {n i:Nat} (hn:n≤m.size) (hi:i<n):bt (m.extract 0 n) i=bt m i:=by
 unfold bt
 have h1:i<m.data.size:=Nat.lt_of_lt_of_le hi hn
 have h2:i<(m.extract 0 n).data.size:=by rw[ByteArray.data_extract,Array.size_extract];omega
 rw[Array.getD_eq_getD_getElem?,Array.getD_eq_getD_getElem?,Array.getElem?_eq_getElem h1,Array.getElem?_eq_getElem h2]
 simp[ByteArray.data_extract]
theorem c2c (m:ByteArray) (n k:Nat) (h:k≤n):(m.extract 0 n).extract 0 k=m.extract 0 k:=by
 apply ByteArray.ext
 simp only[ByteArray.data_extract,Array.extract_extract]
 congr 1
 omega
theorem a3z {m:ByteArray} {n:Nat} (h:n≤m.size):(m.extract 0 n).size=n:=by rw[ByteArray.size_extract];omega
theorem b8a {m:ByteArray} {n:Nat} (hn:n+1≤m.size) (hb:bt m n=0):nv (m.extract 0 n)=nv (m.extract 0 (n+1)):=by
 have h1:=a3z hn
 have:=a5c (m:=m.extract 0 (n+1)) (by omega) (by rw[h1,a7o hn (by omega)];exact hb)
 rw[h1,c2c m (n+1) _ (by omega)]at this
 exact this
theorem a7f {m:ByteArray} {n:Nat} (hn:n≤m.size) (hv:nv (m.extract 0 n)=nv m) (h:n=0∨bt m (n - 1)≠0):m.extract 0 n=nb (nv m):=by
 rw[← hv,zU]
 rw[a3z hn]
 rcases h with h|h
 ·exact .inl h
 ·by_cases h0:n=0
  ·exact .inl h0
  ·right;rw[a7o hn (by omega)];exact h
theorem c2d (m:ByteArray):m.extract 0 m.size=m:=by
 apply ByteArray.ext
 simp[ByteArray.data_extract]
end Go.Sx
namespace Go.Sx
theorem c5b {m r:ByteArray} {j:Nat} (hj:j<m.size):nv (m.extract j (j+1)++r)=(bt m j).toNat+256*nv r:=by
 have h1:(m.extract j (j+1)++r).data.toList=(m.extract j (j+1)).data.toList++r.data.toList:=by simp
 have h2:(m.extract j (j+1)).data.toList=[m.data.toList[j]'(by simpa using hj)]:=by
  rw[ByteArray.data_extract,Array.toList_extract,List.extract_eq_take_drop]
  have:j<m.data.toList.length:=by simpa using hj
  rw[List.drop_eq_getElem_cons this,show j+1 - j=1 by omega]
  rfl
 have h3:=vV m j (by simpa using hj)
 unfold nv
 rw[h1,h2,h3]
 simp[nvL]
theorem b8y {m r:ByteArray} {j:Nat} (hj:j<m.size):(m.extract j (j+1)++r).size=r.size+1:=by
 rw[ByteArray.size_append,ByteArray.size_extract];omega
end Go.Sx
namespace Go.Proofs.Vx
open Go Go.Sx Go.Proofs Tryz
attribute [local irreducible] fnT CallOK CallFr AW aO callV aP aN aM aQ gcaseP hid
theorem gM (m:ByteArray) (hm:m.size<4611686018427387904):CallOK prog 153 [.lit (.string m)] [] (.lit (.string (nb (nv m)))) []:=by
 refine zs func153 20 [.tmp 2] results153 ?_
 simp only[aD,Nat.reduceAdd]
 repeat'(first|refine zg ?_|(refine zc ?_ ?_<;>intro hc<;>try simp only[NM]at hc)|refine zr ?_|refine⟨by omega,?_⟩|(refine zb ?_ ?_<;>intro hg<;>(try rw[hg])<;>try simp only[NM]at hg)|omega|simp -dsimp (disch:=try exact zo)only[go_sem]|contradiction|rfl)
 refine AW.loop (fun z:{n:Nat // n≤m.size∧nv (m.extract 0 n)=nv m}=>⟨[(3,.lit (.int .i64 z.1)),(0,.lit (.string m))],[],20⟩) (fun z=>z.1) ⟨m.size,Nat.le_refl _,by rw[c2d]⟩ (aH (by refine⟨?_,?_,?_,?_⟩<;>simp -dsimp (disch:=try exact zo)only[go_sem,ZC])) ?_
 rintro⟨n,hn,hv⟩
 dsimp only
 cases n with
 | zero =>
  have hr:=a7f hn hv (.inl rfl)
  repeat'(first|refine zg ?_|(refine zc ?_ ?_<;>intro hc<;>first|simp only[NM]at hc|omega|skip)|refine zr ?_|refine⟨by omega,?_⟩|(refine zb ?_ ?_<;>intro hg<;>(try rw[hg])<;>try simp only[NM]at hg)|omega|simp -dsimp (disch:=try exact zo)only[go_sem,ZT,hr,Int.ofNat_zero,Int.cast_ofNat_Int,Int.natCast_zero]|contradiction|rfl)
 | succ n =>
  have e:((n+1:Nat):Int) - 1=(n:Int):=by omega
  by_cases q:bt m n=0
  ·have k1:=eq_true q
   have hc2:=b8a hn q
   have hr:True:=trivial
   repeat'(first|refine zg ?_|(refine zc ?_ ?_<;>intro hc<;>first|simp only[NM]at hc|omega|skip)|refine zr ?_|refine⟨by omega,?_⟩|(refine zb ?_ ?_<;>intro hg<;>(try rw[hg])<;>try simp only[NM]at hg)|omega|simp -dsimp (disch:=try exact zo)only[go_sem,e,ZT,k1,hr]|contradiction|rfl)
   all_goals exact AW.stop ⟨⟨n,by omega,hc2.trans hv⟩,(aH (by refine⟨?_,?_,?_,?_⟩<;>simp -dsimp (disch:=try exact zo)only[go_sem,e,ZC])),by dsimp only;omega⟩
  ·have k1:=eq_false q
   have hr:=a7f hn hv (.inr q)
   repeat'(first|refine zg ?_|(refine zc ?_ ?_<;>intro hc<;>first|simp only[NM]at hc|omega|skip)|refine zr ?_|refine⟨by omega,?_⟩|(refine zb ?_ ?_<;>intro hg<;>(try rw[hg])<;>try simp only[NM]at hg)|omega|simp -dsimp (disch:=try exact zo)only[go_sem,e,ZT,k1,hr]|contradiction|rfl)
theorem iZ (m:ByteArray) (i:Nat) (hm:m.size<4611686018427387904):CallOK prog 217 [.lit (.string m),.lit (.int .i64 i)] [] (.lit (.int .i64 (bt m i))) []:=by
 refine zs func217 13 [.tmp 4] results217 ?_
 simp only[aD,Nat.reduceAdd]
 by_cases hi:i<m.size
 ·repeat'(first|refine zg ?_|(refine zc ?_ ?_<;>intro hc<;>first|simp only[NM]at hc|omega|skip)|refine zr ?_|refine⟨by omega,?_⟩|(refine zb ?_ ?_<;>intro hg<;>(try rw[hg])<;>try simp only[NM]at hg)|omega|simp -dsimp (disch:=try exact zo)only[go_sem,ZT,a1w]|contradiction|rfl)
 ·have hr:=zO (m:=m) (i:=i) (by omega)
  rw[hr]
  repeat'(first|refine zg ?_|(refine zc ?_ ?_<;>intro hc<;>first|simp only[NM]at hc|omega|skip)|refine zr ?_|refine⟨by omega,?_⟩|(refine zb ?_ ?_<;>intro hg<;>(try rw[hg])<;>try simp only[NM]at hg)|omega|simp -dsimp (disch:=try exact zo)only[go_sem]|contradiction|rfl)
theorem c207 (a b:ByteArray) (ha:a.size<1099511627776) (hb:b.size<1099511627776):CallOK prog 207 [.lit (.string a),.lit (.string b)] [] (.lit (.int .i64 (bT (nv a) (nv b)))) []:=by
 refine zs func207 43 [.tmp 4] results207 ?_
 simp only[aD,Nat.reduceAdd]
 have hc0:=dF a
 have hd0:=dF b
 have hcn:nv (nb (nv a))=nv a:=aZ _
 have hdn:nv (nb (nv b))=nv b:=aZ _
 have hlt1:(nb (nv a)).size<(nb (nv b)).size→nv a<nv b:=uE
 have hlt2:(nb (nv b)).size<(nb (nv a)).size→nv b<nv a:=uE
 have ca:=gM a (by omega)
 have cb:=gM b (by omega)
 generalize hcc:nb (nv a)=c at *
 generalize hdd:nb (nv b)=d at *
 rw[← hcn,← hdn]
 clear hcc hdd
 by_cases q1:c.size<d.size
 ·have:bT (nv c) (nv d)=-1:=by unfold bT;rw[if_pos (by rw[hcn,hdn];exact hlt1 q1)]
  rw[this]
  repeat'(first|refine zg ?_|(refine zc ?_ ?_<;>intro hc<;>first|simp only[NM]at hc|omega|skip)|refine zr ?_|(first|refine zf ca ?_|refine zf cb ?_)|refine⟨by omega,?_⟩|(refine zb ?_ ?_<;>intro hg<;>(try rw[hg])<;>try simp only[NM]at hg)|omega|simp -dsimp (disch:=try exact zo)only[go_sem]|contradiction|rfl)
 ·by_cases q2:d.size<c.size
  ·have:bT (nv c) (nv d)=1:=by have:=hlt2 q2;unfold bT;rw[if_neg (by omega),if_neg (by omega)]
   rw[this]
   repeat'(first|refine zg ?_|(refine zc ?_ ?_<;>intro hc<;>first|simp only[NM]at hc|omega|skip)|refine zr ?_|(first|refine zf ca ?_|refine zf cb ?_)|refine⟨by omega,?_⟩|(refine zb ?_ ?_<;>intro hg<;>(try rw[hg])<;>try simp only[NM]at hg)|omega|simp -dsimp (disch:=try exact zo)only[go_sem]|contradiction|rfl)
  ·have hsz:d.size=c.size:=by omega
   clear hlt1 hlt2 hcn hdn
   repeat'(first|refine zg ?_|(refine zc ?_ ?_<;>intro hc<;>first|simp only[NM]at hc|omega|skip)|refine zr ?_|(first|refine zf ca ?_|refine zf cb ?_)|refine⟨by omega,?_⟩|(refine zb ?_ ?_<;>intro hg<;>(try rw[hg])<;>try simp only[NM]at hg)|omega|simp -dsimp (disch:=try exact zo)only[go_sem]|contradiction|rfl)
   refine AW.loop (fun z:{i:Nat // i≤c.size∧nv c / 256 ^ (c.size - i)=nv d / 256 ^ (c.size - i)}=>⟨[(7,.lit (.int .i64 ((c.size:Int) - 1 - z.1))),(5,.lit (.string c)),(6,.lit (.string d))],[],30⟩) (fun z=>c.size - z.1) ⟨0,Nat.zero_le _,by
    have h1:=eO c
    have h2:=eO d
    rw[hsz]at h2
    rw[Nat.sub_zero,Nat.div_eq_of_lt h1,Nat.div_eq_of_lt h2]⟩ (aH (by refine⟨?_,?_,?_,?_⟩<;>simp -dsimp (disch:=try exact zo)only[go_sem,Int.sub_zero,Int.natCast_zero,Int.ofNat_zero,Int.cast_ofNat_Int,Int.natCast_add])) ?_
   rintro⟨i,hi,hq⟩
   dsimp only
   by_cases hil:i<c.size
   ·have ek:((c.size:Int) - 1 - i).toNat=c.size - 1 - i:=by omega
    have hq1:nv c / 256 ^ (c.size - 1 - i+1)=nv d / 256 ^ (c.size - 1 - i+1):=by rwa [show c.size - 1 - i+1=c.size - i by omega]
    have b1:=jV c (c.size - 1 - i)
    have b2:=jV d (c.size - 1 - i)
    by_cases w1:bt c (c.size - 1 - i)<bt d (c.size - 1 - i)
    ·have hr:bT (nv c) (nv d)=-1:=by unfold bT;rw[if_pos ((pJ hq1).1 (by omega))]
     have k1:=eq_true w1
     have k2:True:=trivial
     rw[hr]
     clear hq hq1 b1 b2
     repeat'(first|refine zg ?_|(refine zc ?_ ?_<;>intro hc<;>first|simp only[NM]at hc|omega|skip)|refine zr ?_|refine⟨by omega,?_⟩|(refine zb ?_ ?_<;>intro hg<;>(try rw[hg])<;>try simp only[NM]at hg)|omega|simp -dsimp (disch:=try exact zo)only[go_sem,ek,k1,k2]|contradiction|rfl)
    ·by_cases w2:bt d (c.size - 1 - i)<bt c (c.size - 1 - i)
     ·have hr:bT (nv c) (nv d)=1:=by
       have:=(pJ hq1.symm).1 (by omega)
       unfold bT;rw[if_neg (by omega),if_neg (by omega)]
      have k1:=eq_false w1
      have k2:=eq_true w2
      rw[hr]
      clear hq hq1 b1 b2
      repeat'(first|refine zg ?_|(refine zc ?_ ?_<;>intro hc<;>first|simp only[NM]at hc|omega|skip)|refine zr ?_|refine⟨by omega,?_⟩|(refine zb ?_ ?_<;>intro hg<;>(try rw[hg])<;>try simp only[NM]at hg)|omega|simp -dsimp (disch:=try exact zo)only[go_sem,ek,k1,k2]|contradiction|rfl)
     ·have k1:=eq_false w1
      have k2:=eq_false w2
      have hn:nv c / 256 ^ (c.size - (i+1))=nv d / 256 ^ (c.size - (i+1)):=by
       rw[show c.size - (i+1)=c.size - 1 - i by omega]
       exact (pJ hq1).2 (by omega)
      have hsb:(c.size:Int) - 1 - ((i:Int)+1)=(c.size:Int) - 1 - i - 1:=by omega
      clear hq hq1 b1 b2
      repeat'(first|refine zg ?_|(refine zc ?_ ?_<;>intro hc<;>first|simp only[NM]at hc|omega|skip)|refine zr ?_|refine⟨by omega,?_⟩|(refine zb ?_ ?_<;>intro hg<;>(try rw[hg])<;>try simp only[NM]at hg)|omega|simp -dsimp (disch:=try exact zo)only[go_sem,ek,k1,k2]|contradiction|rfl)
      all_goals exact AW.stop ⟨⟨i+1,by omega,hn⟩,(mC (by simp -dsimp (disch:=try exact zo)only[go_sem,ZC,hsb]) (by simp -dsimp (disch:=try exact zo)only[go_sem,ZC]) (by decide) (by simp -dsimp (disch:=try exact zo)only[go_sem,ZC]) (by simp -dsimp (disch:=try exact zo)only[go_sem,ZC])),by dsimp only;omega⟩
   ·have e:c.size - i=0:=by omega
    rw[e]at hq
    simp only[Nat.pow_zero,Nat.div_one]at hq
    have hr:bT (nv c) (nv d)=0:=by unfold bT;rw[hq,if_neg (by omega),if_pos rfl]
    rw[hr]
    repeat'(first|refine zg ?_|(refine zc ?_ ?_<;>intro hc<;>first|simp only[NM]at hc|omega|skip)|refine zr ?_|refine⟨by omega,?_⟩|(refine zb ?_ ?_<;>intro hg<;>(try rw[hg])<;>try simp only[NM]at hg)|omega|simp -dsimp (disch:=try exact zo)only[go_sem]|contradiction|rfl)
end Go.Proofs.Vx
namespace Go.Proofs.Vx
open Go Go.Sx Go.Proofs Tryz
attribute [local irreducible] fnT CallOK CallFr AW aO callV aP aN aM aQ gcaseP hid
theorem sQ (X:List Int) (h:gB X):(nv ⟨(ofI X).toArray⟩:Int)=w8 X:=by
 have:nv ⟨(ofI X).toArray⟩=nvL (ofI X):=by unfold nv;simp
 rw[this,c1e h]
theorem r6 (X:List Int):(⟨(ofI X).toArray⟩:ByteArray).size=X.length:=by simp[ByteArray.size,ofI]
theorem c175 (a b:ByteArray) (ha:a.size<1099511627776) (hb:b.size<1099511627776) (hle:nv b≤nv a):CallOK prog 175 [.lit (.string a),.lit (.string b)] [] (.tup [.lit (.string (nb (nv a - nv b))),.lit (.bool true)]) []:=by
 refine zs func175 42 [.tmp 4,.tmp 5] results175 ?_
 simp only[aD,Nat.reduceAdd]
 have hml:maxLen=9223372036854775807:=rfl
 have c207x:=c207 a b ha hb
 have hi0:aJ .u8 []=[]:=rfl
 have hc0:0≤bT (nv a) (nv b):=by unfold bT;rw[if_neg (by omega)];split<;>omega
 generalize bT (nv a) (nv b)=cm at *
 have k0:(cm<0)=False:=eq_false (by omega)
 repeat'(first|refine zg ?_|(refine zc ?_ ?_<;>intro hc<;>first|simp only[NM]at hc|omega|skip)|refine zr ?_|(refine zf c207x ?_)|refine⟨by omega,?_⟩|(refine zb ?_ ?_<;>intro hg<;>(try rw[hg])<;>try simp only[NM]at hg)|omega|simp -dsimp (disch:=try exact zo)only[go_sem,k0]|contradiction|rfl)
 refine AW.loop (fun z:{p:Nat × List Int × Int // p.1≤a.size∧gB p.2.1∧p.2.1.length=p.1∧(p.2.2=0∨p.2.2=1)∧w8 p.2.1=bR a p.1 - bR b p.1+p.2.2*256 ^ p.1}=>⟨[(8,.lit (.int .i64 z.1.1)),(7,.lit (.int .i64 z.1.2.2)),(6,.ref 14 0 z.1.1 z.1.1),(0,.lit (.string a)),(1,.lit (.string b))],[(14,.vec 1 (aJ .u8 z.1.2.1))],40⟩) (fun z=>a.size - z.1.1) ⟨(0,[],0),Nat.zero_le _,fun x hx=>by simp at hx,rfl,.inl rfl,by simp[w8,uN]⟩ (aH (by refine⟨?_,?_,?_,?_⟩<;>simp -dsimp (disch:=try exact zo)only[go_sem,aU,hi0,ZC])) ?_
 rintro⟨⟨i,X,c⟩,hi,dX,hX,hc1,hv⟩
 dsimp only at hi dX hX hc1 hv ⊢
 clear k0 c207x hc0
 by_cases hlt:i<a.size
 ·have b1:=i9 a i
  have b2:=i9 b i
  have e1:=oS a i
  have e2:=oS b i
  have key:∀ d c':Int,d=bt a i - bt b i - c+256*c'→w8 (X++[d])=bR a (i+1) - bR b (i+1)+c'*256 ^ (i+1):=by
   intro d c' hd
   rw[a1x,hX,hv,e1,e2,hd,nC]
   simp only[w8]
   grind
  have hXl:(X++[0]).length=i+1:=by simp[hX]
  by_cases q:bt a i - bt b i - c<0
  ·have k1:=eq_true q
   have hd:0≤bt a i - bt b i - c+256∧bt a i - bt b i - c+256<256:=by omega
   have wd:IntKind.u8.wrap (bt a i - bt b i - c+256)=bt a i - bt b i - c+256:=jT hd.1 hd.2
   have key1:=key (bt a i - bt b i - c+256) 1 (by omega)
   have dX1:=oZ dX hd
   clear key e1 e2 hv
   repeat'(first|refine zg ?_|(refine zc ?_ ?_<;>intro hc<;>first|simp only[NM]at hc|omega|skip)|refine zr ?_|(first|refine zf (iZ a i (by omega)) ?_|refine zf (iZ b i (by omega)) ?_)|refine⟨by omega,?_⟩|(refine zb ?_ ?_<;>intro hg<;>(try rw[hg])<;>try simp only[NM]at hg)|omega|simp -dsimp (disch:=try exact zo)only[go_sem,k1,wd,ZT,b5,gE,hX]|contradiction|rfl)
   all_goals exact AW.stop ⟨⟨(i+1,X++[bt a i - bt b i - c+256],1),by dsimp only;omega,dX1,by simp[hX],.inr rfl,key1⟩,(aH (by refine⟨?_,?_,?_,?_⟩<;>first|(simp -dsimp (disch:=try exact zo)only[go_sem,ZC,hXl,gE];done)|(simp -dsimp (disch:=try exact zo)only[go_sem,aU,ZC];done))),by dsimp only;omega⟩
  ·have k1:=eq_false q
   have hd:0≤bt a i - bt b i - c∧bt a i - bt b i - c<256:=by omega
   have wd:IntKind.u8.wrap (bt a i - bt b i - c)=bt a i - bt b i - c:=jT hd.1 hd.2
   have key1:=key (bt a i - bt b i - c) 0 (by omega)
   have dX1:=oZ dX hd
   clear key e1 e2 hv
   repeat'(first|refine zg ?_|(refine zc ?_ ?_<;>intro hc<;>first|simp only[NM]at hc|omega|skip)|refine zr ?_|(first|refine zf (iZ a i (by omega)) ?_|refine zf (iZ b i (by omega)) ?_)|refine⟨by omega,?_⟩|(refine zb ?_ ?_<;>intro hg<;>(try rw[hg])<;>try simp only[NM]at hg)|omega|simp -dsimp (disch:=try exact zo)only[go_sem,k1,wd,ZT,b5,gE,hX]|contradiction|rfl)
   all_goals exact AW.stop ⟨⟨(i+1,X++[bt a i - bt b i - c],0),by dsimp only;omega,dX1,by simp[hX],.inl rfl,key1⟩,(aH (by refine⟨?_,?_,?_,?_⟩<;>first|(simp -dsimp (disch:=try exact zo)only[go_sem,ZC,hXl,gE];done)|(simp -dsimp (disch:=try exact zo)only[go_sem,aU,ZC];done))),by dsimp only;omega⟩
 ·have hil:i=a.size:=by omega
  subst hil
  have hfin:nb (nv ⟨(ofI X).toArray⟩)=nb (nv a - nv b):=by
   congr 1
   have h1:=sQ X dX
   have h2:=oW (m:=a) (Nat.le_refl _)
   have h3:bR b a.size=(nv b:Int):=by unfold bR;rw[Nat.mod_eq_of_lt (Nat.lt_of_le_of_lt hle (eO a))]
   have h4:=(a7u dX).2
   rw[hX]at h4
   have h5:=xZ a.size
   rcases hc1 with rfl|rfl
   ·omega
   ·omega
  clear hv
  repeat'(first|refine zg ?_|(refine zc ?_ ?_<;>intro hc<;>first|simp only[NM]at hc|omega|skip)|refine zr ?_|refine⟨by omega,?_⟩|(refine zb ?_ ?_<;>intro hg<;>(try rw[hg])<;>try simp only[NM]at hg)|omega|simp -dsimp (disch:=try exact zo)only[go_sem,hX,b5]|contradiction|rfl)
  all_goals
   refine⟨ofI X,by first|exact g6 _ dX|(rw[List.take_of_length_le (by first|omega|(rw[b5];omega))];exact g6 _ dX),?_⟩
   repeat'(first|refine zg ?_|(refine zc ?_ ?_<;>intro hc<;>first|simp only[NM]at hc|omega|skip)|refine zr ?_|(refine zf (gM _ (by rw[r6];omega)) ?_)|refine⟨by omega,?_⟩|(refine zb ?_ ?_<;>intro hg<;>(try rw[hg])<;>try simp only[NM]at hg)|omega|simp -dsimp (disch:=try exact zo)only[go_sem,hfin]|contradiction|rfl)
end Go.Proofs.Vx
