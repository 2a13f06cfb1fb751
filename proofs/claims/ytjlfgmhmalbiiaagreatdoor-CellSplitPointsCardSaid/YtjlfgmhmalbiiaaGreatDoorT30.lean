import Derived.Test.YtjlfgmhmalbiiaaGreatDoorProg
import Derived.Test.YtjlfgmhmalbiiaaGreatDoorT10
import Derived.Test.YtjlfgmhmalbiiaaGreatDoorT17
import Derived.Test.YtjlfgmhmalbiiaaGreatDoorT29
set_option linter.all false
namespace Go.Proofs.Vx
open Go Go.Sx Go.Proofs
attribute [local irreducible] fnT CallOK CallFr AW effV callV runP runO oneP oneO gcaseP hid
theorem yfn_44:fnT Tryz.prog 44=true:=by kernel_rfl
abbrev RawI:=Bool × ByteArray
abbrev eR (l:List RawI):List (List AV):=l.map fun r=>eI r.1 r.2
def gT (l:List RawI) (i:Nat):Nat:=(l.take i).foldl (fun g r=>Nat.gcd g (nv r.2)) 0
theorem gT_zero (l:List RawI):gT l 0=0:=rfl
theorem gT_succ (l:List RawI) (i:Nat) (h:i<l.length):gT l (i+1)=Nat.gcd (gT l i) (nv l[i].2):=by
 unfold gT
 rw[List.take_succ_eq_append_getElem h,List.foldl_append]
 rfl
theorem gcd_size {p q:Nat} {k:Nat} (hp:(nb p).size≤k) (hq:(nb q).size≤k):(nb (Nat.gcd p q)).size≤k:=by
 by_cases h:q=0
 ·subst h;rw[Nat.gcd_zero_right];exact hp
 ·exact Nat.le_trans (nb_mono (Nat.le_of_dvd (by omega) (Nat.gcd_dvd_right p q))) hq
theorem gT_size {l:List RawI} {k:Nat} (h:∀ r∈l,r.2.size≤k) (i:Nat) (hi:i≤l.length):(nb (gT l i)).size≤k:=by
 induction i with
 | zero=>rw[gT_zero,nb_zero_size];exact Nat.zero_le _
 | succ i ih =>
  rw[gT_succ l i hi]
  exact gcd_size (ih (by omega)) (Nat.le_trans (can_size _) (h _ (List.getElem_mem hi)))
theorem eR_in {K:Nat→Prop} (l:List RawI):(∀ e∈eR l,∀ c∈e,In K c)=True:=eq_true fun e he c hc=>by
 obtain ⟨r,_,rfl⟩:=List.mem_map.1 he
 simp only[eI,List.mem_cons,List.not_mem_nil,or_false]at hc
 rcases hc with rfl|rfl<;>exact .lit _
theorem eR_getD (l:List RawI) (i:Nat) (h:i<l.length):(eR l).getD i []=eI l[i].1 l[i].2:=by
 rw[List.getD_eq_getElem?_getD,List.getElem?_eq_getElem (by simpa using h)];simp
theorem iv_false (m:ByteArray):iv false m=(nv m:Int):=rfl
set_option maxHeartbeats 8000000 in
theorem c88 (l:List RawI) (hn:l.length≤268435456) (hs:∀ r∈l,r.2.size≤268435456):CallOK Tryz.prog 88 [.sl (eR l)] [] (.agg (eZ ((gT l l.length:Nat):Int))) []:=by
 refine CallOK.flat Tryz.func88 rfl 20 rfl rfl rfl [.cell 2 24] (congrArg Array.toList Tryz.results88) ?_
 simp only[startT,Nat.reduceAdd]
 have hml:maxLen=9223372036854775807:=rfl
 have hl:(eR l).length=l.length:=List.length_map _
 repeat' (first|refine zg ?_|(refine AW.cond rfl ?_ ?_<;>intro hc<;>first|simp only[NM]at hc|omega|skip)|refine zr ?_|refine ⟨by omega,?_⟩|(refine zb ?_ ?_<;>intro hg<;>(try rw[hg])<;>try simp only[NM]at hg)|omega|simp -dsimp (disch:=try exact zo) only[go_sem,hl]|contradiction|rfl)
 refine AW.loop (fun z:{i:Nat // i≤l.length}=>⟨[(4,.lit (.int .i64 z.1)),(3,.lit (.string (nb (gT l z.1)))),(2,.loc 8 0),(0,.sl (eR l))],[(8,.blk [.lit (.bool false),.lit (.string ⟨#[]⟩)])],40⟩) (fun z=>l.length - z.1) ⟨0,Nat.zero_le _⟩ (Weak.t4 (by refine ⟨?_,?_,?_,?_⟩<;>simp -dsimp (disch:=try exact zo) only[go_sem,gT_zero,nb_zero,eR_in,ZC])) ?_
 rintro ⟨i,hi⟩
 dsimp only
 have hsz:=gT_size hs i hi
 by_cases hlt:i<l.length
 ·have es1:=eR_getD l i hlt
  have hst:=gT_succ l i hlt
  have hr:=hs _ (List.getElem_mem hlt)
  generalize l[i]=r at *
  obtain ⟨rn,rm⟩:=r
  dsimp only at es1 hst hr
  simp only[eI]at es1
  have cg:=c155 (nb (gT l i)) rm (by omega) (by omega)
  rw[nv_nb,← hst]at cg
  clear hst hs
  generalize gT l i=g at *
  repeat' (first|refine zg ?_|(refine AW.cond rfl ?_ ?_<;>intro hc<;>first|simp only[NM]at hc|omega|skip)|refine zr ?_|(refine callV.flat _ yfn_155 cg rfl rfl ?_)|refine ⟨by omega,?_⟩|(refine zb ?_ ?_<;>intro hg<;>(try rw[hg])<;>try simp only[NM]at hg)|omega|simp -dsimp (disch:=try exact zo) only[go_sem,hl,es1,ZT]|contradiction|rfl)
  all_goals exact AW.stop ⟨⟨i+1,by omega⟩,(Weak.t4 (by refine ⟨?_,?_,?_,?_⟩<;>simp -dsimp (disch:=try exact zo) only[go_sem,eR_in,ZC])),by dsimp only;omega⟩
 ·have hil:i=l.length:=by omega
  subst hil
  have co:=c152 false (nb (gT l l.length)) (by omega)
  rw[iv_false,nv_nb]at co
  clear hs
  generalize gT l l.length=g at *
  repeat' (first|refine zg ?_|(refine AW.cond rfl ?_ ?_<;>intro hc<;>first|simp only[NM]at hc|omega|skip)|refine zr ?_|(refine callV.flat _ yfn_152 co rfl rfl ?_)|refine ⟨by omega,?_⟩|(refine zb ?_ ?_<;>intro hg<;>(try rw[hg])<;>try simp only[NM]at hg)|omega|simp -dsimp (disch:=try exact zo) only[go_sem,hl]|contradiction|rfl)
theorem iv_div {n:Bool} {m:ByteArray} {g:Nat} (hd:g∣nv m):iv n (nb (nv m / g))=iv n m / (g:Int):=by
 unfold iv
 rw[nv_nb]
 cases n
 ·simp only[Bool.false_eq_true,if_false];rw[Int.natCast_ediv]
 ·simp only[if_true]
  rw[Int.natCast_ediv,Int.neg_ediv_of_dvd (Int.ofNat_dvd.2 hd)]
theorem ne_false (n:Bool):(decide (n=false))=!n:=by cases n<;>rfl
set_option maxHeartbeats 8000000 in
theorem c90 (n:Bool) (m:ByteArray) (g:Nat) (hg:0<g) (hd:g∣nv m) (hm:m.size≤268435456) (hgs:(nb g).size≤268435456):CallOK Tryz.prog 90 [.agg [.lit (.bool n),.lit (.string m)],.agg [.lit (.bool false),.lit (.string (nb g))]] [] (.tup [.agg (eZ (iv n m / (g:Int))),.agg (eZ 0),.lit (.bool true)]) []:=by
 refine CallOK.flat Tryz.func90 rfl 55 rfl rfl rfl [.cell 4 24,.cell 5 24,.tmp 6] (congrArg Array.toList Tryz.results90) ?_
 simp only[startT,Nat.reduceAdd]
 have hml:maxLen=9223372036854775807:=rfl
 have cd:=c156 m (nb g) (by omega) (by omega) (by rw[nv_nb];omega)
 rw[nv_nb,Nat.mod_eq_zero_of_dvd hd,nb_zero]at cd
 have hq:=nb_mono (Nat.div_le_self (nv m) g)
 have hcs:=can_size m
 have c1:=c152 n ⟨#[]⟩ (by decide)
 have hz1:iv n ⟨#[]⟩=0:=by unfold iv;split<;>rfl
 rw[hz1]at c1
 have c2:=c152 n (nb (nv m / g)) (by omega)
 rw[iv_div hd]at c2
 have c3:=c86 (Zn 0) (Zm 0) (by rw[Zm_zero];decide)
 have hz2:sg (iv (Zn 0) (Zm 0))=0:=by rw[iv_Z];rfl
 rw[hz2]at c3
 have hne:=ne_false n
 generalize iv n m / (g:Int)=w at *
 generalize nb (nv m / g)=qs at *
 cases n
 ·simp only[decide_true,Bool.not_false,Bool.not_true,decide_false]at hne
  repeat' (first|refine zg ?_|(refine AW.cond rfl ?_ ?_<;>intro hc<;>first|simp only[NM]at hc|omega|skip)|refine zr ?_|(refine callV.flat _ yfn_156 cd rfl rfl ?_)|(first|refine callV.flat _ yfn_152 c1 rfl rfl ?_|refine callV.flat _ yfn_152 c2 rfl rfl ?_)|(refine callV.flat _ yfn_86 c3 rfl rfl ?_)|refine ⟨by omega,?_⟩|(refine zb ?_ ?_<;>intro hg<;>(try rw[hg])<;>try simp only[NM]at hg)|omega|simp -dsimp (disch:=try exact zo) only[go_sem,nb_zero,hne]|contradiction|rfl)
 ·simp only[decide_true,Bool.not_false,Bool.not_true,decide_false]at hne
  repeat' (first|refine zg ?_|(refine AW.cond rfl ?_ ?_<;>intro hc<;>first|simp only[NM]at hc|omega|skip)|refine zr ?_|(refine callV.flat _ yfn_156 cd rfl rfl ?_)|(first|refine callV.flat _ yfn_152 c1 rfl rfl ?_|refine callV.flat _ yfn_152 c2 rfl rfl ?_)|(refine callV.flat _ yfn_86 c3 rfl rfl ?_)|refine ⟨by omega,?_⟩|(refine zb ?_ ?_<;>intro hg<;>(try rw[hg])<;>try simp only[NM]at hg)|omega|simp -dsimp (disch:=try exact zo) only[go_sem,nb_zero,hne]|contradiction|rfl)
end Go.Proofs.Vx
namespace Go.Proofs.Vx
open Go Go.Sx Go.Proofs
attribute [local irreducible] fnT CallOK CallFr AW effV callV runP runO oneP oneO gcaseP hid
theorem gT4 (n1 n2 n3 n4:Bool) (m1 m2 m3 m4:ByteArray):gT [(n1,m1),(n2,m2),(n3,m3),(n4,m4)] 4=g4 (iv n1 m1) (iv n2 m2) (iv n3 m3) (iv n4 m4):=by
 show Nat.gcd (Nat.gcd (Nat.gcd (Nat.gcd 0 (nv m1)) (nv m2)) (nv m3)) (nv m4)=_
 rw[Nat.gcd_zero_left]
 unfold g4
 simp only[natAbs_iv]
theorem c88x (n1 n2 n3 n4 : Bool) (m1 m2 m3 m4 : ByteArray) (h1 : m1.size ≤ 268435456) (h2 : m2.size ≤ 268435456) (h3 : m3.size ≤ 268435456) (h4 : m4.size ≤ 268435456) :
  CallOK Tryz.prog 88 [.sl [eI n1 m1,eI n2 m2,eI n3 m3,eI n4 m4]] [] (.agg [.lit (.bool false),.lit (.string (nb (g4 (iv n1 m1) (iv n2 m2) (iv n3 m3) (iv n4 m4))))]) []:=by
 have h:=c88 [(n1,m1),(n2,m2),(n3,m3),(n4,m4)] (by simp) (by
  intro r hr
  simp only[List.mem_cons,List.not_mem_nil,or_false]at hr
  rcases hr with rfl|rfl|rfl|rfl<;>assumption)
 have e:([(n1,m1),(n2,m2),(n3,m3),(n4,m4)]:List RawI).length=4:=rfl
 rw[e,gT4]at h
 have e2:∀ G:Nat,eZ (G:Int)=[.lit (.bool false),.lit (.string (nb G))]:=fun G=>by unfold eZ;rw[Zn_false (Int.natCast_nonneg _),Zm_nat]
 rw[e2]at h
 exact h
set_option maxHeartbeats 8000000 in
theorem c109 (n:Bool) (m:ByteArray) (g:Nat) (hg:0<g) (hd:g∣nv m) (hm:m.size≤268435456) (hgs:(nb g).size≤268435456):CallOK Tryz.prog 109 [.agg [.lit (.bool n),.lit (.string m)],.agg [.lit (.bool false),.lit (.string (nb g))]] [] (.agg (eZ (iv n m / (g:Int)))) []:=by
 refine CallOK.flat Tryz.func109 rfl 16 rfl rfl rfl [.cell 4 24] (congrArg Array.toList Tryz.results109) ?_
 simp only[startT,Nat.reduceAdd]
 have hml:maxLen=9223372036854775807:=rfl
 repeat' (first|refine zg ?_|(refine AW.cond rfl ?_ ?_<;>intro hc<;>first|simp only[NM]at hc|omega|skip)|refine zr ?_|(refine callV.flat _ yfn_90 (c90 n m g hg hd hm hgs) rfl rfl ?_)|refine ⟨by omega,?_⟩|(refine zb ?_ ?_<;>intro hg<;>(try rw[hg])<;>try simp only[NM]at hg)|omega|simp -dsimp (disch:=try exact zo) only[go_sem]|contradiction|rfl)
set_option maxHeartbeats 8000000 in
theorem c44b (n1 n2 n3 n4:Bool) (m1 m2 m3 m4:ByteArray) (h1:m1.size≤268435456) (h2:m2.size≤268435456) (h3:m3.size≤268435456) (h4:m4.size≤268435456) (hz:iv n1 m1=0∧iv n2 m2=0∧iv n3 m3=0):CallOK Tryz.prog 44 [.agg [.lit (.bool n1),.lit (.string m1),.lit (.bool n2),.lit (.string m2),.lit (.bool n3),.lit (.string m3),.lit (.bool n4),.lit (.string m4)]] [] (.tup [.agg [.lit (.bool false),.lit (.string ⟨#[]⟩),.lit (.bool false),.lit (.string ⟨#[]⟩),.lit (.bool false),.lit (.string ⟨#[]⟩),.lit (.bool false),.lit (.string ⟨#[]⟩)],.lit (.bool false)]) []:=by
 refine CallOK.flat Tryz.func44 rfl 49 rfl rfl rfl [.cell 2 26,.tmp 3] (congrArg Array.toList Tryz.results44) ?_
 simp only[startT,Nat.reduceAdd]
 have hml:maxLen=9223372036854775807:=rfl
 have s1:=c86 n1 m1 (by omega)
 have s2:=c86 n2 m2 (by omega)
 have s3:=c86 n3 m3 (by omega)
 obtain ⟨z1,z2,z3⟩:=hz
 rw[z1]at s1
 rw[z2]at s2
 rw[z3]at s3
 have k1:sg 0=0:=rfl
 have k2:True:=trivial
 have k3:True:=trivial
 repeat' (first|refine zg ?_|(refine AW.cond rfl ?_ ?_<;>intro hc<;>first|simp only[NM]at hc|omega|skip)|refine zr ?_|(first|refine callV.flat _ yfn_86 s1 rfl rfl ?_|refine callV.flat _ yfn_86 s2 rfl rfl ?_|refine callV.flat _ yfn_86 s3 rfl rfl ?_)|refine ⟨by omega,?_⟩|(refine zb ?_ ?_<;>intro hg<;>(try rw[hg])<;>try simp only[NM]at hg)|omega|simp -dsimp (disch:=try exact zo) only[go_sem,k1]|contradiction|rfl)
set_option maxHeartbeats 16000000 in
theorem c44a (n1 n2 n3 n4:Bool) (m1 m2 m3 m4:ByteArray) (h1:m1.size≤268435456) (h2:m2.size≤268435456) (h3:m3.size≤268435456) (h4:m4.size≤268435456) (hz:¬ (iv n1 m1=0∧iv n2 m2=0∧iv n3 m3=0)):CallOK Tryz.prog 44 [.agg [.lit (.bool n1),.lit (.string m1),.lit (.bool n2),.lit (.string m2),.lit (.bool n3),.lit (.string m3),.lit (.bool n4),.lit (.string m4)]] [] (.tup [.agg (eH (pnrm (iv n1 m1) (iv n2 m2) (iv n3 m3) (iv n4 m4))),.lit (.bool true)]) []:=by
 refine CallOK.flat Tryz.func44 rfl 49 rfl rfl rfl [.cell 2 26,.tmp 3] (congrArg Array.toList Tryz.results44) ?_
 simp only[startT,Nat.reduceAdd]
 have hml:maxLen=9223372036854775807:=rfl
 have s1:=c86 n1 m1 (by omega)
 have s2:=c86 n2 m2 (by omega)
 have s3:=c86 n3 m3 (by omega)
 have cg:=c88x n1 n2 n3 n4 m1 m2 m3 m4 h1 h2 h3 h4
 obtain ⟨d1,d2,d3,d4⟩:=g4_dvd (iv n1 m1) (iv n2 m2) (iv n3 m3) (iv n4 m4)
 have hG:0<g4 (iv n1 m1) (iv n2 m2) (iv n3 m3) (iv n4 m4):=by
  apply Nat.pos_of_ne_zero
  intro h0
  rw[h0]at d1 d2 d3
  exact hz ⟨by simpa using d1,by simpa using d2,by simpa using d3⟩
 have hGs:(nb (g4 (iv n1 m1) (iv n2 m2) (iv n3 m3) (iv n4 m4))).size≤268435456:=by
  unfold g4
  simp only[natAbs_iv]
  exact gcd_size (gcd_size (gcd_size (Nat.le_trans (can_size _) h1) (Nat.le_trans (can_size _) h2)) (Nat.le_trans (can_size _) h3)) (Nat.le_trans (can_size _) h4)
 have e:∀ (n:Bool) (m:ByteArray),(g4 (iv n1 m1) (iv n2 m2) (iv n3 m3) (iv n4 m4):Int)∣iv n m→g4 (iv n1 m1) (iv n2 m2) (iv n3 m3) (iv n4 m4)∣nv m:=fun n m h=>by
  rw[← natAbs_iv n m];exact Int.ofNat_dvd_left.1 h
 unfold pnrm
 have p1:=c109 n1 m1 _ hG (e n1 m1 d1) h1 hGs
 have p2:=c109 n2 m2 _ hG (e n2 m2 d2) h2 hGs
 have p3:=c109 n3 m3 _ hG (e n3 m3 d3) h3 hGs
 have p4:=c109 n4 m4 _ hG (e n4 m4 d4) h4 hGs
 clear e d1 d2 d3 d4 hG hGs
 generalize g4 (iv n1 m1) (iv n2 m2) (iv n3 m3) (iv n4 m4)=G at *
 by_cases q1:sg (iv n1 m1)=0
 ·by_cases q2:sg (iv n2 m2)=0
  ·have q3:sg (iv n3 m3)≠0:=fun q3=>hz ⟨sg_zero.1 q1,sg_zero.1 q2,sg_zero.1 q3⟩
   have k1:=eq_true q1
   have k2:=eq_true q2
   have k3:=eq_false q3
   clear hz
   repeat' (first|refine zg ?_|(refine AW.cond rfl ?_ ?_<;>intro hc<;>first|simp only[NM]at hc|omega|skip)|refine zr ?_|(first|refine callV.flat _ yfn_86 s1 rfl rfl ?_|refine callV.flat _ yfn_86 s2 rfl rfl ?_|refine callV.flat _ yfn_86 s3 rfl rfl ?_)|(refine callV.lend1 _ yfn_88 cg rfl rfl (by simp -dsimp (disch:=try exact zo) only[go_sem]) (.agg _ (by intro c hc;simp only[List.mem_cons,List.not_mem_nil,or_false]at hc;rcases hc with rfl|rfl<;>exact .lit _)) ?_)|(first|refine callV.flat _ yfn_109 p1 rfl rfl ?_|refine callV.flat _ yfn_109 p2 rfl rfl ?_|refine callV.flat _ yfn_109 p3 rfl rfl ?_|refine callV.flat _ yfn_109 p4 rfl rfl ?_)|refine ⟨by omega,?_⟩|(refine zb ?_ ?_<;>intro hg<;>(try rw[hg])<;>try simp only[NM]at hg)|omega|simp -dsimp (disch:=try exact zo) only[go_sem,k1,k2,k3]|contradiction|rfl)
  ·have k1:=eq_true q1
   have k2:=eq_false q2
   have k3:True:=trivial
   clear hz
   repeat' (first|refine zg ?_|(refine AW.cond rfl ?_ ?_<;>intro hc<;>first|simp only[NM]at hc|omega|skip)|refine zr ?_|(first|refine callV.flat _ yfn_86 s1 rfl rfl ?_|refine callV.flat _ yfn_86 s2 rfl rfl ?_|refine callV.flat _ yfn_86 s3 rfl rfl ?_)|(refine callV.lend1 _ yfn_88 cg rfl rfl (by simp -dsimp (disch:=try exact zo) only[go_sem]) (.agg _ (by intro c hc;simp only[List.mem_cons,List.not_mem_nil,or_false]at hc;rcases hc with rfl|rfl<;>exact .lit _)) ?_)|(first|refine callV.flat _ yfn_109 p1 rfl rfl ?_|refine callV.flat _ yfn_109 p2 rfl rfl ?_|refine callV.flat _ yfn_109 p3 rfl rfl ?_|refine callV.flat _ yfn_109 p4 rfl rfl ?_)|refine ⟨by omega,?_⟩|(refine zb ?_ ?_<;>intro hg<;>(try rw[hg])<;>try simp only[NM]at hg)|omega|simp -dsimp (disch:=try exact zo) only[go_sem,k1,k2,k3]|contradiction|rfl)
 ·have k1:=eq_false q1
  have k2:True:=trivial
  have k3:True:=trivial
  clear hz
  repeat' (first|refine zg ?_|(refine AW.cond rfl ?_ ?_<;>intro hc<;>first|simp only[NM]at hc|omega|skip)|refine zr ?_|(first|refine callV.flat _ yfn_86 s1 rfl rfl ?_|refine callV.flat _ yfn_86 s2 rfl rfl ?_|refine callV.flat _ yfn_86 s3 rfl rfl ?_)|(refine callV.lend1 _ yfn_88 cg rfl rfl (by simp -dsimp (disch:=try exact zo) only[go_sem]) (.agg _ (by intro c hc;simp only[List.mem_cons,List.not_mem_nil,or_false]at hc;rcases hc with rfl|rfl<;>exact .lit _)) ?_)|(first|refine callV.flat _ yfn_109 p1 rfl rfl ?_|refine callV.flat _ yfn_109 p2 rfl rfl ?_|refine callV.flat _ yfn_109 p3 rfl rfl ?_|refine callV.flat _ yfn_109 p4 rfl rfl ?_)|refine ⟨by omega,?_⟩|(refine zb ?_ ?_<;>intro hg<;>(try rw[hg])<;>try simp only[NM]at hg)|omega|simp -dsimp (disch:=try exact zo) only[go_sem,k1,k2,k3]|contradiction|rfl)
end Go.Proofs.Vx
namespace Go.Proofs.Vx
open Go Go.Sx Go.Proofs
attribute [local irreducible] fnT CallOK CallFr AW effV callV runP runO oneP oneO gcaseP hid
theorem yfn_18:fnT Tryz.prog 18=true:=by kernel_rfl
theorem yfn_26:fnT Tryz.prog 26=true:=by kernel_rfl
theorem yfn_66:fnT Tryz.prog 66=true:=by kernel_rfl
structure RP where
 n1:Bool
 m1:ByteArray
 n2:Bool
 m2:ByteArray
 n3:Bool
 m3:ByteArray
 n4:Bool
 m4:ByteArray
abbrev eRP (r:RP):List AV:=[.lit (.bool r.n1),.lit (.string r.m1),.lit (.bool r.n2),.lit (.string r.m2),.lit (.bool r.n3),.lit (.string r.m3),.lit (.bool r.n4),.lit (.string r.m4)]
def zeroR (r:RP):Prop:=iv r.n1 r.m1=0∧iv r.n2 r.m2=0∧iv r.n3 r.m3=0
instance (r:RP):Decidable (zeroR r):=by unfold zeroR;infer_instance
def wideR (r:RP):Prop:=6<r.m1.size∨6<r.m2.size∨6<r.m3.size∨6<r.m4.size∨zeroR r
instance (r:RP):Decidable (wideR r):=by unfold wideR;infer_instance
def goodR (r:RP):Bool:=decide (r.m1.size≤2)&&decide (r.m2.size≤2)&&decide (r.m3.size≤2)&&decide (r.m4.size≤3)&&decide (¬ zeroR r)
def nrmR (r:RP):Pl:=pnrm (iv r.n1 r.m1) (iv r.n2 r.m2) (iv r.n3 r.m3) (iv r.n4 r.m4)
theorem c44ax (r:RP) (h1:r.m1.size≤268435456) (h2:r.m2.size≤268435456) (h3:r.m3.size≤268435456) (h4:r.m4.size≤268435456) (hz:¬ zeroR r):CallOK Tryz.prog 44 [.agg (eRP r)] [] (.tup [.agg (eH (nrmR r)),.lit (.bool true)]) []:=c44a _ _ _ _ _ _ _ _ h1 h2 h3 h4 hz
theorem c44bx (r:RP) (h1:r.m1.size≤268435456) (h2:r.m2.size≤268435456) (h3:r.m3.size≤268435456) (h4:r.m4.size≤268435456) (hz:zeroR r):CallOK Tryz.prog 44 [.agg (eRP r)] [] (.tup [.agg [.lit (.bool false),.lit (.string ⟨#[]⟩),.lit (.bool false),.lit (.string ⟨#[]⟩),.lit (.bool false),.lit (.string ⟨#[]⟩),.lit (.bool false),.lit (.string ⟨#[]⟩)],.lit (.bool false)]) []:=c44b _ _ _ _ _ _ _ _ h1 h2 h3 h4 hz
set_option maxHeartbeats 8000000 in
theorem c66 (r:RP):CallOK Tryz.prog 66 [.agg (eRP r)] [] (.lit (.int .i64 (if wideR r then 1 else 0))) []:=by
 refine CallOK.flat Tryz.func66 rfl 38 rfl rfl rfl [.tmp 2] (congrArg Array.toList Tryz.results66) ?_
 simp only[startT,Nat.reduceAdd]
 unfold wideR
 by_cases q1:6<r.m1.size
 ·have hr:(if 6<r.m1.size∨6<r.m2.size∨6<r.m3.size∨6<r.m4.size∨zeroR r then (1:Int)else 0)=1:=by simp[q1]
  rw[hr]
  have k1:(6<(r.m1.size:Int))=True:=eq_true (by omega)
  have k2:True:=trivial
  have k3:True:=trivial
  have k4:True:=trivial
  repeat' (first|refine zg ?_|(refine AW.cond rfl ?_ ?_<;>intro hc<;>first|simp only[NM]at hc|omega|skip)|refine zr ?_|refine ⟨by omega,?_⟩|(refine zb ?_ ?_<;>intro hg<;>(try rw[hg])<;>try simp only[NM]at hg)|omega|simp -dsimp (disch:=try exact zo) only[go_sem,k1,k2,k3,k4]|contradiction|rfl)
 ·skip
  by_cases q2:6<r.m2.size
  ·have hr:(if 6<r.m1.size∨6<r.m2.size∨6<r.m3.size∨6<r.m4.size∨zeroR r then (1:Int)else 0)=1:=by simp[q2]
   rw[hr]
   have k1:(6<(r.m1.size:Int))=False:=eq_false (by omega)
   have k2:(6<(r.m2.size:Int))=True:=eq_true (by omega)
   have k3:True:=trivial
   have k4:True:=trivial
   repeat' (first|refine zg ?_|(refine AW.cond rfl ?_ ?_<;>intro hc<;>first|simp only[NM]at hc|omega|skip)|refine zr ?_|refine ⟨by omega,?_⟩|(refine zb ?_ ?_<;>intro hg<;>(try rw[hg])<;>try simp only[NM]at hg)|omega|simp -dsimp (disch:=try exact zo) only[go_sem,k1,k2,k3,k4]|contradiction|rfl)
  ·skip
   by_cases q3:6<r.m3.size
   ·have hr:(if 6<r.m1.size∨6<r.m2.size∨6<r.m3.size∨6<r.m4.size∨zeroR r then (1:Int)else 0)=1:=by simp[q3]
    rw[hr]
    have k1:(6<(r.m1.size:Int))=False:=eq_false (by omega)
    have k2:(6<(r.m2.size:Int))=False:=eq_false (by omega)
    have k3:(6<(r.m3.size:Int))=True:=eq_true (by omega)
    have k4:True:=trivial
    repeat' (first|refine zg ?_|(refine AW.cond rfl ?_ ?_<;>intro hc<;>first|simp only[NM]at hc|omega|skip)|refine zr ?_|refine ⟨by omega,?_⟩|(refine zb ?_ ?_<;>intro hg<;>(try rw[hg])<;>try simp only[NM]at hg)|omega|simp -dsimp (disch:=try exact zo) only[go_sem,k1,k2,k3,k4]|contradiction|rfl)
   ·skip
    by_cases q4:6<r.m4.size
    ·have hr:(if 6<r.m1.size∨6<r.m2.size∨6<r.m3.size∨6<r.m4.size∨zeroR r then (1:Int)else 0)=1:=by simp[q4]
     rw[hr]
     have k1:(6<(r.m1.size:Int))=False:=eq_false (by omega)
     have k2:(6<(r.m2.size:Int))=False:=eq_false (by omega)
     have k3:(6<(r.m3.size:Int))=False:=eq_false (by omega)
     have k4:(6<(r.m4.size:Int))=True:=eq_true (by omega)
     repeat' (first|refine zg ?_|(refine AW.cond rfl ?_ ?_<;>intro hc<;>first|simp only[NM]at hc|omega|skip)|refine zr ?_|refine ⟨by omega,?_⟩|(refine zb ?_ ?_<;>intro hg<;>(try rw[hg])<;>try simp only[NM]at hg)|omega|simp -dsimp (disch:=try exact zo) only[go_sem,k1,k2,k3,k4]|contradiction|rfl)
    ·skip
     have k1:(6<(r.m1.size:Int))=False:=eq_false (by omega)
     have k2:(6<(r.m2.size:Int))=False:=eq_false (by omega)
     have k3:(6<(r.m3.size:Int))=False:=eq_false (by omega)
     have k4:(6<(r.m4.size:Int))=False:=eq_false (by omega)
     by_cases q5:zeroR r
     ·have hr:(if 6<r.m1.size∨6<r.m2.size∨6<r.m3.size∨6<r.m4.size∨zeroR r then (1:Int)else 0)=1:=by simp[q1,q2,q3,q4,q5]
      rw[hr]
      have cn:=c44bx r (by omega) (by omega) (by omega) (by omega) q5
      repeat' (first|refine zg ?_|(refine AW.cond rfl ?_ ?_<;>intro hc<;>first|simp only[NM]at hc|omega|skip)|refine zr ?_|(refine callV.flat _ yfn_44 cn rfl rfl ?_)|refine ⟨by omega,?_⟩|(refine zb ?_ ?_<;>intro hg<;>(try rw[hg])<;>try simp only[NM]at hg)|omega|simp -dsimp (disch:=try exact zo) only[go_sem,k1,k2,k3,k4]|contradiction|rfl)
     ·have hr:(if 6<r.m1.size∨6<r.m2.size∨6<r.m3.size∨6<r.m4.size∨zeroR r then (1:Int)else 0)=0:=by simp[q1,q2,q3,q4,q5]
      rw[hr]
      have cn:=c44ax r (by omega) (by omega) (by omega) (by omega) q5
      repeat' (first|refine zg ?_|(refine AW.cond rfl ?_ ?_<;>intro hc<;>first|simp only[NM]at hc|omega|skip)|refine zr ?_|(refine callV.flat _ yfn_44 cn rfl rfl ?_)|refine ⟨by omega,?_⟩|(refine zb ?_ ?_<;>intro hg<;>(try rw[hg])<;>try simp only[NM]at hg)|omega|simp -dsimp (disch:=try exact zo) only[go_sem,k1,k2,k3,k4]|contradiction|rfl)
end Go.Proofs.Vx
namespace Go.Proofs.Vx
open Go Go.Sx Go.Proofs
attribute [local irreducible] fnT CallOK CallFr AW effV callV runP runO oneP oneO gcaseP hid
theorem yqq_Nx45:arT Tryz.prog 22=none∧byT Tryz.prog 26=some 96∧slT Tryz.prog 22=some (26,8)∧strT Tryz.prog 22=false:=by and_intros<;>kernel_rfl
attribute [go_sem] yqq_Nx45
abbrev eRPs (l:List RP):List (List AV):=l.map eRP
theorem eRPs_in {K:Nat→Prop} (l:List RP):(∀ e∈eRPs l,∀ c∈e,In K c)=True:=eq_true fun e he c hc=>by
 obtain ⟨r,_,rfl⟩:=List.mem_map.1 he
 simp only[eRP,List.mem_cons,List.not_mem_nil,or_false]at hc
 rcases hc with rfl|rfl|rfl|rfl|rfl|rfl|rfl|rfl<;>exact .lit _
theorem eRPs_getD (l:List RP) (i:Nat) (h:i<l.length):(eRPs l).getD i []=eRP l[i]:=by
 rw[List.getD_eq_getElem?_getD,List.getElem?_eq_getElem (by simpa using h)];simp
def nrmL (l:List RP):List Pl:=l.map nrmR
theorem eHs_in {K:Nat→Prop} (l:List Pl):(∀ e∈l.map eH,∀ c∈e,In K c)=True:=eq_true fun e he c hc=>by
 obtain ⟨r,_,rfl⟩:=List.mem_map.1 he
 simp only[eH,e4,List.mem_cons,List.not_mem_nil,or_false]at hc
 rcases hc with rfl|rfl|rfl|rfl|rfl|rfl|rfl|rfl<;>exact .lit _
theorem flatPl (l:List Pl):FlatS (.tup [.sl (l.map eH),.lit (.bool true)]):=by
 intro c hc
 simp only[List.mem_cons,List.not_mem_nil,or_false]at hc
 rcases hc with rfl|rfl
 ·refine .inr ⟨_,rfl,fun e he c hc=>?_⟩
  obtain ⟨r,_,rfl⟩:=List.mem_map.1 he
  simp only[eH,e4,List.mem_cons,List.not_mem_nil,or_false]at hc
  rcases hc with rfl|rfl|rfl|rfl|rfl|rfl|rfl|rfl<;>exact .lit _
 ·exact .inl (.lit _)
theorem good_iff {r:RP}:goodR r=true↔r.m1.size≤2∧r.m2.size≤2∧r.m3.size≤2∧r.m4.size≤3∧¬ zeroR r:=by
 unfold goodR
 simp only[Bool.and_eq_true,decide_eq_true_eq,and_assoc]
theorem not_wide {r:RP} (h:goodR r=true):¬ wideR r:=by
 obtain ⟨h1,h2,h3,h4,h5⟩:=good_iff.1 h
 unfold wideR
 rintro (h|h|h|h|h)
 ·omega
 ·omega
 ·omega
 ·omega
 ·exact h5 h
set_option maxHeartbeats 3200000 in
theorem c18a (rs:List RP) (most:Nat) (h:most<rs.length):CallOK Tryz.prog 18 [.sl (eRPs rs),.lit (.int .i64 most)] [] (.tup [.lit (.slice none 0 0),.lit (.bool false)]) []:=by
 refine CallOK.flat Tryz.func18 rfl 63 rfl rfl rfl [.tmp 4,.tmp 5] (congrArg Array.toList Tryz.results18) ?_
 simp only[startT,Nat.reduceAdd]
 have hl:(eRPs rs).length=rs.length:=List.length_map _
 repeat' (first|refine zg ?_|(refine AW.cond rfl ?_ ?_<;>intro hc<;>first|simp only[NM]at hc|omega|skip)|refine zr ?_|refine ⟨by omega,?_⟩|(refine zb ?_ ?_<;>intro hg<;>(try rw[hg])<;>try simp only[NM]at hg)|omega|simp -dsimp (disch:=try exact zo) only[go_sem,hl,zl]|contradiction|rfl)
set_option maxRecDepth 20000 in
set_option maxHeartbeats 16000000 in
theorem c18c (rs:List RP) (most:Nat) (h:rs.length≤most) (hm:most≤64) (hnall:¬ ∀ r∈rs,goodR r=true):CallOK Tryz.prog 18 [.sl (eRPs rs),.lit (.int .i64 most)] [] (.tup [.lit (.slice none 0 0),.lit (.bool false)]) []:=by
 refine CallOK.flat Tryz.func18 rfl 63 rfl rfl rfl [.tmp 4,.tmp 5] (congrArg Array.toList Tryz.results18) ?_
 simp only[startT,Nat.reduceAdd]
 have hz0:(nrmL []).map eH=[]:=rfl
 have hml:maxLen=9223372036854775807:=rfl
 have hl:(eRPs rs).length=rs.length:=List.length_map _
 repeat' (first|refine zg ?_|(refine AW.cond rfl ?_ ?_<;>intro hc<;>first|simp only[NM]at hc|omega|skip)|refine zr ?_|refine ⟨by omega,?_⟩|(refine zb ?_ ?_<;>intro hg<;>(try rw[hg])<;>try simp only[NM]at hg)|omega|simp -dsimp (disch:=try exact zo) only[go_sem,hl,zl]|contradiction|rfl)
 refine AW.loop (fun z:{i:Nat // i≤rs.length∧∀ q,q<i→∀ h:q<rs.length,goodR rs[q]=true}=>⟨[(17,.lit (.int .i64 z.1)),(16,.lit (.int .i64 rs.length)),(15,.sl (eRPs rs)),(6,.ref 18 0 z.1 z.1)],[(18,.vec 8 ((nrmL (rs.take z.1)).map eH))],60⟩) (fun z=>rs.length - z.1) ⟨0,Nat.zero_le _,fun q hq=>by omega⟩ (Weak.trans (Weak.nil 6 8 (by decide) rfl) (Weak.t4 (by refine ⟨?_,?_,?_,?_⟩<;>simp -dsimp (disch:=try exact zo) only[go_sem,List.take_zero,hz0,eHs_in,eRPs_in,ZC]))) ?_
 rintro ⟨i,hi,hgood⟩
 dsimp only
 have hXl:((nrmL (rs.take i)).map eH).length=i:=by rw[List.length_map];unfold nrmL;rw[List.length_map,List.length_take];omega
 by_cases hlt:i<rs.length
 ·have es1:=eRPs_getD rs i hlt
  by_cases hg:goodR rs[i]=true
  ·have hg2:∀ q,q<i+1→∀ h:q<rs.length,goodR rs[q]=true:=fun q hq h=>by
    by_cases e:q=i
    ·subst e;exact hg
    ·exact hgood q (by omega) h
   have hX1:(nrmL (rs.take (i+1))).map eH=(nrmL (rs.take i)).map eH++[eH (nrmR rs[i])]:=by
    unfold nrmL
    rw[List.take_succ_eq_append_getElem hlt,List.map_append,List.map_append]
    rfl
   have hwd:=not_wide hg
   obtain ⟨h1,h2,h3,h4,h5⟩:=good_iff.1 hg
   clear hg hgood
   generalize rs[i]=r at *
   have cw:=c66 r
   rw[if_neg hwd]at cw
   have cn:=c44ax r (by omega) (by omega) (by omega) (by omega) h5
   have k1:(2<(r.m1.size:Int))=False:=eq_false (by omega)
   have k2:(2<(r.m2.size:Int))=False:=eq_false (by omega)
   have k3:(2<(r.m3.size:Int))=False:=eq_false (by omega)
   have k4:(3<(r.m4.size:Int))=False:=eq_false (by omega)
   simp only[eRP]at es1
   clear hwd h5
   generalize nrmR r=nr at *
   repeat' (first|refine zg ?_|(refine AW.cond rfl ?_ ?_<;>intro hc<;>first|simp only[NM]at hc|omega|skip)|refine zr ?_|(refine callV.flat _ yfn_66 cw rfl rfl ?_)|(refine callV.flat _ yfn_44 cn rfl rfl ?_)|refine ⟨by omega,?_⟩|(refine zb ?_ ?_<;>intro hg<;>(try rw[hg])<;>try simp only[NM]at hg)|omega|simp -dsimp (disch:=try exact zo) only[go_sem,hl,es1,k1,k2,k3,k4,ZT,zl,hXl,eHs_in,eRPs_in]|contradiction|rfl)
   all_goals exact AW.stop ⟨⟨i+1,by omega,hg2⟩,(Weak.t4 (by refine ⟨?_,?_,?_,?_⟩<;>first|(simp -dsimp (disch:=try exact zo) only[go_sem,hX1,ZC];done)|(simp -dsimp (disch:=try exact zo) only[go_sem,eHs_in,eRPs_in,ZC];done))),by dsimp only;omega⟩
  ·clear hgood
   generalize rs[i]=r at *
   have cw:=c66 r
   simp only[eRP]at es1
   have hnotg:¬ goodR r=true:=hg
   clear hg
   by_cases hwd:wideR r
   ·rw[if_pos hwd]at cw
    have k1:True:=trivial
    have k2:True:=trivial
    have k3:True:=trivial
    have k4:True:=trivial
    clear hwd hnotg
    repeat' (first|refine zg ?_|(refine AW.cond rfl ?_ ?_<;>intro hc<;>first|simp only[NM]at hc|omega|skip)|refine zr ?_|(refine callV.flat _ yfn_66 cw rfl rfl ?_)|refine ⟨by omega,?_⟩|(refine zb ?_ ?_<;>intro hg<;>(try rw[hg])<;>try simp only[NM]at hg)|omega|simp -dsimp (disch:=try exact zo) only[go_sem,hl,es1,k1,k2,k3,k4,ZT,zl,hXl,eHs_in,eRPs_in]|contradiction|rfl)
   ·rw[if_neg hwd]at cw
    have hsz:¬ (r.m1.size≤2∧r.m2.size≤2∧r.m3.size≤2∧r.m4.size≤3):=fun hh=>hnotg (good_iff.2 ⟨hh.1,hh.2.1,hh.2.2.1,hh.2.2.2,fun hz=>hwd (by unfold wideR;exact .inr (.inr (.inr (.inr hz))))⟩)
    clear hwd hnotg
    by_cases q1:2<r.m1.size
    ·have k1:(2<(r.m1.size:Int))=True:=eq_true (by omega)
     have k2:True:=trivial
     have k3:True:=trivial
     have k4:True:=trivial
     clear hsz
     repeat' (first|refine zg ?_|(refine AW.cond rfl ?_ ?_<;>intro hc<;>first|simp only[NM]at hc|omega|skip)|refine zr ?_|(refine callV.flat _ yfn_66 cw rfl rfl ?_)|refine ⟨by omega,?_⟩|(refine zb ?_ ?_<;>intro hg<;>(try rw[hg])<;>try simp only[NM]at hg)|omega|simp -dsimp (disch:=try exact zo) only[go_sem,hl,es1,k1,k2,k3,k4,ZT,zl,hXl,eHs_in,eRPs_in]|contradiction|rfl)
    ·skip
     by_cases q2:2<r.m2.size
     ·have k1:(2<(r.m1.size:Int))=False:=eq_false (by omega)
      have k2:(2<(r.m2.size:Int))=True:=eq_true (by omega)
      have k3:True:=trivial
      have k4:True:=trivial
      clear hsz
      repeat' (first|refine zg ?_|(refine AW.cond rfl ?_ ?_<;>intro hc<;>first|simp only[NM]at hc|omega|skip)|refine zr ?_|(refine callV.flat _ yfn_66 cw rfl rfl ?_)|refine ⟨by omega,?_⟩|(refine zb ?_ ?_<;>intro hg<;>(try rw[hg])<;>try simp only[NM]at hg)|omega|simp -dsimp (disch:=try exact zo) only[go_sem,hl,es1,k1,k2,k3,k4,ZT,zl,hXl,eHs_in,eRPs_in]|contradiction|rfl)
     ·skip
      by_cases q3:2<r.m3.size
      ·have k1:(2<(r.m1.size:Int))=False:=eq_false (by omega)
       have k2:(2<(r.m2.size:Int))=False:=eq_false (by omega)
       have k3:(2<(r.m3.size:Int))=True:=eq_true (by omega)
       have k4:True:=trivial
       clear hsz
       repeat' (first|refine zg ?_|(refine AW.cond rfl ?_ ?_<;>intro hc<;>first|simp only[NM]at hc|omega|skip)|refine zr ?_|(refine callV.flat _ yfn_66 cw rfl rfl ?_)|refine ⟨by omega,?_⟩|(refine zb ?_ ?_<;>intro hg<;>(try rw[hg])<;>try simp only[NM]at hg)|omega|simp -dsimp (disch:=try exact zo) only[go_sem,hl,es1,k1,k2,k3,k4,ZT,zl,hXl,eHs_in,eRPs_in]|contradiction|rfl)
      ·skip
       have q4:3<r.m4.size:=by omega
       have k1:(2<(r.m1.size:Int))=False:=eq_false (by omega)
       have k2:(2<(r.m2.size:Int))=False:=eq_false (by omega)
       have k3:(2<(r.m3.size:Int))=False:=eq_false (by omega)
       have k4:(3<(r.m4.size:Int))=True:=eq_true (by omega)
       clear hsz
       repeat' (first|refine zg ?_|(refine AW.cond rfl ?_ ?_<;>intro hc<;>first|simp only[NM]at hc|omega|skip)|refine zr ?_|(refine callV.flat _ yfn_66 cw rfl rfl ?_)|refine ⟨by omega,?_⟩|(refine zb ?_ ?_<;>intro hg<;>(try rw[hg])<;>try simp only[NM]at hg)|omega|simp -dsimp (disch:=try exact zo) only[go_sem,hl,es1,k1,k2,k3,k4,ZT,zl,hXl,eHs_in,eRPs_in]|contradiction|rfl)
 ·have hil:i=rs.length:=by omega
  subst hil
  exfalso
  refine hnall fun r hr=>?_
  obtain ⟨q,hq,rfl⟩:=List.getElem_of_mem hr
  exact hgood q (by omega) hq
set_option maxRecDepth 20000 in
set_option maxHeartbeats 16000000 in
theorem c18b (rs:List RP) (most:Nat) (h:rs.length≤most) (hm:most≤64) (hall:∀ r∈rs,goodR r=true):CallNw Tryz.prog 18 [.sl (eRPs rs),.lit (.int .i64 most)] (.tup [.sl ((nrmL rs).map eH),.lit (.bool true)]):=by
 refine CallNw.flat Tryz.func18 rfl 63 rfl rfl (flatPl _) [.tmp 4,.tmp 5] (congrArg Array.toList Tryz.results18) ?_
 simp only[startT,Nat.reduceAdd]
 have hz0:(nrmL []).map eH=[]:=rfl
 have hml:maxLen=9223372036854775807:=rfl
 have hl:(eRPs rs).length=rs.length:=List.length_map _
 repeat' (first|refine zg ?_|(refine AW.cond rfl ?_ ?_<;>intro hc<;>first|simp only[NM]at hc|omega|skip)|refine zr ?_|refine ⟨by omega,?_⟩|(refine zb ?_ ?_<;>intro hg<;>(try rw[hg])<;>try simp only[NM]at hg)|omega|simp -dsimp (disch:=try exact zo) only[go_sem,hl,zl]|contradiction|rfl)
 refine AW.loop (fun z:{i:Nat // i≤rs.length∧∀ q,q<i→∀ h:q<rs.length,goodR rs[q]=true}=>⟨[(17,.lit (.int .i64 z.1)),(16,.lit (.int .i64 rs.length)),(15,.sl (eRPs rs)),(6,.ref 18 0 z.1 z.1)],[(18,.vec 8 ((nrmL (rs.take z.1)).map eH))],60⟩) (fun z=>rs.length - z.1) ⟨0,Nat.zero_le _,fun q hq=>by omega⟩ (Weak.trans (Weak.nil 6 8 (by decide) rfl) (Weak.t4 (by refine ⟨?_,?_,?_,?_⟩<;>simp -dsimp (disch:=try exact zo) only[go_sem,List.take_zero,hz0,eHs_in,eRPs_in,ZC]))) ?_
 rintro ⟨i,hi,hgood⟩
 dsimp only
 have hXl:((nrmL (rs.take i)).map eH).length=i:=by rw[List.length_map];unfold nrmL;rw[List.length_map,List.length_take];omega
 by_cases hlt:i<rs.length
 ·have es1:=eRPs_getD rs i hlt
  by_cases hg:goodR rs[i]=true
  ·have hg2:∀ q,q<i+1→∀ h:q<rs.length,goodR rs[q]=true:=fun q hq h=>by
    by_cases e:q=i
    ·subst e;exact hg
    ·exact hgood q (by omega) h
   have hX1:(nrmL (rs.take (i+1))).map eH=(nrmL (rs.take i)).map eH++[eH (nrmR rs[i])]:=by
    unfold nrmL
    rw[List.take_succ_eq_append_getElem hlt,List.map_append,List.map_append]
    rfl
   have hwd:=not_wide hg
   obtain ⟨h1,h2,h3,h4,h5⟩:=good_iff.1 hg
   clear hg hgood
   generalize rs[i]=r at *
   have cw:=c66 r
   rw[if_neg hwd]at cw
   have cn:=c44ax r (by omega) (by omega) (by omega) (by omega) h5
   have k1:(2<(r.m1.size:Int))=False:=eq_false (by omega)
   have k2:(2<(r.m2.size:Int))=False:=eq_false (by omega)
   have k3:(2<(r.m3.size:Int))=False:=eq_false (by omega)
   have k4:(3<(r.m4.size:Int))=False:=eq_false (by omega)
   simp only[eRP]at es1
   clear hwd h5
   generalize nrmR r=nr at *
   repeat' (first|refine zg ?_|(refine AW.cond rfl ?_ ?_<;>intro hc<;>first|simp only[NM]at hc|omega|skip)|refine zr ?_|(refine callV.flat _ yfn_66 cw rfl rfl ?_)|(refine callV.flat _ yfn_44 cn rfl rfl ?_)|refine ⟨by omega,?_⟩|(refine zb ?_ ?_<;>intro hg<;>(try rw[hg])<;>try simp only[NM]at hg)|omega|simp -dsimp (disch:=try exact zo) only[go_sem,hl,es1,k1,k2,k3,k4,ZT,zl,hXl,eHs_in,eRPs_in]|contradiction|rfl)
   all_goals exact AW.stop ⟨⟨i+1,by omega,hg2⟩,(Weak.t4 (by refine ⟨?_,?_,?_,?_⟩<;>first|(simp -dsimp (disch:=try exact zo) only[go_sem,hX1,ZC];done)|(simp -dsimp (disch:=try exact zo) only[go_sem,eHs_in,eRPs_in,ZC];done))),by dsimp only;omega⟩
  ·exact absurd (hall _ (List.getElem_mem hlt)) hg
 ·have hil:i=rs.length:=by omega
  subst hil
  rw[List.take_length]at hXl ⊢
  generalize hE:(nrmL rs).map eH=E at *
  have hbw:=bw_tl hXl
  have bw_tl0:True:=trivial
  repeat' (first|refine zg ?_|(refine AW.cond rfl ?_ ?_<;>intro hc<;>first|simp only[NM]at hc|omega|skip)|refine zn ?_|refine ⟨by omega,?_⟩|(refine zb ?_ ?_<;>intro hg<;>(try rw[hg])<;>try simp only[NM]at hg)|omega|simp -dsimp (disch:=try exact zo) only[go_sem,hl,zl,hXl,bw_tl0,hbw]|contradiction|rfl)
end Go.Proofs.Vx
namespace Go.Sx
set_option linter.unusedVariables false
theorem Qd_inj {a b:Rat} (h:Qd a=Qd b):a.den=b.den:=by
 unfold Qd at h
 have ha:=a.den_nz
 have hb:=b.den_nz
 split at h<;>split at h
 ·omega
 ·exact absurd ((nb_eq_empty _).1 h.symm) hb
 ·exact absurd ((nb_eq_empty _).1 h) ha
 ·exact nb_inj h
theorem eq3 (a b:Rat):eqCs [.lit (.bool (Zn a.num)),.lit (.string (Zm a.num)),.lit (.string (Qd a))] [.lit (.bool (Zn b.num)),.lit (.string (Zm b.num)),.lit (.string (Qd b))]=decide (a=b):=by
 by_cases h:a=b
 ·subst h
  simp[eqCs,ceq]
 ·have:¬ (Zn a.num=Zn b.num∧Zm a.num=Zm b.num∧Qd a=Qd b):=fun h'=>h (Rat.ext (eZ_inj h'.1 h'.2.1) (Qd_inj h'.2.2))
  rw[decide_eq_false h]
  simp only[eqCs,ceq,Bool.and_true]
  apply Bool.eq_false_iff.2
  intro hh
  simp only[Bool.and_eq_true,beq_iff_eq,decide_eq_true_eq]at hh
  exact this ⟨hh.1,hh.2.1,hh.2.2⟩
attribute [go_sem ↓] eq3
end Go.Sx
