import Derived.Test.YtjlfgmhmalbiiaaGreatDoorProg
import Derived.Test.YtjlfgmhmalbiiaaGreatDoorU10
set_option linter.all false
namespace Go.Sx
theorem LN:(∀ {α:Type} (a b:List α),(a++b).length=a.length+b.length)∧(∀ {α:Type} (l:List α) (i:Nat) (a:α),(l.set i a).length=l.length)∧(∀ {α:Type} (n:Nat) (a:α),(List.replicate n a).length=n)∧(∀ {α:Type} (a:α) (l:List α),(a::l).length=l.length+1)∧(∀ {α:Type},([]:List α).length=0)∧(∀ L x,(dgp L x).length=L) :=
 ⟨fun _ _=>List.length_append,fun _ _ _=>List.length_set,fun _ _=>List.length_replicate,fun _ _=>List.length_cons,List.length_nil,dgp_length⟩
theorem NM : (∀ (p : Prop) [Decidable p], (decide p = true) = p) ∧ (∀ (p : Prop) [Decidable p], (decide p = false) = ¬p) ∧ (∀ b : Bool, (¬b = true) = (b = false)) ∧ (∀ b : Bool, (¬b = false) = (b = true)) ∧
  (∀ {α:Type} [BEq α] [LawfulBEq α] {a b:α},(a == b)=true↔a=b)∧(∀ {α:Type} [BEq α] [LawfulBEq α] {a b:α},(a == b)=false↔a≠b)∧(∀ {α:Type} (a b:α),(a≠b)=¬a=b) ∧
  (∀ b:Bool,((!b)=true)=(b=false))∧(∀ b:Bool,((!b)=false)=(b=true))∧(∀ a b:Bool,((a&&b)=true)=(a=true∧b=true))∧(∀ {x y:Bool},(x||y)=false↔x=false∧y=false) ∧
  (∀ {p:Prop} [Decidable p],¬¬p↔p)∧(∀ {a b:Int},¬a<b↔b≤a)∧(∀ {a b:Int},¬a≤b↔b<a)∧((false=true)=False)∧((true=false)=False) :=
 ⟨fun _ _=>decide_eq_true_eq,fun _ _=>propext decide_eq_false_iff_not,Bool.not_eq_true,Bool.not_eq_false,beq_iff_eq,beq_eq_false_iff_ne,fun _ _=>ne_eq _ _,Bool.not_eq_true',Bool.not_eq_false',Bool.and_eq_true,Bool.or_eq_false_iff,Decidable.not_not,Int.not_lt,Int.not_le,Bool.false_eq_true,Bool.true_eq_false⟩
attribute [go_sem] Nat.reduceEqDiff Nat.reduceLT Nat.reduceLeDiff Nat.reduceAdd Nat.reduceMul Nat.reduceSub reduceCtorEq Int.reduceToNat Int.reduceLT Int.reduceLE Int.reduceAdd Int.reduceSub Int.reduceMul Int.reduceNeg List.reduceReplicate
attribute [go_sem ↓] reduceIte
attribute [go_sem] wrap64 wrapu8 wrapu32 wrapu64 tdiv_nn tmod_nn
def depQ (ops:Array Oper):Nat→Nat→Nat→Bool
 | 0,_,_=>false
 | n+1,i,j=>match ops[j]? with
  | some o=>o.after.any fun e=>Region.binds .any e&&(e.on == i||(Nat.ble (i+1) e.on&&depQ ops n i e.on))
  | none=>false
def orderQ (ops:Array Oper) (fs:List Foot):Bool :=
 ((List.range ops.size).all fun j=>match ops[j]? with|some o=>o.after.all fun e=>!Region.binds .any e||decide (e.on<j)|none=>true) &&
 (List.range ops.size).all fun j=>(List.range j).all fun i=>match fs[i]?,fs[j]? with
  | some f,some g=>!clashF f g||depQ ops ops.size i j
  | _,_=>true
theorem depQ_dep {ops:Array Oper}:∀ (n i j:Nat),depQ ops n i j=true→depO ops n i j=true:=by
 intro n
 induction n with
 | zero=>intro i j h;simp[depQ]at h
 | succ n ih =>
  intro i j h
  simp only[depQ]at h
  simp only[depO]
  split at h
  ·rename_i o ho
   rw[ho]
   obtain ⟨e,he,hh⟩:=Array.any_eq_true'.1 h
   simp only[Bool.and_eq_true,Bool.or_eq_true]at hh
   refine Array.any_eq_true'.2 ⟨e,he,?_⟩
   simp only[Bool.and_eq_true,Bool.or_eq_true]
   exact ⟨hh.1,hh.2.imp id fun h=>ih _ _ h.2⟩
  ·contradiction
theorem ord_q {ops:Array Oper} {fs:List Foot} {X:Prop} (h:orderQ ops fs=true) (hx:X):orderOk ops fs=true∧X:=by
 refine ⟨?_,hx⟩
 unfold orderQ at h
 unfold orderOk
 simp only[Bool.and_eq_true]at h ⊢
 refine ⟨h.1,?_⟩
 have h2:=h.2
 rw[List.all_eq_true]at h2 ⊢
 intro j hj
 have h3:=h2 j hj
 rw[List.all_eq_true]at h3 ⊢
 intro i hi
 have h4:=h3 i hi
 split at h4
 ·rename_i f g e1 e2
  rw[e1,e2]
  simp only[Bool.or_eq_true]at h4 ⊢
  exact h4.imp id fun h=>depQ_dep _ _ _ h
 ·rename_i hn
  split
  ·rename_i f g e1 e2
   exact absurd e2 (hn f g e1)
  ·rfl
theorem zg {p q:Prop} (k:q) (h:q→p:=by intro k;first|exact Go.Sx.AW.seq k|exact Go.Sx.AW.regionP k|exact Go.Sx.AW.block k|exact Go.Sx.AW.blk k|exact Go.Sx.AW.skip k|exact Go.Sx.AW.exit rfl k|exact Go.Sx.ord_q (by kernel_rfl) k|exact Go.Sx.Un.next k|exact Go.Sx.AW.stopU k|exact Go.Sx.AW.drawP Go.Proofs.Vx.ymix k):p:=h k
theorem zo {p:Prop} (h:p:=by first|omega|(simp only[Go.Sx.LN];omega)):p:=h
theorem zb {b want wn:Bool} {X Y:Prop} {u:Tg (X,Y)} (h1:b=want→X) (h2:b=wn→Y) (e:wn=!want:=by first|exact (rfl:false=!true)|exact (rfl:true=!false)):gcaseP b want X Y u:=gcaseP.splitB h1 (e▸h2)
theorem ZC:(∀ a b:Nat,((a+b:Nat):Int)=a+b)∧(∀ n:Nat,((no_index (OfNat.ofNat n):Nat):Int)=OfNat.ofNat n):=⟨Int.natCast_add,fun _=>Int.cast_ofNat_Int⟩
theorem zl {α β:Type} {l:List α} (f:α→β):(l.map f).length=l.length:=List.length_map f
theorem ZT:∀ n:Nat,(n:Int).toNat=n:=Int.toNat_natCast
def Rz (p:Prop):Prop:=p
theorem Rz_eq (p:Prop):Rz p=p:=rfl
attribute [go_sem ↓] Rz_eq
theorem zr {P:Program} {nt:Nat} {rs:List ResultVar} {r:AV} {k:List Itm} {S:AS} (h:Rz (resE P S rs fun x=>bwr (look S.o) x=r)):AW P nt (RetA P rs r) (.code .ret::k) S:=AW.ret (RetA.of h)
theorem zn {P:Program} {nt:Nat} {rs:List ResultVar} {r:AV} {k:List Itm} {S:AS} (h:Rz (resE P S rs fun x=>bwn (look S.o) x=r)):AW P nt (RetN P rs r) (.code .ret::k) S:=AW.ret (RetN.of h)
attribute [irreducible] Rz
end Go.Sx
namespace Go.Proofs.Vx
open Go Go.Sx Go.Proofs
attribute [local irreducible] fnT CallOK CallFr AW effV callV runP runO oneP oneO gcaseP hid
theorem yqq_Nx1:agT Tryz.prog 3=some false∧agT Tryz.prog 5=some false∧agT Tryz.prog 9=some false∧arT Tryz.prog 9=none∧boT Tryz.prog 3=false∧boT Tryz.prog 5=false∧boT Tryz.prog 9=false∧slT Tryz.prog 9=none∧strT Tryz.prog 9=true∧szT Tryz.prog 227=some 256∧zeT Tryz.prog 227=some [.lit (.bool false),.lit (.bool false),.lit (.bool false),.lit (.bool false),.lit (.bool false),.lit (.bool false),.lit (.bool false),.lit (.bool false),.lit (.bool false),.lit (.bool false),.lit (.bool false),.lit (.bool false),.lit (.bool false),.lit (.bool false),.lit (.bool false),.lit (.bool false),.lit (.bool false),.lit (.bool false),.lit (.bool false),.lit (.bool false),.lit (.bool false),.lit (.bool false),.lit (.bool false),.lit (.bool false),.lit (.bool false),.lit (.bool false),.lit (.bool false),.lit (.bool false),.lit (.bool false),.lit (.bool false),.lit (.bool false),.lit (.bool false),.lit (.bool false),.lit (.bool false),.lit (.bool false),.lit (.bool false),.lit (.bool false),.lit (.bool false),.lit (.bool false),.lit (.bool false),.lit (.bool false),.lit (.bool false),.lit (.bool false),.lit (.bool false),.lit (.bool false),.lit (.bool false),.lit (.bool false),.lit (.bool false),.lit (.bool false),.lit (.bool false),.lit (.bool false),.lit (.bool false),.lit (.bool false),.lit (.bool false),.lit (.bool false),.lit (.bool false),.lit (.bool false),.lit (.bool false),.lit (.bool false),.lit (.bool false),.lit (.bool false),.lit (.bool false),.lit (.bool false),.lit (.bool false),.lit (.bool false),.lit (.bool false),.lit (.bool false),.lit (.bool false),.lit (.bool false),.lit (.bool false),.lit (.bool false),.lit (.bool false),.lit (.bool false),.lit (.bool false),.lit (.bool false),.lit (.bool false),.lit (.bool false),.lit (.bool false),.lit (.bool false),.lit (.bool false),.lit (.bool false),.lit (.bool false),.lit (.bool false),.lit (.bool false),.lit (.bool false),.lit (.bool false),.lit (.bool false),.lit (.bool false),.lit (.bool false),.lit (.bool false),.lit (.bool false),.lit (.bool false),.lit (.bool false),.lit (.bool false),.lit (.bool false),.lit (.bool false),.lit (.bool false),.lit (.bool false),.lit (.bool false),.lit (.bool false),.lit (.bool false),.lit (.bool false),.lit (.bool false),.lit (.bool false),.lit (.bool false),.lit (.bool false),.lit (.bool false),.lit (.bool false),.lit (.bool false),.lit (.bool false),.lit (.bool false),.lit (.bool false),.lit (.bool false),.lit (.bool false),.lit (.bool false),.lit (.bool false),.lit (.bool false),.lit (.bool false),.lit (.bool false),.lit (.bool false),.lit (.bool false),.lit (.bool false),.lit (.bool false),.lit (.bool false),.lit (.bool false),.lit (.bool false),.lit (.bool false),.lit (.bool false),.lit (.bool false),.lit (.bool false),.lit (.bool false),.lit (.bool false),.lit (.bool false),.lit (.bool false),.lit (.bool false),.lit (.bool false),.lit (.bool false),.lit (.bool false),.lit (.bool false),.lit (.bool false),.lit (.bool false),.lit (.bool false),.lit (.bool false),.lit (.bool false),.lit (.bool false),.lit (.bool false),.lit (.bool false),.lit (.bool false),.lit (.bool false),.lit (.bool false),.lit (.bool false),.lit (.bool false),.lit (.bool false),.lit (.bool false),.lit (.bool false),.lit (.bool false),.lit (.bool false),.lit (.bool false),.lit (.bool false),.lit (.bool false),.lit (.bool false),.lit (.bool false),.lit (.bool false),.lit (.bool false),.lit (.bool false),.lit (.bool false),.lit (.bool false),.lit (.bool false),.lit (.bool false),.lit (.bool false),.lit (.bool false),.lit (.bool false),.lit (.bool false),.lit (.bool false),.lit (.bool false),.lit (.bool false),.lit (.bool false),.lit (.bool false),.lit (.bool false),.lit (.bool false),.lit (.bool false),.lit (.bool false),.lit (.bool false),.lit (.bool false),.lit (.bool false),.lit (.bool false),.lit (.bool false),.lit (.bool false),.lit (.bool false),.lit (.bool false),.lit (.bool false),.lit (.bool false),.lit (.bool false),.lit (.bool false),.lit (.bool false),.lit (.bool false),.lit (.bool false),.lit (.bool false),.lit (.bool false),.lit (.bool false),.lit (.bool false),.lit (.bool false),.lit (.bool false),.lit (.bool false),.lit (.bool false),.lit (.bool false),.lit (.bool false),.lit (.bool false),.lit (.bool false),.lit (.bool false),.lit (.bool false),.lit (.bool false),.lit (.bool false),.lit (.bool false),.lit (.bool false),.lit (.bool false),.lit (.bool false),.lit (.bool false),.lit (.bool false),.lit (.bool false),.lit (.bool false),.lit (.bool false),.lit (.bool false),.lit (.bool false),.lit (.bool false),.lit (.bool false),.lit (.bool false),.lit (.bool false),.lit (.bool false),.lit (.bool false),.lit (.bool false),.lit (.bool false),.lit (.bool false),.lit (.bool false),.lit (.bool false),.lit (.bool false),.lit (.bool false),.lit (.bool false),.lit (.bool false),.lit (.bool false),.lit (.bool false),.lit (.bool false),.lit (.bool false),.lit (.bool false),.lit (.bool false),.lit (.bool false),.lit (.bool false),.lit (.bool false),.lit (.bool false),.lit (.bool false),.lit (.bool false),.lit (.bool false),.lit (.bool false),.lit (.bool false),.lit (.bool false),.lit (.bool false)]:=by and_intros<;>kernel_rfl
attribute [go_sem] yqq_Nx1
theorem yfn_188:fnT Tryz.prog 188=true:=by kernel_rfl
theorem yfn_234:fnT Tryz.prog 234=true:=by kernel_rfl
set_option maxHeartbeats 400000 in
theorem c234 (m:ByteArray) (hm:m.size<4611686018427387904):CallOK Tryz.prog 234 [.lit (.string m),.lit (.int .u8 0)] [] (.lit (.string (nb (nv m)))) []:=by
 refine CallOK.flat Tryz.func234 rfl 23 rfl rfl rfl [.tmp 4] (congrArg Array.toList Tryz.results234) ?_
 simp only[startT,Nat.reduceAdd]
 repeat' (first|refine zg ?_|(refine AW.cond rfl ?_ ?_<;>intro hc<;>try simp only[NM]at hc)|refine zr ?_|refine ⟨by omega,?_⟩|(refine zb ?_ ?_<;>intro hg<;>(try rw[hg])<;>try simp only[NM]at hg)|omega|simp -dsimp (disch:=try exact zo) only[go_sem]|contradiction|rfl)
 refine AW.loop (fun z:{s:ByteArray // nv s=nv m∧s.size≤m.size}=>⟨[(0,.lit (.string z.1)),(1,.lit (.int .u8 0))],[],9⟩) (fun z=>z.1.size) ⟨m,rfl,Nat.le_refl _⟩ (Weak.t4 (by refine ⟨?_,?_,?_,?_⟩<;>simp -dsimp (disch:=try exact zo) only[go_sem,ZC])) ?_
 rintro ⟨s,hs,hsz⟩
 dsimp only
 repeat' (first|refine zg ?_|(refine AW.cond rfl ?_ ?_<;>intro hc<;>try simp only[NM]at hc)|refine zr ?_|refine ⟨by omega,?_⟩|(refine zb ?_ ?_<;>intro hg<;>(try rw[hg])<;>try simp only[NM]at hg)|omega|simp -dsimp (disch:=try exact zo) only[go_sem]|contradiction|rfl)
 ·have e:(↑s.size - 1:Int).toNat=s.size - 1:=by omega
  rw[e]at hc
  have h1:(s.extract 0 (s.size - 1)).size=s.size - 1:=by simp
  refine AW.stop ⟨⟨s.extract 0 (s.size - 1),(nv_chop (by omega) hc).trans hs,by omega⟩,?_,by dsimp only;omega⟩
  rw[e]
  exact (Weak.t4 (by refine ⟨?_,?_,?_,?_⟩<;>simp -dsimp (disch:=try exact zo) only[go_sem,ZC]))
 ·have e:(↑s.size - 1:Int).toNat=s.size - 1:=by omega
  rw[e]at hc
  rw[← hs,nb_nv (.inr hc)]
 ·rw[← hs,nb_nv (.inl (by omega))]
theorem z0_ne:((⟨#[0]⟩:ByteArray)=⟨#[]⟩)=False:=by simp
theorem z0_bt:bt ⟨#[0]⟩ 0=0:=by rfl
theorem z0_size:(⟨#[0]⟩:ByteArray).size=1:=by rfl
theorem nb_empty {m:ByteArray} (h:m=⟨#[]⟩):nb (nv m)=m:=by subst h;simp[nv,nvL,nb_zero]
set_option maxHeartbeats 400000 in
theorem c188 (m:ByteArray) (hm:m.size<4611686018427387904):CallOK Tryz.prog 188 [.lit (.string m),.lit (.string ⟨#[0]⟩)] [] (.lit (.string (nb (nv m)))) []:=by
 refine CallOK.flat Tryz.func188 rfl 37 rfl rfl rfl [.tmp 4] (congrArg Array.toList Tryz.results188) ?_
 simp only[startT,Nat.reduceAdd]
 repeat' (first|refine zg ?_|(refine AW.cond rfl ?_ ?_<;>intro hc<;>try simp only[NM]at hc)|refine zr ?_|refine callV.flat _ yfn_234 (c234 _ (by omega)) rfl rfl ?_|refine ⟨by omega,?_⟩|(refine zb ?_ ?_<;>intro hg<;>(try rw[hg])<;>try simp only[NM]at hg)|omega|simp -dsimp (disch:=try exact zo) only[go_sem,z0_ne,z0_bt,z0_size,Int.toNat_zero]|contradiction|rfl)
 rw[nb_empty hg]
set_option maxHeartbeats 400000 in
theorem c143 (m:ByteArray) (hm:m.size<4611686018427387904):CallOK Tryz.prog 143 [.lit (.string m)] [] (.lit (.string (nb (nv m)))) []:=by
 refine CallOK.flat Tryz.func143 rfl 5 rfl rfl rfl [.tmp 2] (congrArg Array.toList Tryz.results143) ?_
 simp only[startT,Nat.reduceAdd]
 repeat' (first|refine zg ?_|(refine AW.cond rfl ?_ ?_<;>intro hc<;>try simp only[NM]at hc)|refine zr ?_|refine callV.flat _ yfn_188 (c188 _ (by omega)) rfl rfl ?_|refine ⟨by omega,?_⟩|(refine zb ?_ ?_<;>intro hg<;>(try rw[hg])<;>try simp only[NM]at hg)|omega|simp -dsimp (disch:=try exact zo) only[go_sem]|contradiction|rfl)
end Go.Proofs.Vx
namespace Go.Proofs.Vx
open Go Go.Sx Go.Proofs
attribute [local irreducible] fnT CallOK CallFr AW effV callV runP runO oneP oneO gcaseP hid
theorem yqq_Nx2:agT Tryz.prog 189=some false∧arT Tryz.prog 190=none∧boT Tryz.prog 189=false∧byT Tryz.prog 189=some 4∧byT Tryz.prog 5=some 1∧kiT Tryz.prog 189=some .u32∧kiT Tryz.prog 209=none∧kiT Tryz.prog 5=some .u8∧kiT Tryz.prog 9=none∧slT Tryz.prog 189=none∧slT Tryz.prog 190=some (189,1)∧slT Tryz.prog 209=some (5,1)∧slT Tryz.prog 5=none∧strT Tryz.prog 189=false∧strT Tryz.prog 190=false∧strT Tryz.prog 209=false∧strT Tryz.prog 5=false∧szT Tryz.prog 189=some 1∧zeT Tryz.prog 189=some [.lit (.int .u32 0)]∧zeT Tryz.prog 5=some [.lit (.int .u8 0)]:=by and_intros<;>kernel_rfl
attribute [go_sem] yqq_Nx2
theorem yfn_143:fnT Tryz.prog 143=true:=by kernel_rfl
theorem td4 (i:Nat):((i:Int) / 4).toNat=i / 4:=by omega
theorem ymix:Tryz.prog.follows .mixedOrders=true:=by kernel_rfl
theorem can_size (m:ByteArray):(nb (nv m)).size≤m.size:=(nb_size _ _).2 (nv_lt m)
set_option maxHeartbeats 800000 in
theorem c193 (m:ByteArray) (hm:m.size<1099511627776):CallOK Tryz.prog 193 [.lit (.string m)] [] (.sl (ints .u32 (lmN (nv m)))) []:=by
 unfold lmN
 refine CallOK.closed Tryz.func193 rfl 35 rfl rfl (by rw[In_sl,ints_in];trivial) [.tmp 2] (congrArg Array.toList Tryz.results193) ?_
 simp only[startT,Nat.reduceAdd]
 have hc0:=can_size m
 have hcn:nv (nb (nv m))=nv m:=nv_nb _
 generalize hc:nb (nv m)=c at *
 repeat' (first|refine zg ?_|(refine AW.cond rfl ?_ ?_<;>intro hc<;>try simp only[NM]at hc)|refine zr ?_|(refine callV.plain (.lit (.string c)) yfn_143 (hc▸c143 _ (by omega)) (by simp -dsimp (disch:=try exact zo) only[go_sem]) (.lit _) ?_)|refine ⟨by omega,?_⟩|(refine zb ?_ ?_<;>intro hg<;>(try rw[hg])<;>try simp only[NM]at hg)|omega|simp -dsimp (disch:=try exact zo) only[go_sem]|contradiction|rfl)
 have eL:((↑c.size+4 - 1) / 4:Int).toNat=(c.size+3) / 4:=by omega
 rw[eL]
 generalize hL:(c.size+3) / 4=L at *
 refine AW.loop (fun z:{i:Nat // i≤c.size}=>⟨[(15,.lit (.int .i64 z.1)),(14,.lit (.int .i64 c.size)),(3,.ref 17 0 L L),(0,.lit (.string c))],[(17,.vec 1 (ints .u32 (dgp L (nvL (c.data.toList.take z.1)))))],22⟩) (fun z=>c.size - z.1) ⟨0,Nat.zero_le _⟩ (by
  simp only[List.take_zero,nvL,dgp_zero,Int.ofNat_zero];exact (Weak.t4 (by refine ⟨?_,?_,?_,?_⟩<;>simp -dsimp (disch:=try exact zo) only[go_sem,ZC]))) ?_
 rintro ⟨i,hi⟩
 dsimp only
 repeat' (first|refine zg ?_|(refine AW.cond rfl ?_ ?_<;>intro hc<;>try simp only[NM]at hc)|refine zr ?_|refine ⟨by omega,?_⟩|(refine zb ?_ ?_<;>intro hg<;>(try rw[hg])<;>try simp only[NM]at hg)|omega|simp -dsimp (disch:=try exact zo) only[go_sem,td4,bw_tail]|contradiction|rfl)
 ·rw[limb_step c L i (by omega) (by omega)]
  exact AW.stop ⟨⟨i+1,by omega⟩,(Weak.t4 (by refine ⟨?_,?_,?_,?_⟩<;>simp -dsimp (disch:=try exact zo) only[go_sem,ZC])),by dsimp only;omega⟩
 ·rw[bw_tail (dgp_length _ _),take_all_nv c (by omega),hcn]
set_option maxHeartbeats 1600000 in
theorem c184 (xs:List Int) (hl:xs.length<1099511627776) (hx:∀ x∈xs,0≤x∧x<4294967296):CallOK Tryz.prog 184 [.sl (ints .u32 xs)] [] (.lit (.string (nb (wv xs)))) []:=by
 refine CallOK.flat Tryz.func184 rfl 33 rfl rfl rfl [.tmp 2] (congrArg Array.toList Tryz.results184) ?_
 simp only[startT,Nat.reduceAdd]
 have hml:maxLen=9223372036854775807:=rfl
 repeat' (first|refine zg ?_|(refine AW.cond rfl ?_ ?_<;>intro hc<;>try simp only[NM]at hc)|refine zr ?_|refine ⟨by omega,?_⟩|(refine zb ?_ ?_<;>intro hg<;>(try rw[hg])<;>try simp only[NM]at hg)|omega|simp -dsimp (disch:=try exact zo) only[go_sem]|contradiction|rfl)
 refine AW.loop (fun z:{p:Nat × List Int // p.1≤xs.length∧p.2=by4 (xs.take p.1)∧p.2.length=4*p.1}=>⟨[(13,.lit (.int .i64 z.1.1)),(12,.lit (.int .i64 xs.length)),(11,.sl (ints .u32 xs)),(3,.ref 12 0 z.1.2.length z.1.2.length)],[(12,.vec 1 (ints .u8 z.1.2))],17⟩) (fun z=>xs.length - z.1.1) ⟨(0,[]),Nat.zero_le _,rfl,rfl⟩ (by
  exact (Weak.t4 (by refine ⟨?_,?_,?_,?_⟩<;>simp -dsimp (disch:=try exact zo) only[go_sem,ZC]))) ?_
 rintro ⟨⟨i,X⟩,hi,hX,hXl⟩
 dsimp only at hi hX hXl ⊢
 repeat' (first|refine zg ?_|(refine AW.cond rfl ?_ ?_<;>intro hc<;>try simp only[NM]at hc)|refine zr ?_|refine ⟨by omega,?_⟩|(refine zb ?_ ?_<;>intro hg<;>(try rw[hg])<;>try simp only[NM]at hg)|omega|simp -dsimp (disch:=try exact zo) only[go_sem]|contradiction|rfl)
 ·refine AW.loop (fun z:{p:Nat × List Int // p.1≤4∧p.2=X++(le4 (xs.getD i 0)).take p.1∧p.2.length=4*i+p.1}=>⟨[(17,.lit (.int .i64 z.1.1)),(5,.lit (.int .u32 (xs.getD i 0))),(13,.lit (.int .i64 i)),(12,.lit (.int .i64 xs.length)),(11,.sl (ints .u32 xs)),(3,.ref 12 0 z.1.2.length z.1.2.length)],[(12,.vec 1 (ints .u8 z.1.2))],22⟩) (fun z=>4 - z.1.1) ⟨(0,X),Nat.zero_le _,by simp,hXl⟩ (Weak.t4 (by refine ⟨?_,?_,?_,?_⟩<;>simp -dsimp (disch:=try exact zo) only[go_sem,ZC])) ?_
  rintro ⟨⟨k,Y⟩,hk,hY,hYl⟩
  dsimp only at hk hY hYl ⊢
  have hd:=hx (xs.getD i 0) (by
   rw[List.getD_eq_getElem?_getD,List.getElem?_eq_getElem (by omega)];exact List.getElem_mem _)
  repeat' (first|refine zg ?_|(refine AW.cond rfl ?_ ?_<;>intro hc<;>try simp only[NM]at hc)|refine zr ?_|refine ⟨by omega,?_⟩|(refine zb ?_ ?_<;>intro hg<;>(try rw[hg])<;>try simp only[NM]at hg)|omega|simp -dsimp (disch:=try exact zo) only[go_sem]|contradiction|rfl)
  ·refine AW.stop ⟨⟨(k+1,Y++[IntKind.u8.wrap ((xs.getD i 0).fdiv (2 ^ min (8*(k:Int)).toNat 32))]),by omega,?_,by dsimp only;simp only[List.length_append,List.length_cons,List.length_nil];omega⟩,(Weak.t4 (by refine ⟨?_,?_,?_,?_⟩<;>simp -dsimp (disch:=try exact zo) only[go_sem,ZC,List.length_append])),by dsimp only;omega⟩
   dsimp only
   rw[le4_step _ _ hd.1 hd.2 (by omega),hY,List.append_assoc]
   congr 4
  ·have hk4:k=4:=by omega
   subst hk4
   refine AW.stop ⟨⟨(i+1,Y),by omega,?_,by dsimp only;omega⟩,(Weak.t4 (by refine ⟨?_,?_,?_,?_⟩<;>simp -dsimp (disch:=try exact zo) only[go_sem,ZC,List.length_append])),by dsimp only;omega⟩
   dsimp only
   rw[by4_succ _ _ (by omega),hY,← hX]
   rfl
 ·have hi4:i=xs.length:=by omega
  subst hi4
  rw[List.take_length]at hX
  have e:nb (nv ⟨(ofI X).toArray⟩)=nb (wv xs):=by
   unfold nv
   rw[hX,← nv_by4 xs hx]
  have hsz:(⟨(ofI X).toArray⟩:ByteArray).size=X.length:=by simp[ByteArray.size,ofI]
  refine ⟨ofI X,by rw[ints_enc8 _ (hX▸by4_byte xs)],?_⟩
  rw[← e]
  repeat' (first|refine zg ?_|(refine AW.cond rfl ?_ ?_<;>intro hc<;>try simp only[NM]at hc)|refine zr ?_|refine callV.flat _ yfn_143 (c143 _ (by omega)) rfl rfl ?_|refine ⟨by omega,?_⟩|(refine zb ?_ ?_<;>intro hg<;>(try rw[hg])<;>try simp only[NM]at hg)|omega|simp -dsimp (disch:=try exact zo) only[go_sem]|contradiction|rfl)
end Go.Proofs.Vx
namespace Go.Proofs.Vx
open Go Go.Sx Go.Proofs
attribute [local irreducible] fnT CallOK CallFr AW effV callV runP runO oneP oneO gcaseP hid
theorem yqq_Nx3:agT Tryz.prog 158=some false∧boT Tryz.prog 158=false∧kiT Tryz.prog 158=some .u64∧slT Tryz.prog 158=none∧strT Tryz.prog 158=false:=by and_intros<;>kernel_rfl
attribute [go_sem] yqq_Nx3
theorem yfn_184:fnT Tryz.prog 184=true:=by kernel_rfl
theorem u32_bd (z:Int):0≤IntKind.u32.wrap z∧IntKind.u32.wrap z<4294967296:=by rw[u32_wrap];omega
set_option maxHeartbeats 400000 in
theorem c138 (n:Int) (hn:0≤n∧n<18446744073709551616):CallOK Tryz.prog 138 [.lit (.int .u64 n)] [] (.lit (.string (nb n.toNat))) []:=by
 refine CallOK.flat Tryz.func138 rfl 10 rfl rfl rfl [.tmp 2] (congrArg Array.toList Tryz.results138) ?_
 simp only[startT,Nat.reduceAdd]
 have hd:Dig [IntKind.u32.wrap n,n / 4294967296]:=by
  intro x hx
  simp only[List.mem_cons,List.not_mem_nil,or_false]at hx
  rcases hx with rfl|rfl
  ·exact u32_bd _
  ·omega
 have e:nb n.toNat=nb (wv [IntKind.u32.wrap n,n / 4294967296]):=by
  congr 1
  have h:=wv_wz hd
  simp only[wz,u32_wrap]at h
  simp only[u32_wrap]
  omega
 rw[e]
 repeat' (first|refine zg ?_|(refine AW.cond rfl ?_ ?_<;>intro hc<;>try simp only[NM]at hc)|refine zr ?_|(refine callV.lend (.lit (.string (nb (wv [IntKind.u32.wrap n,n / 4294967296])))) yfn_184 (by simp -dsimp (disch:=try exact zo) only[go_sem,bw_tail,List.length_cons];exact c184 [IntKind.u32.wrap n,n / 4294967296] (by simp) hd) (by simp -dsimp (disch:=try exact zo) only[go_sem,bw_tail,List.length_cons,ints_in]) (.lit _) ?_)|refine ⟨by omega,?_⟩|(refine zb ?_ ?_<;>intro hg<;>(try rw[hg])<;>try simp only[NM]at hg)|omega|simp -dsimp (disch:=try exact zo) only[go_sem]|contradiction|rfl)
set_option maxHeartbeats 400000 in
theorem c194 (x y c:Int) (hx:0≤x∧x<4294967296) (hy:0≤y∧y<4294967296) (hc:0≤c∧c<4294967296):CallOK Tryz.prog 194 [.lit (.int .u32 x),.lit (.int .u32 y),.lit (.int .u32 c)] [] (.tup [.lit (.int .u32 ((x+y+c) % 4294967296)),.lit (.int .u32 ((x+y+c) / 4294967296))]) []:=by
 refine CallOK.flat Tryz.func194 rfl 22 rfl rfl rfl [.tmp 6,.tmp 7] (congrArg Array.toList Tryz.results194) ?_
 simp only[startT,Nat.reduceAdd]
 repeat' (first|refine zg ?_|(refine AW.cond rfl ?_ ?_<;>intro hc<;>try simp only[NM]at hc)|refine zr ?_|refine ⟨by omega,?_⟩|(refine zb ?_ ?_<;>intro hg<;>(try rw[hg])<;>try simp only[NM]at hg)|omega|simp -dsimp (disch:=try exact zo) only[go_sem]|contradiction|rfl)
set_option maxHeartbeats 400000 in
theorem c196 (x y c:Int) (hx:0≤x∧x<4294967296) (hy:0≤y∧y<4294967296) (hc:0≤c∧c≤1):CallOK Tryz.prog 196 [.lit (.int .u32 x),.lit (.int .u32 y),.lit (.int .u32 c)] [] (.tup [.lit (.int .u32 ((x - y - c) % 4294967296)),.lit (.int .u32 (if x<y+c then 1 else 0))]) []:=by
 refine CallOK.flat Tryz.func196 rfl 25 rfl rfl rfl [.tmp 6,.tmp 7] (congrArg Array.toList Tryz.results196) ?_
 simp only[startT,Nat.reduceAdd]
 repeat' (first|refine zg ?_|(refine AW.cond rfl ?_ ?_<;>intro hc<;>try simp only[NM]at hc)|refine zr ?_|refine ⟨by omega,?_⟩|(refine zb ?_ ?_<;>intro hg<;>(try rw[hg])<;>try simp only[NM]at hg)|omega|simp -dsimp (disch:=try exact zo) only[go_sem]|contradiction|rfl)
 have h:=borrow32 hx hy hc
 have h2:IntKind.u32.wrap (IntKind.u32.wrap (x - y) - c)=(x - y - c) % 4294967296:=by rw[u32_wrap,u32_wrap];omega
 rw[← h,← h2]
 rfl
set_option maxHeartbeats 400000 in
theorem c238 (m:ByteArray) (hm:m.size<1099511627776):CallOK Tryz.prog 238 [.lit (.string m)] [] (.tup [.lit (.int .u64 (if nv m<18446744073709551616 then (nv m:Int)else 0)),.lit (.bool (decide (nv m<18446744073709551616)))]) []:=by
 refine CallOK.flat Tryz.func238 rfl 27 rfl rfl rfl [.tmp 2,.tmp 3] (congrArg Array.toList Tryz.results238) ?_
 simp only[startT,Nat.reduceAdd]
 have hc0:=can_size m
 have hcn:nv (nb (nv m))=nv m:=nv_nb _
 have hs8:=nb_size (nv m) 8
 have e8:256 ^ 8=18446744073709551616:=by decide
 rw[e8]at hs8
 generalize hcc:nb (nv m)=c at *
 repeat' (first|refine zg ?_|(refine AW.cond rfl ?_ ?_<;>intro hc<;>try simp only[NM]at hc)|refine zr ?_|(refine callV.flat (.lit (.string c)) yfn_143 (hcc▸c143 _ (by omega)) rfl rfl ?_)|refine ⟨by omega,?_⟩|(refine zb ?_ ?_<;>intro hg<;>(try rw[hg])<;>try simp only[NM]at hg)|omega|simp -dsimp (disch:=try exact zo) only[go_sem]|contradiction|rfl)
 ·have h9:¬ nv m<18446744073709551616:=by omega
  simp only[h9,if_false,decide_false]
 ·have h9:nv m<18446744073709551616:=by omega
  simp only[h9,if_true,decide_true]
  refine AW.loop (fun z:{p:Nat × Int // p.1≤c.size∧p.2=nvL (c.data.toList.take p.1)}=>⟨[(13,.lit (.int .i64 z.1.1)),(12,.lit (.int .i64 c.size)),(0,.lit (.string c)),(4,.lit (.int .u64 z.1.2))],[],18⟩) (fun z=>c.size - z.1.1) ⟨(0,0),Nat.zero_le _,rfl⟩ (Weak.t4 (by refine ⟨?_,?_,?_,?_⟩<;>simp -dsimp (disch:=try exact zo) only[go_sem,ZC])) ?_
  rintro ⟨⟨i,n⟩,hi,hn⟩
  dsimp only at hi hn ⊢
  repeat' (first|refine zg ?_|(refine AW.cond rfl ?_ ?_<;>intro hc<;>try simp only[NM]at hc)|refine zr ?_|refine ⟨by omega,?_⟩|(refine zb ?_ ?_<;>intro hg<;>(try rw[hg])<;>try simp only[NM]at hg)|omega|simp -dsimp (disch:=try exact zo) only[go_sem]|contradiction|rfl)
  ·subst hn
   rw[byte_step c i (by omega) (by omega)]
   exact AW.stop ⟨⟨(i+1,(nvL (c.data.toList.take (i+1)):Int)),by dsimp only;omega,rfl⟩,(Weak.t4 (by refine ⟨?_,?_,?_,?_⟩<;>simp -dsimp (disch:=try exact zo) only[go_sem,ZC])),by dsimp only;omega⟩
  ·rw[hn,take_all_nv c (by omega),hcn]
set_option maxHeartbeats 400000 in
theorem c195 (a b:ByteArray) (ha:a.size<1099511627776) (hb:b.size<1099511627776):CallOK Tryz.prog 195 [.lit (.string a),.lit (.string b)] [] (.lit (.int .i64 (cmpN (nv a) (nv b)))) []:=by
 refine CallOK.flat Tryz.func195 rfl 46 rfl rfl rfl [.tmp 4] (congrArg Array.toList Tryz.results195) ?_
 simp only[startT,Nat.reduceAdd]
 have hc0:=can_size a
 have hd0:=can_size b
 have hcn:nv (nb (nv a))=nv a:=nv_nb _
 have hdn:nv (nb (nv b))=nv b:=nv_nb _
 have hlt1:(nb (nv a)).size<(nb (nv b)).size→nv a<nv b:=nb_size_lt
 have hlt2:(nb (nv b)).size<(nb (nv a)).size→nv b<nv a:=nb_size_lt
 generalize hcc:nb (nv a)=c at *
 generalize hdd:nb (nv b)=d at *
 unfold cmpN
 repeat' (first|refine zg ?_|(refine AW.cond rfl ?_ ?_<;>intro hc<;>try simp only[NM]at hc)|refine zr ?_|(first|refine callV.flat (.lit (.string c)) yfn_143 (hcc▸c143 a (by omega)) rfl rfl ?_|refine callV.flat (.lit (.string d)) yfn_143 (hdd▸c143 b (by omega)) rfl rfl ?_)|refine ⟨by omega,?_⟩|(refine zb ?_ ?_<;>intro hg<;>(try rw[hg])<;>try simp only[NM]at hg)|omega|simp -dsimp (disch:=try exact zo) only[go_sem]|contradiction|rfl)
 ·rw[if_pos (hlt1 (by omega))]
 ·have:=hlt2 (by omega)
  rw[if_neg (by omega),if_neg (by omega)]
 ·refine AW.loop (fun z:{i:Nat // i≤c.size∧nv c / 256 ^ (c.size - i)=nv d / 256 ^ (c.size - i)}=>⟨[(23,.lit (.int .i64 z.1)),(22,.lit (.int .i64 c.size)),(0,.lit (.string c)),(1,.lit (.string d))],[],23⟩) (fun z=>c.size - z.1) ⟨0,Nat.zero_le _,by
   have h1:=nv_lt c
   have h2:=nv_lt d
   rw[show d.size=c.size by omega]at h2
   rw[Nat.sub_zero,Nat.div_eq_of_lt h1,Nat.div_eq_of_lt h2]⟩ (Weak.t4 (by refine ⟨?_,?_,?_,?_⟩<;>simp -dsimp (disch:=try exact zo) only[go_sem,ZC])) ?_
  rintro ⟨i,hi,hq⟩
  dsimp only
  have ek:i<c.size→((c.size:Int) - 1 - i).toNat=c.size - 1 - i:=by omega
  have hq1:i<c.size→nv c / 256 ^ (c.size - 1 - i+1)=nv d / 256 ^ (c.size - 1 - i+1):=fun h=>by rwa [show c.size - 1 - i+1=c.size - i by omega]
  repeat' (first|refine zg ?_|(refine AW.cond rfl ?_ ?_<;>intro hc<;>try simp only[NM]at hc)|refine zr ?_|refine ⟨by omega,?_⟩|(refine zb ?_ ?_<;>intro hg<;>(try rw[hg])<;>try simp only[NM]at hg)|omega|simp -dsimp (disch:=try exact zo) only[go_sem]|contradiction|rfl)
  ·have hi:i<c.size:=by omega
   rw[ek hi,bt_div,bt_div]at hc
   have:=(cmp_top (hq1 hi)).1 (by omega)
   rw[if_pos (by omega)]
  ·rename_i hne
   have hi:i<c.size:=by omega
   rw[ek hi,bt_div,bt_div]at hc hne
   have:=(cmp_top (hq1 hi).symm).1 (by omega)
   rw[if_neg (by omega),if_neg (by omega)]
  ·have hi:i<c.size:=by omega
   rw[ek hi,bt_div,bt_div]at hc
   refine AW.stop ⟨⟨i+1,by omega,?_⟩,(Weak.t4 (by refine ⟨?_,?_,?_,?_⟩<;>simp -dsimp (disch:=try exact zo) only[go_sem,ZC])),by dsimp only;omega⟩
   rw[show c.size - (i+1)=c.size - 1 - i by omega]
   exact (cmp_top (hq1 hi)).2 (by omega)
  ·have e:c.size - i=0:=by omega
   rw[e]at hq
   simp only[Nat.pow_zero,Nat.div_one]at hq
   rw[if_neg (by omega),if_pos (by omega)]
end Go.Proofs.Vx
namespace Go.Proofs.Vx
open Go Go.Sx Go.Proofs
attribute [local irreducible] fnT CallOK CallFr AW effV callV runP runO oneP oneO gcaseP hid
theorem yfn_193:fnT Tryz.prog 193=true:=by kernel_rfl
theorem yfn_194:fnT Tryz.prog 194=true:=by kernel_rfl
theorem lm_len (m:ByteArray):(lmN (nv m)).length≤(m.size+3) / 4:=by rw[lmN_length];have:=can_size m;omega
theorem wz_dig_full {xs:List Int} {n:Nat} (h:xs.length≤n):xs.take n=xs:=List.take_of_length_le h
set_option maxHeartbeats 1600000 in
theorem c147 (a b:ByteArray) (ha:a.size<274877906944) (hb:b.size<274877906944):CallOK Tryz.prog 147 [.lit (.string a),.lit (.string b)] [] (.lit (.string (nb (nv a+nv b)))) []:=by
 refine CallOK.flat Tryz.func147 rfl 60 rfl rfl rfl [.tmp 4] (congrArg Array.toList Tryz.results147) ?_
 simp only[startT,Nat.reduceAdd]
 have la:=lm_len a
 have lb:=lm_len b
 have da:=lmN_dig (nv a)
 have db:=lmN_dig (nv b)
 have wa:=wz_lmN (nv a)
 have wb:=wz_lmN (nv b)
 repeat' (first|refine zg ?_|refine zr ?_|(first|refine callV.plain (.sl (ints .u32 (lmN (nv a)))) yfn_193 (c193 a (by omega)) (by simp -dsimp (disch:=try exact zo) only[go_sem]) (by rw[In_sl,ints_in];trivial) ?_|refine callV.plain (.sl (ints .u32 (lmN (nv b)))) yfn_193 (c193 b (by omega)) (by simp -dsimp (disch:=try exact zo) only[go_sem]) (by rw[In_sl,ints_in];trivial) ?_)|refine ⟨by omega,?_⟩|(refine zb ?_ ?_<;>intro hg<;>(try rw[hg])<;>try simp only[NM]at hg)|omega|simp -dsimp (disch:=try exact zo) only[go_sem]|contradiction|rfl)
 generalize lmN (nv a)=X at *
 generalize lmN (nv b)=Y at *
 refine AW.join (fun z:{p:List Int × List Int // p.2.length≤p.1.length∧p.1.length<274877906944∧Dig p.1∧Dig p.2∧wz p.1+wz p.2=nv a+nv b}=>⟨[(5,.sl (ints .u32 z.1.1)),(6,.sl (ints .u32 z.1.2))],[],20⟩) ?_ ?_
 ·repeat' (first|refine zg ?_|(refine AW.cond rfl ?_ ?_<;>intro hc<;>try simp only[NM]at hc)|refine zr ?_|refine ⟨by omega,?_⟩|(refine zb ?_ ?_<;>intro hg<;>(try rw[hg])<;>try simp only[NM]at hg)|omega|simp -dsimp (disch:=try exact zo) only[go_sem]|contradiction|rfl)
  ·exact AW.stop ⟨⟨(Y,X),by dsimp only;omega,by dsimp only;omega,db,da,by dsimp only;omega⟩,(Weak.t4 (by refine ⟨?_,?_,?_,?_⟩<;>simp -dsimp (disch:=try exact zo) only[go_sem,ZC]))⟩
  ·exact AW.stop ⟨⟨(X,Y),by dsimp only;omega,by dsimp only;omega,da,db,by dsimp only;omega⟩,(Weak.t4 (by refine ⟨?_,?_,?_,?_⟩<;>simp -dsimp (disch:=try exact zo) only[go_sem,ZC]))⟩
 clear la lb da db wa wb X Y
 rintro ⟨⟨xs,ys⟩,hl,hn,dx,dy,hw⟩
 dsimp only at hl hn dx dy hw ⊢
 have eN:((xs.length:Int)+1).toNat=xs.length+1:=by omega
 repeat' (first|refine zg ?_|(refine AW.cond rfl ?_ ?_<;>intro hc<;>try simp only[NM]at hc)|refine zr ?_|refine ⟨by omega,?_⟩|(refine zb ?_ ?_<;>intro hg<;>(try rw[hg])<;>try simp only[NM]at hg)|omega|simp -dsimp (disch:=try exact zo) only[go_sem,eN]|contradiction|rfl)
 refine AW.loop (fun z:{p:Nat × List Int × Int // p.1≤xs.length∧Dig p.2.1∧p.2.1.length=xs.length+1∧(0≤p.2.2∧p.2.2≤1)∧wz (p.2.1.take p.1)+4294967296 ^ p.1*p.2.2=wz (xs.take p.1)+wz (ys.take p.1)}=>⟨[(28,.lit (.int .i64 z.1.1)),(27,.lit (.int .i64 xs.length)),(26,.sl (ints .u32 xs)),(8,.lit (.int .u32 z.1.2.2)),(7,.ref 23 0 (xs.length+1) (xs.length+1)),(5,.sl (ints .u32 xs)),(6,.sl (ints .u32 ys))],[(23,.vec 1 (ints .u32 z.1.2.1))],29⟩) (fun z=>xs.length - z.1.1) ⟨(0,List.replicate (xs.length+1) 0,0),Nat.zero_le _,Dig.rep _,by simp,⟨Int.le_refl 0,Int.zero_le_ofNat 1⟩,by simp[wz]⟩ (Weak.t4 (by refine ⟨?_,?_,?_,?_⟩<;>simp -dsimp (disch:=try exact zo) only[go_sem,ZC])) ?_
 rintro ⟨⟨i,out,c⟩,hi,dO,ho,hc1,hv⟩
 dsimp only at hi dO ho hc1 hv ⊢
 have dxi:=dx.getD i
 have dyi:=dy.getD i
 have step : i < xs.length → ∀ y, y = ys.getD i 0 → Dig (out.set i ((xs.getD i 0 + y + c) % 4294967296)) ∧ (0 ≤ (xs.getD i 0 + y + c) / 4294967296 ∧ (xs.getD i 0 + y + c) / 4294967296 ≤ 1) ∧
   wz ((out.set i ((xs.getD i 0+y+c) % 4294967296)).take (i+1))+4294967296 ^ (i+1)*((xs.getD i 0+y+c) / 4294967296)=wz (xs.take (i+1))+wz (ys.take (i+1)):=by
  rintro hlt y rfl
  refine ⟨dO.set (by omega),by omega,?_⟩
  rw[wz_set_succ (by omega),wz_take_succ,wz_take_succ,Int.pow_succ]
  have:=Int.mul_ediv_add_emod (xs.getD i 0+ys.getD i 0+c) 4294967296
  grind
 have fin:xs.length≤i→Dig (out.set xs.length c)∧wv (out.set xs.length c)=nv a+nv b:=by
  intro hge
  obtain rfl:i=xs.length:=by omega
  have hd:Dig (out.set xs.length c):=dO.set (by omega)
  refine ⟨hd,?_⟩
  have h1:=wv_wz hd
  have h2:=wz_set_succ (xs:=out) (i:=xs.length) (by omega) c
  rw[List.take_of_length_le (by simp;omega)]at h2
  rw[wz_dig_full (Nat.le_refl _),wz_dig_full hl]at hv
  omega
 repeat' (first|refine zg ?_|(refine AW.cond rfl ?_ ?_<;>intro hc<;>try simp only[NM]at hc)|refine zr ?_|(refine callV.flat _ yfn_194 (c194 _ _ _ (by omega) (by omega) (by omega)) rfl rfl ?_)|(refine callV.lend1 (.lit (.string (nb (wv (out.set xs.length c))))) yfn_184 (c184 (out.set xs.length c) (by simp;omega) (fin (by omega)).1) rfl (by simp only[ints_length,List.length_set,List.length_replicate];omega) (by simp -dsimp (disch:=try exact zo) only[go_sem,ints_in]) (.lit _) ?_)|refine ⟨by omega,?_⟩|(refine zb ?_ ?_<;>intro hg<;>(try rw[hg])<;>try simp only[NM]at hg)|omega|simp -dsimp (disch:=try exact zo) only[go_sem]|contradiction|rfl)
 ·obtain ⟨s1,s2,s3⟩:=step (by omega) _ rfl
  exact AW.stop ⟨⟨(i+1,out.set i ((xs.getD i 0+ys.getD i 0+c) % 4294967296),(xs.getD i 0+ys.getD i 0+c) / 4294967296),by dsimp only;omega,s1,by simpa using ho,s2,s3⟩,(Weak.t4 (by refine ⟨?_,?_,?_,?_⟩<;>simp -dsimp (disch:=try exact zo) only[go_sem,ZC])),by dsimp only;omega⟩
 ·obtain ⟨s1,s2,s3⟩:=step (by omega) 0 (by rw[List.getD_eq_getElem?_getD,List.getElem?_eq_none (by omega)];rfl)
  exact AW.stop ⟨⟨(i+1,out.set i ((xs.getD i 0+0+c) % 4294967296),(xs.getD i 0+0+c) / 4294967296),by dsimp only;omega,s1,by simpa using ho,s2,s3⟩,(Weak.t4 (by refine ⟨?_,?_,?_,?_⟩<;>simp -dsimp (disch:=try exact zo) only[go_sem,ZC])),by dsimp only;omega⟩
 ·rw[(fin (by omega)).2]
end Go.Proofs.Vx
namespace Go.Proofs.Vx
open Go Go.Sx Go.Proofs
attribute [local irreducible] fnT CallOK CallFr AW effV callV runP runO oneP oneO gcaseP hid
theorem yfn_195:fnT Tryz.prog 195=true:=by kernel_rfl
theorem yfn_196:fnT Tryz.prog 196=true:=by kernel_rfl
set_option maxHeartbeats 1600000 in
theorem c148 (a b:ByteArray) (ha:a.size<274877906944) (hb:b.size<274877906944):CallOK Tryz.prog 148 [.lit (.string a),.lit (.string b)] [] (.tup [.lit (.string (if nv a<nv b then ⟨#[]⟩else nb (nv a - nv b))),.lit (.bool (decide (nv b≤nv a)))]) []:=by
 refine CallOK.flat Tryz.func148 rfl 52 rfl rfl rfl [.tmp 4,.tmp 5] (congrArg Array.toList Tryz.results148) ?_
 simp only[startT,Nat.reduceAdd]
 have la:=lm_len a
 have lb:=lm_len b
 have da:=lmN_dig (nv a)
 have db:=lmN_dig (nv b)
 have wa:=wz_lmN (nv a)
 have wb:=wz_lmN (nv b)
 have lab:nv b≤nv a→(lmN (nv b)).length≤(lmN (nv a)).length:=lmN_mono
 have hc:=@cmpN_lt (nv a) (nv b)
 repeat' (first|refine zg ?_|(refine AW.cond rfl ?_ ?_<;>intro hc<;>try simp only[NM]at hc)|refine zr ?_|(first|refine callV.plain (.sl (ints .u32 (lmN (nv a)))) yfn_193 (c193 a (by omega)) (by simp -dsimp (disch:=try exact zo) only[go_sem]) (by rw[In_sl,ints_in];trivial) ?_|refine callV.plain (.sl (ints .u32 (lmN (nv b)))) yfn_193 (c193 b (by omega)) (by simp -dsimp (disch:=try exact zo) only[go_sem]) (by rw[In_sl,ints_in];trivial) ?_)|(refine callV.flat _ yfn_195 (c195 a b (by omega) (by omega)) rfl rfl ?_)|refine ⟨by omega,?_⟩|(refine zb ?_ ?_<;>intro hg<;>(try rw[hg])<;>try simp only[NM]at hg)|omega|simp -dsimp (disch:=try exact zo) only[go_sem]|contradiction|rfl)
 ·have h:nv a<nv b:=by omega
  simp only[if_pos h,show ¬ nv b≤nv a by omega,decide_false]
 have h:¬ nv a<nv b:=by omega
 simp only[if_neg h,show nv b≤nv a by omega,decide_true]
 generalize lmN (nv a)=xs at *
 generalize lmN (nv b)=ys at *
 have hl:=lab (by omega)
 refine AW.loop (fun z:{p:Nat × List Int × Int // p.1≤xs.length∧Dig p.2.1∧p.2.1.length=xs.length∧(0≤p.2.2∧p.2.2≤1)∧wz (p.2.1.take p.1) - 4294967296 ^ p.1*p.2.2=wz (xs.take p.1) - wz (ys.take p.1)}=>⟨[(25,.lit (.int .i64 z.1.1)),(24,.lit (.int .i64 xs.length)),(23,.sl (ints .u32 xs)),(9,.lit (.int .u32 z.1.2.2)),(8,.ref 22 0 xs.length xs.length),(6,.sl (ints .u32 xs)),(7,.sl (ints .u32 ys))],[(22,.vec 1 (ints .u32 z.1.2.1))],30⟩) (fun z=>xs.length - z.1.1) ⟨(0,List.replicate xs.length 0,0),Nat.zero_le _,Dig.rep _,by simp,⟨Int.le_refl 0,Int.zero_le_ofNat 1⟩,by simp[wz]⟩ (Weak.t4 (by refine ⟨?_,?_,?_,?_⟩<;>simp -dsimp (disch:=try exact zo) only[go_sem,ZC])) ?_
 rintro ⟨⟨i,out,c⟩,hi,dO,ho,hc1,hv⟩
 dsimp only at hi dO ho hc1 hv ⊢
 have dxi:=da.getD i
 have dyi:=db.getD i
 have step : i < xs.length → ∀ y, y = ys.getD i 0 → Dig (out.set i ((xs.getD i 0 - y - c) % 4294967296)) ∧ (0 ≤ (if xs.getD i 0 < y + c then (1 : Int) else 0) ∧ (if xs.getD i 0 < y + c then (1 : Int) else 0) ≤ 1) ∧
   wz ((out.set i ((xs.getD i 0 - y - c) % 4294967296)).take (i+1)) - 4294967296 ^ (i+1)*(if xs.getD i 0<y+c then (1:Int)else 0)=wz (xs.take (i+1)) - wz (ys.take (i+1)):=by
  rintro hlt y rfl
  refine ⟨dO.set (by omega),by split<;>omega,?_⟩
  rw[wz_set_succ (by omega),wz_take_succ,wz_take_succ,Int.pow_succ]
  have:(xs.getD i 0 - ys.getD i 0 - c) % 4294967296=xs.getD i 0 - ys.getD i 0 - c+4294967296*(if xs.getD i 0<ys.getD i 0+c then (1:Int)else 0):=by split<;>omega
  rw[this]
  generalize (if xs.getD i 0<ys.getD i 0+c then (1:Int)else 0)=d
  grind
 have fin:xs.length≤i→wv out=nv a - nv b:=by
  intro hge
  obtain rfl:i=xs.length:=by omega
  have h1:=wv_wz dO
  rw[take_full (Nat.le_of_eq ho),take_full (Nat.le_refl _),take_full hl]at hv
  have h2:=wz_lt dO
  rw[ho]at h2
  have h3:=wz_nonneg dO
  have hp:(0:Int)<4294967296 ^ xs.length:=Int.pow_pos (by decide)
  rcases (show c=0∨c=1 by omega)with rfl|rfl
  ·omega
  ·omega
 repeat' (first|refine zg ?_|(refine AW.cond rfl ?_ ?_<;>intro hc<;>try simp only[NM]at hc)|refine zr ?_|(refine callV.flat _ yfn_196 (c196 _ _ _ (by omega) (by omega) (by omega)) rfl rfl ?_)|(refine callV.lend1 (.lit (.string (nb (wv out)))) yfn_184 (c184 out (by omega) dO) rfl (by simp only[ints_length,List.length_set,List.length_replicate];omega) (by simp -dsimp (disch:=try exact zo) only[go_sem,ints_in]) (.lit _) ?_)|refine ⟨by omega,?_⟩|(refine zb ?_ ?_<;>intro hg<;>(try rw[hg])<;>try simp only[NM]at hg)|omega|simp -dsimp (disch:=try exact zo) only[go_sem]|contradiction|rfl)
 ·obtain ⟨s1,s2,s3⟩:=step (by omega) _ rfl
  exact AW.stop ⟨⟨(i+1,out.set i ((xs.getD i 0 - ys.getD i 0 - c) % 4294967296),if xs.getD i 0<ys.getD i 0+c then 1 else 0),by dsimp only;omega,s1,by simpa using ho,s2,s3⟩,(Weak.t4 (by refine ⟨?_,?_,?_,?_⟩<;>simp -dsimp (disch:=try exact zo) only[go_sem,ZC])),by dsimp only;omega⟩
 ·obtain ⟨s1,s2,s3⟩:=step (by omega) 0 (by rw[List.getD_eq_getElem?_getD,List.getElem?_eq_none (by omega)];rfl)
  exact AW.stop ⟨⟨(i+1,out.set i ((xs.getD i 0 - 0 - c) % 4294967296),if xs.getD i 0<0+c then 1 else 0),by dsimp only;omega,s1,by simpa using ho,s2,s3⟩,(Weak.t4 (by refine ⟨?_,?_,?_,?_⟩<;>simp -dsimp (disch:=try exact zo) only[go_sem,ZC])),by dsimp only;omega⟩
 ·rw[fin (by omega)]
end Go.Proofs.Vx
