import Derived.Test.YtjlfgmhmalbiiaaGreatDoorProg
import Derived.Test.YtjlfgmhmalbiiaaGreatDoorW12
set_option linter.all false
set_option maxHeartbeats 1600000
open Array renaming any_eq_true' → Aj, toList → Aq
open Bool renaming and_eq_true → Ad, or_eq_true → Ah
open List renaming length_append → Ab, length_cons → Ac, getD_eq_getElem?_getD → Af, take_of_length_le → Ag, length_replicate → Ai, all_eq_true → Ak, length_set → Am, length_nil → An, replicate → Ao, range → Ap
open Nat renaming reduceAdd → Aa, zero_le → Ae, div_eq_of_lt → Al, le_refl → Ar
namespace Go.Sx
theorem LN:(∀ {α:Type} (a b:List α),(a++b).length=a.length+b.length)∧(∀ {α:Type} (l:List α) (i:Nat) (a:α),(l.set i a).length=l.length)∧(∀ {α:Type} (n:Nat) (a:α),(Ao n a).length=n)∧(∀ {α:Type} (a:α) (l:List α),(a::l).length=l.length+1)∧(∀ {α:Type},([]:List α).length=0)∧(∀ L x,(dgp L x).length=L) :=
 ⟨fun _ _=>Ab,fun _ _ _=>Am,fun _ _=>Ai,fun _ _=>Ac,An,fX⟩
theorem NM : (∀ (p : Prop) [Decidable p], (decide p = true) = p) ∧ (∀ (p : Prop) [Decidable p], (decide p = false) = ¬p) ∧ (∀ b : Bool, (¬b = true) = (b = false)) ∧ (∀ b : Bool, (¬b = false) = (b = true)) ∧
  (∀ {α:Type} [BEq α] [LawfulBEq α] {a b:α},(a == b)=true↔a=b)∧(∀ {α:Type} [BEq α] [LawfulBEq α] {a b:α},(a == b)=false↔a≠b)∧(∀ {α:Type} (a b:α),(a≠b)=¬a=b) ∧
  (∀ b:Bool,((!b)=true)=(b=false))∧(∀ b:Bool,((!b)=false)=(b=true))∧(∀ a b:Bool,((a&&b)=true)=(a=true∧b=true))∧(∀ {x y:Bool},(x||y)=false↔x=false∧y=false) ∧
  (∀ {p:Prop} [Decidable p],¬¬p↔p)∧(∀ {a b:Int},¬a<b↔b≤a)∧(∀ {a b:Int},¬a≤b↔b<a)∧((false=true)=False)∧((true=false)=False) :=
 ⟨fun _ _=>decide_eq_true_eq,fun _ _=>propext decide_eq_false_iff_not,Bool.not_eq_true,Bool.not_eq_false,beq_iff_eq,beq_eq_false_iff_ne,fun _ _=>ne_eq _ _,Bool.not_eq_true',Bool.not_eq_false',Ad,Bool.or_eq_false_iff,Decidable.not_not,Int.not_lt,Int.not_le,Bool.false_eq_true,Bool.true_eq_false⟩
attribute [go_sem] Nat.reduceEqDiff Nat.reduceLT Nat.reduceLeDiff Aa Nat.reduceMul Nat.reduceSub reduceCtorEq Int.reduceToNat Int.reduceLT Int.reduceLE Int.reduceAdd Int.reduceSub Int.reduceMul Int.reduceNeg List.reduceReplicate
attribute [go_sem ↓] reduceIte
attribute [go_sem] wrap64 j2 a0c wY c4f c4e
def uS (ops:Array Oper):Nat→Nat→Nat→Bool
 | 0,_,_=>false
 | n+1,i,j=>match ops[j]? with
  | some o=>o.after.any fun e=>Region.binds .any e&&(e.on == i||(Nat.ble (i+1) e.on&&uS ops n i e.on))
  | none=>false
def a9s (ops:Array Oper) (fs:List Foot):Bool :=
 ((Ap ops.size).all fun j=>match ops[j]? with|some o=>o.after.all fun e=>!Region.binds .any e||decide (e.on<j)|none=>true) &&
 (Ap ops.size).all fun j=>(Ap j).all fun i=>match fs[i]?,fs[j]? with
  | some f,some g=>!iF f g||uS ops ops.size i j
  | _,_=>true
theorem c2n {ops:Array Oper}:∀ (n i j:Nat),uS ops n i j=true→jP ops n i j=true:=by
 intro n
 induction n with
 | zero=>intro i j h;simp[uS]at h
 | succ n ih =>
  intro i j h
  simp only[uS]at h
  simp only[jP]
  split at h
  ·rename_i o ho
   rw[ho]
   obtain⟨e,he,hh⟩:=Aj.1 h
   simp only[Ad,Ah]at hh
   refine Aj.2 ⟨e,he,?_⟩
   simp only[Ad,Ah]
   exact⟨hh.1,hh.2.imp id fun h=>ih _ _ h.2⟩
  ·contradiction
theorem a1x {ops:Array Oper} {fs:List Foot} {X:Prop} (h:a9s ops fs=true) (hx:X):mX ops fs=true∧X:=by
 refine⟨?_,hx⟩
 unfold a9s at h
 unfold mX
 simp only[Ad]at h ⊢
 refine⟨h.1,?_⟩
 have h2:=h.2
 rw[Ak]at h2 ⊢
 intro j hj
 have h3:=h2 j hj
 rw[Ak]at h3 ⊢
 intro i hi
 have h4:=h3 i hi
 split at h4
 ·rename_i f g e1 e2
  rw[e1,e2]
  simp only[Ah]at h4 ⊢
  exact h4.imp id fun h=>c2n _ _ _ h
 ·rename_i hn
  split
  ·rename_i f g e1 e2
   exact absurd e2 (hn f g e1)
  ·rfl
theorem zg {p q:Prop} (k:q) (h:q→p:=by intro k;first|exact Go.Sx.AW.seq k|exact Go.Sx.iB k|exact Go.Sx.AW.block k|exact Go.Sx.AW.blk k|exact Go.Sx.AW.skip k|exact Go.Sx.AW.exit rfl k|exact Go.Sx.a1x (by kernel_rfl) k|exact Go.Sx.Un.next k|exact Go.Sx.zY k|exact Go.Sx.wS Go.Proofs.Vx.uP k):p:=h k
theorem zo {p:Prop} (h:p:=by first|omega|(simp only[Go.Sx.LN];omega)):p:=h
theorem zb {b want wn:Bool} {X Y:Prop} {u:Tg (X,Y)} (h1:b=want→X) (h2:b=wn→Y) (e:wn=!want:=by first|exact (rfl:false=!true)|exact (rfl:true=!false)):gcaseP b want X Y u:=a2i h1 (e▸h2)
theorem ZC:(∀ a b:Nat,((a+b:Nat):Int)=a+b)∧(∀ n:Nat,((no_index (OfNat.ofNat n):Nat):Int)=OfNat.ofNat n):=⟨Int.natCast_add,fun _=>Int.cast_ofNat_Int⟩
theorem zl {α β:Type} {l:List α} (f:α→β):(l.map f).length=l.length:=List.length_map f
theorem ZT:∀ n:Nat,(n:Int).toNat=n:=Int.toNat_natCast
def Rz (p:Prop):Prop:=p
theorem Rz_eq (p:Prop):Rz p=p:=rfl
attribute [go_sem ↓] Rz_eq
theorem zr {P:Program} {nt:Nat} {rs:List ResultVar} {r:AV} {k:List Itm} {S:AS} (h:Rz (lZ P S rs fun x=>bwr (look S.o) x=r)):AW P nt (RetA P rs r) (.code .ret::k) S:=AW.ret (a0v h)
theorem zn {P:Program} {nt:Nat} {rs:List ResultVar} {r:AV} {k:List Itm} {S:AS} (h:Rz (lZ P S rs fun x=>bwn (look S.o) x=r)):AW P nt (RetN P rs r) (.code .ret::k) S:=AW.ret (c7c h)
attribute [irreducible] Rz
theorem zf {P:Program} {f:Nat} {args:List AV} {i:Nat} {ob:Nat→AV} {E:Eff→Prop} {r:AV} (hc:CallOK P f args [] r []) (h:E ⟨r,[],[]⟩) (ha:cV.flatBs args=true:=by rfl) (hr:cV r=true:=by rfl) (hf:fnT P f=true:=by kernel_rfl):callV P f args i ob E:=callV.flat r hf hc ha hr h
theorem zp {P:Program} {f:Nat} {args:List AV} {i:Nat} {ob:Nat→AV} {E:Eff→Prop} {r:AV} (hc:CallOK P f args [] r []) (hin:∀ a∈args,In (fun _=>False) a) (hr:In (fun _=>False) r) (h:E ⟨r,[],[]⟩) (hf:fnT P f=true:=by kernel_rfl):callV P f args i ob E:=cX r hf hc hin hr h
theorem zs {P:Program} {f:Nat} {fn:Func} {code:Code} {args:List AV} {r:AV} (hf:P.funcs[f]?=some fn) (nt:Nat) (rs:List ResultVar) {a:Array ResultVar} (hrs:fn.results=a) (h:AW P nt (RetA P rs r) [.code code] ⟨aD 0 args,[],8⟩) (hb:fn.body=some code:=by rfl) (hnt:fn.ntmps=nt:=by rfl) (ha:decide (args.length≤nt)=true:=by rfl) (hr:cV r=true:=by rfl) (hq:a.toList=rs:=by rfl):CallOK P f args [] r [] :=
 CallOK.flat hf hb nt hnt ha hr rs ((congrArg Aq hrs).trans hq) h
theorem zq {P:Program} {f:Nat} {args:List AV} {i:Nat} {ob:Nat→AV} {E:Eff→Prop} {r:AV} (hc:CallOK P f args [] r []) (h:E ⟨r,[],[]⟩) (hin:∀ a∈args,In (fun _=>False) a:=by simp -dsimp (disch:=try exact zo)only[go_sem]) (hr:In (fun _=>False) r:=by simp -dsimp (disch:=try exact zo)only[go_sem]) (hf:fnT P f=true:=by kernel_rfl):callV P f args i ob E:=cX r hf hc hin hr h
theorem zw {S:AS} {t o:List (Nat × AV)} {n:Nat} (h:fR t S.t∧fR o S.o∧inT n t∧inO n o:=by refine⟨?_,?_,?_,?_⟩<;>simp -dsimp (disch:=try exact zo)only[go_sem,List.take_zero,zl,ZC, *]) (h8:8≤n:=by decide):Weak S ⟨t,o,n⟩:=aQ h h8
theorem zu {P:Program} {nt:Nat} {R:AS→Prop} {k:List Itm} {S:AS} {c:Operand} {x y:Code} {b:Bool} {A B:Prop} (ka:A) (kb:B) (hc:Go.Sx.rdO (Go.Sx.look S.t) c=.lit (.bool b):=by exact rfl) (h1:A→b=true→AW P nt R (.code x::k) S:=by intro k hc;first|(simp only[Go.Sx.NM]at hc;revert hc;exact k)|(revert hc;exact k)) (h2:B→b=false→AW P nt R (.code y::k) S:=by intro k hc;first|(simp only[Go.Sx.NM]at hc;revert hc;exact k)|(revert hc;exact k)):AW P nt R (.code (.cond c x y)::k) S:=AW.cond hc (h1 ka) (h2 kb)
theorem zv {b want wn:Bool} {X Y:Prop} {u:Tg (X,Y)} {A B:Prop} (ka:A) (kb:B) (e:wn=!want:=by first|exact (rfl:false=!true)|exact (rfl:true=!false)) (h1:A→b=want→X:=by intro k hg;(try rewrite[hg]);first|(simp only[Go.Sx.NM]at hg;revert hg;exact k)|(revert hg;exact k)) (h2:B→b=wn→Y:=by intro k hg;(try rewrite[hg]);first|(simp only[Go.Sx.NM]at hg;revert hg;exact k)|(revert hg;exact k)):gcaseP b want X Y u:=a2i (h1 ka) (e▸h2 kb)
theorem zj {p q:Prop} (k:q) (h:q→p:=by intro k;first|exact Go.Sx.AW.seq k|exact Go.Sx.iB k|exact Go.Sx.AW.block k|exact Go.Sx.AW.blk k|exact Go.Sx.AW.skip k|exact Go.Sx.AW.exit rfl k|exact Go.Sx.a1x (by kernel_rfl) k|exact Go.Sx.Un.next k|exact Go.Sx.zY k|exact Go.Sx.wS Go.Proofs.Vx.uP k|exact⟨by omega,k⟩):p:=h k
theorem zk {p q:Prop} (k:q) (h:q→p:=by intro k;first|exact Go.Sx.AW.seq k|exact Go.Sx.iB k|exact Go.Sx.AW.block k|exact Go.Sx.AW.blk k|exact Go.Sx.AW.skip k|exact Go.Sx.AW.exit rfl k|exact Go.Sx.a1x (by kernel_rfl) k|exact Go.Sx.Un.next k|exact Go.Sx.zY k|exact Go.Sx.wS Go.Proofs.Vx.uP k|(refine Go.Sx.zr ?_;exact k)|exact⟨by omega,k⟩):p:=h k
theorem z1 {p:Prop} (h:p:=by repeat'(first|refine zg ?_|(refine AW.cond rfl ?_ ?_<;>intro hc<;>first|simp only[NM]at hc|omega|skip)|refine zr ?_|refine zn ?_|refine zf (by assumption) ?_|refine zq (by assumption) ?_|refine⟨by omega,?_⟩|(refine zb ?_ ?_<;>intro hg<;>(try rw[hg])<;>try simp only[NM]at hg)|omega|simp -dsimp (disch:=try exact zo)only[go_sem,ZT,zl,Bool.not_true,Bool.not_false,Nat.add_sub_cancel, *]|contradiction|rfl)):p:=h
theorem z1b {p:Prop} (h:p:=by repeat'(first|refine zg ?_|refine dG 2 ?_|(refine AW.cond rfl ?_ ?_<;>intro hc<;>first|simp only[NM]at hc|omega|skip)|refine zr ?_|refine zn ?_|refine zf (by assumption) ?_|refine zq (by assumption) ?_|refine⟨by omega,?_⟩|(refine zb ?_ ?_<;>intro hg<;>(try rw[hg])<;>try simp only[NM]at hg)|omega|simp -dsimp (disch:=try exact zo)only[go_sem,ZT,zl,Bool.not_true,Bool.not_false,Nat.add_sub_cancel, *]|contradiction|rfl)):p:=h
theorem z1d {p:Prop} (h:p:=by repeat'(first|refine zg ?_|refine dG 4 ?_|(refine AW.cond rfl ?_ ?_<;>intro hc<;>first|simp only[NM]at hc|omega|skip)|refine zr ?_|refine zn ?_|refine zf (by assumption) ?_|refine zq (by assumption) ?_|refine⟨by omega,?_⟩|(refine zb ?_ ?_<;>intro hg<;>(try rw[hg])<;>try simp only[NM]at hg)|omega|simp -dsimp (disch:=try exact zo)only[go_sem,ZT,zl,Bool.not_true,Bool.not_false,Nat.add_sub_cancel, *]|contradiction|rfl)):p:=h
theorem z1e {p:Prop} (h:p:=by repeat'(first|refine zg ?_|refine dG 5 ?_|(refine AW.cond rfl ?_ ?_<;>intro hc<;>first|simp only[NM]at hc|omega|skip)|refine zr ?_|refine zn ?_|refine zf (by assumption) ?_|refine zq (by assumption) ?_|refine⟨by omega,?_⟩|(refine zb ?_ ?_<;>intro hg<;>(try rw[hg])<;>try simp only[NM]at hg)|omega|simp -dsimp (disch:=try exact zo)only[go_sem,ZT,zl,Bool.not_true,Bool.not_false,Nat.add_sub_cancel, *]|contradiction|rfl)):p:=h
theorem z1f {p:Prop} (h:p:=by repeat'(first|refine zg ?_|refine dG 6 ?_|(refine AW.cond rfl ?_ ?_<;>intro hc<;>first|simp only[NM]at hc|omega|skip)|refine zr ?_|refine zn ?_|refine zf (by assumption) ?_|refine zq (by assumption) ?_|refine⟨by omega,?_⟩|(refine zb ?_ ?_<;>intro hg<;>(try rw[hg])<;>try simp only[NM]at hg)|omega|simp -dsimp (disch:=try exact zo)only[go_sem,ZT,zl,Bool.not_true,Bool.not_false,Nat.add_sub_cancel, *]|contradiction|rfl)):p:=h
theorem zc {P:Program} {nt:Nat} {R:AS→Prop} {k:List Itm} {S:AS} {c:Operand} {x y:Code} {b:Bool} (ht:b=true→AW P nt R (.code x::k) S) (hf:b=false→AW P nt R (.code y::k) S) (hc:rdO (look S.t) c=.lit (.bool b):=by rfl):AW P nt R (.code (.cond c x y)::k) S:=AW.cond hc ht hf
end Go.Sx
namespace Go.Proofs.Vx
open Go Go.Sx Go.Proofs Tryz
attribute [local irreducible] fnT CallOK CallFr AW aI callV aL aJ aH aK gcaseP hid
theorem c3o:agT prog 3=some false∧agT prog 5=some false∧agT prog 9=some false∧arT prog 9=none∧boT prog 3=false∧boT prog 5=false∧boT prog 9=false∧slT prog 9=none∧bH prog 9=true∧szT prog 227=some 256∧zeT prog 227=some [.lit (.bool false),.lit (.bool false),.lit (.bool false),.lit (.bool false),.lit (.bool false),.lit (.bool false),.lit (.bool false),.lit (.bool false),.lit (.bool false),.lit (.bool false),.lit (.bool false),.lit (.bool false),.lit (.bool false),.lit (.bool false),.lit (.bool false),.lit (.bool false),.lit (.bool false),.lit (.bool false),.lit (.bool false),.lit (.bool false),.lit (.bool false),.lit (.bool false),.lit (.bool false),.lit (.bool false),.lit (.bool false),.lit (.bool false),.lit (.bool false),.lit (.bool false),.lit (.bool false),.lit (.bool false),.lit (.bool false),.lit (.bool false),.lit (.bool false),.lit (.bool false),.lit (.bool false),.lit (.bool false),.lit (.bool false),.lit (.bool false),.lit (.bool false),.lit (.bool false),.lit (.bool false),.lit (.bool false),.lit (.bool false),.lit (.bool false),.lit (.bool false),.lit (.bool false),.lit (.bool false),.lit (.bool false),.lit (.bool false),.lit (.bool false),.lit (.bool false),.lit (.bool false),.lit (.bool false),.lit (.bool false),.lit (.bool false),.lit (.bool false),.lit (.bool false),.lit (.bool false),.lit (.bool false),.lit (.bool false),.lit (.bool false),.lit (.bool false),.lit (.bool false),.lit (.bool false),.lit (.bool false),.lit (.bool false),.lit (.bool false),.lit (.bool false),.lit (.bool false),.lit (.bool false),.lit (.bool false),.lit (.bool false),.lit (.bool false),.lit (.bool false),.lit (.bool false),.lit (.bool false),.lit (.bool false),.lit (.bool false),.lit (.bool false),.lit (.bool false),.lit (.bool false),.lit (.bool false),.lit (.bool false),.lit (.bool false),.lit (.bool false),.lit (.bool false),.lit (.bool false),.lit (.bool false),.lit (.bool false),.lit (.bool false),.lit (.bool false),.lit (.bool false),.lit (.bool false),.lit (.bool false),.lit (.bool false),.lit (.bool false),.lit (.bool false),.lit (.bool false),.lit (.bool false),.lit (.bool false),.lit (.bool false),.lit (.bool false),.lit (.bool false),.lit (.bool false),.lit (.bool false),.lit (.bool false),.lit (.bool false),.lit (.bool false),.lit (.bool false),.lit (.bool false),.lit (.bool false),.lit (.bool false),.lit (.bool false),.lit (.bool false),.lit (.bool false),.lit (.bool false),.lit (.bool false),.lit (.bool false),.lit (.bool false),.lit (.bool false),.lit (.bool false),.lit (.bool false),.lit (.bool false),.lit (.bool false),.lit (.bool false),.lit (.bool false),.lit (.bool false),.lit (.bool false),.lit (.bool false),.lit (.bool false),.lit (.bool false),.lit (.bool false),.lit (.bool false),.lit (.bool false),.lit (.bool false),.lit (.bool false),.lit (.bool false),.lit (.bool false),.lit (.bool false),.lit (.bool false),.lit (.bool false),.lit (.bool false),.lit (.bool false),.lit (.bool false),.lit (.bool false),.lit (.bool false),.lit (.bool false),.lit (.bool false),.lit (.bool false),.lit (.bool false),.lit (.bool false),.lit (.bool false),.lit (.bool false),.lit (.bool false),.lit (.bool false),.lit (.bool false),.lit (.bool false),.lit (.bool false),.lit (.bool false),.lit (.bool false),.lit (.bool false),.lit (.bool false),.lit (.bool false),.lit (.bool false),.lit (.bool false),.lit (.bool false),.lit (.bool false),.lit (.bool false),.lit (.bool false),.lit (.bool false),.lit (.bool false),.lit (.bool false),.lit (.bool false),.lit (.bool false),.lit (.bool false),.lit (.bool false),.lit (.bool false),.lit (.bool false),.lit (.bool false),.lit (.bool false),.lit (.bool false),.lit (.bool false),.lit (.bool false),.lit (.bool false),.lit (.bool false),.lit (.bool false),.lit (.bool false),.lit (.bool false),.lit (.bool false),.lit (.bool false),.lit (.bool false),.lit (.bool false),.lit (.bool false),.lit (.bool false),.lit (.bool false),.lit (.bool false),.lit (.bool false),.lit (.bool false),.lit (.bool false),.lit (.bool false),.lit (.bool false),.lit (.bool false),.lit (.bool false),.lit (.bool false),.lit (.bool false),.lit (.bool false),.lit (.bool false),.lit (.bool false),.lit (.bool false),.lit (.bool false),.lit (.bool false),.lit (.bool false),.lit (.bool false),.lit (.bool false),.lit (.bool false),.lit (.bool false),.lit (.bool false),.lit (.bool false),.lit (.bool false),.lit (.bool false),.lit (.bool false),.lit (.bool false),.lit (.bool false),.lit (.bool false),.lit (.bool false),.lit (.bool false),.lit (.bool false),.lit (.bool false),.lit (.bool false),.lit (.bool false),.lit (.bool false),.lit (.bool false),.lit (.bool false),.lit (.bool false),.lit (.bool false),.lit (.bool false),.lit (.bool false),.lit (.bool false),.lit (.bool false),.lit (.bool false),.lit (.bool false),.lit (.bool false),.lit (.bool false),.lit (.bool false),.lit (.bool false),.lit (.bool false),.lit (.bool false),.lit (.bool false),.lit (.bool false),.lit (.bool false),.lit (.bool false),.lit (.bool false),.lit (.bool false),.lit (.bool false),.lit (.bool false),.lit (.bool false)]:=by and_intros<;>kernel_rfl
attribute [go_sem] c3o
theorem c234 (m:ByteArray) (hm:m.size<4611686018427387904):CallOK prog 234 [.lit (.string m),.lit (.int .u8 0)] [] (.lit (.string (nb (nv m)))) []:=by
 refine zs func234 23 [.tmp 4] results234 ?_
 simp only[aD,Aa]
 repeat'(first|refine zk ?_|(refine zu ?_ ?_<;>intro hc)|(refine zv ?_ ?_<;>intro hg)|omega|simp -dsimp (disch:=try exact zo)only[go_sem]|contradiction|rfl)
 refine AW.loop (fun z:{s:ByteArray // nv s=nv m∧s.size≤m.size}=>⟨[(0,.lit (.string z.1)),(1,.lit (.int .u8 0))],[],9⟩) (fun z=>z.1.size) ⟨m,rfl,Ar _⟩ zw ?_
 rintro⟨s,hs,hsz⟩
 dsimp only
 repeat'(first|refine zk ?_|(refine zu ?_ ?_<;>intro hc)|(refine zv ?_ ?_<;>intro hg)|omega|simp -dsimp (disch:=try exact zo)only[go_sem]|contradiction|rfl)
 ·have e:(↑s.size - 1:Int).toNat=s.size - 1:=by omega
  rw[e]at hc
  have h1:(s.extract 0 (s.size - 1)).size=s.size - 1:=by simp
  refine AW.stop ⟨⟨s.extract 0 (s.size - 1),(a7p (by omega) hc).trans hs,by omega⟩,?_,by dsimp only;omega⟩
  rw[e]
  exact zw
 ·have e:(↑s.size - 1:Int).toNat=s.size - 1:=by omega
  rw[e]at hc
  rw[← hs,a2a (.inr hc)]
 ·rw[← hs,a2a (.inl (by omega))]
theorem z0_ne:((⟨#[0]⟩:ByteArray)=⟨#[]⟩)=False:=by simp
theorem z0_bt:bt ⟨#[0]⟩ 0=0:=by rfl
theorem c3i:(⟨#[0]⟩:ByteArray).size=1:=by rfl
theorem c0n {m:ByteArray} (h:m=⟨#[]⟩):nb (nv m)=m:=by subst h;simp[nv,nvL,dJ]
theorem c188 (m:ByteArray) (hm:m.size<4611686018427387904):CallOK prog 188 [.lit (.string m),.lit (.string ⟨#[0]⟩)] [] (.lit (.string (nb (nv m)))) []:=by
 refine zs func188 37 [.tmp 4] results188 ?_
 simp only[aD,Aa]
 repeat'(first|refine zk ?_|(refine zu ?_ ?_<;>intro hc)|refine zf (c234 _ (by omega)) ?_|(refine zv ?_ ?_<;>intro hg)|omega|simp -dsimp (disch:=try exact zo)only[go_sem,z0_ne,z0_bt,c3i,Int.toNat_zero]|contradiction|rfl)
 rw[c0n hg]
theorem fB (m:ByteArray) (hm:m.size<4611686018427387904):CallOK prog 143 [.lit (.string m)] [] (.lit (.string (nb (nv m)))) []:=by
 refine zs func143 5 [.tmp 2] results143 ?_
 simp only[aD,Aa]
 repeat'(first|refine zk ?_|(refine zu ?_ ?_<;>intro hc)|refine zf (c188 _ (by omega)) ?_|(refine zv ?_ ?_<;>intro hg)|omega|simp -dsimp (disch:=try exact zo)only[go_sem]|contradiction|rfl)
end Go.Proofs.Vx
namespace Go.Proofs.Vx
open Go Go.Sx Go.Proofs Tryz
attribute [local irreducible] fnT CallOK CallFr AW aI callV aL aJ aH aK gcaseP hid
theorem c3n:agT prog 189=some false∧arT prog 190=none∧boT prog 189=false∧byT prog 189=some 4∧byT prog 5=some 1∧kiT prog 189=some .u32∧kiT prog 209=none∧kiT prog 5=some .u8∧kiT prog 9=none∧slT prog 189=none∧slT prog 190=some (189,1)∧slT prog 209=some (5,1)∧slT prog 5=none∧bH prog 189=false∧bH prog 190=false∧bH prog 209=false∧bH prog 5=false∧szT prog 189=some 1∧zeT prog 189=some [.lit (.int .u32 0)]∧zeT prog 5=some [.lit (.int .u8 0)]:=by and_intros<;>kernel_rfl
attribute [go_sem] c3n
theorem lC:fnT prog 143=true:=by kernel_rfl
theorem td4 (i:Nat):((i:Int) / 4).toNat=i / 4:=by omega
theorem uP:Tryz.prog.follows .mixedOrders=true:=by kernel_rfl
theorem dH (m:ByteArray):(nb (nv m)).size≤m.size:=(b9 _ _).2 (eW m)
theorem jB (m:ByteArray) (hm:m.size<1099511627776):CallOK prog 193 [.lit (.string m)] [] (.sl (aG .u32 (lmN (nv m)))) []:=by
 unfold lmN
 refine fV func193 rfl 35 rfl rfl (by rw[kB,jH];trivial) [.tmp 2] (congrArg Aq results193) ?_
 simp only[aD,Aa]
 have hc0:=dH m
 have hcn:nv (nb (nv m))=nv m:=aU _
 generalize hc:nb (nv m)=c at *
 repeat'(first|refine zk ?_|(refine zu ?_ ?_<;>intro hc)|(refine cX (.lit (.string c)) lC (hc▸fB _ (by omega)) (by simp -dsimp (disch:=try exact zo)only[go_sem]) (.lit _) ?_)|(refine zv ?_ ?_<;>intro hg)|omega|simp -dsimp (disch:=try exact zo)only[go_sem]|contradiction|rfl)
 have eL:((↑c.size+4 - 1) / 4:Int).toNat=(c.size+3) / 4:=by omega
 rw[eL]
 generalize hL:(c.size+3) / 4=L at *
 refine AW.loop (fun z:{i:Nat // i≤c.size}=>⟨[(15,.lit (.int .i64 z.1)),(14,.lit (.int .i64 c.size)),(3,.ref 17 0 L L),(0,.lit (.string c))],[(17,.vec 1 (aG .u32 (dgp L (nvL (c.data.toList.take z.1)))))],22⟩) (fun z=>c.size - z.1) ⟨0,Ae _⟩ (by
  simp only[List.take_zero,nvL,c2j,Int.ofNat_zero];exact zw) ?_
 rintro⟨i,hi⟩
 dsimp only
 repeat'(first|refine zk ?_|(refine zu ?_ ?_<;>intro hc)|(refine zv ?_ ?_<;>intro hg)|omega|simp -dsimp (disch:=try exact zo)only[go_sem,td4,oG]|contradiction|rfl)
 ·rw[b6s c L i (by omega) (by omega)]
  exact AW.stop ⟨⟨i+1,by omega⟩,zw,by dsimp only;omega⟩
 ·rw[oG (fX _ _),a2t c (by omega),hcn]
theorem o8 (xs:List Int) (hl:xs.length<1099511627776) (hx:∀ x∈xs,0≤x∧x<4294967296):CallOK prog 184 [.sl (aG .u32 xs)] [] (.lit (.string (nb (wv xs)))) []:=by
 refine zs func184 33 [.tmp 2] results184 ?_
 simp only[aD,Aa]
 have hml:maxLen=9223372036854775807:=rfl
 repeat'(first|refine zk ?_|(refine zu ?_ ?_<;>intro hc)|(refine zv ?_ ?_<;>intro hg)|omega|simp -dsimp (disch:=try exact zo)only[go_sem]|contradiction|rfl)
 refine AW.loop (fun z:{p:Nat × List Int // p.1≤xs.length∧p.2=by4 (xs.take p.1)∧p.2.length=4*p.1}=>⟨[(13,.lit (.int .i64 z.1.1)),(12,.lit (.int .i64 xs.length)),(11,.sl (aG .u32 xs)),(3,.ref 12 0 z.1.2.length z.1.2.length)],[(12,.vec 1 (aG .u8 z.1.2))],17⟩) (fun z=>xs.length - z.1.1) ⟨(0,[]),Ae _,rfl,rfl⟩ (by
  exact zw) ?_
 rintro⟨⟨i,X⟩,hi,hX,hXl⟩
 dsimp only at hi hX hXl ⊢
 repeat'(first|refine zk ?_|(refine zu ?_ ?_<;>intro hc)|(refine zv ?_ ?_<;>intro hg)|omega|simp -dsimp (disch:=try exact zo)only[go_sem]|contradiction|rfl)
 ·refine AW.loop (fun z:{p:Nat × List Int // p.1≤4∧p.2=X++(le4 (xs.getD i 0)).take p.1∧p.2.length=4*i+p.1}=>⟨[(17,.lit (.int .i64 z.1.1)),(5,.lit (.int .u32 (xs.getD i 0))),(13,.lit (.int .i64 i)),(12,.lit (.int .i64 xs.length)),(11,.sl (aG .u32 xs)),(3,.ref 12 0 z.1.2.length z.1.2.length)],[(12,.vec 1 (aG .u8 z.1.2))],22⟩) (fun z=>4 - z.1.1) ⟨(0,X),Ae _,by simp,hXl⟩ zw ?_
  rintro⟨⟨k,Y⟩,hk,hY,hYl⟩
  dsimp only at hk hY hYl ⊢
  have hd:=hx (xs.getD i 0) (by
   rw[Af,List.getElem?_eq_getElem (by omega)];exact List.getElem_mem _)
  repeat'(first|refine zk ?_|(refine zu ?_ ?_<;>intro hc)|(refine zv ?_ ?_<;>intro hg)|omega|simp -dsimp (disch:=try exact zo)only[go_sem]|contradiction|rfl)
  ·refine AW.stop ⟨⟨(k+1,Y++[IntKind.u8.wrap ((xs.getD i 0).fdiv (2 ^ min (8*(k:Int)).toNat 32))]),by omega,?_,by dsimp only;simp only[Ab,Ac,An];omega⟩,(aQ (by refine⟨?_,?_,?_,?_⟩<;>simp -dsimp (disch:=try exact zo)only[go_sem,ZC,Ab])),by dsimp only;omega⟩
   dsimp only
   rw[c1j _ _ hd.1 hd.2 (by omega),hY,List.append_assoc]
   congr 4
  ·have hk4:k=4:=by omega
   subst hk4
   refine AW.stop ⟨⟨(i+1,Y),by omega,?_,by dsimp only;omega⟩,(aQ (by refine⟨?_,?_,?_,?_⟩<;>simp -dsimp (disch:=try exact zo)only[go_sem,ZC,Ab])),by dsimp only;omega⟩
   dsimp only
   rw[c2y _ _ (by omega),hY,← hX]
   rfl
 ·have hi4:i=xs.length:=by omega
  subst hi4
  rw[List.take_length]at hX
  have e:nb (nv ⟨(ofI X).toArray⟩)=nb (wv xs):=by
   unfold nv
   rw[hX,← c9k xs hx]
  have hsz:(⟨(ofI X).toArray⟩:ByteArray).size=X.length:=by simp[ByteArray.size,ofI]
  refine⟨ofI X,by rw[iC _ (hX▸c2z xs)],?_⟩
  rw[← e]
  repeat'(first|refine zk ?_|(refine zu ?_ ?_<;>intro hc)|refine zf (fB _ (by omega)) ?_|(refine zv ?_ ?_<;>intro hg)|omega|simp -dsimp (disch:=try exact zo)only[go_sem]|contradiction|rfl)
end Go.Proofs.Vx
namespace Go.Proofs.Vx
open Go Go.Sx Go.Proofs Tryz
attribute [local irreducible] fnT CallOK CallFr AW aI callV aL aJ aH aK gcaseP hid
theorem c3m:agT prog 158=some false∧boT prog 158=false∧kiT prog 158=some .u64∧slT prog 158=none∧bH prog 158=false:=by and_intros<;>kernel_rfl
attribute [go_sem] c3m
theorem oA:fnT prog 184=true:=by kernel_rfl
theorem tX (z:Int):0≤IntKind.u32.wrap z∧IntKind.u32.wrap z<4294967296:=by rw[iD];omega
theorem kI (n:Int) (hn:0≤n∧n<18446744073709551616):CallOK prog 138 [.lit (.int .u64 n)] [] (.lit (.string (nb n.toNat))) []:=by
 refine zs func138 10 [.tmp 2] results138 ?_
 simp only[aD,Aa]
 have hd:Dig [IntKind.u32.wrap n,n / 4294967296]:=by
  intro x hx
  simp only[zM,or_false]at hx
  rcases hx with rfl|rfl
  ·exact tX _
  ·omega
 have e:nb n.toNat=nb (wv [IntKind.u32.wrap n,n / 4294967296]):=by
  congr 1
  have h:=rA hd
  simp only[wz,iD]at h
  simp only[iD]
  omega
 rw[e]
 repeat'(first|refine zk ?_|(refine zu ?_ ?_<;>intro hc)|(refine bU (.lit (.string (nb (wv [IntKind.u32.wrap n,n / 4294967296])))) oA (by simp -dsimp (disch:=try exact zo)only[go_sem,oG,Ac];exact o8 [IntKind.u32.wrap n,n / 4294967296] (by simp) hd) (by simp -dsimp (disch:=try exact zo)only[go_sem,oG,Ac]) (.lit _) ?_)|(refine zv ?_ ?_<;>intro hg)|omega|simp -dsimp (disch:=try exact zo)only[go_sem]|contradiction|rfl)
theorem c194 (x y c:Int) (hx:0≤x∧x<4294967296) (hy:0≤y∧y<4294967296) (hc:0≤c∧c<4294967296):CallOK prog 194 [.lit (.int .u32 x),.lit (.int .u32 y),.lit (.int .u32 c)] [] (.tup [.lit (.int .u32 ((x+y+c) % 4294967296)),.lit (.int .u32 ((x+y+c) / 4294967296))]) []:=by
 refine zs func194 22 [.tmp 6,.tmp 7] results194 ?_
 simp only[aD,Aa]
 exact z1
theorem c196 (x y c:Int) (hx:0≤x∧x<4294967296) (hy:0≤y∧y<4294967296) (hc:0≤c∧c≤1):CallOK prog 196 [.lit (.int .u32 x),.lit (.int .u32 y),.lit (.int .u32 c)] [] (.tup [.lit (.int .u32 ((x - y - c) % 4294967296)),.lit (.int .u32 (if x<y+c then 1 else 0))]) []:=by
 refine zs func196 25 [.tmp 6,.tmp 7] results196 ?_
 simp only[aD,Aa]
 repeat'(first|refine zk ?_|(refine zu ?_ ?_<;>intro hc)|(refine zv ?_ ?_<;>intro hg)|omega|simp -dsimp (disch:=try exact zo)only[go_sem]|contradiction|rfl)
 have h:=c3a hx hy hc
 have h2:IntKind.u32.wrap (IntKind.u32.wrap (x - y) - c)=(x - y - c) % 4294967296:=by rw[iD,iD];omega
 rw[← h,← h2]
 rfl
theorem c238 (m:ByteArray) (hm:m.size<1099511627776):CallOK prog 238 [.lit (.string m)] [] (.tup [.lit (.int .u64 (if nv m<18446744073709551616 then (nv m:Int)else 0)),.lit (.bool (decide (nv m<18446744073709551616)))]) []:=by
 refine zs func238 27 [.tmp 2,.tmp 3] results238 ?_
 simp only[aD,Aa]
 have hc0:=dH m
 have hcn:nv (nb (nv m))=nv m:=aU _
 have hs8:=b9 (nv m) 8
 have e8:256 ^ 8=18446744073709551616:=by decide
 rw[e8]at hs8
 generalize hcc:nb (nv m)=c at *
 repeat'(first|refine zk ?_|(refine zu ?_ ?_<;>intro hc)|(refine callV.flat (.lit (.string c)) lC (hcc▸fB _ (by omega)) rfl rfl ?_)|(refine zv ?_ ?_<;>intro hg)|omega|simp -dsimp (disch:=try exact zo)only[go_sem]|contradiction|rfl)
 ·have h9:¬ nv m<18446744073709551616:=by omega
  simp only[h9,if_false,decide_false]
 ·have h9:nv m<18446744073709551616:=by omega
  simp only[h9,if_true,decide_true]
  refine AW.loop (fun z:{p:Nat × Int // p.1≤c.size∧p.2=nvL (c.data.toList.take p.1)}=>⟨[(13,.lit (.int .i64 z.1.1)),(12,.lit (.int .i64 c.size)),(0,.lit (.string c)),(4,.lit (.int .u64 z.1.2))],[],18⟩) (fun z=>c.size - z.1.1) ⟨(0,0),Ae _,rfl⟩ zw ?_
  rintro⟨⟨i,n⟩,hi,hn⟩
  dsimp only at hi hn ⊢
  repeat'(first|refine zk ?_|(refine zu ?_ ?_<;>intro hc)|(refine zv ?_ ?_<;>intro hg)|omega|simp -dsimp (disch:=try exact zo)only[go_sem]|contradiction|rfl)
  ·subst hn
   rw[b7u c i (by omega) (by omega)]
   exact AW.stop ⟨⟨(i+1,(nvL (c.data.toList.take (i+1)):Int)),by dsimp only;omega,rfl⟩,zw,by dsimp only;omega⟩
  ·rw[hn,a2t c (by omega),hcn]
theorem c195 (a b:ByteArray) (ha:a.size<1099511627776) (hb:b.size<1099511627776):CallOK prog 195 [.lit (.string a),.lit (.string b)] [] (.lit (.int .i64 (bN (nv a) (nv b)))) []:=by
 refine zs func195 46 [.tmp 4] results195 ?_
 simp only[aD,Aa]
 have hc0:=dH a
 have hd0:=dH b
 have hcn:nv (nb (nv a))=nv a:=aU _
 have hdn:nv (nb (nv b))=nv b:=aU _
 have hlt1:(nb (nv a)).size<(nb (nv b)).size→nv a<nv b:=vL
 have hlt2:(nb (nv b)).size<(nb (nv a)).size→nv b<nv a:=vL
 generalize hcc:nb (nv a)=c at *
 generalize hdd:nb (nv b)=d at *
 unfold bN
 repeat'(first|refine zk ?_|(refine zu ?_ ?_<;>intro hc)|(first|refine callV.flat (.lit (.string c)) lC (hcc▸fB a (by omega)) rfl rfl ?_|refine callV.flat (.lit (.string d)) lC (hdd▸fB b (by omega)) rfl rfl ?_)|(refine zv ?_ ?_<;>intro hg)|omega|simp -dsimp (disch:=try exact zo)only[go_sem]|contradiction|rfl)
 ·rw[if_pos (hlt1 (by omega))]
 ·have:=hlt2 (by omega)
  rw[if_neg (by omega),if_neg (by omega)]
 ·refine AW.loop (fun z:{i:Nat // i≤c.size∧nv c / 256 ^ (c.size - i)=nv d / 256 ^ (c.size - i)}=>⟨[(23,.lit (.int .i64 z.1)),(22,.lit (.int .i64 c.size)),(0,.lit (.string c)),(1,.lit (.string d))],[],23⟩) (fun z=>c.size - z.1) ⟨0,Ae _,by
   have h1:=eW c
   have h2:=eW d
   rw[show d.size=c.size by omega]at h2
   rw[Nat.sub_zero,Al h1,Al h2]⟩ zw ?_
  rintro⟨i,hi,hq⟩
  dsimp only
  have ek:i<c.size→((c.size:Int) - 1 - i).toNat=c.size - 1 - i:=by omega
  have hq1:i<c.size→nv c / 256 ^ (c.size - 1 - i+1)=nv d / 256 ^ (c.size - 1 - i+1):=fun h=>by rwa [show c.size - 1 - i+1=c.size - i by omega]
  repeat'(first|refine zk ?_|(refine zu ?_ ?_<;>intro hc)|(refine zv ?_ ?_<;>intro hg)|omega|simp -dsimp (disch:=try exact zo)only[go_sem]|contradiction|rfl)
  ·have hi:i<c.size:=by omega
   rw[ek hi,j5,j5]at hc
   have:=(qC (hq1 hi)).1 (by omega)
   rw[if_pos (by omega)]
  ·rename_i hne
   have hi:i<c.size:=by omega
   rw[ek hi,j5,j5]at hc hne
   have:=(qC (hq1 hi).symm).1 (by omega)
   rw[if_neg (by omega),if_neg (by omega)]
  ·have hi:i<c.size:=by omega
   rw[ek hi,j5,j5]at hc
   refine AW.stop ⟨⟨i+1,by omega,?_⟩,zw,by dsimp only;omega⟩
   rw[show c.size - (i+1)=c.size - 1 - i by omega]
   exact (qC (hq1 hi)).2 (by omega)
  ·have e:c.size - i=0:=by omega
   rw[e]at hq
   simp only[Nat.pow_zero,Nat.div_one]at hq
   rw[if_neg (by omega),if_pos (by omega)]
end Go.Proofs.Vx
namespace Go.Proofs.Vx
open Go Go.Sx Go.Proofs Tryz
attribute [local irreducible] fnT CallOK CallFr AW aI callV aL aJ aH aK gcaseP hid
theorem iU:fnT prog 193=true:=by kernel_rfl
theorem m9 (m:ByteArray):(lmN (nv m)).length≤(m.size+3) / 4:=by rw[vM];have:=dH m;omega
theorem a2r {xs:List Int} {n:Nat} (h:xs.length≤n):xs.take n=xs:=Ag h
theorem l9 (a b:ByteArray) (ha:a.size<274877906944) (hb:b.size<274877906944):CallOK prog 147 [.lit (.string a),.lit (.string b)] [] (.lit (.string (nb (nv a+nv b)))) []:=by
 refine zs func147 60 [.tmp 4] results147 ?_
 simp only[aD,Aa]
 have la:=m9 a
 have lb:=m9 b
 have da:=lG (nv a)
 have db:=lG (nv b)
 have wa:=lK (nv a)
 have wb:=lK (nv b)
 repeat'(first|refine zg ?_|refine zr ?_|(first|refine cX (.sl (aG .u32 (lmN (nv a)))) iU (jB a (by omega)) (by simp -dsimp (disch:=try exact zo)only[go_sem]) (by rw[kB,jH];trivial) ?_|refine cX (.sl (aG .u32 (lmN (nv b)))) iU (jB b (by omega)) (by simp -dsimp (disch:=try exact zo)only[go_sem]) (by rw[kB,jH];trivial) ?_)|refine⟨by omega,?_⟩|(refine zb ?_ ?_<;>intro hg<;>(try rw[hg])<;>try simp only[NM]at hg)|omega|simp -dsimp (disch:=try exact zo)only[go_sem]|contradiction|rfl)
 generalize lmN (nv a)=X at *
 generalize lmN (nv b)=Y at *
 refine a8y (fun z:{p:List Int × List Int // p.2.length≤p.1.length∧p.1.length<274877906944∧Dig p.1∧Dig p.2∧wz p.1+wz p.2=nv a+nv b}=>⟨[(5,.sl (aG .u32 z.1.1)),(6,.sl (aG .u32 z.1.2))],[],20⟩) ?_ ?_
 ·repeat'(first|refine zk ?_|(refine zu ?_ ?_<;>intro hc)|(refine zv ?_ ?_<;>intro hg)|omega|simp -dsimp (disch:=try exact zo)only[go_sem]|contradiction|rfl)
  ·exact AW.stop ⟨⟨(Y,X),by dsimp only;omega,by dsimp only;omega,db,da,by dsimp only;omega⟩,zw⟩
  ·exact AW.stop ⟨⟨(X,Y),by dsimp only;omega,by dsimp only;omega,da,db,by dsimp only;omega⟩,zw⟩
 clear la lb da db wa wb X Y
 rintro⟨⟨xs,ys⟩,hl,hn,dx,dy,hw⟩
 dsimp only at hl hn dx dy hw ⊢
 have eN:((xs.length:Int)+1).toNat=xs.length+1:=by omega
 repeat'(first|refine zk ?_|(refine zu ?_ ?_<;>intro hc)|(refine zv ?_ ?_<;>intro hg)|omega|simp -dsimp (disch:=try exact zo)only[go_sem,eN]|contradiction|rfl)
 refine AW.loop (fun z:{p:Nat × List Int × Int // p.1≤xs.length∧Dig p.2.1∧p.2.1.length=xs.length+1∧(0≤p.2.2∧p.2.2≤1)∧wz (p.2.1.take p.1)+4294967296 ^ p.1*p.2.2=wz (xs.take p.1)+wz (ys.take p.1)}=>⟨[(28,.lit (.int .i64 z.1.1)),(27,.lit (.int .i64 xs.length)),(26,.sl (aG .u32 xs)),(8,.lit (.int .u32 z.1.2.2)),(7,.ref 23 0 (xs.length+1) (xs.length+1)),(5,.sl (aG .u32 xs)),(6,.sl (aG .u32 ys))],[(23,.vec 1 (aG .u32 z.1.2.1))],29⟩) (fun z=>xs.length - z.1.1) ⟨(0,Ao (xs.length+1) 0,0),Ae _,Dig.rep _,by simp,⟨Int.le_refl 0,Int.zero_le_ofNat 1⟩,by simp[wz]⟩ zw ?_
 rintro⟨⟨i,out,c⟩,hi,dO,ho,hc1,hv⟩
 dsimp only at hi dO ho hc1 hv ⊢
 have dxi:=dx.getD i
 have dyi:=dy.getD i
 have step : i < xs.length → ∀ y, y = ys.getD i 0 → Dig (out.set i ((xs.getD i 0 + y + c) % 4294967296)) ∧ (0 ≤ (xs.getD i 0 + y + c) / 4294967296 ∧ (xs.getD i 0 + y + c) / 4294967296 ≤ 1) ∧
   wz ((out.set i ((xs.getD i 0+y+c) % 4294967296)).take (i+1))+4294967296 ^ (i+1)*((xs.getD i 0+y+c) / 4294967296)=wz (xs.take (i+1))+wz (ys.take (i+1)):=by
  rintro hlt y rfl
  refine⟨dO.set (by omega),by omega,?_⟩
  rw[jQ (by omega),cN,cN,Int.pow_succ]
  have:=Int.mul_ediv_add_emod (xs.getD i 0+ys.getD i 0+c) 4294967296
  grind
 have fin:xs.length≤i→Dig (out.set xs.length c)∧wv (out.set xs.length c)=nv a+nv b:=by
  intro hge
  obtain rfl:i=xs.length:=by omega
  have hd:Dig (out.set xs.length c):=dO.set (by omega)
  refine⟨hd,?_⟩
  have h1:=rA hd
  have h2:=jQ (xs:=out) (i:=xs.length) (by omega) c
  rw[Ag (by simp;omega)]at h2
  rw[a2r (Ar _),a2r hl]at hv
  omega
 repeat'(first|refine zk ?_|(refine zu ?_ ?_<;>intro hc)|(refine zf (c194 _ _ _ (by omega) (by omega) (by omega)) ?_)|(refine iA (.lit (.string (nb (wv (out.set xs.length c))))) oA (o8 (out.set xs.length c) (by simp;omega) (fin (by omega)).1) rfl (by simp only[bT,Am,Ai];omega) (by simp -dsimp (disch:=try exact zo)only[go_sem]) (.lit _) ?_)|(refine zv ?_ ?_<;>intro hg)|omega|simp -dsimp (disch:=try exact zo)only[go_sem]|contradiction|rfl)
 ·obtain⟨s1,s2,s3⟩:=step (by omega) _ rfl
  exact AW.stop ⟨⟨(i+1,out.set i ((xs.getD i 0+ys.getD i 0+c) % 4294967296),(xs.getD i 0+ys.getD i 0+c) / 4294967296),by dsimp only;omega,s1,by simpa using ho,s2,s3⟩,zw,by dsimp only;omega⟩
 ·obtain⟨s1,s2,s3⟩:=step (by omega) 0 (by rw[Af,List.getElem?_eq_none (by omega)];rfl)
  exact AW.stop ⟨⟨(i+1,out.set i ((xs.getD i 0+0+c) % 4294967296),(xs.getD i 0+0+c) / 4294967296),by dsimp only;omega,s1,by simpa using ho,s2,s3⟩,zw,by dsimp only;omega⟩
 ·rw[(fin (by omega)).2]
end Go.Proofs.Vx
