import Derived.LoopNIn
import Derived.Test.YtjlfgmhmalbiiaaGreatDoorProg
import Derived.Test.YtjlfgmhmalbiiaaGreatDoorV10
set_option linter.all false
set_option maxHeartbeats 1600000
namespace Go.Sx
set_option linter.unusedVariables false
theorem uS (xs:List Int) (k:Nat) (h:k≤xs.length):wz xs=wz (xs.take k)+4294967296 ^ k*wz (xs.drop k):=by
 have:=oN (xs.take k) (xs.drop k)
 rw[List.take_append_drop]at this
 rw[this]
 congr 3
 simp;omega
theorem rQ {n:Nat} {v:Int} (h0:0≤v) (h:v<4294967296 ^ n):wz (dgp n v.toNat)=v:=by
 rw[a6m]
 ·omega
 ·have e:((B32 ^ n:Nat):Int)=(4294967296:Int) ^ n:=by rw[Int.natCast_pow];rfl
  omega
theorem b8o {L n x:Nat} (h:n≤L):(dgp L x).take n=dgp n x:=by
 apply List.ext_getElem
 ·simp[fP];omega
 ·intro i h1 h2
  rw[List.getElem_take,m8,m8]
theorem c0a {xs:List Int} {n:Nat} (h:xs.length=n+2):wz xs=(xs.getD (n+1) 0*4294967296+xs.getD n 0)*4294967296 ^ n+wz (xs.take n):=by
 have e1:=cO xs n
 have e2:=cO xs (n+1)
 rw[c7 (by omega)]at e2
 rw[e2,e1,Int.pow_succ]
 grind
theorem b9z {xs:List Int} {n:Nat} (h:xs.length=n+3):wz xs=((xs.getD (n+2) 0*4294967296+xs.getD (n+1) 0)*4294967296+xs.getD n 0)*4294967296 ^ n+wz (xs.take n):=by
 have e1:=cO xs n
 have e2:=cO xs (n+1)
 have e3:=cO xs (n+1+1)
 rw[c7 (by omega)]at e3
 rw[e3,e2,e1,Int.pow_succ,Int.pow_succ]
 grind
theorem rL {xs:List Int} (h:Dig xs) (n:Nat):wz (xs.take n)<4294967296 ^ n:=by
 have h1:=jC (h.take n)
 by_cases hn:n≤xs.length
 ·have:(xs.take n).length=n:=by simp;omega
  rwa [this]at h1
 ·have h2:(xs.take n).length≤n:=by simp;omega
  have h3:(4294967296:Int) ^ (xs.take n).length≤4294967296 ^ n:=by
   have h4:=Nat.pow_le_pow_right (show 0<4294967296 by decide) h2
   have e1:((4294967296 ^ (xs.take n).length:Nat):Int)=(4294967296:Int) ^ (xs.take n).length:=by rw[Int.natCast_pow];rfl
   have e2:((4294967296 ^ n:Nat):Int)=(4294967296:Int) ^ n:=by rw[Int.natCast_pow];rfl
   omega
  omega
theorem c5w {E V : List Int} {n : Nat} (hE : E.length = n + 2) (hV : V.length = n + 3) (dE : Dig E) (dV : Dig V) (ht : 2147483648 ≤ E.getD (n + 1) 0) (hlt : wz V < wz E * 4294967296) :
  Est (4294967296 ^ n) (wz E) (wz V) (E.getD (n+1) 0) (E.getD n 0) (wz (E.take n)) (V.getD (n+2) 0) (V.getD (n+1) 0) (V.getD n 0) (wz (V.take n)) :=
 ⟨Int.pow_pos (by decide),c0a hE,b9z hV,⟨ht,(dE.getD _).2⟩,dE.getD _,⟨dK (dE.take n),rL dE n⟩,dV.getD _,dV.getD _,dV.getD _,⟨dK (dV.take n),rL dV n⟩,hlt⟩
theorem b6w {ds : List Int} {k n : Nat} (dd : Dig ds) (hn : ds.length = n + 1) (h0 : ds.getD n 0 ≠ 0) (hk : (32 : Int) - (bO (ds.getD n 0).toNat : Int) = (k : Int)) :
  0<wz ds∧wz ds*2 ^ k<4294967296 ^ (n+1)∧2147483648≤(dgp (n+1) (wz ds*2 ^ k).toNat).getD n 0:=by
 have hx:=dd.getD n
 have hxn:(ds.getD n 0).toNat≠0:=by omega
 have b1:=a5z (ds.getD n 0).toNat
 have b2:=a6a hxn
 have b3:1≤bO (ds.getD n 0).toNat:=by rw[o7 hxn];omega
 have e:=cO ds n
 rw[c7 (by omega)]at e
 have t1:=rL dd n
 have t0:=dK (dd.take n)
 have hp:(0:Int)<4294967296 ^ n:=Int.pow_pos (by decide)
 have hk0:(0:Int)<2 ^ k:=Int.pow_pos (by decide)
 generalize hb:bO (ds.getD n 0).toNat=b at *
 have c1:ds.getD n 0+1≤2 ^ b:=by
  have e1:((2 ^ b:Nat):Int)=(2:Int) ^ b:=by rw[Int.natCast_pow];rfl
  omega
 have c2:(2:Int) ^ (b - 1)≤ds.getD n 0:=by
  have e1:((2 ^ (b - 1):Nat):Int)=(2:Int) ^ (b - 1):=by rw[Int.natCast_pow];rfl
  omega
 have hbk:b+k=32:=by omega
 have p1:(2:Int) ^ b*2 ^ k=4294967296:=by rw[← Int.pow_add,hbk];decide
 have p2:(2:Int) ^ (b - 1)*2 ^ k=2147483648:=by rw[← Int.pow_add,show b - 1+k=31 by omega];decide
 have hx1:1≤ds.getD n 0:=by omega
 have h1:4294967296 ^ n*1≤4294967296 ^ n*ds.getD n 0:=Int.mul_le_mul_of_nonneg_left hx1 (by omega)
 have hpos:0<wz ds:=by omega
 have hup:wz ds*2 ^ k<4294967296 ^ (n+1):=by
  have h2:wz ds+1≤4294967296 ^ n*(ds.getD n 0+1):=by rw[Int.mul_add,Int.mul_one];omega
  have h3:4294967296 ^ n*(ds.getD n 0+1)≤4294967296 ^ n*2 ^ b:=Int.mul_le_mul_of_nonneg_left c1 (by omega)
  have h4:(wz ds+1)*2 ^ k≤(4294967296 ^ n*2 ^ b)*2 ^ k:=Int.mul_le_mul_of_nonneg_right (by omega) (by omega)
  rw[Int.mul_assoc,p1,Int.add_mul,Int.one_mul]at h4
  rw[Int.pow_succ]
  omega
 refine⟨hpos,hup,?_⟩
 have hlo:4294967296 ^ n*2147483648≤wz ds*2 ^ k:=by
  have h2:4294967296 ^ n*2 ^ (b - 1)≤wz ds:=by
   have:=Int.mul_le_mul_of_nonneg_left c2 (Int.le_of_lt hp)
   omega
  have h3:=Int.mul_le_mul_of_nonneg_right h2 (Int.le_of_lt hk0)
  rwa [Int.mul_assoc,p2]at h3
 have hw:=rQ (Int.le_of_lt (Int.mul_pos hpos hk0)) hup
 have dE:=kP (n+1) (wz ds*2 ^ k).toNat
 have lE:=fP (n+1) (wz ds*2 ^ k).toNat
 generalize dgp (n+1) (wz ds*2 ^ k).toNat=E at *
 have e2:=cO E n
 rw[c7 (by omega)]at e2
 have t2:=rL dE n
 apply Int.not_lt.1
 intro hlt
 have h5:4294967296 ^ n*E.getD n 0≤4294967296 ^ n*2147483647:=Int.mul_le_mul_of_nonneg_left (by omega) (by omega)
 omega
end Go.Sx
namespace Go.Sx
set_option linter.unusedVariables false
def Un (P:Program) (nt:Nat) (R:AS→Prop) (x:Code) (k:List Itm):Nat→AS→Prop
 | 0,_=>False
 | n+1,S=>AW P nt R (.code x::.stop (Un P nt R x k n)::k) S
variable {P:Program} {nt:Nat} {R:AS→Prop} {k:List Itm} {S:AS} {x:Code}
theorem bQ (n:Nat) (h:Un P nt R x k n S):AW P nt R (.code (.loop x)::k) S:=by
 intro c a w hP hs
 refine wpIn_loop_rounds n ?_
 have key:∀ n (S:AS) (c':Cx) (a:Act) (w:World),Un P nt R x k n S→Le c c'→Sim c' nt S a w→Code.roundsIn (Fw c.ro) 0 P x (iP c nt (Qof P nt R k)) n a w:=by
  intro n
  induction n with
  | zero=>intro S c' a w h;exact h.elim
  | succ n ih =>
   intro S c' a w h hl hs
   rw[roundsIn_succ]
   refine wpIn_mono (AWp.le h hl hP hs) ?_
   intro e a' w' hq
   cases e<;>simp only[Exit.then]<;>simp only[iP]at hq ⊢<;>(try exact hq)
   obtain⟨c2,S',hl2,h1,h3⟩:=hq
   exact ih S' c2 a' w' h1 hl2 h3
 exact key n S c a w h (.refl c) hs
theorem Un.next {n:Nat} (h:AW P nt R (.code x::.stop (Un P nt R x k n)::k) S):Un P nt R x k (n+1) S:=h
theorem b9j {n:Nat} {R':AS→Prop} {k':List Itm} (h:Un P nt R x k n S):AW P nt R' (.stop (Un P nt R x k n)::k') S:=AW.stop h
end Go.Sx
namespace Go.Sx
theorem LN:(∀ {α:Type} (a b:List α),(a++b).length=a.length+b.length)∧(∀ {α:Type} (l:List α) (i:Nat) (a:α),(l.set i a).length=l.length)∧(∀ {α:Type} (n:Nat) (a:α),(List.replicate n a).length=n)∧(∀ {α:Type} (a:α) (l:List α),(a::l).length=l.length+1)∧(∀ {α:Type},([]:List α).length=0)∧(∀ L x,(dgp L x).length=L) :=
 ⟨fun _ _=>List.length_append,fun _ _ _=>List.length_set,fun _ _=>List.length_replicate,fun _ _=>List.length_cons,List.length_nil,fP⟩
theorem NM : (∀ (p : Prop) [Decidable p], (decide p = true) = p) ∧ (∀ (p : Prop) [Decidable p], (decide p = false) = ¬p) ∧ (∀ b : Bool, (¬b = true) = (b = false)) ∧ (∀ b : Bool, (¬b = false) = (b = true)) ∧
  (∀ {α:Type} [BEq α] [LawfulBEq α] {a b:α},(a == b)=true↔a=b)∧(∀ {α:Type} [BEq α] [LawfulBEq α] {a b:α},(a == b)=false↔a≠b)∧(∀ {α:Type} (a b:α),(a≠b)=¬a=b) ∧
  (∀ b:Bool,((!b)=true)=(b=false))∧(∀ b:Bool,((!b)=false)=(b=true))∧(∀ a b:Bool,((a&&b)=true)=(a=true∧b=true))∧(∀ {x y:Bool},(x||y)=false↔x=false∧y=false) ∧
  (∀ {p:Prop} [Decidable p],¬¬p↔p)∧(∀ {a b:Int},¬a<b↔b≤a)∧(∀ {a b:Int},¬a≤b↔b<a)∧((false=true)=False)∧((true=false)=False) :=
 ⟨fun _ _=>decide_eq_true_eq,fun _ _=>propext decide_eq_false_iff_not,Bool.not_eq_true,Bool.not_eq_false,beq_iff_eq,beq_eq_false_iff_ne,fun _ _=>ne_eq _ _,Bool.not_eq_true',Bool.not_eq_false',Bool.and_eq_true,Bool.or_eq_false_iff,Decidable.not_not,Int.not_lt,Int.not_le,Bool.false_eq_true,Bool.true_eq_false⟩
attribute [go_sem] Nat.reduceEqDiff Nat.reduceLT Nat.reduceLeDiff Nat.reduceAdd Nat.reduceMul Nat.reduceSub reduceCtorEq Int.reduceToNat Int.reduceLT Int.reduceLE Int.reduceAdd Int.reduceSub Int.reduceMul Int.reduceNeg List.reduceReplicate
attribute [go_sem ↓] reduceIte
attribute [go_sem] wrap64 jT yI vD c0h c0g
def tK (ops:Array Oper):Nat→Nat→Nat→Bool
 | 0,_,_=>false
 | n+1,i,j=>match ops[j]? with
  | some o=>o.after.any fun e=>Region.binds .any e&&(e.on == i||(Nat.ble (i+1) e.on&&tK ops n i e.on))
  | none=>false
def a7a (ops:Array Oper) (fs:List Foot):Bool :=
 ((List.range ops.size).all fun j=>match ops[j]? with|some o=>o.after.all fun e=>!Region.binds .any e||decide (e.on<j)|none=>true) &&
 (List.range ops.size).all fun j=>(List.range j).all fun i=>match fs[i]?,fs[j]? with
  | some f,some g=>!g8 f g||tK ops ops.size i j
  | _,_=>true
theorem b8r {ops:Array Oper}:∀ (n i j:Nat),tK ops n i j=true→jG ops n i j=true:=by
 intro n
 induction n with
 | zero=>intro i j h;simp[tK]at h
 | succ n ih =>
  intro i j h
  simp only[tK]at h
  simp only[jG]
  split at h
  ·rename_i o ho
   rw[ho]
   obtain⟨e,he,hh⟩:=Array.any_eq_true'.1 h
   simp only[Bool.and_eq_true,Bool.or_eq_true]at hh
   refine Array.any_eq_true'.2 ⟨e,he,?_⟩
   simp only[Bool.and_eq_true,Bool.or_eq_true]
   exact⟨hh.1,hh.2.imp id fun h=>ih _ _ h.2⟩
  ·contradiction
theorem ord_q {ops:Array Oper} {fs:List Foot} {X:Prop} (h:a7a ops fs=true) (hx:X):mA ops fs=true∧X:=by
 refine⟨?_,hx⟩
 unfold a7a at h
 unfold mA
 simp only[Bool.and_eq_true]at h ⊢
 refine⟨h.1,?_⟩
 have h2:=h.2
 rw[List.all_eq_true]at h2 ⊢
 intro j hj
 have h3:=h2 j hj
 rw[List.all_eq_true]at h3 ⊢
 intro i hi
 have h4:=h3 i hi
 split at h4
 ·rename_i f g e1 e2
  rw[e1,e2]
  simp only[Bool.or_eq_true]at h4 ⊢
  exact h4.imp id fun h=>b8r _ _ _ h
 ·rename_i hn
  split
  ·rename_i f g e1 e2
   exact absurd e2 (hn f g e1)
  ·rfl
theorem zg {p q:Prop} (k:q) (h:q→p:=by intro k;first|exact Go.Sx.AW.seq k|exact Go.Sx.i5 k|exact Go.Sx.AW.block k|exact Go.Sx.AW.blk k|exact Go.Sx.AW.skip k|exact Go.Sx.AW.exit rfl k|exact Go.Sx.ord_q (by kernel_rfl) k|exact Go.Sx.Un.next k|exact Go.Sx.b9j k|exact Go.Sx.a4l Go.Proofs.Vx.ymix k):p:=h k
theorem zo {p:Prop} (h:p:=by first|omega|(simp only[Go.Sx.LN];omega)):p:=h
theorem zb {b want wn:Bool} {X Y:Prop} {u:Tg (X,Y)} (h1:b=want→X) (h2:b=wn→Y) (e:wn=!want:=by first|exact (rfl:false=!true)|exact (rfl:true=!false)):gcaseP b want X Y u:=a9m h1 (e▸h2)
theorem ZC:(∀ a b:Nat,((a+b:Nat):Int)=a+b)∧(∀ n:Nat,((no_index (OfNat.ofNat n):Nat):Int)=OfNat.ofNat n):=⟨Int.natCast_add,fun _=>Int.cast_ofNat_Int⟩
theorem zl {α β:Type} {l:List α} (f:α→β):(l.map f).length=l.length:=List.length_map f
theorem ZT:∀ n:Nat,(n:Int).toNat=n:=Int.toNat_natCast
def Rz (p:Prop):Prop:=p
theorem Rz_eq (p:Prop):Rz p=p:=rfl
attribute [go_sem ↓] Rz_eq
theorem zr {P:Program} {nt:Nat} {rs:List ResultVar} {r:AV} {k:List Itm} {S:AS} (h:Rz (kZ P S rs fun x=>bwr (look S.o) x=r)):AW P nt (RetA P rs r) (.code .ret::k) S:=AW.ret (y4 h)
theorem zn {P:Program} {nt:Nat} {rs:List ResultVar} {r:AV} {k:List Itm} {S:AS} (h:Rz (kZ P S rs fun x=>bwn (look S.o) x=r)):AW P nt (RetN P rs r) (.code .ret::k) S:=AW.ret (c2w h)
attribute [irreducible] Rz
theorem zf {P:Program} {f:Nat} {args:List AV} {i:Nat} {ob:Nat→AV} {E:Eff→Prop} {r:AV} (hc:CallOK P f args [] r []) (h:E ⟨r,[],[]⟩) (ha:cV.flatBs args=true:=by rfl) (hr:cV r=true:=by rfl) (hf:fnT P f=true:=by kernel_rfl):callV P f args i ob E:=callV.flat r hf hc ha hr h
theorem zp {P:Program} {f:Nat} {args:List AV} {i:Nat} {ob:Nat→AV} {E:Eff→Prop} {r:AV} (hc:CallOK P f args [] r []) (hin:∀ a∈args,In (fun _=>False) a) (hr:In (fun _=>False) r) (h:E ⟨r,[],[]⟩) (hf:fnT P f=true:=by kernel_rfl):callV P f args i ob E:=dJ r hf hc hin hr h
theorem zs {P:Program} {f:Nat} {fn:Func} {code:Code} {args:List AV} {r:AV} (hf:P.funcs[f]?=some fn) (nt:Nat) (rs:List ResultVar) {a:Array ResultVar} (hrs:fn.results=a) (h:AW P nt (RetA P rs r) [.code code] ⟨aD 0 args,[],8⟩) (hb:fn.body=some code:=by rfl) (hnt:fn.ntmps=nt:=by rfl) (ha:decide (args.length≤nt)=true:=by rfl) (hr:cV r=true:=by rfl) (hq:a.toList=rs:=by rfl):CallOK P f args [] r [] :=
 CallOK.flat hf hb nt hnt ha hr rs ((congrArg Array.toList hrs).trans hq) h
theorem zc {P:Program} {nt:Nat} {R:AS→Prop} {k:List Itm} {S:AS} {c:Operand} {x y:Code} {b:Bool} (ht:b=true→AW P nt R (.code x::k) S) (hf:b=false→AW P nt R (.code y::k) S) (hc:rdO (look S.t) c=.lit (.bool b):=by rfl):AW P nt R (.code (.cond c x y)::k) S:=AW.cond hc ht hf
end Go.Sx
namespace Go.Proofs.Vx
open Go Go.Sx Go.Proofs Tryz
attribute [local irreducible] fnT CallOK CallFr AW aO callV aP aN aM aQ gcaseP hid
theorem b9r:agT prog 3=some false∧agT prog 5=some false∧agT prog 9=some false∧arT prog 9=none∧boT prog 3=false∧boT prog 5=false∧boT prog 9=false∧slT prog 9=none∧bM prog 9=true∧szT prog 227=some 256∧zeT prog 227=some [.lit (.bool false),.lit (.bool false),.lit (.bool false),.lit (.bool false),.lit (.bool false),.lit (.bool false),.lit (.bool false),.lit (.bool false),.lit (.bool false),.lit (.bool false),.lit (.bool false),.lit (.bool false),.lit (.bool false),.lit (.bool false),.lit (.bool false),.lit (.bool false),.lit (.bool false),.lit (.bool false),.lit (.bool false),.lit (.bool false),.lit (.bool false),.lit (.bool false),.lit (.bool false),.lit (.bool false),.lit (.bool false),.lit (.bool false),.lit (.bool false),.lit (.bool false),.lit (.bool false),.lit (.bool false),.lit (.bool false),.lit (.bool false),.lit (.bool false),.lit (.bool false),.lit (.bool false),.lit (.bool false),.lit (.bool false),.lit (.bool false),.lit (.bool false),.lit (.bool false),.lit (.bool false),.lit (.bool false),.lit (.bool false),.lit (.bool false),.lit (.bool false),.lit (.bool false),.lit (.bool false),.lit (.bool false),.lit (.bool false),.lit (.bool false),.lit (.bool false),.lit (.bool false),.lit (.bool false),.lit (.bool false),.lit (.bool false),.lit (.bool false),.lit (.bool false),.lit (.bool false),.lit (.bool false),.lit (.bool false),.lit (.bool false),.lit (.bool false),.lit (.bool false),.lit (.bool false),.lit (.bool false),.lit (.bool false),.lit (.bool false),.lit (.bool false),.lit (.bool false),.lit (.bool false),.lit (.bool false),.lit (.bool false),.lit (.bool false),.lit (.bool false),.lit (.bool false),.lit (.bool false),.lit (.bool false),.lit (.bool false),.lit (.bool false),.lit (.bool false),.lit (.bool false),.lit (.bool false),.lit (.bool false),.lit (.bool false),.lit (.bool false),.lit (.bool false),.lit (.bool false),.lit (.bool false),.lit (.bool false),.lit (.bool false),.lit (.bool false),.lit (.bool false),.lit (.bool false),.lit (.bool false),.lit (.bool false),.lit (.bool false),.lit (.bool false),.lit (.bool false),.lit (.bool false),.lit (.bool false),.lit (.bool false),.lit (.bool false),.lit (.bool false),.lit (.bool false),.lit (.bool false),.lit (.bool false),.lit (.bool false),.lit (.bool false),.lit (.bool false),.lit (.bool false),.lit (.bool false),.lit (.bool false),.lit (.bool false),.lit (.bool false),.lit (.bool false),.lit (.bool false),.lit (.bool false),.lit (.bool false),.lit (.bool false),.lit (.bool false),.lit (.bool false),.lit (.bool false),.lit (.bool false),.lit (.bool false),.lit (.bool false),.lit (.bool false),.lit (.bool false),.lit (.bool false),.lit (.bool false),.lit (.bool false),.lit (.bool false),.lit (.bool false),.lit (.bool false),.lit (.bool false),.lit (.bool false),.lit (.bool false),.lit (.bool false),.lit (.bool false),.lit (.bool false),.lit (.bool false),.lit (.bool false),.lit (.bool false),.lit (.bool false),.lit (.bool false),.lit (.bool false),.lit (.bool false),.lit (.bool false),.lit (.bool false),.lit (.bool false),.lit (.bool false),.lit (.bool false),.lit (.bool false),.lit (.bool false),.lit (.bool false),.lit (.bool false),.lit (.bool false),.lit (.bool false),.lit (.bool false),.lit (.bool false),.lit (.bool false),.lit (.bool false),.lit (.bool false),.lit (.bool false),.lit (.bool false),.lit (.bool false),.lit (.bool false),.lit (.bool false),.lit (.bool false),.lit (.bool false),.lit (.bool false),.lit (.bool false),.lit (.bool false),.lit (.bool false),.lit (.bool false),.lit (.bool false),.lit (.bool false),.lit (.bool false),.lit (.bool false),.lit (.bool false),.lit (.bool false),.lit (.bool false),.lit (.bool false),.lit (.bool false),.lit (.bool false),.lit (.bool false),.lit (.bool false),.lit (.bool false),.lit (.bool false),.lit (.bool false),.lit (.bool false),.lit (.bool false),.lit (.bool false),.lit (.bool false),.lit (.bool false),.lit (.bool false),.lit (.bool false),.lit (.bool false),.lit (.bool false),.lit (.bool false),.lit (.bool false),.lit (.bool false),.lit (.bool false),.lit (.bool false),.lit (.bool false),.lit (.bool false),.lit (.bool false),.lit (.bool false),.lit (.bool false),.lit (.bool false),.lit (.bool false),.lit (.bool false),.lit (.bool false),.lit (.bool false),.lit (.bool false),.lit (.bool false),.lit (.bool false),.lit (.bool false),.lit (.bool false),.lit (.bool false),.lit (.bool false),.lit (.bool false),.lit (.bool false),.lit (.bool false),.lit (.bool false),.lit (.bool false),.lit (.bool false),.lit (.bool false),.lit (.bool false),.lit (.bool false),.lit (.bool false),.lit (.bool false),.lit (.bool false),.lit (.bool false),.lit (.bool false),.lit (.bool false),.lit (.bool false),.lit (.bool false),.lit (.bool false),.lit (.bool false),.lit (.bool false),.lit (.bool false),.lit (.bool false),.lit (.bool false),.lit (.bool false),.lit (.bool false),.lit (.bool false),.lit (.bool false),.lit (.bool false),.lit (.bool false),.lit (.bool false),.lit (.bool false),.lit (.bool false),.lit (.bool false),.lit (.bool false),.lit (.bool false),.lit (.bool false)]:=by and_intros<;>kernel_rfl
attribute [go_sem] b9r
theorem c234 (m:ByteArray) (hm:m.size<4611686018427387904):CallOK prog 234 [.lit (.string m),.lit (.int .u8 0)] [] (.lit (.string (nb (nv m)))) []:=by
 refine zs func234 23 [.tmp 4] results234 ?_
 simp only[aD,Nat.reduceAdd]
 repeat'(first|refine zg ?_|(refine zc ?_ ?_<;>intro hc<;>try simp only[NM]at hc)|refine zr ?_|refine⟨by omega,?_⟩|(refine zb ?_ ?_<;>intro hg<;>(try rw[hg])<;>try simp only[NM]at hg)|omega|simp -dsimp (disch:=try exact zo)only[go_sem]|contradiction|rfl)
 refine AW.loop (fun z:{s:ByteArray // nv s=nv m∧s.size≤m.size}=>⟨[(0,.lit (.string z.1)),(1,.lit (.int .u8 0))],[],9⟩) (fun z=>z.1.size) ⟨m,rfl,Nat.le_refl _⟩ (aH (by refine⟨?_,?_,?_,?_⟩<;>simp -dsimp (disch:=try exact zo)only[go_sem,ZC])) ?_
 rintro⟨s,hs,hsz⟩
 dsimp only
 repeat'(first|refine zg ?_|(refine zc ?_ ?_<;>intro hc<;>try simp only[NM]at hc)|refine zr ?_|refine⟨by omega,?_⟩|(refine zb ?_ ?_<;>intro hg<;>(try rw[hg])<;>try simp only[NM]at hg)|omega|simp -dsimp (disch:=try exact zo)only[go_sem]|contradiction|rfl)
 ·have e:(↑s.size - 1:Int).toNat=s.size - 1:=by omega
  rw[e]at hc
  have h1:(s.extract 0 (s.size - 1)).size=s.size - 1:=by simp
  refine AW.stop ⟨⟨s.extract 0 (s.size - 1),(a5c (by omega) hc).trans hs,by omega⟩,?_,by dsimp only;omega⟩
  rw[e]
  exact (aH (by refine⟨?_,?_,?_,?_⟩<;>simp -dsimp (disch:=try exact zo)only[go_sem,ZC]))
 ·have e:(↑s.size - 1:Int).toNat=s.size - 1:=by omega
  rw[e]at hc
  rw[← hs,zU (.inr hc)]
 ·rw[← hs,zU (.inl (by omega))]
theorem z0_ne:((⟨#[0]⟩:ByteArray)=⟨#[]⟩)=False:=by simp
theorem z0_bt:bt ⟨#[0]⟩ 0=0:=by rfl
theorem b9l:(⟨#[0]⟩:ByteArray).size=1:=by rfl
theorem b6y {m:ByteArray} (h:m=⟨#[]⟩):nb (nv m)=m:=by subst h;simp[nv,nvL,dG]
theorem c188 (m:ByteArray) (hm:m.size<4611686018427387904):CallOK prog 188 [.lit (.string m),.lit (.string ⟨#[0]⟩)] [] (.lit (.string (nb (nv m)))) []:=by
 refine zs func188 37 [.tmp 4] results188 ?_
 simp only[aD,Nat.reduceAdd]
 repeat'(first|refine zg ?_|(refine zc ?_ ?_<;>intro hc<;>try simp only[NM]at hc)|refine zr ?_|refine zf (c234 _ (by omega)) ?_|refine⟨by omega,?_⟩|(refine zb ?_ ?_<;>intro hg<;>(try rw[hg])<;>try simp only[NM]at hg)|omega|simp -dsimp (disch:=try exact zo)only[go_sem,z0_ne,z0_bt,b9l,Int.toNat_zero]|contradiction|rfl)
 rw[b6y hg]
theorem eY (m:ByteArray) (hm:m.size<4611686018427387904):CallOK prog 143 [.lit (.string m)] [] (.lit (.string (nb (nv m)))) []:=by
 refine zs func143 5 [.tmp 2] results143 ?_
 simp only[aD,Nat.reduceAdd]
 repeat'(first|refine zg ?_|(refine zc ?_ ?_<;>intro hc<;>try simp only[NM]at hc)|refine zr ?_|refine zf (c188 _ (by omega)) ?_|refine⟨by omega,?_⟩|(refine zb ?_ ?_<;>intro hg<;>(try rw[hg])<;>try simp only[NM]at hg)|omega|simp -dsimp (disch:=try exact zo)only[go_sem]|contradiction|rfl)
end Go.Proofs.Vx
namespace Go.Proofs.Vx
open Go Go.Sx Go.Proofs Tryz
attribute [local irreducible] fnT CallOK CallFr AW aO callV aP aN aM aQ gcaseP hid
theorem b9q:agT prog 189=some false∧arT prog 190=none∧boT prog 189=false∧byT prog 189=some 4∧byT prog 5=some 1∧kiT prog 189=some .u32∧kiT prog 209=none∧kiT prog 5=some .u8∧kiT prog 9=none∧slT prog 189=none∧slT prog 190=some (189,1)∧slT prog 209=some (5,1)∧slT prog 5=none∧bM prog 189=false∧bM prog 190=false∧bM prog 209=false∧bM prog 5=false∧szT prog 189=some 1∧zeT prog 189=some [.lit (.int .u32 0)]∧zeT prog 5=some [.lit (.int .u8 0)]:=by and_intros<;>kernel_rfl
attribute [go_sem] b9q
theorem kJ:fnT prog 143=true:=by kernel_rfl
theorem td4 (i:Nat):((i:Int) / 4).toNat=i / 4:=by omega
theorem ymix:Tryz.prog.follows .mixedOrders=true:=by kernel_rfl
theorem dF (m:ByteArray):(nb (nv m)).size≤m.size:=(cD _ _).2 (eO m)
theorem i0 (m:ByteArray) (hm:m.size<1099511627776):CallOK prog 193 [.lit (.string m)] [] (.sl (aJ .u32 (lmN (nv m)))) []:=by
 unfold lmN
 refine fN func193 rfl 35 rfl rfl (by rw[gJ,aU];trivial) [.tmp 2] (congrArg Array.toList results193) ?_
 simp only[aD,Nat.reduceAdd]
 have hc0:=dF m
 have hcn:nv (nb (nv m))=nv m:=aZ _
 generalize hc:nb (nv m)=c at *
 repeat'(first|refine zg ?_|(refine zc ?_ ?_<;>intro hc<;>try simp only[NM]at hc)|refine zr ?_|(refine dJ (.lit (.string c)) kJ (hc▸eY _ (by omega)) (by simp -dsimp (disch:=try exact zo)only[go_sem]) (.lit _) ?_)|refine⟨by omega,?_⟩|(refine zb ?_ ?_<;>intro hg<;>(try rw[hg])<;>try simp only[NM]at hg)|omega|simp -dsimp (disch:=try exact zo)only[go_sem]|contradiction|rfl)
 have eL:((↑c.size+4 - 1) / 4:Int).toNat=(c.size+3) / 4:=by omega
 rw[eL]
 generalize hL:(c.size+3) / 4=L at *
 refine AW.loop (fun z:{i:Nat // i≤c.size}=>⟨[(15,.lit (.int .i64 z.1)),(14,.lit (.int .i64 c.size)),(3,.ref 17 0 L L),(0,.lit (.string c))],[(17,.vec 1 (aJ .u32 (dgp L (nvL (c.data.toList.take z.1)))))],22⟩) (fun z=>c.size - z.1) ⟨0,Nat.zero_le _⟩ (by
  simp only[List.take_zero,nvL,b8n,Int.ofNat_zero];exact (aH (by refine⟨?_,?_,?_,?_⟩<;>simp -dsimp (disch:=try exact zo)only[go_sem,ZC]))) ?_
 rintro⟨i,hi⟩
 dsimp only
 repeat'(first|refine zg ?_|(refine zc ?_ ?_<;>intro hc<;>try simp only[NM]at hc)|refine zr ?_|refine⟨by omega,?_⟩|(refine zb ?_ ?_<;>intro hg<;>(try rw[hg])<;>try simp only[NM]at hg)|omega|simp -dsimp (disch:=try exact zo)only[go_sem,td4,nK]|contradiction|rfl)
 ·rw[b3l c L i (by omega) (by omega)]
  exact AW.stop ⟨⟨i+1,by omega⟩,(aH (by refine⟨?_,?_,?_,?_⟩<;>simp -dsimp (disch:=try exact zo)only[go_sem,ZC])),by dsimp only;omega⟩
 ·rw[nK (fP _ _),a0l c (by omega),hcn]
theorem oE (xs:List Int) (hl:xs.length<1099511627776) (hx:∀ x∈xs,0≤x∧x<4294967296):CallOK prog 184 [.sl (aJ .u32 xs)] [] (.lit (.string (nb (wv xs)))) []:=by
 refine zs func184 33 [.tmp 2] results184 ?_
 simp only[aD,Nat.reduceAdd]
 have hml:maxLen=9223372036854775807:=rfl
 repeat'(first|refine zg ?_|(refine zc ?_ ?_<;>intro hc<;>try simp only[NM]at hc)|refine zr ?_|refine⟨by omega,?_⟩|(refine zb ?_ ?_<;>intro hg<;>(try rw[hg])<;>try simp only[NM]at hg)|omega|simp -dsimp (disch:=try exact zo)only[go_sem]|contradiction|rfl)
 refine AW.loop (fun z:{p:Nat × List Int // p.1≤xs.length∧p.2=by4 (xs.take p.1)∧p.2.length=4*p.1}=>⟨[(13,.lit (.int .i64 z.1.1)),(12,.lit (.int .i64 xs.length)),(11,.sl (aJ .u32 xs)),(3,.ref 12 0 z.1.2.length z.1.2.length)],[(12,.vec 1 (aJ .u8 z.1.2))],17⟩) (fun z=>xs.length - z.1.1) ⟨(0,[]),Nat.zero_le _,rfl,rfl⟩ (by
  exact (aH (by refine⟨?_,?_,?_,?_⟩<;>simp -dsimp (disch:=try exact zo)only[go_sem,ZC]))) ?_
 rintro⟨⟨i,X⟩,hi,hX,hXl⟩
 dsimp only at hi hX hXl ⊢
 repeat'(first|refine zg ?_|(refine zc ?_ ?_<;>intro hc<;>try simp only[NM]at hc)|refine zr ?_|refine⟨by omega,?_⟩|(refine zb ?_ ?_<;>intro hg<;>(try rw[hg])<;>try simp only[NM]at hg)|omega|simp -dsimp (disch:=try exact zo)only[go_sem]|contradiction|rfl)
 ·refine AW.loop (fun z:{p:Nat × List Int // p.1≤4∧p.2=X++(le4 (xs.getD i 0)).take p.1∧p.2.length=4*i+p.1}=>⟨[(17,.lit (.int .i64 z.1.1)),(5,.lit (.int .u32 (xs.getD i 0))),(13,.lit (.int .i64 i)),(12,.lit (.int .i64 xs.length)),(11,.sl (aJ .u32 xs)),(3,.ref 12 0 z.1.2.length z.1.2.length)],[(12,.vec 1 (aJ .u8 z.1.2))],22⟩) (fun z=>4 - z.1.1) ⟨(0,X),Nat.zero_le _,by simp,hXl⟩ (aH (by refine⟨?_,?_,?_,?_⟩<;>simp -dsimp (disch:=try exact zo)only[go_sem,ZC])) ?_
  rintro⟨⟨k,Y⟩,hk,hY,hYl⟩
  dsimp only at hk hY hYl ⊢
  have hd:=hx (xs.getD i 0) (by
   rw[List.getD_eq_getElem?_getD,List.getElem?_eq_getElem (by omega)];exact List.getElem_mem _)
  repeat'(first|refine zg ?_|(refine zc ?_ ?_<;>intro hc<;>try simp only[NM]at hc)|refine zr ?_|refine⟨by omega,?_⟩|(refine zb ?_ ?_<;>intro hg<;>(try rw[hg])<;>try simp only[NM]at hg)|omega|simp -dsimp (disch:=try exact zo)only[go_sem]|contradiction|rfl)
  ·refine AW.stop ⟨⟨(k+1,Y++[IntKind.u8.wrap ((xs.getD i 0).fdiv (2 ^ min (8*(k:Int)).toNat 32))]),by omega,?_,by dsimp only;simp only[List.length_append,List.length_cons,List.length_nil];omega⟩,(aH (by refine⟨?_,?_,?_,?_⟩<;>simp -dsimp (disch:=try exact zo)only[go_sem,ZC,List.length_append])),by dsimp only;omega⟩
   dsimp only
   rw[b7q _ _ hd.1 hd.2 (by omega),hY,List.append_assoc]
   congr 4
  ·have hk4:k=4:=by omega
   subst hk4
   refine AW.stop ⟨⟨(i+1,Y),by omega,?_,by dsimp only;omega⟩,(aH (by refine⟨?_,?_,?_,?_⟩<;>simp -dsimp (disch:=try exact zo)only[go_sem,ZC,List.length_append])),by dsimp only;omega⟩
   dsimp only
   rw[b9a _ _ (by omega),hY,← hX]
   rfl
 ·have hi4:i=xs.length:=by omega
  subst hi4
  rw[List.take_length]at hX
  have e:nb (nv ⟨(ofI X).toArray⟩)=nb (wv xs):=by
   unfold nv
   rw[hX,← c5c xs hx]
  have hsz:(⟨(ofI X).toArray⟩:ByteArray).size=X.length:=by simp[ByteArray.size,ofI]
  refine⟨ofI X,by rw[g6 _ (hX▸b9b xs)],?_⟩
  rw[← e]
  repeat'(first|refine zg ?_|(refine zc ?_ ?_<;>intro hc<;>try simp only[NM]at hc)|refine zr ?_|refine zf (eY _ (by omega)) ?_|refine⟨by omega,?_⟩|(refine zb ?_ ?_<;>intro hg<;>(try rw[hg])<;>try simp only[NM]at hg)|omega|simp -dsimp (disch:=try exact zo)only[go_sem]|contradiction|rfl)
end Go.Proofs.Vx
namespace Go.Proofs.Vx
open Go Go.Sx Go.Proofs Tryz
attribute [local irreducible] fnT CallOK CallFr AW aO callV aP aN aM aQ gcaseP hid
theorem b9p:agT prog 158=some false∧boT prog 158=false∧kiT prog 158=some .u64∧slT prog 158=none∧bM prog 158=false:=by and_intros<;>kernel_rfl
attribute [go_sem] b9p
theorem nG:fnT prog 184=true:=by kernel_rfl
theorem sP (z:Int):0≤IntKind.u32.wrap z∧IntKind.u32.wrap z<4294967296:=by rw[g7];omega
theorem j5 (n:Int) (hn:0≤n∧n<18446744073709551616):CallOK prog 138 [.lit (.int .u64 n)] [] (.lit (.string (nb n.toNat))) []:=by
 refine zs func138 10 [.tmp 2] results138 ?_
 simp only[aD,Nat.reduceAdd]
 have hd:Dig [IntKind.u32.wrap n,n / 4294967296]:=by
  intro x hx
  simp only[zM,or_false]at hx
  rcases hx with rfl|rfl
  ·exact sP _
  ·omega
 have e:nb n.toNat=nb (wv [IntKind.u32.wrap n,n / 4294967296]):=by
  congr 1
  have h:=p8 hd
  simp only[wz,g7]at h
  simp only[g7]
  omega
 rw[e]
 repeat'(first|refine zg ?_|(refine zc ?_ ?_<;>intro hc<;>try simp only[NM]at hc)|refine zr ?_|(refine dB (.lit (.string (nb (wv [IntKind.u32.wrap n,n / 4294967296])))) nG (by simp -dsimp (disch:=try exact zo)only[go_sem,nK,List.length_cons];exact oE [IntKind.u32.wrap n,n / 4294967296] (by simp) hd) (by simp -dsimp (disch:=try exact zo)only[go_sem,nK,List.length_cons,aU]) (.lit _) ?_)|refine⟨by omega,?_⟩|(refine zb ?_ ?_<;>intro hg<;>(try rw[hg])<;>try simp only[NM]at hg)|omega|simp -dsimp (disch:=try exact zo)only[go_sem]|contradiction|rfl)
theorem c194 (x y c:Int) (hx:0≤x∧x<4294967296) (hy:0≤y∧y<4294967296) (hc:0≤c∧c<4294967296):CallOK prog 194 [.lit (.int .u32 x),.lit (.int .u32 y),.lit (.int .u32 c)] [] (.tup [.lit (.int .u32 ((x+y+c) % 4294967296)),.lit (.int .u32 ((x+y+c) / 4294967296))]) []:=by
 refine zs func194 22 [.tmp 6,.tmp 7] results194 ?_
 simp only[aD,Nat.reduceAdd]
 repeat'(first|refine zg ?_|(refine zc ?_ ?_<;>intro hc<;>try simp only[NM]at hc)|refine zr ?_|refine⟨by omega,?_⟩|(refine zb ?_ ?_<;>intro hg<;>(try rw[hg])<;>try simp only[NM]at hg)|omega|simp -dsimp (disch:=try exact zo)only[go_sem]|contradiction|rfl)
theorem c196 (x y c:Int) (hx:0≤x∧x<4294967296) (hy:0≤y∧y<4294967296) (hc:0≤c∧c≤1):CallOK prog 196 [.lit (.int .u32 x),.lit (.int .u32 y),.lit (.int .u32 c)] [] (.tup [.lit (.int .u32 ((x - y - c) % 4294967296)),.lit (.int .u32 (if x<y+c then 1 else 0))]) []:=by
 refine zs func196 25 [.tmp 6,.tmp 7] results196 ?_
 simp only[aD,Nat.reduceAdd]
 repeat'(first|refine zg ?_|(refine zc ?_ ?_<;>intro hc<;>try simp only[NM]at hc)|refine zr ?_|refine⟨by omega,?_⟩|(refine zb ?_ ?_<;>intro hg<;>(try rw[hg])<;>try simp only[NM]at hg)|omega|simp -dsimp (disch:=try exact zo)only[go_sem]|contradiction|rfl)
 have h:=b9c hx hy hc
 have h2:IntKind.u32.wrap (IntKind.u32.wrap (x - y) - c)=(x - y - c) % 4294967296:=by rw[g7,g7];omega
 rw[← h,← h2]
 rfl
theorem c238 (m:ByteArray) (hm:m.size<1099511627776):CallOK prog 238 [.lit (.string m)] [] (.tup [.lit (.int .u64 (if nv m<18446744073709551616 then (nv m:Int)else 0)),.lit (.bool (decide (nv m<18446744073709551616)))]) []:=by
 refine zs func238 27 [.tmp 2,.tmp 3] results238 ?_
 simp only[aD,Nat.reduceAdd]
 have hc0:=dF m
 have hcn:nv (nb (nv m))=nv m:=aZ _
 have hs8:=cD (nv m) 8
 have e8:256 ^ 8=18446744073709551616:=by decide
 rw[e8]at hs8
 generalize hcc:nb (nv m)=c at *
 repeat'(first|refine zg ?_|(refine zc ?_ ?_<;>intro hc<;>try simp only[NM]at hc)|refine zr ?_|(refine callV.flat (.lit (.string c)) kJ (hcc▸eY _ (by omega)) rfl rfl ?_)|refine⟨by omega,?_⟩|(refine zb ?_ ?_<;>intro hg<;>(try rw[hg])<;>try simp only[NM]at hg)|omega|simp -dsimp (disch:=try exact zo)only[go_sem]|contradiction|rfl)
 ·have h9:¬ nv m<18446744073709551616:=by omega
  simp only[h9,if_false,decide_false]
 ·have h9:nv m<18446744073709551616:=by omega
  simp only[h9,if_true,decide_true]
  refine AW.loop (fun z:{p:Nat × Int // p.1≤c.size∧p.2=nvL (c.data.toList.take p.1)}=>⟨[(13,.lit (.int .i64 z.1.1)),(12,.lit (.int .i64 c.size)),(0,.lit (.string c)),(4,.lit (.int .u64 z.1.2))],[],18⟩) (fun z=>c.size - z.1.1) ⟨(0,0),Nat.zero_le _,rfl⟩ (aH (by refine⟨?_,?_,?_,?_⟩<;>simp -dsimp (disch:=try exact zo)only[go_sem,ZC])) ?_
  rintro⟨⟨i,n⟩,hi,hn⟩
  dsimp only at hi hn ⊢
  repeat'(first|refine zg ?_|(refine zc ?_ ?_<;>intro hc<;>try simp only[NM]at hc)|refine zr ?_|refine⟨by omega,?_⟩|(refine zb ?_ ?_<;>intro hg<;>(try rw[hg])<;>try simp only[NM]at hg)|omega|simp -dsimp (disch:=try exact zo)only[go_sem]|contradiction|rfl)
  ·subst hn
   rw[b4l c i (by omega) (by omega)]
   exact AW.stop ⟨⟨(i+1,(nvL (c.data.toList.take (i+1)):Int)),by dsimp only;omega,rfl⟩,(aH (by refine⟨?_,?_,?_,?_⟩<;>simp -dsimp (disch:=try exact zo)only[go_sem,ZC])),by dsimp only;omega⟩
  ·rw[hn,a0l c (by omega),hcn]
theorem c195 (a b:ByteArray) (ha:a.size<1099511627776) (hb:b.size<1099511627776):CallOK prog 195 [.lit (.string a),.lit (.string b)] [] (.lit (.int .i64 (bT (nv a) (nv b)))) []:=by
 refine zs func195 46 [.tmp 4] results195 ?_
 simp only[aD,Nat.reduceAdd]
 have hc0:=dF a
 have hd0:=dF b
 have hcn:nv (nb (nv a))=nv a:=aZ _
 have hdn:nv (nb (nv b))=nv b:=aZ _
 have hlt1:(nb (nv a)).size<(nb (nv b)).size→nv a<nv b:=uE
 have hlt2:(nb (nv b)).size<(nb (nv a)).size→nv b<nv a:=uE
 generalize hcc:nb (nv a)=c at *
 generalize hdd:nb (nv b)=d at *
 unfold bT
 repeat'(first|refine zg ?_|(refine zc ?_ ?_<;>intro hc<;>try simp only[NM]at hc)|refine zr ?_|(first|refine callV.flat (.lit (.string c)) kJ (hcc▸eY a (by omega)) rfl rfl ?_|refine callV.flat (.lit (.string d)) kJ (hdd▸eY b (by omega)) rfl rfl ?_)|refine⟨by omega,?_⟩|(refine zb ?_ ?_<;>intro hg<;>(try rw[hg])<;>try simp only[NM]at hg)|omega|simp -dsimp (disch:=try exact zo)only[go_sem]|contradiction|rfl)
 ·rw[if_pos (hlt1 (by omega))]
 ·have:=hlt2 (by omega)
  rw[if_neg (by omega),if_neg (by omega)]
 ·refine AW.loop (fun z:{i:Nat // i≤c.size∧nv c / 256 ^ (c.size - i)=nv d / 256 ^ (c.size - i)}=>⟨[(23,.lit (.int .i64 z.1)),(22,.lit (.int .i64 c.size)),(0,.lit (.string c)),(1,.lit (.string d))],[],23⟩) (fun z=>c.size - z.1) ⟨0,Nat.zero_le _,by
   have h1:=eO c
   have h2:=eO d
   rw[show d.size=c.size by omega]at h2
   rw[Nat.sub_zero,Nat.div_eq_of_lt h1,Nat.div_eq_of_lt h2]⟩ (aH (by refine⟨?_,?_,?_,?_⟩<;>simp -dsimp (disch:=try exact zo)only[go_sem,ZC])) ?_
  rintro⟨i,hi,hq⟩
  dsimp only
  have ek:i<c.size→((c.size:Int) - 1 - i).toNat=c.size - 1 - i:=by omega
  have hq1:i<c.size→nv c / 256 ^ (c.size - 1 - i+1)=nv d / 256 ^ (c.size - 1 - i+1):=fun h=>by rwa [show c.size - 1 - i+1=c.size - i by omega]
  repeat'(first|refine zg ?_|(refine zc ?_ ?_<;>intro hc<;>try simp only[NM]at hc)|refine zr ?_|refine⟨by omega,?_⟩|(refine zb ?_ ?_<;>intro hg<;>(try rw[hg])<;>try simp only[NM]at hg)|omega|simp -dsimp (disch:=try exact zo)only[go_sem]|contradiction|rfl)
  ·have hi:i<c.size:=by omega
   rw[ek hi,jV,jV]at hc
   have:=(pJ (hq1 hi)).1 (by omega)
   rw[if_pos (by omega)]
  ·rename_i hne
   have hi:i<c.size:=by omega
   rw[ek hi,jV,jV]at hc hne
   have:=(pJ (hq1 hi).symm).1 (by omega)
   rw[if_neg (by omega),if_neg (by omega)]
  ·have hi:i<c.size:=by omega
   rw[ek hi,jV,jV]at hc
   refine AW.stop ⟨⟨i+1,by omega,?_⟩,(aH (by refine⟨?_,?_,?_,?_⟩<;>simp -dsimp (disch:=try exact zo)only[go_sem,ZC])),by dsimp only;omega⟩
   rw[show c.size - (i+1)=c.size - 1 - i by omega]
   exact (pJ (hq1 hi)).2 (by omega)
  ·have e:c.size - i=0:=by omega
   rw[e]at hq
   simp only[Nat.pow_zero,Nat.div_one]at hq
   rw[if_neg (by omega),if_pos (by omega)]
end Go.Proofs.Vx
