import Derived.LoopNIn
import Derived.Test.YtjlfgmhmalbiiaaGreatDoorProg
import Derived.Test.YtjlfgmhmalbiiaaGreatDoorX12
set_option linter.all false
set_option maxHeartbeats 1600000
open Array renaming any_eq_true' → Aj, toList → Ar
open Bool renaming and_eq_true → Af, or_eq_true → Ai
open Int renaming mul_le_mul_of_nonneg_left → Ab, mul_le_mul_of_nonneg_right → Ad, pow_succ → Ah, le_of_lt → Ak, pow_pos → An, mul_assoc → Aq, not_lt → As
open List renaming length_append → Ac, length_cons → Ae, all_eq_true → Al, length_nil → Ao, range → Ap
open Nat renaming reduceAdd → Aa, zero_le → Ag, div_eq_of_lt → Am
namespace Go.Sx
set_option linter.unusedVariables false
theorem wS (xs:List Int) (k:Nat) (h:k≤xs.length):wz xs=wz (xs.take k)+4294967296 ^ k*wz (xs.drop k):=by
 have:=pQ (xs.take k) (xs.drop k)
 rw[List.take_append_drop]at this
 rw[this]
 congr 3
 simp;omega
theorem tJ {n:Nat} {v:Int} (h0:0≤v) (h:v<4294967296 ^ n):wz (dgp n v.toNat)=v:=by
 rw[b0u]
 ·omega
 ·have e:((B32 ^ n:Nat):Int)=(4294967296:Int) ^ n:=by rw[Int.natCast_pow];rfl
  omega
theorem c4a {L n x:Nat} (h:n≤L):(dgp L x).take n=dgp n x:=by
 apply List.ext_getElem
 ·simp[gL];omega
 ·intro i h1 h2
  rw[List.getElem_take,nY,nY]
theorem c5o {xs:List Int} {n:Nat} (h:xs.length=n+2):wz xs=(xs.getD (n+1) 0*4294967296+xs.getD n 0)*4294967296 ^ n+wz (xs.take n):=by
 have e1:=cW xs n
 have e2:=cW xs (n+1)
 rw[dL (by omega)]at e2
 rw[e2,e1,Ah]
 grind
theorem c5n {xs:List Int} {n:Nat} (h:xs.length=n+3):wz xs=((xs.getD (n+2) 0*4294967296+xs.getD (n+1) 0)*4294967296+xs.getD n 0)*4294967296 ^ n+wz (xs.take n):=by
 have e1:=cW xs n
 have e2:=cW xs (n+1)
 have e3:=cW xs (n+1+1)
 rw[dL (by omega)]at e3
 rw[e3,e2,e1,Ah,Ah]
 grind
theorem tC {xs:List Int} (h:Dig xs) (n:Nat):wz (xs.take n)<4294967296 ^ n:=by
 have h1:=jX (h.take n)
 by_cases hn:n≤xs.length
 ·have:(xs.take n).length=n:=by simp;omega
  rwa [this]at h1
 ·have h2:(xs.take n).length≤n:=by simp;omega
  have h3:(4294967296:Int) ^ (xs.take n).length≤4294967296 ^ n:=by
   have h4:=Nat.pow_le_pow_right (show 0<4294967296 by decide) h2
   have e1:((4294967296 ^ (xs.take n).length:Nat):Int)=(4294967296:Int) ^ (xs.take n).length:=by rw[Int.natCast_pow];rfl
   have e2:((4294967296 ^ n:Nat):Int)=(4294967296:Int) ^ n:=by rw[Int.natCast_pow];rfl
   omega
  omega
theorem d1w {E V : List Int} {n : Nat} (hE : E.length = n + 2) (hV : V.length = n + 3) (dE : Dig E) (dV : Dig V) (ht : 2147483648 ≤ E.getD (n + 1) 0) (hlt : wz V < wz E * 4294967296) :
  Est (4294967296 ^ n) (wz E) (wz V) (E.getD (n+1) 0) (E.getD n 0) (wz (E.take n)) (V.getD (n+2) 0) (V.getD (n+1) 0) (V.getD n 0) (wz (V.take n)) :=
 ⟨An (by decide),c5o hE,c5n hV,⟨ht,(dE.getD _).2⟩,dE.getD _,⟨eC (dE.take n),tC dE n⟩,dV.getD _,dV.getD _,dV.getD _,⟨eC (dV.take n),tC dV n⟩,hlt⟩
theorem c1z {ds : List Int} {k n : Nat} (dd : Dig ds) (hn : ds.length = n + 1) (h0 : ds.getD n 0 ≠ 0) (hk : (32 : Int) - (bM (ds.getD n 0).toNat : Int) = (k : Int)) :
  0<wz ds∧wz ds*2 ^ k<4294967296 ^ (n+1)∧2147483648≤(dgp (n+1) (wz ds*2 ^ k).toNat).getD n 0:=by
 have hx:=dd.getD n
 have hxn:(ds.getD n 0).toNat≠0:=by omega
 have b1:=b0g (ds.getD n 0).toNat
 have b2:=b0h hxn
 have b3:1≤bM (ds.getD n 0).toNat:=by rw[qE hxn];omega
 have e:=cW ds n
 rw[dL (by omega)]at e
 have t1:=tC dd n
 have t0:=eC (dd.take n)
 have hp:(0:Int)<4294967296 ^ n:=An (by decide)
 have hk0:(0:Int)<2 ^ k:=An (by decide)
 generalize hb:bM (ds.getD n 0).toNat=b at *
 have c1:ds.getD n 0+1≤2 ^ b:=by
  have e1:((2 ^ b:Nat):Int)=(2:Int) ^ b:=by rw[Int.natCast_pow];rfl
  omega
 have c2:(2:Int) ^ (b - 1)≤ds.getD n 0:=by
  have e1:((2 ^ (b - 1):Nat):Int)=(2:Int) ^ (b - 1):=by rw[Int.natCast_pow];rfl
  omega
 have hbk:b+k=32:=by omega
 have p1:(2:Int) ^ b*2 ^ k=4294967296:=by rw[← Int.pow_add,hbk];decide
 have p2:(2:Int) ^ (b - 1)*2 ^ k=2147483648:=by rw[← Int.pow_add,show b - 1+k=31 by omega];decide
 have hx1:1≤ds.getD n 0:=by omega
 have h1:4294967296 ^ n*1≤4294967296 ^ n*ds.getD n 0:=Ab hx1 (by omega)
 have hpos:0<wz ds:=by omega
 have hup:wz ds*2 ^ k<4294967296 ^ (n+1):=by
  have h2:wz ds+1≤4294967296 ^ n*(ds.getD n 0+1):=by rw[Int.mul_add,Int.mul_one];omega
  have h3:4294967296 ^ n*(ds.getD n 0+1)≤4294967296 ^ n*2 ^ b:=Ab c1 (by omega)
  have h4:(wz ds+1)*2 ^ k≤(4294967296 ^ n*2 ^ b)*2 ^ k:=Ad (by omega) (by omega)
  rw[Aq,p1,Int.add_mul,Int.one_mul]at h4
  rw[Ah]
  omega
 refine⟨hpos,hup,?_⟩
 have hlo:4294967296 ^ n*2147483648≤wz ds*2 ^ k:=by
  have h2:4294967296 ^ n*2 ^ (b - 1)≤wz ds:=by
   have:=Ab c2 (Ak hp)
   omega
  have h3:=Ad h2 (Ak hk0)
  rwa [Aq,p2]at h3
 have hw:=tJ (Ak (Int.mul_pos hpos hk0)) hup
 have dE:=l5 (n+1) (wz ds*2 ^ k).toNat
 have lE:=gL (n+1) (wz ds*2 ^ k).toNat
 generalize dgp (n+1) (wz ds*2 ^ k).toNat=E at *
 have e2:=cW E n
 rw[dL (by omega)]at e2
 have t2:=tC dE n
 apply As.1
 intro hlt
 have h5:4294967296 ^ n*E.getD n 0≤4294967296 ^ n*2147483647:=Ab (by omega) (by omega)
 omega
end Go.Sx
namespace Go.Sx
set_option linter.unusedVariables false
def Un (P:Program) (nt:Nat) (R:AS→Prop) (x:Code) (k:List Itm):Nat→AS→Prop
 | 0,_=>False
 | n+1,S=>AW P nt R (.code x::.stop (Un P nt R x k n)::k) S
variable {P:Program} {nt:Nat} {R:AS→Prop} {k:List Itm} {S:AS} {x:Code}
theorem cK (n:Nat) (h:Un P nt R x k n S):AW P nt R (.code (.loop x)::k) S:=by
 intro c a w hP hs
 refine wpIn_loop_rounds n ?_
 have key:∀ n (S:AS) (c':Cx) (a:Act) (w:World),Un P nt R x k n S→Le c c'→Sim c' nt S a w→Code.roundsIn (Fw c.ro) 0 P x (jE c nt (Qof P nt R k)) n a w:=by
  intro n
  induction n with
  | zero=>intro S c' a w h;exact h.elim
  | succ n ih =>
   intro S c' a w h hl hs
   rw[roundsIn_succ]
   refine wpIn_mono (AWp.le h hl hP hs) ?_
   intro e a' w' hq
   cases e<;>simp only[Exit.then]<;>simp only[jE]at hq ⊢<;>(try exact hq)
   obtain⟨c2,S',hl2,h1,h3⟩:=hq
   exact ih S' c2 a' w' h1 hl2 h3
 exact key n S c a w h (.refl c) hs
theorem Un.next {n:Nat} (h:AW P nt R (.code x::.stop (Un P nt R x k n)::k) S):Un P nt R x k (n+1) S:=h
theorem a0t {n:Nat} {R':AS→Prop} {k':List Itm} (h:Un P nt R x k n S):AW P nt R' (.stop (Un P nt R x k n)::k') S:=AW.stop h
end Go.Sx
namespace Go.Sx
theorem LN:(∀ {α:Type} (a b:List α),(a++b).length=a.length+b.length)∧(∀ {α:Type} (l:List α) (i:Nat) (a:α),(l.set i a).length=l.length)∧(∀ {α:Type} (n:Nat) (a:α),(List.replicate n a).length=n)∧(∀ {α:Type} (a:α) (l:List α),(a::l).length=l.length+1)∧(∀ {α:Type},([]:List α).length=0)∧(∀ L x,(dgp L x).length=L) :=
 ⟨fun _ _=>Ac,fun _ _ _=>List.length_set,fun _ _=>List.length_replicate,fun _ _=>Ae,Ao,gL⟩
theorem NM : (∀ (p : Prop) [Decidable p], (decide p = true) = p) ∧ (∀ (p : Prop) [Decidable p], (decide p = false) = ¬p) ∧ (∀ b : Bool, (¬b = true) = (b = false)) ∧ (∀ b : Bool, (¬b = false) = (b = true)) ∧
  (∀ {α:Type} [BEq α] [LawfulBEq α] {a b:α},(a == b)=true↔a=b)∧(∀ {α:Type} [BEq α] [LawfulBEq α] {a b:α},(a == b)=false↔a≠b)∧(∀ {α:Type} (a b:α),(a≠b)=¬a=b) ∧
  (∀ b:Bool,((!b)=true)=(b=false))∧(∀ b:Bool,((!b)=false)=(b=true))∧(∀ a b:Bool,((a&&b)=true)=(a=true∧b=true))∧(∀ {x y:Bool},(x||y)=false↔x=false∧y=false) ∧
  (∀ {p:Prop} [Decidable p],¬¬p↔p)∧(∀ {a b:Int},¬a<b↔b≤a)∧(∀ {a b:Int},¬a≤b↔b<a)∧((false=true)=False)∧((true=false)=False) :=
 ⟨fun _ _=>decide_eq_true_eq,fun _ _=>propext decide_eq_false_iff_not,Bool.not_eq_true,Bool.not_eq_false,beq_iff_eq,beq_eq_false_iff_ne,fun _ _=>ne_eq _ _,Bool.not_eq_true',Bool.not_eq_false',Af,Bool.or_eq_false_iff,Decidable.not_not,As,Int.not_le,Bool.false_eq_true,Bool.true_eq_false⟩
attribute [go_sem] Nat.reduceEqDiff Nat.reduceLT Nat.reduceLeDiff Aa Nat.reduceMul Nat.reduceSub reduceCtorEq Int.reduceToNat Int.reduceLT Int.reduceLE Int.reduceAdd Int.reduceSub Int.reduceMul Int.reduceNeg List.reduceReplicate
attribute [go_sem ↓] reduceIte
attribute [go_sem] wrap64 kG a0z xG c6a c5z
def vF (ops:Array Oper):Nat→Nat→Nat→Bool
 | 0,_,_=>false
 | n+1,i,j=>match ops[j]? with
  | some o=>o.after.any fun e=>Region.binds .any e&&(e.on == i||(Nat.ble (i+1) e.on&&vF ops n i e.on))
  | none=>false
def b1g (ops:Array Oper) (fs:List Foot):Bool :=
 ((Ap ops.size).all fun j=>match ops[j]? with|some o=>o.after.all fun e=>!Region.binds .any e||decide (e.on<j)|none=>true) &&
 (Ap ops.size).all fun j=>(Ap j).all fun i=>match fs[i]?,fs[j]? with
  | some f,some g=>!iR f g||vF ops ops.size i j
  | _,_=>true
theorem c4d {ops:Array Oper}:∀ (n i j:Nat),vF ops n i j=true→j0 ops n i j=true:=by
 intro n
 induction n with
 | zero=>intro i j h;simp[vF]at h
 | succ n ih =>
  intro i j h
  simp only[vF]at h
  simp only[j0]
  split at h
  ·rename_i o ho
   rw[ho]
   obtain⟨e,he,hh⟩:=Aj.1 h
   simp only[Af,Ai]at hh
   refine Aj.2 ⟨e,he,?_⟩
   simp only[Af,Ai]
   exact⟨hh.1,hh.2.imp id fun h=>ih _ _ h.2⟩
  ·contradiction
theorem a2v {ops:Array Oper} {fs:List Foot} {X:Prop} (h:b1g ops fs=true) (hx:X):nD ops fs=true∧X:=by
 refine⟨?_,hx⟩
 unfold b1g at h
 unfold nD
 simp only[Af]at h ⊢
 refine⟨h.1,?_⟩
 have h2:=h.2
 rw[Al]at h2 ⊢
 intro j hj
 have h3:=h2 j hj
 rw[Al]at h3 ⊢
 intro i hi
 have h4:=h3 i hi
 split at h4
 ·rename_i f g e1 e2
  rw[e1,e2]
  simp only[Ai]at h4 ⊢
  exact h4.imp id fun h=>c4d _ _ _ h
 ·rename_i hn
  split
  ·rename_i f g e1 e2
   exact absurd e2 (hn f g e1)
  ·rfl
theorem zg {p q:Prop} (k:q) (h:q→p:=by intro k;first|exact Go.Sx.AW.seq k|exact Go.Sx.iM k|exact Go.Sx.AW.block k|exact Go.Sx.AW.blk k|exact Go.Sx.AW.skip k|exact Go.Sx.AW.exit rfl k|exact Go.Sx.a2v (by kernel_rfl) k|exact Go.Sx.Un.next k|exact Go.Sx.a0t k|exact Go.Sx.xD Go.Proofs.Vx.ymix k):p:=h k
theorem zo {p:Prop} (h:p:=by first|omega|(simp only[Go.Sx.LN];omega)):p:=h
theorem zb {b want wn:Bool} {X Y:Prop} {u:Tg (X,Y)} (h1:b=want→X) (h2:b=wn→Y) (e:wn=!want:=by first|exact (rfl:false=!true)|exact (rfl:true=!false)):gcaseP b want X Y u:=a3h h1 (e▸h2)
theorem ZC:(∀ a b:Nat,((a+b:Nat):Int)=a+b)∧(∀ n:Nat,((no_index (OfNat.ofNat n):Nat):Int)=OfNat.ofNat n):=⟨Int.natCast_add,fun _=>Int.cast_ofNat_Int⟩
theorem zl {α β:Type} {l:List α} (f:α→β):(l.map f).length=l.length:=List.length_map f
theorem ZT:∀ n:Nat,(n:Int).toNat=n:=Int.toNat_natCast
def Rz (p:Prop):Prop:=p
theorem Rz_eq (p:Prop):Rz p=p:=rfl
attribute [go_sem ↓] Rz_eq
theorem zr {P:Program} {nt:Nat} {rs:List ResultVar} {r:AV} {k:List Itm} {S:AS} (h:Rz (mH P S rs fun x=>bwr (look S.o) x=r)):AW P nt (RetA P rs r) (.code .ret::k) S:=AW.ret (uL h)
theorem zn {P:Program} {nt:Nat} {rs:List ResultVar} {r:AV} {k:List Itm} {S:AS} (h:Rz (mH P S rs fun x=>bwn (look S.o) x=r)):AW P nt (RetN P rs r) (.code .ret::k) S:=AW.ret (c8z h)
attribute [irreducible] Rz
theorem zf {P:Program} {f:Nat} {args:List AV} {i:Nat} {ob:Nat→AV} {E:Eff→Prop} {r:AV} (hc:CallOK P f args [] r []) (h:E ⟨r,[],[]⟩) (ha:c8.flatBs args=true:=by rfl) (hr:c8 r=true:=by rfl) (hf:fnT P f=true:=by kernel_rfl):callV P f args i ob E:=callV.flat r hf hc ha hr h
theorem zp {P:Program} {f:Nat} {args:List AV} {i:Nat} {ob:Nat→AV} {E:Eff→Prop} {r:AV} (hc:CallOK P f args [] r []) (hin:∀ a∈args,In (fun _=>False) a) (hr:In (fun _=>False) r) (h:E ⟨r,[],[]⟩) (hf:fnT P f=true:=by kernel_rfl):callV P f args i ob E:=dT r hf hc hin hr h
theorem zs {P:Program} {f:Nat} {fn:Func} {code:Code} {args:List AV} {r:AV} (hf:P.funcs[f]?=some fn) (nt:Nat) (rs:List ResultVar) {a:Array ResultVar} (hrs:fn.results=a) (h:AW P nt (RetA P rs r) [.code code] ⟨aD 0 args,[],8⟩) (hb:fn.body=some code:=by rfl) (hnt:fn.ntmps=nt:=by rfl) (ha:decide (args.length≤nt)=true:=by rfl) (hr:c8 r=true:=by rfl) (hq:a.toList=rs:=by rfl):CallOK P f args [] r [] :=
 CallOK.flat hf hb nt hnt ha hr rs ((congrArg Ar hrs).trans hq) h
theorem zq {P:Program} {f:Nat} {args:List AV} {i:Nat} {ob:Nat→AV} {E:Eff→Prop} {r:AV} (hc:CallOK P f args [] r []) (h:E ⟨r,[],[]⟩) (hin:∀ a∈args,In (fun _=>False) a:=by simp -dsimp (disch:=try exact zo)only[go_sem]) (hr:In (fun _=>False) r:=by simp -dsimp (disch:=try exact zo)only[go_sem]) (hf:fnT P f=true:=by kernel_rfl):callV P f args i ob E:=dT r hf hc hin hr h
theorem zw {S:AS} {t o:List (Nat × AV)} {n:Nat} (h:gH t S.t∧gH o S.o∧inT n t∧inO n o:=by refine⟨?_,?_,?_,?_⟩<;>simp -dsimp (disch:=try exact zo)only[go_sem,List.take_zero,zl,ZC, *]) (h8:8≤n:=by decide):Weak S ⟨t,o,n⟩:=aR h h8
theorem zu {P:Program} {nt:Nat} {R:AS→Prop} {k:List Itm} {S:AS} {c:Operand} {x y:Code} {b:Bool} {A B:Prop} (ka:A) (kb:B) (hc:Go.Sx.rdO (Go.Sx.look S.t) c=.lit (.bool b):=by exact rfl) (h1:A→b=true→AW P nt R (.code x::k) S:=by intro k hc;first|(simp only[Go.Sx.NM]at hc;revert hc;exact k)|(revert hc;exact k)) (h2:B→b=false→AW P nt R (.code y::k) S:=by intro k hc;first|(simp only[Go.Sx.NM]at hc;revert hc;exact k)|(revert hc;exact k)):AW P nt R (.code (.cond c x y)::k) S:=AW.cond hc (h1 ka) (h2 kb)
theorem zv {b want wn:Bool} {X Y:Prop} {u:Tg (X,Y)} {A B:Prop} (ka:A) (kb:B) (e:wn=!want:=by first|exact (rfl:false=!true)|exact (rfl:true=!false)) (h1:A→b=want→X:=by intro k hg;(try rewrite[hg]);first|(simp only[Go.Sx.NM]at hg;revert hg;exact k)|(revert hg;exact k)) (h2:B→b=wn→Y:=by intro k hg;(try rewrite[hg]);first|(simp only[Go.Sx.NM]at hg;revert hg;exact k)|(revert hg;exact k)):gcaseP b want X Y u:=a3h (h1 ka) (e▸h2 kb)
theorem zj {p q:Prop} (k:q) (h:q→p:=by intro k;first|exact Go.Sx.AW.seq k|exact Go.Sx.iM k|exact Go.Sx.AW.block k|exact Go.Sx.AW.blk k|exact Go.Sx.AW.skip k|exact Go.Sx.AW.exit rfl k|exact Go.Sx.a2v (by kernel_rfl) k|exact Go.Sx.Un.next k|exact Go.Sx.a0t k|exact Go.Sx.xD Go.Proofs.Vx.ymix k|exact⟨by omega,k⟩):p:=h k
theorem zk {p q:Prop} (k:q) (h:q→p:=by intro k;first|exact Go.Sx.AW.seq k|exact Go.Sx.iM k|exact Go.Sx.AW.block k|exact Go.Sx.AW.blk k|exact Go.Sx.AW.skip k|exact Go.Sx.AW.exit rfl k|exact Go.Sx.a2v (by kernel_rfl) k|exact Go.Sx.Un.next k|exact Go.Sx.a0t k|exact Go.Sx.xD Go.Proofs.Vx.ymix k|(refine Go.Sx.zr ?_;exact k)|exact⟨by omega,k⟩):p:=h k
theorem z1 {p:Prop} (h:p:=by repeat'(first|refine zg ?_|(refine AW.cond rfl ?_ ?_<;>intro hc<;>first|simp only[NM]at hc|omega|skip)|refine zr ?_|refine zn ?_|refine zf (by assumption) ?_|refine zq (by assumption) ?_|refine⟨by omega,?_⟩|(refine zb ?_ ?_<;>intro hg<;>(try rw[hg])<;>try simp only[NM]at hg)|omega|simp -dsimp (disch:=try exact zo)only[go_sem,ZT,zl,Bool.not_true,Bool.not_false,Nat.add_sub_cancel, *]|contradiction|rfl)):p:=h
theorem z1b {p:Prop} (h:p:=by repeat'(first|refine zg ?_|refine cK 2 ?_|(refine AW.cond rfl ?_ ?_<;>intro hc<;>first|simp only[NM]at hc|omega|skip)|refine zr ?_|refine zn ?_|refine zf (by assumption) ?_|refine zq (by assumption) ?_|refine⟨by omega,?_⟩|(refine zb ?_ ?_<;>intro hg<;>(try rw[hg])<;>try simp only[NM]at hg)|omega|simp -dsimp (disch:=try exact zo)only[go_sem,ZT,zl,Bool.not_true,Bool.not_false,Nat.add_sub_cancel, *]|contradiction|rfl)):p:=h
theorem z1d {p:Prop} (h:p:=by repeat'(first|refine zg ?_|refine cK 4 ?_|(refine AW.cond rfl ?_ ?_<;>intro hc<;>first|simp only[NM]at hc|omega|skip)|refine zr ?_|refine zn ?_|refine zf (by assumption) ?_|refine zq (by assumption) ?_|refine⟨by omega,?_⟩|(refine zb ?_ ?_<;>intro hg<;>(try rw[hg])<;>try simp only[NM]at hg)|omega|simp -dsimp (disch:=try exact zo)only[go_sem,ZT,zl,Bool.not_true,Bool.not_false,Nat.add_sub_cancel, *]|contradiction|rfl)):p:=h
theorem z1f {p:Prop} (h:p:=by repeat'(first|refine zg ?_|refine cK 6 ?_|(refine AW.cond rfl ?_ ?_<;>intro hc<;>first|simp only[NM]at hc|omega|skip)|refine zr ?_|refine zn ?_|refine zf (by assumption) ?_|refine zq (by assumption) ?_|refine⟨by omega,?_⟩|(refine zb ?_ ?_<;>intro hg<;>(try rw[hg])<;>try simp only[NM]at hg)|omega|simp -dsimp (disch:=try exact zo)only[go_sem,ZT,zl,Bool.not_true,Bool.not_false,Nat.add_sub_cancel, *]|contradiction|rfl)):p:=h
theorem zc {P:Program} {nt:Nat} {R:AS→Prop} {k:List Itm} {S:AS} {c:Operand} {x y:Code} {b:Bool} (ht:b=true→AW P nt R (.code x::k) S) (hf:b=false→AW P nt R (.code y::k) S) (hc:rdO (look S.t) c=.lit (.bool b):=by rfl):AW P nt R (.code (.cond c x y)::k) S:=AW.cond hc ht hf
end Go.Sx
namespace Go.Proofs.Vx
open Go Go.Sx Go.Proofs Tryz
attribute [local irreducible] fnT CallOK CallFr AW aK callV aL aJ aI aM gcaseP hid
theorem c5c:agT prog 3=some false∧agT prog 5=some false∧agT prog 9=some false∧arT prog 9=none∧boT prog 3=false∧boT prog 5=false∧boT prog 9=false∧slT prog 9=none∧bI prog 9=true∧szT prog 227=some 256∧zeT prog 227=some [.lit (.bool false),.lit (.bool false),.lit (.bool false),.lit (.bool false),.lit (.bool false),.lit (.bool false),.lit (.bool false),.lit (.bool false),.lit (.bool false),.lit (.bool false),.lit (.bool false),.lit (.bool false),.lit (.bool false),.lit (.bool false),.lit (.bool false),.lit (.bool false),.lit (.bool false),.lit (.bool false),.lit (.bool false),.lit (.bool false),.lit (.bool false),.lit (.bool false),.lit (.bool false),.lit (.bool false),.lit (.bool false),.lit (.bool false),.lit (.bool false),.lit (.bool false),.lit (.bool false),.lit (.bool false),.lit (.bool false),.lit (.bool false),.lit (.bool false),.lit (.bool false),.lit (.bool false),.lit (.bool false),.lit (.bool false),.lit (.bool false),.lit (.bool false),.lit (.bool false),.lit (.bool false),.lit (.bool false),.lit (.bool false),.lit (.bool false),.lit (.bool false),.lit (.bool false),.lit (.bool false),.lit (.bool false),.lit (.bool false),.lit (.bool false),.lit (.bool false),.lit (.bool false),.lit (.bool false),.lit (.bool false),.lit (.bool false),.lit (.bool false),.lit (.bool false),.lit (.bool false),.lit (.bool false),.lit (.bool false),.lit (.bool false),.lit (.bool false),.lit (.bool false),.lit (.bool false),.lit (.bool false),.lit (.bool false),.lit (.bool false),.lit (.bool false),.lit (.bool false),.lit (.bool false),.lit (.bool false),.lit (.bool false),.lit (.bool false),.lit (.bool false),.lit (.bool false),.lit (.bool false),.lit (.bool false),.lit (.bool false),.lit (.bool false),.lit (.bool false),.lit (.bool false),.lit (.bool false),.lit (.bool false),.lit (.bool false),.lit (.bool false),.lit (.bool false),.lit (.bool false),.lit (.bool false),.lit (.bool false),.lit (.bool false),.lit (.bool false),.lit (.bool false),.lit (.bool false),.lit (.bool false),.lit (.bool false),.lit (.bool false),.lit (.bool false),.lit (.bool false),.lit (.bool false),.lit (.bool false),.lit (.bool false),.lit (.bool false),.lit (.bool false),.lit (.bool false),.lit (.bool false),.lit (.bool false),.lit (.bool false),.lit (.bool false),.lit (.bool false),.lit (.bool false),.lit (.bool false),.lit (.bool false),.lit (.bool false),.lit (.bool false),.lit (.bool false),.lit (.bool false),.lit (.bool false),.lit (.bool false),.lit (.bool false),.lit (.bool false),.lit (.bool false),.lit (.bool false),.lit (.bool false),.lit (.bool false),.lit (.bool false),.lit (.bool false),.lit (.bool false),.lit (.bool false),.lit (.bool false),.lit (.bool false),.lit (.bool false),.lit (.bool false),.lit (.bool false),.lit (.bool false),.lit (.bool false),.lit (.bool false),.lit (.bool false),.lit (.bool false),.lit (.bool false),.lit (.bool false),.lit (.bool false),.lit (.bool false),.lit (.bool false),.lit (.bool false),.lit (.bool false),.lit (.bool false),.lit (.bool false),.lit (.bool false),.lit (.bool false),.lit (.bool false),.lit (.bool false),.lit (.bool false),.lit (.bool false),.lit (.bool false),.lit (.bool false),.lit (.bool false),.lit (.bool false),.lit (.bool false),.lit (.bool false),.lit (.bool false),.lit (.bool false),.lit (.bool false),.lit (.bool false),.lit (.bool false),.lit (.bool false),.lit (.bool false),.lit (.bool false),.lit (.bool false),.lit (.bool false),.lit (.bool false),.lit (.bool false),.lit (.bool false),.lit (.bool false),.lit (.bool false),.lit (.bool false),.lit (.bool false),.lit (.bool false),.lit (.bool false),.lit (.bool false),.lit (.bool false),.lit (.bool false),.lit (.bool false),.lit (.bool false),.lit (.bool false),.lit (.bool false),.lit (.bool false),.lit (.bool false),.lit (.bool false),.lit (.bool false),.lit (.bool false),.lit (.bool false),.lit (.bool false),.lit (.bool false),.lit (.bool false),.lit (.bool false),.lit (.bool false),.lit (.bool false),.lit (.bool false),.lit (.bool false),.lit (.bool false),.lit (.bool false),.lit (.bool false),.lit (.bool false),.lit (.bool false),.lit (.bool false),.lit (.bool false),.lit (.bool false),.lit (.bool false),.lit (.bool false),.lit (.bool false),.lit (.bool false),.lit (.bool false),.lit (.bool false),.lit (.bool false),.lit (.bool false),.lit (.bool false),.lit (.bool false),.lit (.bool false),.lit (.bool false),.lit (.bool false),.lit (.bool false),.lit (.bool false),.lit (.bool false),.lit (.bool false),.lit (.bool false),.lit (.bool false),.lit (.bool false),.lit (.bool false),.lit (.bool false),.lit (.bool false),.lit (.bool false),.lit (.bool false),.lit (.bool false),.lit (.bool false),.lit (.bool false),.lit (.bool false),.lit (.bool false),.lit (.bool false),.lit (.bool false),.lit (.bool false),.lit (.bool false),.lit (.bool false),.lit (.bool false),.lit (.bool false),.lit (.bool false),.lit (.bool false),.lit (.bool false),.lit (.bool false),.lit (.bool false),.lit (.bool false),.lit (.bool false),.lit (.bool false),.lit (.bool false),.lit (.bool false),.lit (.bool false),.lit (.bool false)]:=by and_intros<;>kernel_rfl
attribute [go_sem] c5c
theorem c234 (m:ByteArray) (hm:m.size<4611686018427387904):CallOK prog 234 [.lit (.string m),.lit (.int .u8 0)] [] (.lit (.string (nb (nv m)))) []:=by
 refine zs func234 23 [.tmp 4] results234 ?_
 simp only[aD,Aa]
 repeat'(first|refine zk ?_|(refine zu ?_ ?_<;>intro hc)|(refine zv ?_ ?_<;>intro hg)|omega|simp -dsimp (disch:=try exact zo)only[go_sem]|contradiction|rfl)
 refine AW.loop (fun z:{s:ByteArray // nv s=nv m∧s.size≤m.size}=>⟨[(0,.lit (.string z.1)),(1,.lit (.int .u8 0))],[],9⟩) (fun z=>z.1.size) ⟨m,rfl,Nat.le_refl _⟩ zw ?_
 rintro⟨s,hs,hsz⟩
 dsimp only
 repeat'(first|refine zk ?_|(refine zu ?_ ?_<;>intro hc)|(refine zv ?_ ?_<;>intro hg)|omega|simp -dsimp (disch:=try exact zo)only[go_sem]|contradiction|rfl)
 ·have e:(↑s.size - 1:Int).toNat=s.size - 1:=by omega
  rw[e]at hc
  have h1:(s.extract 0 (s.size - 1)).size=s.size - 1:=by simp
  refine AW.stop ⟨⟨s.extract 0 (s.size - 1),(a9i (by omega) hc).trans hs,by omega⟩,?_,by dsimp only;omega⟩
  rw[e]
  exact zw
 ·have e:(↑s.size - 1:Int).toNat=s.size - 1:=by omega
  rw[e]at hc
  rw[← hs,a2y (.inr hc)]
 ·rw[← hs,a2y (.inl (by omega))]
theorem z0_ne:((⟨#[0]⟩:ByteArray)=⟨#[]⟩)=False:=by simp
theorem z0_bt:bt ⟨#[0]⟩ 0=0:=by rfl
theorem c4w:(⟨#[0]⟩:ByteArray).size=1:=by rfl
theorem c2b {m:ByteArray} (h:m=⟨#[]⟩):nb (nv m)=m:=by subst h;simp[nv,nvL,eB]
theorem c188 (m:ByteArray) (hm:m.size<4611686018427387904):CallOK prog 188 [.lit (.string m),.lit (.string ⟨#[0]⟩)] [] (.lit (.string (nb (nv m)))) []:=by
 refine zs func188 37 [.tmp 4] results188 ?_
 simp only[aD,Aa]
 repeat'(first|refine zk ?_|(refine zu ?_ ?_<;>intro hc)|refine zf (c234 _ (by omega)) ?_|(refine zv ?_ ?_<;>intro hg)|omega|simp -dsimp (disch:=try exact zo)only[go_sem,z0_ne,z0_bt,c4w,Int.toNat_zero]|contradiction|rfl)
 rw[c2b hg]
theorem fK (m:ByteArray) (hm:m.size<4611686018427387904):CallOK prog 143 [.lit (.string m)] [] (.lit (.string (nb (nv m)))) []:=by
 refine zs func143 5 [.tmp 2] results143 ?_
 simp only[aD,Aa]
 repeat'(first|refine zk ?_|(refine zu ?_ ?_<;>intro hc)|refine zf (c188 _ (by omega)) ?_|(refine zv ?_ ?_<;>intro hg)|omega|simp -dsimp (disch:=try exact zo)only[go_sem]|contradiction|rfl)
end Go.Proofs.Vx
namespace Go.Proofs.Vx
open Go Go.Sx Go.Proofs Tryz
attribute [local irreducible] fnT CallOK CallFr AW aK callV aL aJ aI aM gcaseP hid
theorem c5b:agT prog 189=some false∧arT prog 190=none∧boT prog 189=false∧byT prog 189=some 4∧byT prog 5=some 1∧kiT prog 189=some .u32∧kiT prog 209=none∧kiT prog 5=some .u8∧kiT prog 9=none∧slT prog 189=none∧slT prog 190=some (189,1)∧slT prog 209=some (5,1)∧slT prog 5=none∧bI prog 189=false∧bI prog 190=false∧bI prog 209=false∧bI prog 5=false∧szT prog 189=some 1∧zeT prog 189=some [.lit (.int .u32 0)]∧zeT prog 5=some [.lit (.int .u8 0)]:=by and_intros<;>kernel_rfl
attribute [go_sem] c5b
theorem lY:fnT prog 143=true:=by kernel_rfl
theorem td4 (i:Nat):((i:Int) / 4).toNat=i / 4:=by omega
theorem ymix:Tryz.prog.follows .mixedOrders=true:=by kernel_rfl
theorem eA (m:ByteArray):(nb (nv m)).size≤m.size:=(cG _ _).2 (fH m)
theorem jP (m:ByteArray) (hm:m.size<1099511627776):CallOK prog 193 [.lit (.string m)] [] (.sl (aH .u32 (lmN (nv m)))) []:=by
 unfold lmN
 refine fF func193 rfl 35 rfl rfl (by rw[iI,jT];trivial) [.tmp 2] (congrArg Ar results193) ?_
 simp only[aD,Aa]
 have hc0:=eA m
 have hcn:nv (nb (nv m))=nv m:=aV _
 generalize hc:nb (nv m)=c at *
 repeat'(first|refine zk ?_|(refine zu ?_ ?_<;>intro hc)|(refine dT (.lit (.string c)) lY (hc▸fK _ (by omega)) (by simp -dsimp (disch:=try exact zo)only[go_sem]) (.lit _) ?_)|(refine zv ?_ ?_<;>intro hg)|omega|simp -dsimp (disch:=try exact zo)only[go_sem]|contradiction|rfl)
 have eL:((↑c.size+4 - 1) / 4:Int).toNat=(c.size+3) / 4:=by omega
 rw[eL]
 generalize hL:(c.size+3) / 4=L at *
 refine AW.loop (fun z:{i:Nat // i≤c.size}=>⟨[(15,.lit (.int .i64 z.1)),(14,.lit (.int .i64 c.size)),(3,.ref 17 0 L L),(0,.lit (.string c))],[(17,.vec 1 (aH .u32 (dgp L (nvL (c.data.toList.take z.1)))))],22⟩) (fun z=>c.size - z.1) ⟨0,Ag _⟩ (by
  simp only[List.take_zero,nvL,c3z,Int.ofNat_zero];exact zw) ?_
 rintro⟨i,hi⟩
 dsimp only
 repeat'(first|refine zk ?_|(refine zu ?_ ?_<;>intro hc)|(refine zv ?_ ?_<;>intro hg)|omega|simp -dsimp (disch:=try exact zo)only[go_sem,td4,oL]|contradiction|rfl)
 ·rw[b8a c L i (by omega) (by omega)]
  exact AW.stop ⟨⟨i+1,by omega⟩,zw,by dsimp only;omega⟩
 ·rw[oL (gL _ _),a3s c (by omega),hcn]
theorem pG (xs:List Int) (hl:xs.length<1099511627776) (hx:∀ x∈xs,0≤x∧x<4294967296):CallOK prog 184 [.sl (aH .u32 xs)] [] (.lit (.string (nb (wv xs)))) []:=by
 refine zs func184 33 [.tmp 2] results184 ?_
 simp only[aD,Aa]
 have hml:maxLen=9223372036854775807:=rfl
 repeat'(first|refine zk ?_|(refine zu ?_ ?_<;>intro hc)|(refine zv ?_ ?_<;>intro hg)|omega|simp -dsimp (disch:=try exact zo)only[go_sem]|contradiction|rfl)
 refine AW.loop (fun z:{p:Nat × List Int // p.1≤xs.length∧p.2=by4 (xs.take p.1)∧p.2.length=4*p.1}=>⟨[(13,.lit (.int .i64 z.1.1)),(12,.lit (.int .i64 xs.length)),(11,.sl (aH .u32 xs)),(3,.ref 12 0 z.1.2.length z.1.2.length)],[(12,.vec 1 (aH .u8 z.1.2))],17⟩) (fun z=>xs.length - z.1.1) ⟨(0,[]),Ag _,rfl,rfl⟩ (by
  exact zw) ?_
 rintro⟨⟨i,X⟩,hi,hX,hXl⟩
 dsimp only at hi hX hXl ⊢
 repeat'(first|refine zk ?_|(refine zu ?_ ?_<;>intro hc)|(refine zv ?_ ?_<;>intro hg)|omega|simp -dsimp (disch:=try exact zo)only[go_sem]|contradiction|rfl)
 ·refine AW.loop (fun z:{p:Nat × List Int // p.1≤4∧p.2=X++(le4 (xs.getD i 0)).take p.1∧p.2.length=4*i+p.1}=>⟨[(17,.lit (.int .i64 z.1.1)),(5,.lit (.int .u32 (xs.getD i 0))),(13,.lit (.int .i64 i)),(12,.lit (.int .i64 xs.length)),(11,.sl (aH .u32 xs)),(3,.ref 12 0 z.1.2.length z.1.2.length)],[(12,.vec 1 (aH .u8 z.1.2))],22⟩) (fun z=>4 - z.1.1) ⟨(0,X),Ag _,by simp,hXl⟩ zw ?_
  rintro⟨⟨k,Y⟩,hk,hY,hYl⟩
  dsimp only at hk hY hYl ⊢
  have hd:=hx (xs.getD i 0) (by
   rw[List.getD_eq_getElem?_getD,List.getElem?_eq_getElem (by omega)];exact List.getElem_mem _)
  repeat'(first|refine zk ?_|(refine zu ?_ ?_<;>intro hc)|(refine zv ?_ ?_<;>intro hg)|omega|simp -dsimp (disch:=try exact zo)only[go_sem]|contradiction|rfl)
  ·refine AW.stop ⟨⟨(k+1,Y++[IntKind.u8.wrap ((xs.getD i 0).fdiv (2 ^ min (8*(k:Int)).toNat 32))]),by omega,?_,by dsimp only;simp only[Ac,Ae,Ao];omega⟩,(aR (by refine⟨?_,?_,?_,?_⟩<;>simp -dsimp (disch:=try exact zo)only[go_sem,ZC,Ac])),by dsimp only;omega⟩
   dsimp only
   rw[c2x _ _ hd.1 hd.2 (by omega),hY,List.append_assoc]
   congr 4
  ·have hk4:k=4:=by omega
   subst hk4
   refine AW.stop ⟨⟨(i+1,Y),by omega,?_,by dsimp only;omega⟩,(aR (by refine⟨?_,?_,?_,?_⟩<;>simp -dsimp (disch:=try exact zo)only[go_sem,ZC,Ac])),by dsimp only;omega⟩
   dsimp only
   rw[c4m _ _ (by omega),hY,← hX]
   rfl
 ·have hi4:i=xs.length:=by omega
  subst hi4
  rw[List.take_length]at hX
  have e:nb (nv ⟨(ofI X).toArray⟩)=nb (wv xs):=by
   unfold nv
   rw[hX,← d1a xs hx]
  have hsz:(⟨(ofI X).toArray⟩:ByteArray).size=X.length:=by simp[ByteArray.size,ofI]
  refine⟨ofI X,by rw[iN _ (hX▸c4n xs)],?_⟩
  rw[← e]
  repeat'(first|refine zk ?_|(refine zu ?_ ?_<;>intro hc)|refine zf (fK _ (by omega)) ?_|(refine zv ?_ ?_<;>intro hg)|omega|simp -dsimp (disch:=try exact zo)only[go_sem]|contradiction|rfl)
end Go.Proofs.Vx
namespace Go.Proofs.Vx
open Go Go.Sx Go.Proofs Tryz
attribute [local irreducible] fnT CallOK CallFr AW aK callV aL aJ aI aM gcaseP hid
theorem c5a:agT prog 158=some false∧boT prog 158=false∧kiT prog 158=some .u64∧slT prog 158=none∧bI prog 158=false:=by and_intros<;>kernel_rfl
attribute [go_sem] c5a
theorem oF:fnT prog 184=true:=by kernel_rfl
theorem uN (z:Int):0≤IntKind.u32.wrap z∧IntKind.u32.wrap z<4294967296:=by rw[iP];omega
theorem kZ (n:Int) (hn:0≤n∧n<18446744073709551616):CallOK prog 138 [.lit (.int .u64 n)] [] (.lit (.string (nb n.toNat))) []:=by
 refine zs func138 10 [.tmp 2] results138 ?_
 simp only[aD,Aa]
 have hd:Dig [IntKind.u32.wrap n,n / 4294967296]:=by
  intro x hx
  simp only[zM,or_false]at hx
  rcases hx with rfl|rfl
  ·exact uN _
  ·omega
 have e:nb n.toNat=nb (wv [IntKind.u32.wrap n,n / 4294967296]):=by
  congr 1
  have h:=rS hd
  simp only[wz,iP]at h
  simp only[iP]
  omega
 rw[e]
 repeat'(first|refine zk ?_|(refine zu ?_ ?_<;>intro hc)|(refine dY (.lit (.string (nb (wv [IntKind.u32.wrap n,n / 4294967296])))) oF (by simp -dsimp (disch:=try exact zo)only[go_sem,oL,Ae];exact pG [IntKind.u32.wrap n,n / 4294967296] (by simp) hd) (by simp -dsimp (disch:=try exact zo)only[go_sem,oL,Ae]) (.lit _) ?_)|(refine zv ?_ ?_<;>intro hg)|omega|simp -dsimp (disch:=try exact zo)only[go_sem]|contradiction|rfl)
theorem c194 (x y c:Int) (hx:0≤x∧x<4294967296) (hy:0≤y∧y<4294967296) (hc:0≤c∧c<4294967296):CallOK prog 194 [.lit (.int .u32 x),.lit (.int .u32 y),.lit (.int .u32 c)] [] (.tup [.lit (.int .u32 ((x+y+c) % 4294967296)),.lit (.int .u32 ((x+y+c) / 4294967296))]) []:=by
 refine zs func194 22 [.tmp 6,.tmp 7] results194 ?_
 simp only[aD,Aa]
 exact z1
theorem c196 (x y c:Int) (hx:0≤x∧x<4294967296) (hy:0≤y∧y<4294967296) (hc:0≤c∧c≤1):CallOK prog 196 [.lit (.int .u32 x),.lit (.int .u32 y),.lit (.int .u32 c)] [] (.tup [.lit (.int .u32 ((x - y - c) % 4294967296)),.lit (.int .u32 (if x<y+c then 1 else 0))]) []:=by
 refine zs func196 25 [.tmp 6,.tmp 7] results196 ?_
 simp only[aD,Aa]
 repeat'(first|refine zk ?_|(refine zu ?_ ?_<;>intro hc)|(refine zv ?_ ?_<;>intro hg)|omega|simp -dsimp (disch:=try exact zo)only[go_sem]|contradiction|rfl)
 have h:=c4o hx hy hc
 have h2:IntKind.u32.wrap (IntKind.u32.wrap (x - y) - c)=(x - y - c) % 4294967296:=by rw[iP,iP];omega
 rw[← h,← h2]
 rfl
theorem c238 (m:ByteArray) (hm:m.size<1099511627776):CallOK prog 238 [.lit (.string m)] [] (.tup [.lit (.int .u64 (if nv m<18446744073709551616 then (nv m:Int)else 0)),.lit (.bool (decide (nv m<18446744073709551616)))]) []:=by
 refine zs func238 27 [.tmp 2,.tmp 3] results238 ?_
 simp only[aD,Aa]
 have hc0:=eA m
 have hcn:nv (nb (nv m))=nv m:=aV _
 have hs8:=cG (nv m) 8
 have e8:256 ^ 8=18446744073709551616:=by decide
 rw[e8]at hs8
 generalize hcc:nb (nv m)=c at *
 repeat'(first|refine zk ?_|(refine zu ?_ ?_<;>intro hc)|(refine callV.flat (.lit (.string c)) lY (hcc▸fK _ (by omega)) rfl rfl ?_)|(refine zv ?_ ?_<;>intro hg)|omega|simp -dsimp (disch:=try exact zo)only[go_sem]|contradiction|rfl)
 ·have h9:¬ nv m<18446744073709551616:=by omega
  simp only[h9,if_false,decide_false]
 ·have h9:nv m<18446744073709551616:=by omega
  simp only[h9,if_true,decide_true]
  refine AW.loop (fun z:{p:Nat × Int // p.1≤c.size∧p.2=nvL (c.data.toList.take p.1)}=>⟨[(13,.lit (.int .i64 z.1.1)),(12,.lit (.int .i64 c.size)),(0,.lit (.string c)),(4,.lit (.int .u64 z.1.2))],[],18⟩) (fun z=>c.size - z.1.1) ⟨(0,0),Ag _,rfl⟩ zw ?_
  rintro⟨⟨i,n⟩,hi,hn⟩
  dsimp only at hi hn ⊢
  repeat'(first|refine zk ?_|(refine zu ?_ ?_<;>intro hc)|(refine zv ?_ ?_<;>intro hg)|omega|simp -dsimp (disch:=try exact zo)only[go_sem]|contradiction|rfl)
  ·subst hn
   rw[b9e c i (by omega) (by omega)]
   exact AW.stop ⟨⟨(i+1,(nvL (c.data.toList.take (i+1)):Int)),by dsimp only;omega,rfl⟩,zw,by dsimp only;omega⟩
  ·rw[hn,a3s c (by omega),hcn]
theorem c195 (a b:ByteArray) (ha:a.size<1099511627776) (hb:b.size<1099511627776):CallOK prog 195 [.lit (.string a),.lit (.string b)] [] (.lit (.int .i64 (bR (nv a) (nv b)))) []:=by
 refine zs func195 46 [.tmp 4] results195 ?_
 simp only[aD,Aa]
 have hc0:=eA a
 have hd0:=eA b
 have hcn:nv (nb (nv a))=nv a:=aV _
 have hdn:nv (nb (nv b))=nv b:=aV _
 have hlt1:(nb (nv a)).size<(nb (nv b)).size→nv a<nv b:=vY
 have hlt2:(nb (nv b)).size<(nb (nv a)).size→nv b<nv a:=vY
 generalize hcc:nb (nv a)=c at *
 generalize hdd:nb (nv b)=d at *
 unfold bR
 repeat'(first|refine zk ?_|(refine zu ?_ ?_<;>intro hc)|(first|refine callV.flat (.lit (.string c)) lY (hcc▸fK a (by omega)) rfl rfl ?_|refine callV.flat (.lit (.string d)) lY (hdd▸fK b (by omega)) rfl rfl ?_)|(refine zv ?_ ?_<;>intro hg)|omega|simp -dsimp (disch:=try exact zo)only[go_sem]|contradiction|rfl)
 ·rw[if_pos (hlt1 (by omega))]
 ·have:=hlt2 (by omega)
  rw[if_neg (by omega),if_neg (by omega)]
 ·refine AW.loop (fun z:{i:Nat // i≤c.size∧nv c / 256 ^ (c.size - i)=nv d / 256 ^ (c.size - i)}=>⟨[(23,.lit (.int .i64 z.1)),(22,.lit (.int .i64 c.size)),(0,.lit (.string c)),(1,.lit (.string d))],[],23⟩) (fun z=>c.size - z.1) ⟨0,Ag _,by
   have h1:=fH c
   have h2:=fH d
   rw[show d.size=c.size by omega]at h2
   rw[Nat.sub_zero,Am h1,Am h2]⟩ zw ?_
  rintro⟨i,hi,hq⟩
  dsimp only
  have ek:i<c.size→((c.size:Int) - 1 - i).toNat=c.size - 1 - i:=by omega
  have hq1:i<c.size→nv c / 256 ^ (c.size - 1 - i+1)=nv d / 256 ^ (c.size - 1 - i+1):=fun h=>by rwa [show c.size - 1 - i+1=c.size - i by omega]
  repeat'(first|refine zk ?_|(refine zu ?_ ?_<;>intro hc)|(refine zv ?_ ?_<;>intro hg)|omega|simp -dsimp (disch:=try exact zo)only[go_sem]|contradiction|rfl)
  ·have hi:i<c.size:=by omega
   rw[ek hi,kJ,kJ]at hc
   have:=(qV (hq1 hi)).1 (by omega)
   rw[if_pos (by omega)]
  ·rename_i hne
   have hi:i<c.size:=by omega
   rw[ek hi,kJ,kJ]at hc hne
   have:=(qV (hq1 hi).symm).1 (by omega)
   rw[if_neg (by omega),if_neg (by omega)]
  ·have hi:i<c.size:=by omega
   rw[ek hi,kJ,kJ]at hc
   refine AW.stop ⟨⟨i+1,by omega,?_⟩,zw,by dsimp only;omega⟩
   rw[show c.size - (i+1)=c.size - 1 - i by omega]
   exact (qV (hq1 hi)).2 (by omega)
  ·have e:c.size - i=0:=by omega
   rw[e]at hq
   simp only[Nat.pow_zero,Nat.div_one]at hq
   rw[if_neg (by omega),if_pos (by omega)]
end Go.Proofs.Vx
