import Derived.Orders
import Derived.Test.YtjlfgmhmalbiiaaGreatDoorW06
import Derived.Test.YtjlfgmhmalbiiaaGreatDoorW07
set_option linter.all false
open Array renaming getElem_toList → Aa, getElem_map → Ab, mem_toList_iff → Ac, ext' → Ae, getD_eq_getD_getElem? → Af
open List renaming getElem_map → Ad, getElem_append_right → Ag, getElem_append_left → Ah, getElem_cons_zero → Ai, mem_toArray → Aj, mem_map → Am
open Nat renaming add_zero → An
open Option renaming bind_some → Ak, getD_some → Al, some → Ao
namespace Go.Sx
set_option linter.unusedVariables false
set_option linter.unusedSimpArgs false
def AV.live:AV→Bool
 | .blk _|.vec _ _|.mpo _|.lpo ..=>true
 | _=>false
def callV (P:Program) (f:Nat) (args:List AV) (i:Nat) (ob:Nat→AV) (E:Eff→Prop):Prop :=
 b1w P f args ob E∨b1v P f args ob (fun e=>(∀ l∈e.rd,(ob l).live=true)∧E e)∨(callC P f args i ob E∨callE P f args i E)∨callD P f args ob E
def nD:List LK→List AV→Bool
 | [],[]=>true
 | k::ks,.lit v::cs=>k.fits v&&nD ks cs
 | _,_=>false
def i9:List AV→List AV→Bool
 | .lit x::xs,.lit y::ys=>ceq x y&&i9 xs ys
 | _,_=>true
theorem a3y {g:Gh}:∀ {ks:List LK} {cs:List AV} {vs:List Value},nD ks cs=true→RelL g cs vs→eX ks vs=true∧cs=vs.map .lit:=by
 intro ks
 induction ks with
 | nil =>
  intro cs vs h hr
  cases cs with
  | nil=>obtain rfl:vs=[]:=List.eq_nil_of_length_eq_zero hr.1;exact⟨rfl,rfl⟩
  | cons c cs=>simp[nD]at h
 | cons k ks ih =>
  intro cs vs h hr
  cases cs with
  | nil=>simp[nD]at h
  | cons c cs =>
   cases vs with
   | nil=>simp[RelL]at hr
   | cons v vs =>
    have h0:=hr.2 0 (by simp) (by simp)
    have hr':RelL g cs vs:=⟨by simpa using hr.1,fun i h1 h2=>hr.2 (i+1) (by simpa using h1) (by simpa using h2)⟩
    cases c<;>simp only[nD]at h<;>try contradiction
    rename_i u
    simp only[Ai]at h0
    cases h0
    simp only[Bool.and_eq_true]at h
    obtain⟨h1,h2⟩:=ih h.2 hr'
    exact⟨by simp[eX,h.1,h1],by simp[h2]⟩
theorem c1x:∀ (xs ys:List Value),i9 (xs.map .lit) (ys.map .lit)=fM xs ys:=by
 intro xs
 induction xs with
 | nil=>intro ys;cases ys<;>rfl
 | cons x xs ih=>intro ys;cases ys with
  | nil=>rfl
  | cons y ys=>simp[i9,fM,ih]
def uW (P:Program) (op:BinOp) (t:TypeId) (cs ds:List AV) (E:Eff→Prop):Prop :=
 match lfT P 30 t with
 | some ks=>P.eqGuardType P.depth t=false∧agT P t=some true∧nD ks cs=true∧nD ks ds=true∧match op with
  | .eql=>E ⟨.lit (.bool (i9 cs ds)),[],[]⟩
  | .neq=>E ⟨.lit (.bool (!i9 cs ds)),[],[]⟩
  | _=>False
 | none=>False
def r8 (P:Program) (op:BinOp) (t:TypeId) (x y:AV) (E:Eff→Prop):Prop :=
 match x,y with
 | .lit (.int k a),.lit (.int k' b)=>(k=k'∨op=.shl∨op=.shr)∧r9 op k a b fun v=>E ⟨.lit v,[],[]⟩
 | .lit (.string a),.lit (.string b)=>pA P op t (.string a) (.string b) fun v=>E ⟨.lit v,[],[]⟩
 | .lit (.bool a),.lit (.bool b)=>pA P op t (.bool a) (.bool b) fun v=>E ⟨.lit v,[],[]⟩
 | .agg cs,.agg ds=>uW P op t cs ds E
 | _,_=>False
theorem c3b {P : Program} {op : BinOp} {t : TypeId} {x y : AV} {E : Eff → Prop} (h : r8 P op t x y E) :
  ∃ r,E ⟨r,[],[]⟩∧∀ g v u ox oy,Rel g x v→Rel g y u→∃ w,(do eqGuard op t ox oy v u;binOp op t v u:Sem Value).run P g.w=.ok w g.w∧Rel g r w:=by
 unfold r8 at h
 split at h
 ·obtain⟨hk,h⟩:=h
  obtain⟨v,hv,hr⟩:=c3c (P:=P) t hk h
  refine⟨_,hv,fun g v' u' ox oy h1 h2=>?_⟩
  cases h1
  cases h2
  exact⟨_,by simp only[Sem.run_bind,yL (P:=P) op t ox oy (.int _ _) _ (fun _ h=>by cases h) (fun h=>by cases h),Result.andThen_ok,hr],.lit _⟩
 ·obtain⟨v,hv,hr⟩:=a6r h
  refine⟨_,hv,fun g v' u' ox oy h1 h2=>?_⟩
  cases h1
  cases h2
  exact⟨_,by simp only[Sem.run_bind,yL (P:=P) op t ox oy (.string _) _ (fun _ h=>by cases h) (fun h=>by cases h),Result.andThen_ok,hr],.lit _⟩
 ·obtain⟨v,hv,hr⟩:=a6r h
  refine⟨_,hv,fun g v' u' ox oy h1 h2=>?_⟩
  cases h1
  cases h2
  exact⟨_,by simp only[Sem.run_bind,yL (P:=P) op t ox oy (.bool _) _ (fun _ h=>by cases h) (fun h=>by cases h),Result.andThen_ok,hr],.lit _⟩
 ·rename_i cs ds
  unfold uW at h
  split at h
  ·rename_i ks hks
   obtain⟨hg,hag,hf1,hf2,h⟩:=h
   have key:∀ g v u,Rel g (.agg cs) v→Rel g (.agg ds) u→∃ xs ys,v=.agg xs∧u=.agg ys∧∀ w,(Op.equalIn 10000 t v u).run P w=.ok (i9 cs ds) w:=by
    intro g v u h1 h2
    cases h1 with
    | agg _ xs hx hox hrx =>
     cases h2 with
     | agg _ ys hy hoy hry =>
      obtain⟨a1,a2⟩:=a3y (g:=g) (vs:=xs.toList) hf1 ⟨by simpa using hx,fun i h1 h2=>by simpa using hrx i h1 (by simpa using h2)⟩
      obtain⟨b1,b2⟩:=a3y (g:=g) (vs:=ys.toList) hf2 ⟨by simpa using hy,fun i h1 h2=>by simpa using hry i h1 (by simpa using h2)⟩
      refine⟨xs,ys,rfl,rfl,fun w=>?_⟩
      have:=b2i 30 9970 t ks xs.toList ys.toList (.agg xs) (.agg ys) hks a1 b1 (.inl ⟨hag,by simp⟩) (.inl ⟨hag,by simp⟩) w
      rw[a2,b2,c1x]
      exact this
   split at h
   ·refine⟨_,h,fun g v u ox oy h1 h2=>?_⟩
    obtain⟨xs,ys,rfl,rfl,hr⟩:=key g v u h1 h2
    exact⟨_,by simp only[Sem.run_bind,run_eqGuard_agg _ _ _ _ _ _ _ hg,Result.andThen_ok,run_eql_struct,hr],.lit _⟩
   ·refine⟨_,h,fun g v u ox oy h1 h2=>?_⟩
    obtain⟨xs,ys,rfl,rfl,hr⟩:=key g v u h1 h2
    exact⟨_,by simp only[Sem.run_bind,run_eqGuard_agg _ _ _ _ _ _ _ hg,Result.andThen_ok,run_neq_struct,hr],.lit _⟩
   ·exact h.elim
  ·exact h.elim
 ·exact h.elim
def unV (op:UnOp) (x:AV) (E:Eff→Prop):Prop :=
 match op,x with
 | .not,.lit (.bool b)=>E ⟨.lit (.bool (!b)),[],[]⟩
 | .neg,.lit (.int k n)=>E ⟨.lit (.int k (k.wrap (0 - n))),[],[]⟩
 | .xor,.lit (.int k n)=>k.signed=false∧E ⟨.lit (.int k (k.wrap ((BitVec.ofInt k.bits k.max ^^^ BitVec.ofInt k.bits n).toNat:Int))),[],[]⟩
 | _,_=>False
def uR (x:AV) (ob:Nat→AV) (E:Eff→Prop):Prop :=
 match x with
 | .fp cs=>E ⟨.fp cs,[],[]⟩
 | .loc l o=>E ⟨.loc l o,[],[]⟩
 | .vp l i j m=>rB ob l m∧E ⟨.vp l i j m,[],[l]⟩
 | .clo f caps=>E ⟨.clo f caps,[],[]⟩
 | _=>False
def faV (P:Program) (t:TypeId) (f:Nat) (x:AV) (ob:Nat→AV) (E:Eff→Prop):Prop :=
 match fdT P t f with
 | some (o,s,_)=>0<s∧match x with
  | .vp l i j m=>rB ob l m∧nW o x fun y=>E ⟨y,[],[l]⟩
  | x=>nW o x fun y=>E ⟨y,[],[]⟩
 | none=>False
def mmV (g:Bool) (x y:AV) (E:Eff→Prop):Prop :=
 match x,y with
 | .lit (.int k a),.lit (.int _ b)=>if g then E ⟨.lit (.int k (if b>a then b else a)),[],[]⟩else E ⟨.lit (.int k (if b<a then b else a)),[],[]⟩
 | _,_=>False
def aI (P:Program) (op:Op) (i:Nat) (ρ:Operand→AV) (ob:Nat→AV) (E:Eff→Prop):Prop :=
 match op with
 | .move x=>E ⟨ρ x,[],[]⟩
 | .assign x=>E ⟨ρ x,[],[]⟩
 | .pick c a b=>match ρ c with
  | .lit (.bool t)=>E ⟨if t then ρ a else ρ b,[],[]⟩
  | _=>False
 | .alloc t=>match zeT P t with
  | some z=>E ⟨.loc i 0,[(i,.blk z)],[]⟩
  | none=>False
 | .box t x=>(ρ x).solid=true∧E ⟨.loc i 0,[(i,.blk (ρ x).cells)],[]⟩
 | .build t ps=>qV P t (ps.toList.map fun p=>(p.1,ρ p.2)) E
 | .buildSlice t n ps=>rN P t n (ps.toList.map fun p=>(p.1,ρ p.2)) i E
 | .load t a=>match agT P t,szT P t with
  | some ag,some s=>(ag=true∨s=1)∧jM ag s (ρ a) ob E
  | _,_=>False
 | .store t a x=>match szT P t with
  | some s=>qJ s (ρ a) (ρ x) ob E
  | none=>False
 | .nilCheck x=>uR (ρ x) ob E
 | .binOp op t x y _=>r8 P op t (ρ x) (ρ y) E
 | .unOp op _ x=>unV op (ρ x) E
 | .convert s d x=>rH P s d (ρ x) ob E
 | .makeFunc (.func f) first caps=>first=#[]∧E ⟨.clo f (caps.toList.map ρ),[],[]⟩
 | .makeSlice t l c=>oS P t (ρ l) (ρ c) i E
 | .slice t x lo hi mx=>mx.isNone=true∧oN P t (ρ x) (lo.map ρ) (hi.map ρ) ob E
 | .fieldAddr t x f=>faV P t f (ρ x) ob E
 | .field t x f=>qS P t f (ρ x) E
 | .indexAddr t x ix=>pF P t (ρ x) (ρ ix) ob E
 | .index t x ix=>qQ P t (ρ x) (ρ ix) E
 | .extract x n=>n8 n (ρ x) E
 | .makeMap _ r=>r.isNone=true∧E ⟨.mp i,[(i,.mpo [])],[]⟩
 | .lookup t x ix ok=>p7 P t (ρ x) (ρ ix) ok ob E
 | .mapUpdate t x ix y=>rE P t (ρ x) (ρ ix) (ρ y) ob E
 | .call c=>match c.callee with
  | .builtin .len=>match c.argTypes.toList,c.args.toList with
   | [t],[x]=>rO P t (ρ x) ob E
   | _,_=>False
  | .builtin .append=>match c.argTypes.toList,c.args.toList with
   | [t,t'],[x,y]=>t=t'∧sA P t (ρ x) (ρ y) ob i E
   | _,_=>False
  | .builtin .max=>match c.args.toList with
   | [x,y]=>mmV true (ρ x) (ρ y) E
   | _=>False
  | .builtin .min=>match c.args.toList with
   | [x,y]=>mmV false (ρ x) (ρ y) E
   | _=>False
  | .builtin .clear=>match c.argTypes.toList,c.args.toList with
   | [t],[x]=>rV P t (ρ x) ob E
   | _,_=>False
  | .value f=>match ρ f with
   | .clo g caps=>callV P g (c.args.toList.map ρ++caps) i ob E
   | .lit (.func (.yield L) x y)=>x=#[]∧y=#[]∧callY P L (c.args.toList.map ρ) ob fun e=>(∀ l∈e.rd,(ob l).live=true)∧E e
   | _=>False
  | _=>False
 | .mapEntry t x ix=>rF P t (ρ x) (ρ ix) ob E
 | .entryStore _ x s y=>rR (ρ x) (ρ s) (ρ y) ob E
 | .range t x=>rL P t (ρ x) i ob E
 | .entry x=>rS (ρ x) ob E
 | _=>False
theorem a6j {c : Cx} {o : Oper} {i : Nat} {rd : Nat → AV} {ob : Nat → AV} {E : Eff → Prop} (h : aI c.P o.op i (rdO rd) ob E) :
  ∃ e,E e∧∀ rd' ob',(∀ x∈o.op.operands,rdO rd' x=rdO rd x)→(∀ l∈e.rd,ob' l=ob l)→Snd c o i rd' ob' e:=by
 have hrel:∀ {rd':Nat→AV} {g:Gh} {a:Act} {x:Operand},TOk g rd' a→rdO rd' x=rdO rd x→Rel g (rdO rd x) (a.eval x):=fun ht e=>e▸a0e ht _
 have hnd:∀ cl,o.op≠.defer cl:=fun cl e=>by rw[e]at h;exact h
 unfold aI at h
 split at h
 case h_1 x hop =>
  refine⟨_,h,fun rd' ob' hrd ho=>b7 hnd fun g a hg ht=>⟨a.eval x,by simp[execOp,hop],hrel ht (hrd x (by simp[hop,Op.operands]))⟩⟩
 case h_2 x hop =>
  refine⟨_,h,fun rd' ob' hrd ho=>b7 hnd fun g a hg ht=>⟨a.eval x,by simp[execOp,hop],hrel ht (hrd x (by simp[hop,Op.operands]))⟩⟩
 case h_3 cc a b hop =>
  split at h
  ·rename_i t hcc
   refine⟨_,h,fun rd' ob' hrd ho=>b7 hnd fun g ac hg ht=>?_⟩
   have h1:=hrel ht (hrd cc (by simp[hop,Op.operands]))
   have h2:=hrel ht (hrd a (by simp[hop,Op.operands]))
   have h3:=hrel ht (hrd b (by simp[hop,Op.operands]))
   rw[hcc]at h1
   generalize hv:ac.eval cc=v at h1
   cases h1
   cases t
   ·exact⟨ac.eval b,by simp[execOp,hop,hv,asBool,Sem.run_bind],by simpa using h3⟩
   ·exact⟨ac.eval a,by simp[execOp,hop,hv,asBool,Sem.run_bind],by simpa using h2⟩
  ·exact h.elim
 case h_4 t hop =>
  split at h
  ·rename_i z hz
   refine⟨_,h,fun rd' ob' hrd ho=>jR hnd fun g a hg ht hi=>?_⟩
   obtain⟨zv,hz1,hz2,hz3,hz4,_⟩:=pV hz
   obtain⟨g',a1,a2,a3,a4,a5⟩:=a7s hg i hi z zv.cells t hz2 hz4 (hz3 g) g.w rfl rfl Tp.rfl rfl
   refine⟨_,g',?_,a2,a3,a4,a5⟩
   rw[a1]
   simp[execOp,hop,Instr.alloc,Sem.run_bind,hz1,newVar,newRow]
  ·exact h.elim
 case h_5 t x hop =>
  obtain⟨hsol,h⟩:=h
  refine⟨_,h,fun rd' ob' hrd ho=>jR hnd fun g a hg ht hi=>?_⟩
  have h1:=hrel ht (hrd x (by simp[hop,Op.operands]))
  obtain⟨c1,c2,c3⟩:=h1.cells hsol
  obtain⟨g',a1,a2,a3,a4,a5⟩:=a7s hg i hi _ (a.eval x).cells t c1 c3 c2 g.w rfl rfl Tp.rfl rfl
  refine⟨_,g',?_,a2,a3,a4,a5⟩
  rw[a1]
  simp[execOp,hop,Instr.box,Sem.run_bind,newVar,newRow]
 case h_6 t ps hop =>
  obtain⟨x,hx,hr⟩:=b7w h
  refine⟨_,hx,fun rd' ob' hrd ho=>b7 hnd fun g a hg ht=>?_⟩
  obtain⟨v,hv1,hv2⟩:=hr g (ps.map fun p=>(p.1,a.eval p.2)) ⟨by simp,fun i h1 h2=>by
   have hi:i<ps.size:=by simpa using h1
   simp only[Ad,Aa,Ab,true_and]
   exact hrel ht (hrd _ (by simp only[hop,Op.operands,Ac,Aj,Am];exact⟨ps[i],by simp,rfl⟩))⟩
  exact⟨v,by simp[execOp,hop,Sem.run_bind,hv1],hv2⟩
 case h_7 t n ps hop =>
  obtain⟨e,he,her,hr⟩:=c5t h
  refine⟨_,he,fun rd' ob' hrd ho=>jR hnd fun g a hg ht hi=>?_⟩
  obtain⟨r,g',a1,a2,a3,a4,a5⟩:=hr ob' g (ps.map fun p=>(p.1,a.eval p.2)) hg ⟨by simp,fun i h1 h2=>by
   have hi:i<ps.size:=by simpa using h1
   simp only[Ad,Aa,Ab,true_and]
   exact hrel ht (hrd _ (by simp only[hop,Op.operands,Ac,Aj,Am];exact⟨ps[i],by simp,rfl⟩))⟩ hi
  exact⟨r,g',by simp[execOp,hop,Sem.run_bind,a1],a2,a3,a4,a5⟩
 case h_8 t x hop =>
  split at h
  ·rename_i ag s ha hs
   obtain⟨e,he,heo,hr⟩:=a5x (c:=c) (g:=⟨default,fun _=>False,fun _=>False,fun _=>0,fun _=>⟨none,0,0,0⟩,fun _=>0⟩) (v:=undef) ha hs h.1 h.2
   refine⟨_,he,fun rd' ob' hrd ho=>?_⟩
   obtain⟨ev,eo,er⟩:=e
   obtain rfl:eo=[]:=heo
   refine b7 hnd fun g a hg ht=>?_
   obtain⟨u,hu1,hu2⟩:=hr ob' ho g _ hg (hrel ht (hrd x (by simp[hop,Op.operands])))
   exact⟨u,by simp[execOp,hop,Sem.run_bind,hu1],hu2⟩
  ·exact h.elim
 case h_9 t x y hop =>
  split at h
  ·rename_i s hs
   obtain⟨e,he,hev,hr⟩:=b5p (c:=c) hs h
   refine⟨_,he,fun rd' ob' hrd ho=>?_⟩
   obtain⟨ev,eo,er⟩:=e
   obtain rfl:ev=.any:=hev
   refine yI hnd fun g a hg ht=>?_
   obtain⟨g',a1,a2,a3,a4⟩:=hr ob' ho g _ _ hg (hrel ht (hrd x (by simp[hop,Op.operands]))) (hrel ht (hrd y (by simp[hop,Op.operands])))
   exact⟨g',by simp[execOp,hop,Sem.run_bind,a1],a2,a3,a4⟩
  ·exact h.elim
 case h_10 x hop =>
  unfold uR at h
  have pass:∀ g:Gh,∀ a:Act,(∀ v,a.eval x=v→(∃ p,v=.pointer (some p))∨(∃ f cs,v=.func (.func f) #[] cs))→(execOp a.eval o).run c.P g.w=.ok (.value (a.eval x)) g.w:=by
   intro g a hv
   rcases hv _ rfl with⟨p,hp⟩|⟨f,cs,hp⟩<;>simp[execOp,hop,hp]
  split at h
  ·rename_i cs hx
   refine⟨_,h,fun rd' ob' hrd ho=>b7 hnd fun g a hg ht=>?_⟩
   have h1:=hrel ht (hrd x (by simp[hop,Op.operands]))
   rw[hx]at h1
   refine⟨_,pass g a fun v hv=>?_,h1⟩
   obtain⟨b,p,hp,_⟩:=vQ h1
   exact .inl ⟨_,hv.symm.trans hp⟩
  ·rename_i l p hx
   refine⟨_,h,fun rd' ob' hrd ho=>b7 hnd fun g a hg ht=>?_⟩
   have h1:=hrel ht (hrd x (by simp[hop,Op.operands]))
   rw[hx]at h1
   refine⟨_,pass g a fun v hv=>?_,h1⟩
   rw[hv]at h1
   cases h1
   exact .inl ⟨_,rfl⟩
  ·rename_i l p q m hx
   refine⟨_,h.2,fun rd' ob' hrd ho=>b7 hnd fun g a hg ht=>?_⟩
   have h1:=hrel ht (hrd x (by simp[hop,Op.operands]))
   rw[hx]at h1
   refine⟨_,pass g a fun v hv=>?_,h1⟩
   rw[hv]at h1
   cases h1 with
   | vp _ _ _ _ _ hu hm hc hv =>
    obtain⟨b,_,rfl⟩:=hv (yY hg h.1 (ho l (by simp)))
    exact .inl ⟨_,rfl⟩
  ·rename_i f caps hx
   refine⟨_,h,fun rd' ob' hrd ho=>b7 hnd fun g a hg ht=>?_⟩
   have h1:=hrel ht (hrd x (by simp[hop,Op.operands]))
   rw[hx]at h1
   refine⟨_,pass g a fun v hv=>?_,h1⟩
   rw[hv]at h1
   cases h1
   exact .inr ⟨_,_,rfl⟩
  ·exact h.elim
 case h_11 op t x y yt hop =>
  obtain⟨r,hr,hh⟩:=c3b h
  refine⟨_,hr,fun rd' ob' hrd ho=>b7 hnd fun g a hg ht=>?_⟩
  obtain⟨w,hw1,hw2⟩:=hh g _ _ x y (hrel ht (hrd x (by simp[hop,Op.operands]))) (hrel ht (hrd y (by simp[hop,Op.operands])))
  exact⟨w,by simp only[execOp,hop];rw[Sem.run_bind,hw1];rfl,hw2⟩
 case h_12 op t x hop =>
  unfold unV at h
  split at h
  ·rename_i b hx
   refine⟨_,h,fun rd' ob' hrd ho=>b7 hnd fun g a hg ht=>?_⟩
   have h1:=hrel ht (hrd x (by simp[hop,Op.operands]))
   rw[hx]at h1
   generalize hv:a.eval x=v at h1
   cases h1
   exact⟨_,by simp[execOp,hop,hv,Op.unary,Sem.run_bind],.lit _⟩
  ·rename_i k n hx
   refine⟨_,h,fun rd' ob' hrd ho=>b7 hnd fun g a hg ht=>?_⟩
   have h1:=hrel ht (hrd x (by simp[hop,Op.operands]))
   rw[hx]at h1
   generalize hv:a.eval x=v at h1
   cases h1
   exact⟨_,by simp[execOp,hop,hv,Op.unary,Op.intArith,Sem.run_bind],.lit _⟩
  ·rename_i k n hx
   obtain⟨hk,h⟩:=h
   refine⟨_,h,fun rd' ob' hrd ho=>b7 hnd fun g a hg ht=>?_⟩
   have h1:=hrel ht (hrd x (by simp[hop,Op.operands]))
   rw[hx]at h1
   generalize hv:a.eval x=v at h1
   cases h1
   exact⟨_,by simp[execOp,hop,hv,Op.unary,Op.intBits,hk,Sem.run_bind],.lit _⟩
  ·exact h.elim
 case h_13 s d x hop =>
  obtain⟨e,he,heo,hr⟩:=c2s h
  obtain⟨ev,eo,er⟩:=e
  obtain rfl:eo=[]:=heo
  refine⟨_,he,fun rd' ob' hrd ho=>b7 hnd fun g a hg ht=>?_⟩
  obtain⟨u,hu1,hu2⟩:=hr ob' ho g _ hg (hrel ht (hrd x (by simp[hop,Op.operands])))
  exact⟨u,by simp[execOp,hop,Sem.run_bind,hu1],hu2⟩
 case h_14 f first caps hop =>
  obtain⟨rfl,h⟩:=h
  refine⟨_,h,fun rd' ob' hrd ho=>b7 hnd fun g a hg ht=>⟨.func (.func f) #[] (caps.map a.eval),by simp[execOp,hop,Instr.makeFunc],?_⟩⟩
  refine .clo f _ _ (by simp) fun i h1 h2=>?_
  have hi:i<caps.size:=by simpa using h2
  simp only[Ad,Aa,Ab]
  exact hrel ht (hrd _ (by simp[hop,Op.operands]))
 case h_15 t l cp hop =>
  obtain⟨e,he,her,hr⟩:=c0w (c:=c) (ob:=ob) h
  refine⟨_,he,fun rd' ob' hrd ho=>jR hnd fun g a hg ht hi=>?_⟩
  obtain⟨r,g',a1,a2,a3,a4,a5⟩:=hr ob' g _ _ hg (hrel ht (hrd l (by simp[hop,Op.operands]))) (hrel ht (hrd cp (by simp[hop,Op.operands]))) hi
  exact⟨r,g',by simp[execOp,hop,Sem.run_bind,a1],a2,a3,a4,a5⟩
 case h_16 t x lo hi mx hop =>
  obtain⟨hmx,h⟩:=h
  obtain⟨e,he,heo,hr⟩:=b5t h
  obtain⟨ev,eo,er⟩:=e
  obtain rfl:eo=[]:=heo
  obtain rfl:mx=none:=by simpa using hmx
  refine⟨_,he,fun rd' ob' hrd ho=>b7 hnd fun g a hg ht=>?_⟩
  have hopt:∀ y:Option Operand,(∀ z,y=some z→z∈o.op.operands)→RelO g (y.map (rdO rd)) (y.map a.eval):=by
   intro y hy
   cases y with
   | none=>exact .inl ⟨rfl,rfl⟩
   | some z=>exact .inr ⟨_,_,rfl,rfl,hrel ht (hrd z (hy z rfl))⟩
  obtain⟨u,hu1,hu2⟩:=hr ob' ho g _ _ _ hg (hrel ht (hrd x (by simp[hop,Op.operands]))) (hopt lo (by rintro z rfl;simp[hop,Op.operands])) (hopt hi (by rintro z rfl;simp[hop,Op.operands]))
  exact⟨u,by simp[execOp,hop,Sem.run_bind,hu1],hu2⟩
 case h_17 t x f hop =>
  unfold faV at h
  split at h
  ·rename_i fo s b hfd
   obtain⟨hs,h⟩:=h
   split at h
   ·rename_i l p q m hx
    obtain⟨hm,h⟩:=h
    obtain⟨y,hy,hr⟩:=a2j hfd hs h
    refine⟨_,hy,fun rd' ob' hrd ho=>b7 hnd fun g a hg ht=>?_⟩
    obtain⟨u,hu1,hu2⟩:=hr g _ (hrel ht (hrd x (by simp[hop,Op.operands]))) (fun l' p' q' m' e=>by
     rw[hx]at e
     injection e with e1 e2 e3 e4
     subst e1;subst e4
     exact yY hg hm (ho l (by simp)))
    exact⟨u,by simp[execOp,hop,Sem.run_bind,hu1],hu2⟩
   ·rename_i hx
    obtain⟨y,hy,hr⟩:=a2j hfd hs h
    refine⟨_,hy,fun rd' ob' hrd ho=>b7 hnd fun g a hg ht=>?_⟩
    obtain⟨u,hu1,hu2⟩:=hr g _ (hrel ht (hrd x (by simp[hop,Op.operands]))) (fun l' p' q' m' e=>absurd e (hx l' p' q' m'))
    exact⟨u,by simp[execOp,hop,Sem.run_bind,hu1],hu2⟩
  ·exact h.elim
 case h_18 t x f hop =>
  obtain⟨y,hy,hr⟩:=b7l h
  refine⟨_,hy,fun rd' ob' hrd ho=>b7 hnd fun g a hg ht=>?_⟩
  obtain⟨u,hu1,hu2⟩:=hr g _ (hrel ht (hrd x (by simp[hop,Op.operands])))
  exact⟨u,by simp[execOp,hop,Sem.run_bind,hu1],hu2⟩
 case h_19 t x ix hop =>
  obtain⟨e,he,heo,hr⟩:=b2r h
  obtain⟨ev,eo,er⟩:=e
  obtain rfl:eo=[]:=heo
  refine⟨_,he,fun rd' ob' hrd ho=>b7 hnd fun g a hg ht=>?_⟩
  obtain⟨u,hu1,hu2⟩:=hr ob' ho g _ _ hg (hrel ht (hrd x (by simp[hop,Op.operands]))) (hrel ht (hrd ix (by simp[hop,Op.operands])))
  exact⟨u,by simp[execOp,hop,Sem.run_bind,hu1],hu2⟩
 case h_20 t x ix hop =>
  obtain⟨y,hy,hr⟩:=b7b h
  refine⟨_,hy,fun rd' ob' hrd ho=>b7 hnd fun g a hg ht=>?_⟩
  obtain⟨u,hu1,hu2⟩:=hr g _ _ (hrel ht (hrd x (by simp[hop,Op.operands]))) (hrel ht (hrd ix (by simp[hop,Op.operands])))
  exact⟨u,by simp[execOp,hop,Sem.run_bind,hu1],hu2⟩
 case h_21 x n hop =>
  obtain⟨y,hy,hr⟩:=b3l (P:=c.P) h
  refine⟨_,hy,fun rd' ob' hrd ho=>b7 hnd fun g a hg ht=>?_⟩
  obtain⟨u,hu1,hu2⟩:=hr g _ (hrel ht (hrd x (by simp[hop,Op.operands])))
  exact⟨u,by simp[execOp,hop,Sem.run_bind,hu1],hu2⟩
 case h_22 t r hop =>
  obtain⟨hr,h⟩:=h
  obtain rfl:r=none:=by simpa using hr
  refine⟨_,h,fun rd' ob' hrd ho=>jR hnd fun g a hg ht hi=>?_⟩
  obtain⟨g',a1,a2,a3,a4,a5⟩:=c5j hg i hi g.w rfl rfl Tp.rfl rfl
  refine⟨_,g',?_,a2,a3,a4,a5⟩
  rw[a1]
  simp[execOp,hop,Instr.makeMap,Sem.run_bind]
 case h_23 t x ix ok hop =>
  obtain⟨e,he,heo,hr⟩:=b4m h
  obtain⟨ev,eo,er⟩:=e
  obtain rfl:eo=[]:=heo
  refine⟨_,he,fun rd' ob' hrd ho=>b7 hnd fun g a hg ht=>?_⟩
  obtain⟨u,hu1,hu2⟩:=hr ob' ho g _ _ hg (hrel ht (hrd x (by simp[hop,Op.operands]))) (hrel ht (hrd ix (by simp[hop,Op.operands])))
  exact⟨u,by simp[execOp,hop,Sem.run_bind,hu1],hu2⟩
 case h_24 t x ix y hop =>
  obtain⟨e,he,hev,hr⟩:=c0p h
  obtain⟨ev,eo,er⟩:=e
  obtain rfl:ev=.any:=hev
  refine⟨_,he,fun rd' ob' hrd ho=>yI hnd fun g a hg ht=>?_⟩
  obtain⟨g',a1,a2,a3,a4⟩:=hr ob' ho g _ _ _ hg (hrel ht (hrd x (by simp[hop,Op.operands]))) (hrel ht (hrd ix (by simp[hop,Op.operands]))) (hrel ht (hrd y (by simp[hop,Op.operands])))
  exact⟨g',by simp[execOp,hop,Sem.run_bind,a1],a2,a3,a4⟩
 case h_25 cl hop =>
  split at h
  ·rename_i hcal
   split at h
   ·rename_i t x ht0 hx0
    obtain⟨e,he,heo,hr⟩:=c5u h
    obtain⟨ev,eo,er⟩:=e
    obtain rfl:eo=[]:=heo
    have hx1:cl.args=#[x]:=by apply Ae;simpa using hx0
    have ht1:cl.argTypes=#[t]:=by apply Ae;simpa using ht0
    refine⟨_,he,fun rd' ob' hrd ho=>b7 hnd fun g a hg ht=>?_⟩
    obtain⟨u,hu1,hu2⟩:=hr ob' ho g _ o.type hg (hrel ht (hrd x (by simp[hop,Op.operands,Call.operands,hx1])))
    exact⟨u,by simp[execOp,hop,resolve,hcal,hx1,ht1,invoke,builtin,Sem.run_bind,hu1],hu2⟩
   ·exact h.elim
  ·rename_i hcal
   split at h
   ·rename_i t t' x y ht0 hx0
    obtain⟨rfl,h⟩:=h
    obtain⟨e,he,hr⟩:=c6y h
    have hx1:cl.args=#[x,y]:=by apply Ae;simpa using hx0
    have ht1:cl.argTypes=#[t,t]:=by apply Ae;simpa using ht0
    refine⟨_,he,fun rd' ob' hrd ho=>jR hnd fun g a hg ht hi=>?_⟩
    obtain⟨r,g',a1,a2,a3,a4,a5⟩:=hr ob' ho g _ _ o.type hg (hrel ht (hrd x (by simp[hop,Op.operands,Call.operands,hx1]))) (hrel ht (hrd y (by simp[hop,Op.operands,Call.operands,hx1]))) hi
    exact⟨r,g',by simp[execOp,hop,resolve,hcal,hx1,ht1,invoke,builtin,Sem.run_bind,a1],a2,a3,a4,a5⟩
   ·exact h.elim
  ·rename_i hcal
   split at h
   ·rename_i x y hx0
    have hx1:cl.args=#[x,y]:=by apply Ae;simpa using hx0
    unfold mmV at h
    split at h
    ·rename_i k a k' b hxa hyb
     simp only[if_true]at h
     refine⟨_,h,fun rd' ob' hrd ho=>b7 hnd fun g ac hg ht=>?_⟩
     have h1:=hrel ht (hrd x (by simp[hop,Op.operands,Call.operands,hx1]))
     have h2:=hrel ht (hrd y (by simp[hop,Op.operands,Call.operands,hx1]))
     rw[hxa]at h1
     rw[hyb]at h2
     generalize hv:ac.eval x=v at h1
     generalize hw:ac.eval y=w at h2
     cases h1
     cases h2
     exact⟨_,by simp[execOp,hop,resolve,hcal,hx1,invoke,builtin,Builtin.max_,Builtin.max2,Sem.run_bind,hv,hw],.lit _⟩
    ·exact h.elim
   ·exact h.elim
  ·rename_i hcal
   split at h
   ·rename_i x y hx0
    have hx1:cl.args=#[x,y]:=by apply Ae;simpa using hx0
    unfold mmV at h
    split at h
    ·rename_i k a k' b hxa hyb
     simp only[Bool.false_eq_true,if_false]at h
     refine⟨_,h,fun rd' ob' hrd ho=>b7 hnd fun g ac hg ht=>?_⟩
     have h1:=hrel ht (hrd x (by simp[hop,Op.operands,Call.operands,hx1]))
     have h2:=hrel ht (hrd y (by simp[hop,Op.operands,Call.operands,hx1]))
     rw[hxa]at h1
     rw[hyb]at h2
     generalize hv:ac.eval x=v at h1
     generalize hw:ac.eval y=w at h2
     cases h1
     cases h2
     exact⟨_,by simp[execOp,hop,resolve,hcal,hx1,invoke,builtin,Builtin.min_,Builtin.min2,Sem.run_bind,hv,hw],.lit _⟩
    ·exact h.elim
   ·exact h.elim
  ·rename_i hcal
   split at h
   ·rename_i t x ht0 hx0
    obtain⟨e,he,hev,hr⟩:=c6q h
    have hx1:cl.args=#[x]:=by apply Ae;simpa using hx0
    have ht1:cl.argTypes=#[t]:=by apply Ae;simpa using ht0
    refine⟨_,he,fun rd' ob' hrd ho=>jR hnd fun g a hg ht hi=>?_⟩
    obtain⟨g',a1,a2,a3,a4⟩:=hr ob' ho g _ o.type hg (hrel ht (hrd x (by simp[hop,Op.operands,Call.operands,hx1])))
    exact⟨.tuple #[],g',by simp[execOp,hop,resolve,hcal,hx1,ht1,invoke,builtin,Sem.run_bind,a1],a2,a3,by rw[hev];exact .tup _ _ rfl (fun i h1=>by simp at h1),fun l hl=>.inl (a4 l hl)⟩
   ·exact h.elim
  ·rename_i f hcal
   split at h
   ·rename_i fn caps hf
    have rels : ∀ {rd' : Nat → AV} {g : Gh} {a : Act}, (∀ x ∈ o.op.operands, rdO rd' x = rdO rd x) → TOk g rd' a →
      ∃ cs:Array Value,a.eval f=.func (.func fn) #[] cs∧RelL g (cl.args.toList.map (rdO rd)++caps) ((cl.args.map a.eval).toList++cs.toList):=by
     intro rd' g a hrd ht
     have h1:=hrel ht (hrd f (by simp[hop,Op.operands,Call.operands,hcal]))
     rw[hf]at h1
     generalize hv:a.eval f=v at h1
     cases h1 with
     | clo _ _ cs hs hh =>
      refine⟨cs,rfl,by simp[hs],fun i i1 i2=>?_⟩
      by_cases hc:i<cl.args.size
      ·rw[Ah (by simpa using hc),Ah (by simpa using hc)]
       simp only[Ad,Aa,Ab]
       exact hrel ht (hrd _ (by simp[hop,Op.operands,Call.operands,hcal]))
      ·rw[Ag (by simpa using hc),Ag (by simpa using hc)]
       simp only[Aa]
       simp at i1 i2
       have:=hh (i - cl.args.size) (by omega) (by omega)
       simpa using this
    have hexec : ∀ (a : Act) (cs : Array Value) (w : World), a.eval f = .func (.func fn) #[] cs → fnT c.P fn = true →
      (execOp a.eval o).run c.P w=.ok (.enter fn ((cl.args.map a.eval).toList++cs.toList).toArray) w:=by
     intro a cs w hv hfn
     have:=a2p hfn (cl.args.map a.eval++cs) w
     simp[execOp,hop,resolve,hcal,hv,Deferred.ofValue,invoke,Sem.run_bind,this]
    rcases h with h|h|(h|h)|h
    ·obtain⟨e,he,hfn,hr⟩:=b7t h
     refine⟨_,he,fun rd' ob' hrd ho g a hg ht hi=>?_⟩
     obtain⟨cs,hv,hrl⟩:=rels hrd ht
     refine sM hnd (hexec a cs g.w hv hfn) ((hr ob' ho g _ hg hrl).mono ?_)
     rintro e' w' ⟨v,g',rfl,rfl,a2,a3,a4,a5⟩
     exact⟨v,g',rfl,rfl,a2,a3,a4,fun l hl=>.inl (a5 l hl)⟩
    ·obtain⟨e,⟨hlive,he⟩,hfn,hr⟩:=b7s h
     refine⟨_,he,fun rd' ob' hrd ho g a hg ht hi=>?_⟩
     obtain⟨cs,hv,hrl⟩:=rels hrd ht
     refine sM hnd (hexec a cs g.w hv hfn) ((hr ob' ho g _ hg hrl (fun l hl=>?_)).mono ?_)
     ·have h1:=hlive l hl
      have h2:=hg.obj l
      rw[ho l hl]at h2
      generalize ob l=x at h1 h2
      cases x<;>first|exact h2.1|(simp[AV.live]at h1)
     ·rintro e' w' ⟨v,g',rfl,rfl,a2,a3,a4,a5⟩
      exact⟨v,g',rfl,rfl,a2,a3,a4,fun l hl=>.inl (a5 l hl)⟩
    ·obtain⟨e,he,hfn,hr⟩:=b7r h
     refine⟨_,he,fun rd' ob' hrd ho g a hg ht hi=>?_⟩
     obtain⟨cs,hv,hrl⟩:=rels hrd ht
     refine sM hnd (hexec a cs g.w hv hfn) ((hr ob' ho g _ hg hrl hi).mono ?_)
     rintro e' w' ⟨v,g',rfl,rfl,a2,a3,a4,a5⟩
     exact⟨v,g',rfl,rfl,a2,a3,a4,a5⟩
    ·obtain⟨e,he,hfn,hr⟩:=b7p h
     refine⟨_,he,fun rd' ob' hrd ho g a hg ht hi=>?_⟩
     obtain⟨cs,hv,hrl⟩:=rels hrd ht
     refine sM hnd (hexec a cs g.w hv hfn) ((hr ob' g _ hg hrl hi).mono ?_)
     rintro e' w' ⟨v,g',rfl,rfl,a2,a3,a4,a5⟩
     exact⟨v,g',rfl,rfl,a2,a3,a4,a5⟩
    ·obtain⟨e,he,hfn,hr⟩:=b7q h
     refine⟨_,he,fun rd' ob' hrd ho g a hg ht hi=>?_⟩
     obtain⟨cs,hv,hrl⟩:=rels hrd ht
     refine sM hnd (hexec a cs g.w hv hfn) ((hr ob' ho g _ hg hrl).mono ?_)
     rintro e' w' ⟨v,g',rfl,rfl,a2,a3,a4,a5⟩
     exact⟨v,g',rfl,rfl,a2,a3,a4,fun l hl=>.inl (a5 l hl)⟩
   ·rename_i L x y hf
    obtain⟨rfl,rfl,h⟩:=h
    obtain⟨e,⟨hlive,he⟩,hr⟩:=b7o h
    refine⟨_,he,fun rd' ob' hrd ho g a hg ht hi=>?_⟩
    have hv:a.eval f=.func (.yield L) #[] #[]:=by
     have h1:=hrel ht (hrd f (by simp[hop,Op.operands,Call.operands,hcal]))
     rw[hf]at h1
     generalize a.eval f=v at h1
     cases h1
     rfl
    have hrl:RelL g (cl.args.toList.map (rdO rd)) (cl.args.map a.eval).toList:=⟨by simp,fun i i1 i2=>by
     have hc:i<cl.args.size:=by simpa using i1
     simp only[Ad,Aa,Ab]
     exact hrel ht (hrd _ (by simp[hop,Op.operands,Call.operands,hcal]))⟩
    obtain⟨f',tm,asg,body,hy,hrd'⟩:=hr ob' ho g _ hg hrl (fun l hl=>by
     have h1:=hlive l hl
     have h2:=hg.obj l
     rw[ho l hl]at h2
     generalize ob l=x at h1 h2
     cases x<;>first|exact h2.1|(simp[AV.live]at h1))
    have hexec:(execOp a.eval o).run c.P g.w=.ok (.round L f' tm asg body) g.w:=by
     have e1:(cl.args.map a.eval).toList.toArray=cl.args.map a.eval:=Array.toArray_toList
     rw[e1]at hy
     simp only[execOp,hop,resolve,hcal,hv,Deferred.ofValue,invoke,Sem.run_bind]
     simp[hy]
    refine b3w hnd hexec (hrd'.mono ?_)
    rintro e' w' ⟨v,g',rfl,rfl,a2,a3,a4,a5⟩
    exact⟨v,g',rfl,rfl,a2,a3,a4,fun l hl=>.inl (a5 l hl)⟩
   ·exact h.elim
  ·exact h.elim
 case h_26 t x ix hop =>
  obtain⟨e,he,hr⟩:=c0s h
  refine⟨e,he,fun rd' ob' hrd ho=>jR hnd fun g a hg ht hi=>?_⟩
  obtain⟨u,g',a1,a2,a3,a4,a5⟩:=hr ob' ho g _ _ hg (hrel ht (hrd x (by simp[hop,Op.operands]))) (hrel ht (hrd ix (by simp[hop,Op.operands])))
  exact⟨u,g',by simp[execOp,hop,Sem.run_bind,a1],a2,a3,a4,fun l hl=>.inl (a5 l hl)⟩
 case h_27 t x s y hop =>
  obtain⟨e,he,hev,hr⟩:=c6j (t:=t) h
  obtain⟨ev,eo,er⟩:=e
  obtain rfl:ev=.any:=hev
  refine⟨_,he,fun rd' ob' hrd ho=>yI hnd fun g a hg ht=>?_⟩
  obtain⟨g',a1,a2,a3,a4⟩:=hr ob' ho g _ _ _ hg (hrel ht (hrd x (by simp[hop,Op.operands]))) (hrel ht (hrd s (by simp[hop,Op.operands]))) (hrel ht (hrd y (by simp[hop,Op.operands])))
  exact⟨g',by simp[execOp,hop,Sem.run_bind,a1],a2,a3,a4⟩
 case h_28 t x hop =>
  obtain⟨e,he,hr⟩:=c4s h
  refine⟨e,he,fun rd' ob' hrd ho=>jR hnd fun g a hg ht hi=>?_⟩
  obtain⟨u,g',a1,a2,a3,a4,a5⟩:=hr ob' ho g _ hg hi (hrel ht (hrd x (by simp[hop,Op.operands])))
  exact⟨u,g',by simp[execOp,hop,Sem.run_bind,a1],a2,a3,a4,a5⟩
 case h_29 x hop =>
  obtain⟨e,he,heo,hr⟩:=c6k h
  obtain⟨ev,eo,er⟩:=e
  obtain rfl:eo=[]:=heo
  refine⟨_,he,fun rd' ob' hrd ho=>b7 hnd fun g a hg ht=>?_⟩
  obtain⟨u,hu1,hu2⟩:=hr ob' ho g _ hg (hrel ht (hrd x (by simp[hop,Op.operands])))
  exact⟨u,by simp[execOp,hop,Sem.run_bind,hu1],hu2⟩
 case h_30=>exact h.elim
end Go.Sx
namespace Go.Sx
set_option linter.unusedVariables false
set_option linter.unusedSimpArgs false
structure AS where
 t:List (Nat × AV)
 o:List (Nat × AV)
 nx:Nat
def look:List (Nat × AV)→Nat→AV
 | [],_=>.any
 | (i,a)::r,l=>if i=l then a else look r l
theorem sI (e s:List (Nat × AV)):look (e++s)=upd (look s) e:=by
 funext l
 induction e with
 | nil=>rfl
 | cons p e ih=>obtain⟨i,a⟩:=p;simp only[List.cons_append,look,upd,ih]
def AS.step (S:AS) (dst:Option Nat) (e:Eff):AS :=
 { t:=match dst with|some d=>(d,e.val)::S.t|none=>S.t,o:=e.ob++S.o,nx:=S.nx }
structure Foot where
 tr:List Nat
 tw:List Nat
 rd:List Nat
 ow:List Nat
def oL:List Operand→List Nat
 | []=>[]
 | .tmp t::r=>t::oL r
 | _::r=>oL r
def rG (ops:List Oper) (o:Oper):Option (Nat × Bool) :=
 match o.guard with
 | none=>none
 | some (j,want)=>match (ops[j]?).bind (·.dst)with
  | some d=>some (d,want)
  | none=>none
def uO (ops:List Oper) (o:Oper):List Nat:=match rG ops o with|some (d,_)=>[d]|none=>[]
def eF (ops:List Oper) (o:Oper) (i:Nat) (e:Eff):Foot :=
 { tr:=oL o.op.operands.toList++uO ops o,tw:=o.dst.toList,rd:=e.rd,ow:=i::e.ob.map (·.1) }
def iY (b want:Bool) (X Y:Prop):Prop:=(b=want→X)∧(b≠want→Y)
def aK (P:Program) (nt:Nat) (ops:List Oper) (o:Oper) (i:Nat) (S:AS) (K:AS→Eff→Prop):Prop :=
 (∀ d∈o.dst.toList,d<nt) ∧
 match o.guard with
 | none=>aI P o.op i (rdO (look S.t)) (look S.o) fun e=>K (S.step o.dst e) e
 | some _=>match rG ops o with
  | some (d,want)=>match look S.t d with
   | .lit (.bool b)=>iY b want (aI P o.op i (rdO (look S.t)) (look S.o) fun e=>K (S.step o.dst e) e) (K (S.step o.dst ⟨.tup [],[],[]⟩) ⟨.tup [],[],[]⟩)
   | .tup _=>K (S.step o.dst ⟨.tup [],[],[]⟩) ⟨.tup [],[],[]⟩
   | _=>False
  | none=>False
def aJ (P:Program) (nt:Nat) (ops:List Oper):List Oper→Nat→AS→List Foot→(AS→List Foot→Prop)→Prop
 | [],_,S,fs,K=>K S fs
 | o::rest,i,S,fs,K=>aK P nt ops o (S.nx+i) S fun S' e=>aJ P nt ops rest (i+1) S' (fs++[eF ops o (S.nx+i) e]) K
def RoOk (c:Cx):Prop:=∀ l,c.ro=some l→l<c.w0.heap.size∧¬ c.W0 l∧∃ r,c.w0.heap[l]?=some (.loop r)
def Sz (c:Cx) (nt:Nat) (a:Act):Prop:=a.tmps.size=nt∧a.defers=c.ds∧RoOk c
def Sim (c:Cx) (nt:Nat) (S:AS) (a:Act) (w:World):Prop :=
 ∃ g,g.w=w∧GOk c g (look S.o)∧TOk g (look S.t) a∧Sz c nt a∧(∀ l,g.us l→l<S.nx)∧Lnk c g∧8≤S.nx
def xS (c:Cx) (nt:Nat) (ops:Array Oper) (o:Oper) (i:Nat) (rd ob:Nat→AV) (f:Foot) (e:Eff):Prop :=
 ∀ rd' ob',(∀ t∈f.tr,rd' t=rd t)→(∀ l∈f.rd,ob' l=ob l)→∀ g a,GOk c g ob'→TOk g rd' a→a.tmps.size=nt→¬ g.us i →
  (if Region.wanted o (yielded ops a.tmps)then o.wpIn (Fw c.ro) 0 c.P a g.w (fun a' w'=>∃ v g',a'=a.put o.dst v∧g'.w=w'∧Ev g g'∧GOk c g' (upd ob' e.ob)∧Rel g' e.val v∧∀ l,g'.us l→g.us l∨l=i) (fun _ _ _=>False)
   else Rel g e.val undef∧e.ob=[])
theorem b4l {xs:List Operand} {t:Nat} (h:.tmp t∈xs):t∈oL xs:=by
 induction xs with
 | nil=>simp at h
 | cons x xs ih =>
  simp only[List.mem_cons]at h
  rcases h with h|h
  ·subst h;simp[oL]
  ·cases x<;>simp[oL,ih h]
theorem a4l {rd rd':Nat→AV} {xs:List Operand} (h:∀ t∈oL xs,rd' t=rd t) {x:Operand} (hx:x∈xs):rdO rd' x=rdO rd x:=by
 cases x with
 | tmp t=>exact h t (b4l hx)
 | _=>rfl
theorem a0j {c : Cx} {nt : Nat} {ops : Array Oper} {o : Oper} {i : Nat} {S : AS} {K : AS → Eff → Prop} (h : aK c.P nt ops.toList o i S K) :
  ∃ e,K (S.step o.dst e) e∧(∀ d,o.dst=some d→d<nt)∧xS c nt ops o i (look S.t) (look S.o) (eF ops.toList o i e) e:=by
 obtain⟨hd,h⟩:=h
 have hd':∀ d,o.dst=some d→d<nt:=fun d e=>hd d (by simp[e])
 split at h
 ·rename_i hgd
  obtain⟨e,he,hs⟩:=a6j h
  refine⟨e,he,hd',fun rd' ob' h1 h2 g a hg ht hsz hi=>?_⟩
  have hw:Region.wanted o (yielded ops a.tmps)=true:=by simp[Region.wanted,hgd]
  rw[if_pos hw]
  exact hs rd' ob' (fun x hx=>a4l (fun t ht=>h1 t (by simp[eF,ht])) (Ac.2 hx)) h2 g a hg ht hi
 ·rename_i p hgd
  obtain⟨j,want0⟩:=p
  split at h
  ·rename_i d want hgs
   split at h
   ·rename_i b hb
    have hwant:∀ (rd':Nat→AV) (g:Gh) (a:Act),rd' d=look S.t d→TOk g rd' a→(yielded ops a.tmps j=some b∧want0=want):=by
     intro rd' g a hrd ht
     unfold rG at hgs
     rw[hgd]at hgs
     simp only at hgs
     split at hgs
     ·rename_i d' hd'
      simp only[Ao.injEq,Prod.mk.injEq]at hgs
      obtain⟨rfl,rfl⟩:=hgs
      refine⟨?_,rfl⟩
      have hr:=ht.2 d'
      rw[hrd,hb]at hr
      have hdd:(ops[j]?).bind (·.dst)=some d':=by simpa using hd'
      unfold yielded
      rw[hdd]
      simp only[Ak]
      generalize hq:a.tmps.getD d' undef=q at hr
      cases hr
      rw[Af]at hq
      cases hz:a.tmps[d']? with
      | none=>rw[hz]at hq;simp[undef]at hq
      | some z=>rw[hz]at hq;simp only[Al]at hq;subst hq;rfl
     ·contradiction
    have hmem:d∈(eF ops.toList o i ⟨.tup [],[],[]⟩).tr:=by simp[eF,uO,hgs]
    by_cases hbw:b=want
    ·obtain⟨e,he,hs⟩:=a6j (h.1 hbw)
     refine⟨e,he,hd',fun rd' ob' h1 h2 g a hg ht hsz hi=>?_⟩
     obtain⟨h3,h4⟩:=hwant rd' g a (h1 d (by simp[eF,uO,hgs])) ht
     have hw:Region.wanted o (yielded ops a.tmps)=true:=by simp[Region.wanted,hgd,h3,h4,hbw]
     rw[if_pos hw]
     exact hs rd' ob' (fun x hx=>a4l (fun t ht=>h1 t (by simp[eF,ht])) (Ac.2 hx)) h2 g a hg ht hi
    ·refine⟨_,h.2 hbw,hd',fun rd' ob' h1 h2 g a hg ht hsz hi=>?_⟩
     obtain⟨h3,h4⟩:=hwant rd' g a (h1 d hmem) ht
     have hw:¬ Region.wanted o (yielded ops a.tmps)=true:=by simp[Region.wanted,hgd,h3,h4,hbw]
     rw[if_neg hw]
     exact⟨.tup [] #[] rfl (fun i h=>by simp at h),rfl⟩
   ·rename_i xs hb
    refine⟨_,h,hd',fun rd' ob' h1 h2 g a hg ht hsz hi=>?_⟩
    have hrd:=h1 d (by simp[eF,uO,hgs])
    have hy:yielded ops a.tmps j=none:=by
     unfold rG at hgs
     rw[hgd]at hgs
     simp only at hgs
     split at hgs
     ·rename_i d' hd'
      simp only[Ao.injEq,Prod.mk.injEq]at hgs
      obtain⟨rfl,rfl⟩:=hgs
      have hr:=ht.2 d'
      rw[hrd,hb]at hr
      have hdd:(ops[j]?).bind (·.dst)=some d':=by simpa using hd'
      unfold yielded
      rw[hdd]
      simp only[Ak]
      generalize hq:a.tmps.getD d' undef=q at hr
      cases hr
      rw[Af]at hq
      cases hz:a.tmps[d']? with
      | none=>rfl
      | some z=>rw[hz]at hq;simp only[Al]at hq;subst hq;rfl
     ·contradiction
    have hw:¬ Region.wanted o (yielded ops a.tmps)=true:=by simp[Region.wanted,hgd,hy]
    rw[if_neg hw]
    exact⟨.tup [] #[] rfl (fun i h=>by simp at h),rfl⟩
   ·exact h.elim
  ·exact h.elim
theorem a3k {c : Cx} {nt : Nat} {ops : Array Oper} {K : AS → List Foot → Prop} : ∀ (l : List Oper) (i : Nat) (S : AS) (fs : List Foot), aJ c.P nt ops.toList l i S fs K →
  ∃ (Ss:Nat→AS) (es:Nat→Eff),Ss 0=S∧K (Ss l.length) (fs++(List.range l.length).map fun k=>eF ops.toList (l.getD k default) (S.nx+i+k) (es k))∧(∀ k,(Ss k).nx=S.nx) ∧
   ∀ k (hk:k<l.length),Ss (k+1)=(Ss k).step l[k].dst (es k)∧(∀ d,l[k].dst=some d→d<nt)∧xS c nt ops l[k] (S.nx+i+k) (look (Ss k).t) (look (Ss k).o) (eF ops.toList l[k] (S.nx+i+k) (es k)) (es k):=by
 intro l
 induction l with
 | nil=>intro i S fs h;exact⟨fun _=>S,fun _=>⟨.any,[],[]⟩,rfl,by simpa [aJ]using h,fun _=>rfl,fun k hk=>by simp at hk⟩
 | cons o l ih =>
  intro i S fs h
  simp only[aJ]at h
  obtain⟨e,hK,hd,hs⟩:=a0j h
  obtain⟨Ss,es,h0,hk,hnx,hstep⟩:=ih _ _ _ hK
  have hnx1:(S.step o.dst e).nx=S.nx:=rfl
  refine⟨fun k=>match k with|0=>S|k+1=>Ss k,fun k=>match k with|0=>e|k+1=>es k,rfl,?_,fun k=>?_,fun k hk=>?_⟩
  ·simp only[List.length_cons]
   rw[List.range_succ_eq_map]
   simp only[List.map_cons,List.map_map]
   rw[List.append_assoc]at hk
   have:∀ k,S.nx+i+(k+1)=S.nx+(i+1)+k:=fun k=>by omega
   simp only[List.getD_cons_zero,An,Function.comp_def,Nat.succ_eq_add_one,List.getD_cons_succ,this]
   simpa [hnx1]using hk
  ·cases k with
   | zero=>rfl
   | succ k=>exact (hnx k).trans hnx1
  ·cases k with
   | zero=>simp only[Ai,An];exact⟨h0,hd,hs⟩
   | succ k =>
    have hk':k<l.length:=by simpa using hk
    have:=hstep k hk'
    have e1:S.nx+i+(k+1)=S.nx+(i+1)+k:=by omega
    simp only[List.getElem_cons_succ,e1]
    simpa [hnx1]using this
end Go.Sx
