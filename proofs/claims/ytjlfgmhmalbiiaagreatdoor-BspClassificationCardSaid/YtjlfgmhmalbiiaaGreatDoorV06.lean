import Derived.Test.YtjlfgmhmalbiiaaGreatDoorV05
set_option linter.all false
namespace Go.Sx
set_option linter.unusedVariables false
set_option linter.unusedSimpArgs false
def c6t (g g':Gh) (k:Nat) (es:List (List AV)) (v:Value):Prop :=
 0<k∧(∀ e∈es,e.length=k)∧((es=[]∧v=.slice none 0 0) ∨
  ∃ b cap vs ety,v=.slice (some ⟨b,0,none⟩) es.length cap∧g.w.heap.size≤b∧¬ g'.fz b∧g'.w.heap[b]?=some (.cells vs ety (0,0))∧es.length≤cap∧cap≤maxLen∧vs.size=cap*k ∧
   (∀ i (h2:i<vs.size),i<es.length*k→vs[i].oneCell'=true)∧∀ i (h1:i<es.length) j (h2:j<es[i].length) (h3:i*k+j<vs.size),Rel g' es[i][j] vs[i*k+j])
def CallVc (P:Program) (f:Nat) (args:List AV) (k:Nat) (es:List (List AV)):Prop :=
 ∀ (g:Gh) (vals:List Value),(∀ l,¬ g.us l)→GOk (bK P g (upd aI [])) g (upd aI [])→RelL g args vals →
  Calls P f vals.toArray g.w fun e w'=>∃ v g',e=.returned v∧g'.w=w'∧Ev g g'∧(∀ l,¬ g'.us l)∧GOk (bK P g (upd aI [])) g' (upd aI [])∧c6t g g' k es v
def callE (P:Program) (f:Nat) (args:List AV) (i:Nat) (E:Eff→Prop):Prop :=
 ∃ k es,fnT P f=true∧CallVc P f args k es∧(∀ a∈args,In (fun _=>False) a)∧(∀ e∈es,∀ c∈e,In (fun _=>False) c)∧E ⟨.ref i 0 es.length es.length,[(i,.vec k es)],[]⟩
theorem b4g {c : Cx} {f : Nat} {args : List AV} {i : Nat} {E : Eff → Prop} (h : callE c.P f args i E) :
  ∃ e,E e∧fnT c.P f=true∧∀ ob':Nat→AV,∀ g vals,GOk c g ob'→RelL g args vals→¬ g.us i →
   Calls c.P f vals.toArray g.w fun e' w'=>∃ v g',e'=.returned v∧g'.w=w'∧Ev g g'∧GOk c g' (upd ob' e.ob)∧Rel g' e.val v∧∀ l,g'.us l→g.us l∨l=i:=by
 obtain⟨k,es,hfn,hok,hin,hes,hE⟩:=h
 refine⟨_,hE,hfn,fun ob' g vals hg hr hi=>?_⟩
 let g0:Gh:={ g with us:=fun _=>False }
 have hW:∀ b,¬ (bK c.P g0 (upd aI [])).W0 b:=by
  rintro b ⟨l,hl⟩
  simp[upd,aI,aE]at hl
 have hg0:GOk (bK c.P g0 (upd aI [])) g0 (upd aI []) :=
  ⟨rfl,Tp.rfl,rfl,Nat.le_refl _,fun _ _ _=>rfl,fun b hb=>hb,fun b hb=>.inl hb,hg.fzx,fun l=>trivial,fun l b hb=>by simp[upd,aI,aE]at hb,fun l l' b hb=>by simp[upd,aI,aE]at hb⟩
 have hrel:RelL g0 args vals:=⟨hr.1,fun j h1 h2=>cY (g:=g) (g':=g0) (K:=fun _=>False) (fun b hb=>⟨hb,rfl⟩) (fun l hl=>hl.elim) (hr.2 j h1 h2) (hin _ (List.getElem_mem h1))⟩
 refine (hok g0 vals (fun l=>by simp[g0]) hg0 hrel).mono ?_
 rintro e' w' ⟨v,g1,rfl,rfl,he,_,hg1,hk0,hke,hv⟩
 have hold:∀ b,b<g.w.heap.size→g1.w.heap[b]?=g.w.heap[b]?:=fun b hb=>hg1.old b hb (hW b)
 have hne:∀ l,g.us l→l≠i:=fun l hl e=>hi (e▸hl)
 have key : ∀ D : Des, D.k = k → ((D.b = none ∧ es = [] ∧ D.cap = 0) ∨ ∃ b vs, D.b = some b ∧ g1.w.heap[b]? = some (.cells vs D.e (0, 0)) ∧ es.length ≤ D.cap ∧ D.cap ≤ maxLen ∧ vs.size = D.cap * k ∧ (∀ i (h2 : i < vs.size), i < es.length * k → vs[i].oneCell' = true) ∧
   ∀ i (h1:i<es.length) j (h2:j<es[i].length) (h3:i*k+j<vs.size),Rel g1 es[i][j] vs[i*k+j])→(∀ b,D.b=some b→g.w.heap.size≤b∧¬ g1.fz b)→v=D.slice 0 es.length→v.oneCell'=true →
   ∃ v' g',Ending.returned v=.returned v'∧g'.w=g1.w∧Ev g g'∧GOk c g' (upd ob' [(i,.vec k es)])∧Rel g' (.ref i 0 es.length es.length) v'∧∀ l,g'.us l→g.us l∨l=i:=by
  intro D hDk hD hDb hDv hone
  let g':Gh:={ w:=g1.w,fz:=g1.fz,us:=fun l=>g.us l∨l=i,blk:=g.blk,des:=fun l=>if l=i then D else g.des l,len:=fun l=>if l=i then es.length else g.len l }
  have hdi:g'.des i=D:=if_pos rfl
  have hli:g'.len i=es.length:=if_pos rfl
  have hev:Ev g g':=by
   refine⟨fun b hb=>he.fz b hb,fun l hl=>⟨.inl hl,rfl,?_,fun _=>if_neg (hne l hl)⟩⟩
   show _≤(if l=i then _ else _)
   rw[if_neg (hne l hl)]
   exact Nat.le_refl _
  have hbk:∀ l x,l≠i→aE g' l x=aE g l x:=fun l x hl=>by
   have:g'.des l=g.des l:=if_neg hl
   cases x<;>simp only[aE,this]<;>rfl
  have hup:∀ l,upd ob' [(i,AV.vec k es)] l=if i=l then .vec k es else ob' l:=fun l=>rfl
  have hnf:∀ b,b<g.w.heap.size→¬ g.fz b→¬ g1.fz b:=fun b hb hn hf=>by
   rcases hg1.fzn b hf with h|h|h
   ·exact hn h
   ·exact hW b h
   ·exact absurd hb (Nat.not_lt.2 h)
  have hbi:∀ b,aE g' i (upd ob' [(i,AV.vec k es)] i)=some b→D.b=some b:=fun b hb=>by
   rw[hup,if_pos rfl]at hb
   simp only[aE,hdi]at hb
   exact hb
  have hbo:∀ l b,l≠i→aE g' l (upd ob' [(i,AV.vec k es)] l)=some b→aE g l (ob' l)=some b:=fun l b hl hb=>by
   rw[hup,if_neg (fun e=>hl e.symm),hbk l _ hl]at hb
   exact hb
  refine⟨v,g',rfl,rfl,hev,⟨hg1.os.trans hg.os,hg1.tape.trans hg.tape,hg1.output.trans hg.output,Nat.le_trans hg.size hg1.size,fun b hb hw=>?_,fun b hb=>(he.fz b (hg.fzo b hb)).1,fun b hb=>?_,hg1.fzx,fun l=>?_,fun l b hb=>?_,fun l l' b hb hb'=>?_⟩,?_,fun l hl=>hl⟩
  ·show g1.w.heap[b]?=_
   rw[hold b (Nat.lt_of_lt_of_le hb hg.size)]
   exact hg.old b hb hw
  ·rcases hg1.fzn b hb with h|h|h
   ·exact hg.fzn b h
   ·exact absurd h (hW b)
   ·exact .inr (.inr (Nat.le_trans hg.size h))
  ·rw[hup]
   by_cases hl:i=l
   ·subst hl
    rw[if_pos rfl]
    refine⟨.inr rfl,by rw[hdi];exact hDk,by rw[hli],hk0,hke,?_⟩
    rw[hdi]
    rcases hD with h|⟨b,vs,m1,m2,m3,m4,m5,m6,m7⟩
    ·exact .inl h
    ·exact .inr ⟨b,vs,m1,m2,m3,m4,m5,m6,fun a a1 j a2 a3=>cY (g:=g1) (g':=g') (K:=fun _=>False) (fun b hb=>⟨hb,rfl⟩) (fun l hl=>hl.elim) (m7 a a1 j a2 a3) (hes _ (List.getElem_mem a1) _ (List.getElem_mem a2))⟩
   ·rw[if_neg hl]
    have hl':l≠i:=fun e=>hl e.symm
    exact (hg.obj l).keep hev ⟨by show (if l=i then _ else _)=_;rw[if_neg hl'],by show (if l=i then _ else _)=_;rw[if_neg hl']⟩ fun b hb=>hold b ((hg.obj l).lt hb)
  ·by_cases hl:l=i
   ·subst hl
    have hb:=hbi b hb
    exact⟨.inr (Nat.le_trans hg.size (hDb b hb).1),(hDb b hb).2⟩
   ·have hb:=hbo l b hl hb
    have:=hg.own l b hb
    exact⟨this.1,hnf b ((hg.obj l).lt hb) this.2⟩
  ·by_cases hl:l=i
   ·by_cases hl':l'=i
    ·exact hl.trans hl'.symm
    ·subst hl
     have h1:=(hDb b (hbi b hb)).1
     have h2:=(hg.obj l').lt (hbo l' b hl' hb')
     omega
   ·by_cases hl':l'=i
    ·subst hl'
     have h1:=(hDb b (hbi b hb')).1
     have h2:=(hg.obj l).lt (hbo l b hl hb)
     omega
    ·exact hg.dis l l' b (hbo l b hl hb) (hbo l' b hl' hb')
  ·exact .ref _ _ _ _ _ (.inr rfl) (by rw[hli];exact Nat.le_refl _) hone fun _=>by rw[hdi];exact hDv
 rcases hv with⟨rfl,rfl⟩|⟨b,cap,vs,ety,rfl,hb0,hnf,hb,hc,hm,hs,h1,h2⟩
 ·exact key ⟨none,k,0,0⟩ rfl (.inl ⟨rfl,rfl,rfl⟩) (fun b hb=>by cases hb) rfl rfl
 ·refine key ⟨some b,k,cap,ety⟩ rfl (.inr ⟨b,vs,rfl,hb,hc,hm,hs,h1,h2⟩) (fun b' hb'=>?_) ?_ rfl
  ·obtain rfl:=Option.some.inj hb'
   exact⟨hb0,hnf⟩
  ·simp[Des.slice]
end Go.Sx
namespace Go.Sx
set_option linter.unusedVariables false
set_option linter.unusedSimpArgs false
def AV.live:AV→Bool
 | .blk _|.vec _ _|.mpo _|.lpo ..=>true
 | _=>false
def callV (P:Program) (f:Nat) (args:List AV) (i:Nat) (ob:Nat→AV) (E:Eff→Prop):Prop :=
 a8r P f args ob E∨a8q P f args ob (fun e=>(∀ l∈e.rd,(ob l).live=true)∧E e)∨(callC P f args i ob E∨callE P f args i E)∨callD P f args ob E
def mJ:List LK→List AV→Bool
 | [],[]=>true
 | k::ks,.lit v::cs=>k.fits v&&mJ ks cs
 | _,_=>false
def iY:List AV→List AV→Bool
 | .lit x::xs,.lit y::ys=>ceq x y&&iY xs ys
 | _,_=>true
theorem a1r {g:Gh}:∀ {ks:List LK} {cs:List AV} {vs:List Value},mJ ks cs=true→RelL g cs vs→eU ks vs=true∧cs=vs.map .lit:=by
 intro ks
 induction ks with
 | nil =>
  intro cs vs h hr
  cases cs with
  | nil=>obtain rfl:vs=[]:=List.eq_nil_of_length_eq_zero hr.1;exact⟨rfl,rfl⟩
  | cons c cs=>simp[mJ]at h
 | cons k ks ih =>
  intro cs vs h hr
  cases cs with
  | nil=>simp[mJ]at h
  | cons c cs =>
   cases vs with
   | nil=>simp[RelL]at hr
   | cons v vs =>
    have h0:=hr.2 0 (by simp) (by simp)
    have hr':RelL g cs vs:=⟨by simpa using hr.1,fun i h1 h2=>hr.2 (i+1) (by simpa using h1) (by simpa using h2)⟩
    cases c<;>simp only[mJ]at h<;>try contradiction
    rename_i u
    simp only[List.getElem_cons_zero]at h0
    cases h0
    simp only[Bool.and_eq_true]at h
    obtain⟨h1,h2⟩:=ih h.2 hr'
    exact⟨by simp[eU,h.1,h1],by simp[h2]⟩
theorem b8b:∀ (xs ys:List Value),iY (xs.map .lit) (ys.map .lit)=fJ xs ys:=by
 intro xs
 induction xs with
 | nil=>intro ys;cases ys<;>rfl
 | cons x xs ih=>intro ys;cases ys with
  | nil=>rfl
  | cons y ys=>simp[iY,fJ,ih]
def tQ (P:Program) (op:BinOp) (t:TypeId) (cs ds:List AV) (E:Eff→Prop):Prop :=
 match lfT P 30 t with
 | some ks=>P.eqGuardType P.depth t=false∧agT P t=some true∧mJ ks cs=true∧mJ ks ds=true∧match op with
  | .eql=>E ⟨.lit (.bool (iY cs ds)),[],[]⟩
  | .neq=>E ⟨.lit (.bool (!iY cs ds)),[],[]⟩
  | _=>False
 | none=>False
def rC (P:Program) (op:BinOp) (t:TypeId) (x y:AV) (E:Eff→Prop):Prop :=
 match x,y with
 | .lit (.int k a),.lit (.int k' b)=>(k=k'∨op=.shl∨op=.shr)∧rD op k a b fun v=>E ⟨.lit v,[],[]⟩
 | .lit (.string a),.lit (.string b)=>oG P op t (.string a) (.string b) fun v=>E ⟨.lit v,[],[]⟩
 | .lit (.bool a),.lit (.bool b)=>oG P op t (.bool a) (.bool b) fun v=>E ⟨.lit v,[],[]⟩
 | .agg cs,.agg ds=>tQ P op t cs ds E
 | _,_=>False
theorem b9d {P : Program} {op : BinOp} {t : TypeId} {x y : AV} {E : Eff → Prop} (h : rC P op t x y E) :
  ∃ r,E ⟨r,[],[]⟩∧∀ g v u ox oy,Rel g x v→Rel g y u→∃ w,(do eqGuard op t ox oy v u;binOp op t v u:Sem Value).run P g.w=.ok w g.w∧Rel g r w:=by
 unfold rC at h
 split at h
 ·obtain⟨hk,h⟩:=h
  obtain⟨v,hv,hr⟩:=b9e (P:=P) t hk h
  refine⟨_,hv,fun g v' u' ox oy h1 h2=>?_⟩
  cases h1
  cases h2
  exact⟨_,by simp only[Sem.run_bind,w5 (P:=P) op t ox oy (.int _ _) _ (fun _ h=>by cases h) (fun h=>by cases h),Result.andThen_ok,hr],.lit _⟩
 ·obtain⟨v,hv,hr⟩:=a4f h
  refine⟨_,hv,fun g v' u' ox oy h1 h2=>?_⟩
  cases h1
  cases h2
  exact⟨_,by simp only[Sem.run_bind,w5 (P:=P) op t ox oy (.string _) _ (fun _ h=>by cases h) (fun h=>by cases h),Result.andThen_ok,hr],.lit _⟩
 ·obtain⟨v,hv,hr⟩:=a4f h
  refine⟨_,hv,fun g v' u' ox oy h1 h2=>?_⟩
  cases h1
  cases h2
  exact⟨_,by simp only[Sem.run_bind,w5 (P:=P) op t ox oy (.bool _) _ (fun _ h=>by cases h) (fun h=>by cases h),Result.andThen_ok,hr],.lit _⟩
 ·rename_i cs ds
  unfold tQ at h
  split at h
  ·rename_i ks hks
   obtain⟨hg,hag,hf1,hf2,h⟩:=h
   have key:∀ g v u,Rel g (.agg cs) v→Rel g (.agg ds) u→∃ xs ys,v=.agg xs∧u=.agg ys∧∀ w,(Op.equalIn 10000 t v u).run P w=.ok (iY cs ds) w:=by
    intro g v u h1 h2
    cases h1 with
    | agg _ xs hx hox hrx =>
     cases h2 with
     | agg _ ys hy hoy hry =>
      obtain⟨a1,a2⟩:=a1r (g:=g) (vs:=xs.toList) hf1 ⟨by simpa using hx,fun i h1 h2=>by simpa using hrx i h1 (by simpa using h2)⟩
      obtain⟨b1,b2⟩:=a1r (g:=g) (vs:=ys.toList) hf2 ⟨by simpa using hy,fun i h1 h2=>by simpa using hry i h1 (by simpa using h2)⟩
      refine⟨xs,ys,rfl,rfl,fun w=>?_⟩
      have:=a9c 30 9970 t ks xs.toList ys.toList (.agg xs) (.agg ys) hks a1 b1 (.inl ⟨hag,by simp⟩) (.inl ⟨hag,by simp⟩) w
      rw[a2,b2,b8b]
      exact this
   split at h
   ·refine⟨_,h,fun g v u ox oy h1 h2=>?_⟩
    obtain⟨xs,ys,rfl,rfl,hr⟩:=key g v u h1 h2
    exact⟨_,by simp only[Sem.run_bind,run_eqGuard_agg _ _ _ _ _ _ _ hg,Result.andThen_ok,run_eql_struct,hr],.lit _⟩
   ·refine⟨_,h,fun g v u ox oy h1 h2=>?_⟩
    obtain⟨xs,ys,rfl,rfl,hr⟩:=key g v u h1 h2
    exact⟨_,by simp only[Sem.run_bind,run_eqGuard_agg _ _ _ _ _ _ _ hg,Result.andThen_ok,run_neq_struct,hr],.lit _⟩
   ·exact h.elim
  ·exact h.elim
 ·exact h.elim
def unV (op:UnOp) (x:AV) (E:Eff→Prop):Prop :=
 match op,x with
 | .not,.lit (.bool b)=>E ⟨.lit (.bool (!b)),[],[]⟩
 | .neg,.lit (.int k n)=>E ⟨.lit (.int k (k.wrap (0 - n))),[],[]⟩
 | .xor,.lit (.int k n)=>k.signed=false∧E ⟨.lit (.int k (k.wrap ((BitVec.ofInt k.bits k.max ^^^ BitVec.ofInt k.bits n).toNat:Int))),[],[]⟩
 | _,_=>False
def tJ (x:AV) (ob:Nat→AV) (E:Eff→Prop):Prop :=
 match x with
 | .fp cs=>E ⟨.fp cs,[],[]⟩
 | .loc l o=>E ⟨.loc l o,[],[]⟩
 | .vp l i j m=>p9 ob l m∧E ⟨.vp l i j m,[],[l]⟩
 | .clo f caps=>E ⟨.clo f caps,[],[]⟩
 | _=>False
def faV (P:Program) (t:TypeId) (f:Nat) (x:AV) (ob:Nat→AV) (E:Eff→Prop):Prop :=
 match fdT P t f with
 | some (o,s,_)=>0<s∧match x with
  | .vp l i j m=>p9 ob l m∧m9 o x fun y=>E ⟨y,[],[l]⟩
  | x=>m9 o x fun y=>E ⟨y,[],[]⟩
 | none=>False
def mmV (g:Bool) (x y:AV) (E:Eff→Prop):Prop :=
 match x,y with
 | .lit (.int k a),.lit (.int _ b)=>if g then E ⟨.lit (.int k (if b>a then b else a)),[],[]⟩else E ⟨.lit (.int k (if b<a then b else a)),[],[]⟩
 | _,_=>False
def aO (P:Program) (op:Op) (i:Nat) (ρ:Operand→AV) (ob:Nat→AV) (E:Eff→Prop):Prop :=
 match op with
 | .move x=>E ⟨ρ x,[],[]⟩
 | .assign x=>E ⟨ρ x,[],[]⟩
 | .pick c a b=>match ρ c with
  | .lit (.bool t)=>E ⟨if t then ρ a else ρ b,[],[]⟩
  | _=>False
 | .alloc t=>match zeT P t with
  | some z=>E ⟨.loc i 0,[(i,.blk z)],[]⟩
  | none=>False
 | .box t x=>(ρ x).solid=true∧E ⟨.loc i 0,[(i,.blk (ρ x).cells)],[]⟩
 | .build t ps=>pW P t (ps.toList.map fun p=>(p.1,ρ p.2)) E
 | .buildSlice t n ps=>qQ P t n (ps.toList.map fun p=>(p.1,ρ p.2)) i E
 | .load t a=>match agT P t,szT P t with
  | some ag,some s=>(ag=true∨s=1)∧jD ag s (ρ a) ob E
  | _,_=>False
 | .store t a x=>match szT P t with
  | some s=>pO s (ρ a) (ρ x) ob E
  | none=>False
 | .nilCheck x=>tJ (ρ x) ob E
 | .binOp op t x y _=>rC P op t (ρ x) (ρ y) E
 | .unOp op _ x=>unV op (ρ x) E
 | .convert s d x=>qH P s d (ρ x) ob E
 | .makeFunc (.func f) first caps=>first=#[]∧E ⟨.clo f (caps.toList.map ρ),[],[]⟩
 | .makeSlice t l c=>nX P t (ρ l) (ρ c) i E
 | .slice t x lo hi mx=>mx.isNone=true∧nR P t (ρ x) (lo.map ρ) (hi.map ρ) ob E
 | .fieldAddr t x f=>faV P t f (ρ x) ob E
 | .field t x f=>pT P t f (ρ x) E
 | .indexAddr t x ix=>oL P t (ρ x) (ρ ix) ob E
 | .index t x ix=>pR P t (ρ x) (ρ ix) E
 | .extract x n=>oY n (ρ x) E
 | .makeMap _ r=>r.isNone=true∧E ⟨.mp i,[(i,.mpo [])],[]⟩
 | .lookup t x ix ok=>pF P t (ρ x) (ρ ix) ok ob E
 | .mapUpdate t x ix y=>qE P t (ρ x) (ρ ix) (ρ y) ob E
 | .call c=>match c.callee with
  | .builtin .len=>match c.argTypes.toList,c.args.toList with
   | [t],[x]=>qR P t (ρ x) ob E
   | _,_=>False
  | .builtin .append=>match c.argTypes.toList,c.args.toList with
   | [t,t'],[x,y]=>t=t'∧rE P t (ρ x) (ρ y) ob i E
   | _,_=>False
  | .builtin .max=>match c.args.toList with
   | [x,y]=>mmV true (ρ x) (ρ y) E
   | _=>False
  | .builtin .min=>match c.args.toList with
   | [x,y]=>mmV false (ρ x) (ρ y) E
   | _=>False
  | .value f=>match ρ f with
   | .clo g caps=>callV P g (c.args.toList.map ρ++caps) i ob E
   | .lit (.func (.yield L) x y)=>x=#[]∧y=#[]∧callY P L (c.args.toList.map ρ) ob fun e=>(∀ l∈e.rd,(ob l).live=true)∧E e
   | _=>False
  | _=>False
 | .mapEntry t x ix=>qF P t (ρ x) (ρ ix) ob E
 | .entryStore _ x s y=>qT (ρ x) (ρ s) (ρ y) ob E
 | .range t x=>qM P t (ρ x) i ob E
 | .entry x=>qU (ρ x) ob E
 | _=>False
theorem a4a {c : Cx} {o : Oper} {i : Nat} {rd : Nat → AV} {ob : Nat → AV} {E : Eff → Prop} (h : aO c.P o.op i (rdO rd) ob E) :
  ∃ e,E e∧∀ rd' ob',(∀ x∈o.op.operands,rdO rd' x=rdO rd x)→(∀ l∈e.rd,ob' l=ob l)→Snd c o i rd' ob' e:=by
 have hrel:∀ {rd':Nat→AV} {g:Gh} {a:Act} {x:Operand},TOk g rd' a→rdO rd' x=rdO rd x→Rel g (rdO rd x) (a.eval x):=fun ht e=>e▸yK ht _
 have hnd:∀ cl,o.op≠.defer cl:=fun cl e=>by rw[e]at h;exact h
 unfold aO at h
 split at h
 case h_1 x hop =>
  refine⟨_,h,fun rd' ob' hrd ho=>b9 hnd fun g a hg ht=>⟨a.eval x,by simp[execOp,hop],hrel ht (hrd x (by simp[hop,Op.operands]))⟩⟩
 case h_2 x hop =>
  refine⟨_,h,fun rd' ob' hrd ho=>b9 hnd fun g a hg ht=>⟨a.eval x,by simp[execOp,hop],hrel ht (hrd x (by simp[hop,Op.operands]))⟩⟩
 case h_3 cc a b hop =>
  split at h
  ·rename_i t hcc
   refine⟨_,h,fun rd' ob' hrd ho=>b9 hnd fun g ac hg ht=>?_⟩
   have h1:=hrel ht (hrd cc (by simp[hop,Op.operands]))
   have h2:=hrel ht (hrd a (by simp[hop,Op.operands]))
   have h3:=hrel ht (hrd b (by simp[hop,Op.operands]))
   rw[hcc]at h1
   generalize hv:ac.eval cc=v at h1
   cases h1
   cases t
   ·exact⟨ac.eval b,by simp[execOp,hop,hv,asBool,Sem.run_bind],by simpa using h3⟩
   ·exact⟨ac.eval a,by simp[execOp,hop,hv,asBool,Sem.run_bind],by simpa using h2⟩
  ·exact h.elim
 case h_4 t hop =>
  split at h
  ·rename_i z hz
   refine⟨_,h,fun rd' ob' hrd ho=>kB hnd fun g a hg ht hi=>?_⟩
   obtain⟨zv,hz1,hz2,hz3,hz4,_⟩:=sH hz
   obtain⟨g',a1,a2,a3,a4,a5⟩:=a5f hg i hi z zv.cells t hz2 hz4 (hz3 g) g.w rfl rfl Tp.rfl rfl
   refine⟨_,g',?_,a2,a3,a4,a5⟩
   rw[a1]
   simp[execOp,hop,Instr.alloc,Sem.run_bind,hz1,newVar,newRow]
  ·exact h.elim
 case h_5 t x hop =>
  obtain⟨hsol,h⟩:=h
  refine⟨_,h,fun rd' ob' hrd ho=>kB hnd fun g a hg ht hi=>?_⟩
  have h1:=hrel ht (hrd x (by simp[hop,Op.operands]))
  obtain⟨c1,c2,c3⟩:=h1.cells hsol
  obtain⟨g',a1,a2,a3,a4,a5⟩:=a5f hg i hi _ (a.eval x).cells t c1 c3 c2 g.w rfl rfl Tp.rfl rfl
  refine⟨_,g',?_,a2,a3,a4,a5⟩
  rw[a1]
  simp[execOp,hop,Instr.box,Sem.run_bind,newVar,newRow]
 case h_6 t ps hop =>
  obtain⟨x,hx,hr⟩:=b4n h
  refine⟨_,hx,fun rd' ob' hrd ho=>b9 hnd fun g a hg ht=>?_⟩
  obtain⟨v,hv1,hv2⟩:=hr g (ps.map fun p=>(p.1,a.eval p.2)) ⟨by simp,fun i h1 h2=>by
   have hi:i<ps.size:=by simpa using h1
   simp only[List.getElem_map,Array.getElem_toList,Array.getElem_map,true_and]
   exact hrel ht (hrd _ (by simp only[hop,Op.operands,Array.mem_toList_iff,List.mem_toArray,List.mem_map];exact⟨ps[i],by simp,rfl⟩))⟩
  exact⟨v,by simp[execOp,hop,Sem.run_bind,hv1],hv2⟩
 case h_7 t n ps hop =>
  obtain⟨e,he,her,hr⟩:=c1r h
  refine⟨_,he,fun rd' ob' hrd ho=>kB hnd fun g a hg ht hi=>?_⟩
  obtain⟨r,g',a1,a2,a3,a4,a5⟩:=hr ob' g (ps.map fun p=>(p.1,a.eval p.2)) hg ⟨by simp,fun i h1 h2=>by
   have hi:i<ps.size:=by simpa using h1
   simp only[List.getElem_map,Array.getElem_toList,Array.getElem_map,true_and]
   exact hrel ht (hrd _ (by simp only[hop,Op.operands,Array.mem_toList_iff,List.mem_toArray,List.mem_map];exact⟨ps[i],by simp,rfl⟩))⟩ hi
  exact⟨r,g',by simp[execOp,hop,Sem.run_bind,a1],a2,a3,a4,a5⟩
 case h_8 t x hop =>
  split at h
  ·rename_i ag s ha hs
   obtain⟨e,he,heo,hr⟩:=a3o (c:=c) (g:=⟨default,fun _=>False,fun _=>False,fun _=>0,fun _=>⟨none,0,0,0⟩,fun _=>0⟩) (v:=undef) ha hs h.1 h.2
   refine⟨_,he,fun rd' ob' hrd ho=>?_⟩
   obtain⟨ev,eo,er⟩:=e
   obtain rfl:eo=[]:=heo
   refine b9 hnd fun g a hg ht=>?_
   obtain⟨u,hu1,hu2⟩:=hr ob' ho g _ hg (hrel ht (hrd x (by simp[hop,Op.operands])))
   exact⟨u,by simp[execOp,hop,Sem.run_bind,hu1],hu2⟩
  ·exact h.elim
 case h_9 t x y hop =>
  split at h
  ·rename_i s hs
   obtain⟨e,he,hev,hr⟩:=b2i (c:=c) hs h
   refine⟨_,he,fun rd' ob' hrd ho=>?_⟩
   obtain⟨ev,eo,er⟩:=e
   obtain rfl:ev=.any:=hev
   refine wT hnd fun g a hg ht=>?_
   obtain⟨g',a1,a2,a3,a4⟩:=hr ob' ho g _ _ hg (hrel ht (hrd x (by simp[hop,Op.operands]))) (hrel ht (hrd y (by simp[hop,Op.operands])))
   exact⟨g',by simp[execOp,hop,Sem.run_bind,a1],a2,a3,a4⟩
  ·exact h.elim
 case h_10 x hop =>
  unfold tJ at h
  have pass:∀ g:Gh,∀ a:Act,(∀ v,a.eval x=v→(∃ p,v=.pointer (some p))∨(∃ f cs,v=.func (.func f) #[] cs))→(execOp a.eval o).run c.P g.w=.ok (.value (a.eval x)) g.w:=by
   intro g a hv
   rcases hv _ rfl with⟨p,hp⟩|⟨f,cs,hp⟩<;>simp[execOp,hop,hp]
  split at h
  ·rename_i cs hx
   refine⟨_,h,fun rd' ob' hrd ho=>b9 hnd fun g a hg ht=>?_⟩
   have h1:=hrel ht (hrd x (by simp[hop,Op.operands]))
   rw[hx]at h1
   refine⟨_,pass g a fun v hv=>?_,h1⟩
   obtain⟨b,p,hp,_⟩:=uJ h1
   exact .inl ⟨_,hv.symm.trans hp⟩
  ·rename_i l p hx
   refine⟨_,h,fun rd' ob' hrd ho=>b9 hnd fun g a hg ht=>?_⟩
   have h1:=hrel ht (hrd x (by simp[hop,Op.operands]))
   rw[hx]at h1
   refine⟨_,pass g a fun v hv=>?_,h1⟩
   rw[hv]at h1
   cases h1
   exact .inl ⟨_,rfl⟩
  ·rename_i l p q m hx
   refine⟨_,h.2,fun rd' ob' hrd ho=>b9 hnd fun g a hg ht=>?_⟩
   have h1:=hrel ht (hrd x (by simp[hop,Op.operands]))
   rw[hx]at h1
   refine⟨_,pass g a fun v hv=>?_,h1⟩
   rw[hv]at h1
   cases h1 with
   | vp _ _ _ _ _ hu hm hc hv =>
    obtain⟨b,_,rfl⟩:=hv (xG hg h.1 (ho l (by simp)))
    exact .inl ⟨_,rfl⟩
  ·rename_i f caps hx
   refine⟨_,h,fun rd' ob' hrd ho=>b9 hnd fun g a hg ht=>?_⟩
   have h1:=hrel ht (hrd x (by simp[hop,Op.operands]))
   rw[hx]at h1
   refine⟨_,pass g a fun v hv=>?_,h1⟩
   rw[hv]at h1
   cases h1
   exact .inr ⟨_,_,rfl⟩
  ·exact h.elim
 case h_11 op t x y yt hop =>
  obtain⟨r,hr,hh⟩:=b9d h
  refine⟨_,hr,fun rd' ob' hrd ho=>b9 hnd fun g a hg ht=>?_⟩
  obtain⟨w,hw1,hw2⟩:=hh g _ _ x y (hrel ht (hrd x (by simp[hop,Op.operands]))) (hrel ht (hrd y (by simp[hop,Op.operands])))
  exact⟨w,by simp only[execOp,hop];rw[Sem.run_bind,hw1];rfl,hw2⟩
 case h_12 op t x hop =>
  unfold unV at h
  split at h
  ·rename_i b hx
   refine⟨_,h,fun rd' ob' hrd ho=>b9 hnd fun g a hg ht=>?_⟩
   have h1:=hrel ht (hrd x (by simp[hop,Op.operands]))
   rw[hx]at h1
   generalize hv:a.eval x=v at h1
   cases h1
   exact⟨_,by simp[execOp,hop,hv,Op.unary,Sem.run_bind],.lit _⟩
  ·rename_i k n hx
   refine⟨_,h,fun rd' ob' hrd ho=>b9 hnd fun g a hg ht=>?_⟩
   have h1:=hrel ht (hrd x (by simp[hop,Op.operands]))
   rw[hx]at h1
   generalize hv:a.eval x=v at h1
   cases h1
   exact⟨_,by simp[execOp,hop,hv,Op.unary,Op.intArith,Sem.run_bind],.lit _⟩
  ·rename_i k n hx
   obtain⟨hk,h⟩:=h
   refine⟨_,h,fun rd' ob' hrd ho=>b9 hnd fun g a hg ht=>?_⟩
   have h1:=hrel ht (hrd x (by simp[hop,Op.operands]))
   rw[hx]at h1
   generalize hv:a.eval x=v at h1
   cases h1
   exact⟨_,by simp[execOp,hop,hv,Op.unary,Op.intBits,hk,Sem.run_bind],.lit _⟩
  ·exact h.elim
 case h_13 s d x hop =>
  obtain⟨e,he,heo,hr⟩:=b8w h
  obtain⟨ev,eo,er⟩:=e
  obtain rfl:eo=[]:=heo
  refine⟨_,he,fun rd' ob' hrd ho=>b9 hnd fun g a hg ht=>?_⟩
  obtain⟨u,hu1,hu2⟩:=hr ob' ho g _ hg (hrel ht (hrd x (by simp[hop,Op.operands])))
  exact⟨u,by simp[execOp,hop,Sem.run_bind,hu1],hu2⟩
 case h_14 f first caps hop =>
  obtain⟨rfl,h⟩:=h
  refine⟨_,h,fun rd' ob' hrd ho=>b9 hnd fun g a hg ht=>⟨.func (.func f) #[] (caps.map a.eval),by simp[execOp,hop,Instr.makeFunc],?_⟩⟩
  refine .clo f _ _ (by simp) fun i h1 h2=>?_
  have hi:i<caps.size:=by simpa using h2
  simp only[List.getElem_map,Array.getElem_toList,Array.getElem_map]
  exact hrel ht (hrd _ (by simp[hop,Op.operands]))
 case h_15 t l cp hop =>
  obtain⟨e,he,her,hr⟩:=b7g (c:=c) (ob:=ob) h
  refine⟨_,he,fun rd' ob' hrd ho=>kB hnd fun g a hg ht hi=>?_⟩
  obtain⟨r,g',a1,a2,a3,a4,a5⟩:=hr ob' g _ _ hg (hrel ht (hrd l (by simp[hop,Op.operands]))) (hrel ht (hrd cp (by simp[hop,Op.operands]))) hi
  exact⟨r,g',by simp[execOp,hop,Sem.run_bind,a1],a2,a3,a4,a5⟩
 case h_16 t x lo hi mx hop =>
  obtain⟨hmx,h⟩:=h
  obtain⟨e,he,heo,hr⟩:=b2m h
  obtain⟨ev,eo,er⟩:=e
  obtain rfl:eo=[]:=heo
  obtain rfl:mx=none:=by simpa using hmx
  refine⟨_,he,fun rd' ob' hrd ho=>b9 hnd fun g a hg ht=>?_⟩
  have hopt:∀ y:Option Operand,(∀ z,y=some z→z∈o.op.operands)→RelO g (y.map (rdO rd)) (y.map a.eval):=by
   intro y hy
   cases y with
   | none=>exact .inl ⟨rfl,rfl⟩
   | some z=>exact .inr ⟨_,_,rfl,rfl,hrel ht (hrd z (hy z rfl))⟩
  obtain⟨u,hu1,hu2⟩:=hr ob' ho g _ _ _ hg (hrel ht (hrd x (by simp[hop,Op.operands]))) (hopt lo (by rintro z rfl;simp[hop,Op.operands])) (hopt hi (by rintro z rfl;simp[hop,Op.operands]))
  exact⟨u,by simp[execOp,hop,Sem.run_bind,hu1],hu2⟩
 case h_17 t x f hop =>
  unfold faV at h
  split at h
  ·rename_i fo s b hfd
   obtain⟨hs,h⟩:=h
   split at h
   ·rename_i l p q m hx
    obtain⟨hm,h⟩:=h
    obtain⟨y,hy,hr⟩:=a0b hfd hs h
    refine⟨_,hy,fun rd' ob' hrd ho=>b9 hnd fun g a hg ht=>?_⟩
    obtain⟨u,hu1,hu2⟩:=hr g _ (hrel ht (hrd x (by simp[hop,Op.operands]))) (fun l' p' q' m' e=>by
     rw[hx]at e
     injection e with e1 e2 e3 e4
     subst e1;subst e4
     exact xG hg hm (ho l (by simp)))
    exact⟨u,by simp[execOp,hop,Sem.run_bind,hu1],hu2⟩
   ·rename_i hx
    obtain⟨y,hy,hr⟩:=a0b hfd hs h
    refine⟨_,hy,fun rd' ob' hrd ho=>b9 hnd fun g a hg ht=>?_⟩
    obtain⟨u,hu1,hu2⟩:=hr g _ (hrel ht (hrd x (by simp[hop,Op.operands]))) (fun l' p' q' m' e=>absurd e (hx l' p' q' m'))
    exact⟨u,by simp[execOp,hop,Sem.run_bind,hu1],hu2⟩
  ·exact h.elim
 case h_18 t x f hop =>
  obtain⟨y,hy,hr⟩:=b4c h
  refine⟨_,hy,fun rd' ob' hrd ho=>b9 hnd fun g a hg ht=>?_⟩
  obtain⟨u,hu1,hu2⟩:=hr g _ (hrel ht (hrd x (by simp[hop,Op.operands])))
  exact⟨u,by simp[execOp,hop,Sem.run_bind,hu1],hu2⟩
 case h_19 t x ix hop =>
  obtain⟨e,he,heo,hr⟩:=a9l h
  obtain⟨ev,eo,er⟩:=e
  obtain rfl:eo=[]:=heo
  refine⟨_,he,fun rd' ob' hrd ho=>b9 hnd fun g a hg ht=>?_⟩
  obtain⟨u,hu1,hu2⟩:=hr ob' ho g _ _ hg (hrel ht (hrd x (by simp[hop,Op.operands]))) (hrel ht (hrd ix (by simp[hop,Op.operands])))
  exact⟨u,by simp[execOp,hop,Sem.run_bind,hu1],hu2⟩
 case h_20 t x ix hop =>
  obtain⟨y,hy,hr⟩:=b3t h
  refine⟨_,hy,fun rd' ob' hrd ho=>b9 hnd fun g a hg ht=>?_⟩
  obtain⟨u,hu1,hu2⟩:=hr g _ _ (hrel ht (hrd x (by simp[hop,Op.operands]))) (hrel ht (hrd ix (by simp[hop,Op.operands])))
  exact⟨u,by simp[execOp,hop,Sem.run_bind,hu1],hu2⟩
 case h_21 x n hop =>
  obtain⟨y,hy,hr⟩:=b0f (P:=c.P) h
  refine⟨_,hy,fun rd' ob' hrd ho=>b9 hnd fun g a hg ht=>?_⟩
  obtain⟨u,hu1,hu2⟩:=hr g _ (hrel ht (hrd x (by simp[hop,Op.operands])))
  exact⟨u,by simp[execOp,hop,Sem.run_bind,hu1],hu2⟩
 case h_22 t r hop =>
  obtain⟨hr,h⟩:=h
  obtain rfl:r=none:=by simpa using hr
  refine⟨_,h,fun rd' ob' hrd ho=>kB hnd fun g a hg ht hi=>?_⟩
  obtain⟨g',a1,a2,a3,a4,a5⟩:=c1i hg i hi g.w rfl rfl Tp.rfl rfl
  refine⟨_,g',?_,a2,a3,a4,a5⟩
  rw[a1]
  simp[execOp,hop,Instr.makeMap,Sem.run_bind]
 case h_23 t x ix ok hop =>
  obtain⟨e,he,heo,hr⟩:=b1g h
  obtain⟨ev,eo,er⟩:=e
  obtain rfl:eo=[]:=heo
  refine⟨_,he,fun rd' ob' hrd ho=>b9 hnd fun g a hg ht=>?_⟩
  obtain⟨u,hu1,hu2⟩:=hr ob' ho g _ _ hg (hrel ht (hrd x (by simp[hop,Op.operands]))) (hrel ht (hrd ix (by simp[hop,Op.operands])))
  exact⟨u,by simp[execOp,hop,Sem.run_bind,hu1],hu2⟩
 case h_24 t x ix y hop =>
  obtain⟨e,he,hev,hr⟩:=b7a h
  obtain⟨ev,eo,er⟩:=e
  obtain rfl:ev=.any:=hev
  refine⟨_,he,fun rd' ob' hrd ho=>wT hnd fun g a hg ht=>?_⟩
  obtain⟨g',a1,a2,a3,a4⟩:=hr ob' ho g _ _ _ hg (hrel ht (hrd x (by simp[hop,Op.operands]))) (hrel ht (hrd ix (by simp[hop,Op.operands]))) (hrel ht (hrd y (by simp[hop,Op.operands])))
  exact⟨g',by simp[execOp,hop,Sem.run_bind,a1],a2,a3,a4⟩
 case h_25 cl hop =>
  split at h
  ·rename_i hcal
   split at h
   ·rename_i t x ht0 hx0
    obtain⟨e,he,heo,hr⟩:=c1t h
    obtain⟨ev,eo,er⟩:=e
    obtain rfl:eo=[]:=heo
    have hx1:cl.args=#[x]:=by apply Array.ext';simpa using hx0
    have ht1:cl.argTypes=#[t]:=by apply Array.ext';simpa using ht0
    refine⟨_,he,fun rd' ob' hrd ho=>b9 hnd fun g a hg ht=>?_⟩
    obtain⟨u,hu1,hu2⟩:=hr ob' ho g _ o.type hg (hrel ht (hrd x (by simp[hop,Op.operands,Call.operands,hx1])))
    exact⟨u,by simp[execOp,hop,resolve,hcal,hx1,ht1,invoke,builtin,Sem.run_bind,hu1],hu2⟩
   ·exact h.elim
  ·rename_i hcal
   split at h
   ·rename_i t t' x y ht0 hx0
    obtain⟨rfl,h⟩:=h
    obtain⟨e,he,hr⟩:=c2s h
    have hx1:cl.args=#[x,y]:=by apply Array.ext';simpa using hx0
    have ht1:cl.argTypes=#[t,t]:=by apply Array.ext';simpa using ht0
    refine⟨_,he,fun rd' ob' hrd ho=>kB hnd fun g a hg ht hi=>?_⟩
    obtain⟨r,g',a1,a2,a3,a4,a5⟩:=hr ob' ho g _ _ o.type hg (hrel ht (hrd x (by simp[hop,Op.operands,Call.operands,hx1]))) (hrel ht (hrd y (by simp[hop,Op.operands,Call.operands,hx1]))) hi
    exact⟨r,g',by simp[execOp,hop,resolve,hcal,hx1,ht1,invoke,builtin,Sem.run_bind,a1],a2,a3,a4,a5⟩
   ·exact h.elim
  ·rename_i hcal
   split at h
   ·rename_i x y hx0
    have hx1:cl.args=#[x,y]:=by apply Array.ext';simpa using hx0
    unfold mmV at h
    split at h
    ·rename_i k a k' b hxa hyb
     simp only[if_true]at h
     refine⟨_,h,fun rd' ob' hrd ho=>b9 hnd fun g ac hg ht=>?_⟩
     have h1:=hrel ht (hrd x (by simp[hop,Op.operands,Call.operands,hx1]))
     have h2:=hrel ht (hrd y (by simp[hop,Op.operands,Call.operands,hx1]))
     rw[hxa]at h1
     rw[hyb]at h2
     generalize hv:ac.eval x=v at h1
     generalize hw:ac.eval y=w at h2
     cases h1
     cases h2
     exact⟨_,by simp[execOp,hop,resolve,hcal,hx1,invoke,builtin,Builtin.max_,Builtin.max2,Sem.run_bind,hv,hw],.lit _⟩
    ·exact h.elim
   ·exact h.elim
  ·rename_i hcal
   split at h
   ·rename_i x y hx0
    have hx1:cl.args=#[x,y]:=by apply Array.ext';simpa using hx0
    unfold mmV at h
    split at h
    ·rename_i k a k' b hxa hyb
     simp only[Bool.false_eq_true,if_false]at h
     refine⟨_,h,fun rd' ob' hrd ho=>b9 hnd fun g ac hg ht=>?_⟩
     have h1:=hrel ht (hrd x (by simp[hop,Op.operands,Call.operands,hx1]))
     have h2:=hrel ht (hrd y (by simp[hop,Op.operands,Call.operands,hx1]))
     rw[hxa]at h1
     rw[hyb]at h2
     generalize hv:ac.eval x=v at h1
     generalize hw:ac.eval y=w at h2
     cases h1
     cases h2
     exact⟨_,by simp[execOp,hop,resolve,hcal,hx1,invoke,builtin,Builtin.min_,Builtin.min2,Sem.run_bind,hv,hw],.lit _⟩
    ·exact h.elim
   ·exact h.elim
  ·rename_i f hcal
   split at h
   ·rename_i fn caps hf
    have rels : ∀ {rd' : Nat → AV} {g : Gh} {a : Act}, (∀ x ∈ o.op.operands, rdO rd' x = rdO rd x) → TOk g rd' a →
      ∃ cs:Array Value,a.eval f=.func (.func fn) #[] cs∧RelL g (cl.args.toList.map (rdO rd)++caps) ((cl.args.map a.eval).toList++cs.toList):=by
     intro rd' g a hrd ht
     have h1:=hrel ht (hrd f (by simp[hop,Op.operands,Call.operands,hcal]))
     rw[hf]at h1
     generalize hv:a.eval f=v at h1
     cases h1 with
     | clo _ _ cs hs hh =>
      refine⟨cs,rfl,by simp[hs],fun i i1 i2=>?_⟩
      by_cases hc:i<cl.args.size
      ·rw[List.getElem_append_left (by simpa using hc),List.getElem_append_left (by simpa using hc)]
       simp only[List.getElem_map,Array.getElem_toList,Array.getElem_map]
       exact hrel ht (hrd _ (by simp[hop,Op.operands,Call.operands,hcal]))
      ·rw[List.getElem_append_right (by simpa using hc),List.getElem_append_right (by simpa using hc)]
       simp only[Array.getElem_toList]
       simp at i1 i2
       have:=hh (i - cl.args.size) (by omega) (by omega)
       simpa using this
    have hexec : ∀ (a : Act) (cs : Array Value) (w : World), a.eval f = .func (.func fn) #[] cs → fnT c.P fn = true →
      (execOp a.eval o).run c.P w=.ok (.enter fn ((cl.args.map a.eval).toList++cs.toList).toArray) w:=by
     intro a cs w hv hfn
     have:=a0h hfn (cl.args.map a.eval++cs) w
     simp[execOp,hop,resolve,hcal,hv,Deferred.ofValue,invoke,Sem.run_bind,this]
    rcases h with h|h|(h|h)|h
    ·obtain⟨e,he,hfn,hr⟩:=b4k h
     refine⟨_,he,fun rd' ob' hrd ho g a hg ht hi=>?_⟩
     obtain⟨cs,hv,hrl⟩:=rels hrd ht
     refine rM hnd (hexec a cs g.w hv hfn) ((hr ob' ho g _ hg hrl).mono ?_)
     rintro e' w' ⟨v,g',rfl,rfl,a2,a3,a4,a5⟩
     exact⟨v,g',rfl,rfl,a2,a3,a4,fun l hl=>.inl (a5 l hl)⟩
    ·obtain⟨e,⟨hlive,he⟩,hfn,hr⟩:=b4j h
     refine⟨_,he,fun rd' ob' hrd ho g a hg ht hi=>?_⟩
     obtain⟨cs,hv,hrl⟩:=rels hrd ht
     refine rM hnd (hexec a cs g.w hv hfn) ((hr ob' ho g _ hg hrl (fun l hl=>?_)).mono ?_)
     ·have h1:=hlive l hl
      have h2:=hg.obj l
      rw[ho l hl]at h2
      generalize ob l=x at h1 h2
      cases x<;>first|exact h2.1|(simp[AV.live]at h1)
     ·rintro e' w' ⟨v,g',rfl,rfl,a2,a3,a4,a5⟩
      exact⟨v,g',rfl,rfl,a2,a3,a4,fun l hl=>.inl (a5 l hl)⟩
    ·obtain⟨e,he,hfn,hr⟩:=b4i h
     refine⟨_,he,fun rd' ob' hrd ho g a hg ht hi=>?_⟩
     obtain⟨cs,hv,hrl⟩:=rels hrd ht
     refine rM hnd (hexec a cs g.w hv hfn) ((hr ob' ho g _ hg hrl hi).mono ?_)
     rintro e' w' ⟨v,g',rfl,rfl,a2,a3,a4,a5⟩
     exact⟨v,g',rfl,rfl,a2,a3,a4,a5⟩
    ·obtain⟨e,he,hfn,hr⟩:=b4g h
     refine⟨_,he,fun rd' ob' hrd ho g a hg ht hi=>?_⟩
     obtain⟨cs,hv,hrl⟩:=rels hrd ht
     refine rM hnd (hexec a cs g.w hv hfn) ((hr ob' g _ hg hrl hi).mono ?_)
     rintro e' w' ⟨v,g',rfl,rfl,a2,a3,a4,a5⟩
     exact⟨v,g',rfl,rfl,a2,a3,a4,a5⟩
    ·obtain⟨e,he,hfn,hr⟩:=b4h h
     refine⟨_,he,fun rd' ob' hrd ho g a hg ht hi=>?_⟩
     obtain⟨cs,hv,hrl⟩:=rels hrd ht
     refine rM hnd (hexec a cs g.w hv hfn) ((hr ob' ho g _ hg hrl).mono ?_)
     rintro e' w' ⟨v,g',rfl,rfl,a2,a3,a4,a5⟩
     exact⟨v,g',rfl,rfl,a2,a3,a4,fun l hl=>.inl (a5 l hl)⟩
   ·rename_i L x y hf
    obtain⟨rfl,rfl,h⟩:=h
    obtain⟨e,⟨hlive,he⟩,hr⟩:=b4f h
    refine⟨_,he,fun rd' ob' hrd ho g a hg ht hi=>?_⟩
    have hv:a.eval f=.func (.yield L) #[] #[]:=by
     have h1:=hrel ht (hrd f (by simp[hop,Op.operands,Call.operands,hcal]))
     rw[hf]at h1
     generalize a.eval f=v at h1
     cases h1
     rfl
    have hrl:RelL g (cl.args.toList.map (rdO rd)) (cl.args.map a.eval).toList:=⟨by simp,fun i i1 i2=>by
     have hc:i<cl.args.size:=by simpa using i1
     simp only[List.getElem_map,Array.getElem_toList,Array.getElem_map]
     exact hrel ht (hrd _ (by simp[hop,Op.operands,Call.operands,hcal]))⟩
    obtain⟨f',tm,asg,body,hy,hrd'⟩:=hr ob' ho g _ hg hrl (fun l hl=>by
     have h1:=hlive l hl
     have h2:=hg.obj l
     rw[ho l hl]at h2
     generalize ob l=x at h1 h2
     cases x<;>first|exact h2.1|(simp[AV.live]at h1))
    have hexec:(execOp a.eval o).run c.P g.w=.ok (.round L f' tm asg body) g.w:=by
     have e1:(cl.args.map a.eval).toList.toArray=cl.args.map a.eval:=Array.toArray_toList
     rw[e1]at hy
     simp only[execOp,hop,resolve,hcal,hv,Deferred.ofValue,invoke,Sem.run_bind]
     simp[hy]
    refine b0s hnd hexec (hrd'.mono ?_)
    rintro e' w' ⟨v,g',rfl,rfl,a2,a3,a4,a5⟩
    exact⟨v,g',rfl,rfl,a2,a3,a4,fun l hl=>.inl (a5 l hl)⟩
   ·exact h.elim
  ·exact h.elim
 case h_26 t x ix hop =>
  obtain⟨e,he,hr⟩:=b7c h
  refine⟨e,he,fun rd' ob' hrd ho=>kB hnd fun g a hg ht hi=>?_⟩
  obtain⟨u,g',a1,a2,a3,a4,a5⟩:=hr ob' ho g _ _ hg (hrel ht (hrd x (by simp[hop,Op.operands]))) (hrel ht (hrd ix (by simp[hop,Op.operands])))
  exact⟨u,g',by simp[execOp,hop,Sem.run_bind,a1],a2,a3,a4,fun l hl=>.inl (a5 l hl)⟩
 case h_27 t x s y hop =>
  obtain⟨e,he,hev,hr⟩:=c2e (t:=t) h
  obtain⟨ev,eo,er⟩:=e
  obtain rfl:ev=.any:=hev
  refine⟨_,he,fun rd' ob' hrd ho=>wT hnd fun g a hg ht=>?_⟩
  obtain⟨g',a1,a2,a3,a4⟩:=hr ob' ho g _ _ _ hg (hrel ht (hrd x (by simp[hop,Op.operands]))) (hrel ht (hrd s (by simp[hop,Op.operands]))) (hrel ht (hrd y (by simp[hop,Op.operands])))
  exact⟨g',by simp[execOp,hop,Sem.run_bind,a1],a2,a3,a4⟩
 case h_28 t x hop =>
  obtain⟨e,he,hr⟩:=c0s h
  refine⟨e,he,fun rd' ob' hrd ho=>kB hnd fun g a hg ht hi=>?_⟩
  obtain⟨u,g',a1,a2,a3,a4,a5⟩:=hr ob' ho g _ hg hi (hrel ht (hrd x (by simp[hop,Op.operands])))
  exact⟨u,g',by simp[execOp,hop,Sem.run_bind,a1],a2,a3,a4,a5⟩
 case h_29 x hop =>
  obtain⟨e,he,heo,hr⟩:=c2i h
  obtain⟨ev,eo,er⟩:=e
  obtain rfl:eo=[]:=heo
  refine⟨_,he,fun rd' ob' hrd ho=>b9 hnd fun g a hg ht=>?_⟩
  obtain⟨u,hu1,hu2⟩:=hr ob' ho g _ hg (hrel ht (hrd x (by simp[hop,Op.operands])))
  exact⟨u,by simp[execOp,hop,Sem.run_bind,hu1],hu2⟩
 case h_30=>exact h.elim
end Go.Sx
