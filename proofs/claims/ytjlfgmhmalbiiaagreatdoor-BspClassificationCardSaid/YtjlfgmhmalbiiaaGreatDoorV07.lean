import Derived.Orders
import Derived.Test.YtjlfgmhmalbiiaaGreatDoorV06
set_option linter.all false
namespace Go.Sx
set_option linter.unusedVariables false
set_option linter.unusedSimpArgs false
structure AS where
 t:List (Nat × AV)
 o:List (Nat × AV)
 nx:Nat
def look:List (Nat × AV)→Nat→AV
 | [],_=>.any
 | (i,a)::r,l=>if i=l then a else look r l
theorem wY (e s:List (Nat × AV)):look (e++s)=upd (look s) e:=by
 funext l
 induction e with
 | nil=>rfl
 | cons p e ih=>obtain⟨i,a⟩:=p;simp only[List.cons_append,look,upd,ih]
def AS.step (S:AS) (dst:Option Nat) (e:Eff):AS :=
 { t:=match dst with|some d=>(d,e.val)::S.t|none=>S.t,o:=e.ob++S.o,nx:=S.nx }
structure Foot where
 tr:List Nat
 tw:List Nat
 rd:List Nat
 ow:List Nat
def nO:List Operand→List Nat
 | []=>[]
 | .tmp t::r=>t::nO r
 | _::r=>nO r
def qG (ops:List Oper) (o:Oper):Option (Nat × Bool) :=
 match o.guard with
 | none=>none
 | some (j,want)=>match (ops[j]?).bind (·.dst)with
  | some d=>some (d,want)
  | none=>none
def tG (ops:List Oper) (o:Oper):List Nat:=match qG ops o with|some (d,_)=>[d]|none=>[]
def eA (ops:List Oper) (o:Oper) (i:Nat) (e:Eff):Foot :=
 { tr:=nO o.op.operands.toList++tG ops o,tw:=o.dst.toList,rd:=e.rd,ow:=i::e.ob.map (·.1) }
def iQ (b want:Bool) (X Y:Prop):Prop:=(b=want→X)∧(b≠want→Y)
def aQ (P:Program) (nt:Nat) (ops:List Oper) (o:Oper) (i:Nat) (S:AS) (K:AS→Eff→Prop):Prop :=
 (∀ d∈o.dst.toList,d<nt) ∧
 match o.guard with
 | none=>aO P o.op i (rdO (look S.t)) (look S.o) fun e=>K (S.step o.dst e) e
 | some _=>match qG ops o with
  | some (d,want)=>match look S.t d with
   | .lit (.bool b)=>iQ b want (aO P o.op i (rdO (look S.t)) (look S.o) fun e=>K (S.step o.dst e) e) (K (S.step o.dst ⟨.tup [],[],[]⟩) ⟨.tup [],[],[]⟩)
   | .tup _=>K (S.step o.dst ⟨.tup [],[],[]⟩) ⟨.tup [],[],[]⟩
   | _=>False
  | none=>False
def aN (P:Program) (nt:Nat) (ops:List Oper):List Oper→Nat→AS→List Foot→(AS→List Foot→Prop)→Prop
 | [],_,S,fs,K=>K S fs
 | o::rest,i,S,fs,K=>aQ P nt ops o (S.nx+i) S fun S' e=>aN P nt ops rest (i+1) S' (fs++[eA ops o (S.nx+i) e]) K
def RoOk (c:Cx):Prop:=∀ l,c.ro=some l→l<c.w0.heap.size∧¬ c.W0 l∧∃ r,c.w0.heap[l]?=some (.loop r)
def Sz (c:Cx) (nt:Nat) (a:Act):Prop:=a.tmps.size=nt∧a.defers=c.ds∧RoOk c
def Sim (c:Cx) (nt:Nat) (S:AS) (a:Act) (w:World):Prop :=
 ∃ g,g.w=w∧GOk c g (look S.o)∧TOk g (look S.t) a∧Sz c nt a∧(∀ l,g.us l→l<S.nx)∧Lnk c g∧8≤S.nx
def vX (c:Cx) (nt:Nat) (ops:Array Oper) (o:Oper) (i:Nat) (rd ob:Nat→AV) (f:Foot) (e:Eff):Prop :=
 ∀ rd' ob',(∀ t∈f.tr,rd' t=rd t)→(∀ l∈f.rd,ob' l=ob l)→∀ g a,GOk c g ob'→TOk g rd' a→a.tmps.size=nt→¬ g.us i →
  (if Region.wanted o (yielded ops a.tmps)then o.wpIn (Fw c.ro) 0 c.P a g.w (fun a' w'=>∃ v g',a'=a.put o.dst v∧g'.w=w'∧Ev g g'∧GOk c g' (upd ob' e.ob)∧Rel g' e.val v∧∀ l,g'.us l→g.us l∨l=i) (fun _ _ _=>False)
   else Rel g e.val undef∧e.ob=[])
theorem b1f {xs:List Operand} {t:Nat} (h:.tmp t∈xs):t∈nO xs:=by
 induction xs with
 | nil=>simp at h
 | cons x xs ih =>
  simp only[List.mem_cons]at h
  rcases h with h|h
  ·subst h;simp[nO]
  ·cases x<;>simp[nO,ih h]
theorem a2e {rd rd':Nat→AV} {xs:List Operand} (h:∀ t∈nO xs,rd' t=rd t) {x:Operand} (hx:x∈xs):rdO rd' x=rdO rd x:=by
 cases x with
 | tmp t=>exact h t (b1f hx)
 | _=>rfl
theorem c1b {c : Cx} {nt : Nat} {ops : Array Oper} {o : Oper} {i : Nat} {S : AS} {K : AS → Eff → Prop} (h : aQ c.P nt ops.toList o i S K) :
  ∃ e,K (S.step o.dst e) e∧(∀ d,o.dst=some d→d<nt)∧vX c nt ops o i (look S.t) (look S.o) (eA ops.toList o i e) e:=by
 obtain⟨hd,h⟩:=h
 have hd':∀ d,o.dst=some d→d<nt:=fun d e=>hd d (by simp[e])
 split at h
 ·rename_i hgd
  obtain⟨e,he,hs⟩:=a4a h
  refine⟨e,he,hd',fun rd' ob' h1 h2 g a hg ht hsz hi=>?_⟩
  have hw:Region.wanted o (yielded ops a.tmps)=true:=by simp[Region.wanted,hgd]
  rw[if_pos hw]
  exact hs rd' ob' (fun x hx=>a2e (fun t ht=>h1 t (by simp[eA,ht])) (Array.mem_toList_iff.2 hx)) h2 g a hg ht hi
 ·rename_i p hgd
  obtain⟨j,want0⟩:=p
  split at h
  ·rename_i d want hgs
   split at h
   ·rename_i b hb
    have hwant:∀ (rd':Nat→AV) (g:Gh) (a:Act),rd' d=look S.t d→TOk g rd' a→(yielded ops a.tmps j=some b∧want0=want):=by
     intro rd' g a hrd ht
     unfold qG at hgs
     rw[hgd]at hgs
     simp only at hgs
     split at hgs
     ·rename_i d' hd'
      simp only[Option.some.injEq,Prod.mk.injEq]at hgs
      obtain⟨rfl,rfl⟩:=hgs
      refine⟨?_,rfl⟩
      have hr:=ht.2 d'
      rw[hrd,hb]at hr
      have hdd:(ops[j]?).bind (·.dst)=some d':=by simpa using hd'
      unfold yielded
      rw[hdd]
      simp only[Option.bind_some]
      generalize hq:a.tmps.getD d' undef=q at hr
      cases hr
      rw[Array.getD_eq_getD_getElem?]at hq
      cases hz:a.tmps[d']? with
      | none=>rw[hz]at hq;simp[undef]at hq
      | some z=>rw[hz]at hq;simp only[Option.getD_some]at hq;subst hq;rfl
     ·contradiction
    have hmem:d∈(eA ops.toList o i ⟨.tup [],[],[]⟩).tr:=by simp[eA,tG,hgs]
    by_cases hbw:b=want
    ·obtain⟨e,he,hs⟩:=a4a (h.1 hbw)
     refine⟨e,he,hd',fun rd' ob' h1 h2 g a hg ht hsz hi=>?_⟩
     obtain⟨h3,h4⟩:=hwant rd' g a (h1 d (by simp[eA,tG,hgs])) ht
     have hw:Region.wanted o (yielded ops a.tmps)=true:=by simp[Region.wanted,hgd,h3,h4,hbw]
     rw[if_pos hw]
     exact hs rd' ob' (fun x hx=>a2e (fun t ht=>h1 t (by simp[eA,ht])) (Array.mem_toList_iff.2 hx)) h2 g a hg ht hi
    ·refine⟨_,h.2 hbw,hd',fun rd' ob' h1 h2 g a hg ht hsz hi=>?_⟩
     obtain⟨h3,h4⟩:=hwant rd' g a (h1 d hmem) ht
     have hw:¬ Region.wanted o (yielded ops a.tmps)=true:=by simp[Region.wanted,hgd,h3,h4,hbw]
     rw[if_neg hw]
     exact⟨.tup [] #[] rfl (fun i h=>by simp at h),rfl⟩
   ·rename_i xs hb
    refine⟨_,h,hd',fun rd' ob' h1 h2 g a hg ht hsz hi=>?_⟩
    have hrd:=h1 d (by simp[eA,tG,hgs])
    have hy:yielded ops a.tmps j=none:=by
     unfold qG at hgs
     rw[hgd]at hgs
     simp only at hgs
     split at hgs
     ·rename_i d' hd'
      simp only[Option.some.injEq,Prod.mk.injEq]at hgs
      obtain⟨rfl,rfl⟩:=hgs
      have hr:=ht.2 d'
      rw[hrd,hb]at hr
      have hdd:(ops[j]?).bind (·.dst)=some d':=by simpa using hd'
      unfold yielded
      rw[hdd]
      simp only[Option.bind_some]
      generalize hq:a.tmps.getD d' undef=q at hr
      cases hr
      rw[Array.getD_eq_getD_getElem?]at hq
      cases hz:a.tmps[d']? with
      | none=>rfl
      | some z=>rw[hz]at hq;simp only[Option.getD_some]at hq;subst hq;rfl
     ·contradiction
    have hw:¬ Region.wanted o (yielded ops a.tmps)=true:=by simp[Region.wanted,hgd,hy]
    rw[if_neg hw]
    exact⟨.tup [] #[] rfl (fun i h=>by simp at h),rfl⟩
   ·exact h.elim
  ·exact h.elim
theorem a1d {c : Cx} {nt : Nat} {ops : Array Oper} {K : AS → List Foot → Prop} : ∀ (l : List Oper) (i : Nat) (S : AS) (fs : List Foot), aN c.P nt ops.toList l i S fs K →
  ∃ (Ss:Nat→AS) (es:Nat→Eff),Ss 0=S∧K (Ss l.length) (fs++(List.range l.length).map fun k=>eA ops.toList (l.getD k default) (S.nx+i+k) (es k))∧(∀ k,(Ss k).nx=S.nx) ∧
   ∀ k (hk:k<l.length),Ss (k+1)=(Ss k).step l[k].dst (es k)∧(∀ d,l[k].dst=some d→d<nt)∧vX c nt ops l[k] (S.nx+i+k) (look (Ss k).t) (look (Ss k).o) (eA ops.toList l[k] (S.nx+i+k) (es k)) (es k):=by
 intro l
 induction l with
 | nil=>intro i S fs h;exact⟨fun _=>S,fun _=>⟨.any,[],[]⟩,rfl,by simpa [aN]using h,fun _=>rfl,fun k hk=>by simp at hk⟩
 | cons o l ih =>
  intro i S fs h
  simp only[aN]at h
  obtain⟨e,hK,hd,hs⟩:=c1b h
  obtain⟨Ss,es,h0,hk,hnx,hstep⟩:=ih _ _ _ hK
  have hnx1:(S.step o.dst e).nx=S.nx:=rfl
  refine⟨fun k=>match k with|0=>S|k+1=>Ss k,fun k=>match k with|0=>e|k+1=>es k,rfl,?_,fun k=>?_,fun k hk=>?_⟩
  ·simp only[List.length_cons]
   rw[List.range_succ_eq_map]
   simp only[List.map_cons,List.map_map]
   rw[List.append_assoc]at hk
   have:∀ k,S.nx+i+(k+1)=S.nx+(i+1)+k:=fun k=>by omega
   simp only[List.getD_cons_zero,Nat.add_zero,Function.comp_def,Nat.succ_eq_add_one,List.getD_cons_succ,this]
   simpa [hnx1]using hk
  ·cases k with
   | zero=>rfl
   | succ k=>exact (hnx k).trans hnx1
  ·cases k with
   | zero=>simp only[List.getElem_cons_zero,Nat.add_zero];exact⟨h0,hd,hs⟩
   | succ k =>
    have hk':k<l.length:=by simpa using hk
    have:=hstep k hk'
    have e1:S.nx+i+(k+1)=S.nx+(i+1)+k:=by omega
    simp only[List.getElem_cons_succ,e1]
    simpa [hnx1]using this
end Go.Sx
namespace Go.Sx
set_option linter.unusedVariables false
set_option linter.unusedSimpArgs false
theorem c3n {F:Fence} {n:Nat} {P:Program} {o:Oper} {a:Act} {w:World} {K K':Act→World→Prop} {Q:Exit→Act→World→Prop} (h:o.wpIn F n P a w K fun _ _ _=>False) (hk:∀ a w,K a w→K' a w):o.wpIn F n P a w K' Q:=by
 unfold Oper.wpIn at *
 refine⟨h.1,?_⟩
 have h:=h.2
 generalize (o.semAt F.round a.eval).run P w=r at *
 cases r with
 | ok n w' =>
  cases n<;>simp only[Oper.uponIn]at h ⊢ <;>
   first
    | exact hk _ _ h
    | exact⟨h.1,CallsIn.mono h.2 (fun e w'' he=>by cases e<;>first|exact hk _ _ he|exact he.elim|(obtain⟨_,_,h⟩:=he;exact h.elim))⟩
    | exact⟨h.1,RowsIn.mono h.2 (fun _ _ he=>hk _ _ he)⟩
    | exact⟨h.1,RoundIn.mono h.2 (fun e w'' he=>by cases e<;>first|exact hk _ _ he|exact he.elim|(obtain⟨_,_,h⟩:=he;exact h.elim))⟩
 | halt x w'=>cases x<;>simp only[Oper.uponIn]at h ⊢
def SimF (c:Cx) (nt:Nat) (rd ob:Nat→AV) (U:Nat→Prop) (a:Act) (w:World):Prop :=
 ∃ g,g.w=w∧GOk c g ob∧TOk g rd a∧Sz c nt a∧(∀ l,g.us l→U l)∧Lnk c g
theorem TOk.put {g : Gh} {rd : Nat → AV} {a : Act} {dst : Option Nat} {v : Value} {x : AV} (h : TOk g rd a) (hd : ∀ d, dst = some d → d < a.tmps.size) (hr : Rel g x v) :
  TOk g (fun t=>if dst=some t then x else rd t) (a.put dst v):=by
 refine⟨by cases dst<;>exact h.1,fun t=>?_⟩
 cases dst with
 | none=>exact h.2 t
 | some d =>
  have hlt:=hd d rfl
  simp only[Act.put,Option.some.injEq]
  by_cases ht:d=t
  ·subst ht
   rw[if_pos rfl]
   rw[Array.getD_eq_getD_getElem?,Array.getElem?_setIfInBounds_self_of_lt hlt]
   exact hr
  ·rw[if_neg ht]
   rw[Array.getD_eq_getD_getElem?,Array.getElem?_setIfInBounds_ne ht,← Array.getD_eq_getD_getElem?]
   exact h.2 t
theorem b6n (a:Act) (dst:Option Nat) (v:Value):(a.put dst v).tmps.size=a.tmps.size:=by
 cases dst<;>simp[Act.put]
theorem Sz.put {c:Cx} {nt:Nat} {a:Act} (h:Sz c nt a) (dst:Option Nat) (v:Value):Sz c nt (a.put dst v):=⟨by rw[b6n];exact h.1,by cases dst<;>exact h.2.1,h.2.2⟩
theorem wpOp_step {c : Cx} {nt : Nat} {ops : Array Oper} {o : Oper} {j i : Nat} {rd ob rd' ob' : Nat → AV} {f : Foot} {e : Eff} {U : Nat → Prop} {Q : Exit → Act → World → Prop} {K : Act → World → Prop} {a : Act} {w : World}
  (hj:ops[j]?=some o) (hs:vX c nt ops o i rd ob f e) (h1:∀ t∈f.tr,rd' t=rd t) (h2:∀ l∈f.rd,ob' l=ob l) (hd:∀ d,o.dst=some d→d<nt) (hU:¬ U i) (hsim:SimF c nt rd' ob' U a w)
  (hK:∀ a w,SimF c nt (fun t=>if o.dst=some t then e.val else rd' t) (upd ob' e.ob) (fun l=>U l∨l=i) a w→K a w):wpOpIn (Fw c.ro) 0 c.P ops Q j K a w:=by
 obtain⟨g,rfl,hg,ht,hsz,hu,hln⟩:=hsim
 have:=hs rd' ob' h1 h2 g a hg ht hsz.1 (fun h=>hU (hu _ h))
 unfold wpOpIn
 simp only[hj]
 split
 ·rename_i hw
  rw[if_pos hw]at this
  refine c3n this ?_
  rintro a' w' ⟨v,g',rfl,rfl,he,hg',hr,hu'⟩
  refine hK _ _ ⟨g',rfl,hg',(ht.mono he).put (by rw[hsz.1];exact hd) hr,hsz.put _ _,fun l hl=>?_,hln.mono he⟩
  rcases hu' l hl with h|h
  ·exact .inl (hu l h)
  ·exact .inr h
 ·rename_i hw
  rw[if_neg hw]at this
  obtain⟨hr,ho⟩:=this
  rw[ho]at hK
  exact⟨fun _ _=>trivial,hK _ _ ⟨g,rfl,hg,ht.put (by rw[hsz.1];exact hd) hr,hsz.put _ _,fun l hl=>.inl (hu l hl),hln⟩⟩
theorem wW (S:AS) (dst:Option Nat) (e:Eff):look (S.step dst e).t=fun t=>if dst=some t then e.val else look S.t t:=by
 funext t
 cases dst with
 | none=>simp[AS.step]
 | some d=>simp[AS.step,look]
theorem tY (S:AS) (dst:Option Nat) (e:Eff):look (S.step dst e).o=upd (look S.o) e.ob:=wY _ _
theorem b1a {c : Cx} {nt : Nat} {ops : Array Oper} {S : AS} {K : AS → List Foot → Prop} {Q : Exit → Act → World → Prop} {a : Act} {w : World} (h : aN c.P nt ops.toList ops.toList 0 S [] K) (hs : Sim c nt S a w)
  (hK:∀ S' fs a w,K S' fs→Sim c nt { S' with nx:=S.nx+ops.size } a w→Q .normal a w):wpOpsIn (Fw c.ro) 0 c.P ops Q (List.range ops.size) a w:=by
 obtain⟨Ss,es,h0,hk,hnx,hstep⟩:=a1d _ _ _ _ h
 have key:∀ m k,k+m=ops.size→∀ a w,SimF c nt (look (Ss k).t) (look (Ss k).o) (fun l=>l<S.nx+k) a w→wpOpsIn (Fw c.ro) 0 c.P ops Q (List.range' k m) a w:=by
  intro m
  induction m with
  | zero =>
   intro k hk' a w hsim
   simp only[List.range'_zero,wpOpsIn]
   refine hK _ _ _ _ hk ?_
   obtain⟨g,rfl,hg,ht,hsz,hu,hln⟩:=hsim
   have:ops.toList.length=k:=by simp;omega
   rw[this]
   exact⟨g,rfl,hg,ht,hsz,fun l hl=>by have:=hu l hl;simp only;omega,hln,by have:=hs.choose_spec.2.2.2.2.2.2;simp only;omega⟩
  | succ m ih =>
   intro k hk' a w hsim
   rw[List.range'_succ,wpOpsIn_cons]
   have hlt:k<ops.toList.length:=by simp;omega
   obtain⟨h1,h2,h3⟩:=hstep k hlt
   refine wpOp_step (o:=ops.toList[k]) (by simp at hlt;simp[hlt]) h3 (fun _ _=>rfl) (fun _ _=>rfl) h2 (fun h=>by omega) hsim fun a w hsim=>?_
   refine ih (k+1) (by omega) a w ?_
   obtain⟨g,rfl,hg,ht,hsz,hu,hln⟩:=hsim
   refine⟨g,rfl,?_,?_,hsz,fun l hl=>?_,hln⟩
   ·rw[h1,tY];exact hg
   ·rw[h1,wW];exact ht
   ·rcases hu l hl with h|h<;>omega
 rw[List.range_eq_range']
 refine key ops.size 0 (by omega) a w ?_
 obtain⟨g,rfl,hg,ht,hsz,hu,hln,h8⟩:=hs
 exact⟨g,rfl,by rw[h0];exact hg,by rw[h0];exact ht,hsz,fun l hl=>by have:=hu l hl;omega,hln⟩
def jG (ops:Array Oper):Nat→Nat→Nat→Bool
 | 0,_,_=>false
 | n+1,i,j=>match ops[j]? with
  | some o=>o.after.any fun e=>Region.binds .any e&&(e.on == i||jG ops n i e.on)
  | none=>false
def gV (xs ys:List Nat):Bool:=xs.any fun x=>ys.contains x
def g8 (f g:Foot):Bool:=gV f.tr g.tw||gV f.tw g.tr||gV f.tw g.tw||gV f.rd g.ow||gV f.ow g.rd||gV f.ow g.ow
def mA (ops:Array Oper) (fs:List Foot):Bool :=
 ((List.range ops.size).all fun j=>match ops[j]? with|some o=>o.after.all fun e=>!Region.binds .any e||decide (e.on<j)|none=>true) &&
 (List.range ops.size).all fun j=>(List.range j).all fun i=>match fs[i]?,fs[j]? with
  | some f,some g=>!g8 f g||jG ops ops.size i j
  | _,_=>true
theorem a0w {ops:Array Oper} {D:Nat→Prop} (hc:∀ j o,D j→ops[j]?=some o→∀ e∈o.after,Region.binds .any e=true→D e.on):∀ (n i j:Nat),jG ops n i j=true→D j→D i:=by
 intro n
 induction n with
 | zero=>intro i j h;simp[jG]at h
 | succ n ih =>
  intro i j h hj
  simp only[jG]at h
  split at h
  ·rename_i o ho
   obtain⟨e,he,hh⟩:=Array.any_eq_true'.1 h
   simp only[Bool.and_eq_true,Bool.or_eq_true,beq_iff_eq]at hh
   have hd:=hc j o hj ho e he hh.1
   rcases hh.2 with h1|h1
   ·rw[← h1];exact hd
   ·exact ih i e.on h1 hd
  ·contradiction
theorem b1p {ops : Array Oper} {D : Nat → Prop} (hc : ∀ j o, D j → ops[j]? = some o → ∀ e ∈ o.after, Region.binds .any e = true → D e.on) {n i j : Nat} (h : jG ops n i j = true) {o : Oper} (ho : ops[j]? = some o)
  (hr:∀ e∈o.after,Region.binds .any e=true→D e.on):D i:=by
 cases n with
 | zero=>simp[jG]at h
 | succ n =>
  simp only[jG,ho]at h
  obtain⟨e,he,hh⟩:=Array.any_eq_true'.1 h
  simp only[Bool.and_eq_true,Bool.or_eq_true,beq_iff_eq]at hh
  have hd:=hr e he hh.1
  rcases hh.2 with h1|h1
  ·rw[← h1];exact hd
  ·exact a0w hc n i e.on h1 hd
def cQ (W:Nat→Nat→Bool) (st:Nat→Nat→AV) (D:Nat→Bool):Nat→Nat→AV
 | 0,r=>st 0 r
 | k+1,r=>if D k&&W k r then st (k+1) r else cQ W st D k r
theorem rO {W:Nat→Nat→Bool} {st:Nat→Nat→AV} {D:Nat→Bool} {n:Nat} (hst:∀ k,k<n→∀ r,W k r=false→st (k+1) r=st k r) {r j:Nat} (h1:∀ k,k<j→W k r=true→D k=true) (hjn:j≤n):cQ W st D j r=st j r:=by
 induction j with
 | zero=>rfl
 | succ j ih =>
  simp only[cQ]
  by_cases hw:W j r=true
  ·rw[h1 j (by omega) hw,hw];rfl
  ·have hw':W j r=false:=by simpa using hw
   rw[hw',Bool.and_false,if_neg (by simp),ih (fun k hk=>h1 k (by omega)) (by omega),hst j (by omega) r hw']
theorem xC {W:Nat→Nat→Bool} {st:Nat→Nat→AV} {D:Nat→Bool} {r j:Nat}:∀ n,j≤n→(∀ k,j≤k→k<n→W k r=true→D k=false)→cQ W st D n r=cQ W st D j r:=by
 intro n
 induction n with
 | zero =>
  intro hj _
  have hj0:j=0:=by omega
  subst hj0
  rfl
 | succ n ih =>
  intro hj h
  by_cases hjn:j=n+1
  ·rw[hjn]
  ·simp only[cQ]
   have hn:(D n&&W n r)=false:=by
    cases hw:W n r
    ·simp
    ·rw[h n (by omega) (by omega) hw];rfl
   rw[hn,if_neg (by simp)]
   exact ih (by omega) fun k h1 h2=>h k h1 (by omega)
theorem a2h {W : Nat → Nat → Bool} {st : Nat → Nat → AV} {D D' : Nat → Bool} {j r : Nat} (hD : ∀ k, D' k = (D k || k == j)) : ∀ n, (∀ k, j < k → k < n → W j r = true → W k r = true → D k = false) →
  cQ W st D' n r=if j<n∧W j r=true then st (j+1) r else cQ W st D n r:=by
 intro n
 induction n with
 | zero=>intro _;simp[cQ]
 | succ n ih =>
  intro h
  simp only[cQ,hD]
  by_cases hnj:n=j
  ·subst hnj
   simp only[BEq.rfl,Bool.or_true,Bool.true_and]
   by_cases hw:W n r=true
   ·rw[if_pos hw,if_pos ⟨by omega,hw⟩]
   ·rw[if_neg hw,if_neg (fun h=>hw h.2),ih fun k h1 h2=>by omega]
    rw[if_neg (fun h=>by omega)]
    have:W n r=false:=by simpa using hw
    simp[this]
  ·have hb:(n == j)=false:=by simpa using hnj
   rw[hb,Bool.or_false]
   have ih':=ih fun k h1 h2=>h k h1 (by omega)
   by_cases hlt:j<n
   ·by_cases hw:W j r=true
    ·by_cases hwn:W n r=true
     ·have:=h n hlt (by omega) hw hwn
      rw[this,Bool.false_and,if_neg (by simp),ih',if_pos ⟨hlt,hw⟩,if_pos ⟨by omega,hw⟩]
     ·have:W n r=false:=by simpa using hwn
      rw[this,Bool.and_false,if_neg (by simp),ih',if_pos ⟨hlt,hw⟩,if_pos ⟨by omega,hw⟩]
    ·simp only[hw,and_false,if_false]at ih' ⊢
     rw[ih']
     simp
   ·have hlt2:¬ j<n+1:=by omega
    simp only[hlt,hlt2,false_and,if_false]at ih' ⊢
    rw[ih']
def left (D:Nat→Bool):Nat→Nat
 | 0=>0
 | k+1=>left D k+if D k then 0 else 1
theorem b3n {D:Nat→Bool}:∀ {n},left D n=0→∀ k,k<n→D k=true:=by
 intro n
 induction n with
 | zero=>intro _ k hk;omega
 | succ n ih =>
  intro h k hk
  simp only[left]at h
  by_cases hkn:k=n
  ·subst hkn
   by_cases hd:D k=true
   ·exact hd
   ·rw[if_neg hd]at h;omega
  ·exact ih (by omega) k (by omega)
theorem b7o {D D':Nat→Bool} {j:Nat} (hD:∀ k,D' k=(D k||k == j)) (hj:D j=false):∀ n,left D n=left D' n+if j<n then 1 else 0:=by
 intro n
 induction n with
 | zero=>simp[left]
 | succ n ih =>
  simp only[left,hD]
  by_cases hnj:n=j
  ·subst hnj
   rw[hj,ih]
   simp
  ·have hb:(n == j)=false:=by simpa using hnj
   have e:(if j<n+1 then 1 else 0)=(if j<n then 1 else 0):=by split<;>split<;>omega
   rw[hb,Bool.or_false,ih,e]
   omega
theorem b3o {D:Nat→Bool} (hD:∀ k,D k=false):∀ n,left D n=n:=by
 intro n
 induction n with
 | zero=>rfl
 | succ n ih=>simp only[left,ih,hD];simp
theorem b1e {D:Nat→Bool} (hD:∀ k,D k=false) (W:Nat→Nat→Bool) (s:Nat→Nat→AV):∀ n,cQ W s D n=s 0:=by
 intro n
 funext r
 induction n with
 | zero=>rfl
 | succ n ih=>simp only[cQ,hD,Bool.false_and,Bool.false_eq_true,if_false,ih]
theorem b1b {c : Cx} {nt : Nat} {ops : Array Oper} {S : AS} {K : AS → List Foot → Prop} {Q : Exit → Act → World → Prop} {a : Act} {w : World} (h : aN c.P nt ops.toList ops.toList 0 S [] fun S' fs => mA ops fs = true ∧ K S' fs) (hs : Sim c nt S a w)
  (hK:∀ S' fs a w,K S' fs→Sim c nt { S' with nx:=S.nx+ops.size } a w→Q .normal a w):wpAnyIn (Fw c.ro) 0 c.P .any ops Q ops.size (Array.replicate ops.size false) a w:=by
 obtain⟨Ss,es,h0,⟨hord,hk⟩,hnx,hstep⟩:=a1d _ _ _ _ h
 simp only[List.nil_append,Nat.add_zero]at hord hk
 let F:Nat→Foot:=fun k=>eA ops.toList (ops.toList.getD k default) (S.nx+k) (es k)
 have hF:∀ k,k<ops.size→((List.range ops.toList.length).map fun k=>eA ops.toList (ops.toList.getD k default) (S.nx+k) (es k))[k]?=some (F k):=fun k hk=>by
  simp[List.getElem?_map,List.getElem?_range,hk,F]
 unfold mA at hord
 rw[Bool.and_eq_true]at hord
 obtain⟨hback,hclash⟩:=hord
 have hback':∀ j o,ops[j]?=some o→∀ e∈o.after,Region.binds .any e=true→e.on<j:=by
  intro j o ho e he hb
  have hlt:j<ops.size:=(Array.getElem?_eq_some_iff.1 ho).1
  have:=List.all_eq_true.1 hback j (by simpa using hlt)
  rw[ho]at this
  have:=Array.all_eq_true'.1 this e he
  simpa [hb]using this
 have hcl:∀ i j,i<j→j<ops.size→g8 (F i) (F j)=true→jG ops ops.size i j=true:=by
  intro i j hij hj hc
  have:=List.all_eq_true.1 (List.all_eq_true.1 hclash j (by simpa using hj)) i (by simpa using hij)
  rw[hF i (by omega),hF j hj]at this
  simpa [hc]using this
 let WT:Nat→Nat→Bool:=fun k t=>(F k).tw.contains t
 let WO:Nat→Nat→Bool:=fun k l=>(F k).ow.contains l
 let st:Nat→Nat→AV:=fun k=>look (Ss k).t
 let so:Nat→Nat→AV:=fun k=>look (Ss k).o
 have hlen:ops.toList.length=ops.size:=by simp
 have hFk:∀ k (hk:k<ops.toList.length),F k=eA ops.toList ops.toList[k] (S.nx+k) (es k):=fun k hk=>by
  have hk':k<ops.size:=by omega
  simp[F,hk']
 have hst:∀ k,k<ops.size→∀ r,WT k r=false→st (k+1) r=st k r:=by
  intro k hk r hw
  have hk':k<ops.toList.length:=by omega
  obtain⟨h1,_⟩:=hstep k hk'
  simp only[st,h1,wW]
  rw[if_neg]
  intro e
  simp only[WT,hFk k hk',eA,e]at hw
  simp at hw
 have hso:∀ k,k<ops.size→∀ r,WO k r=false→so (k+1) r=so k r:=by
  intro k hk r hw
  have hk':k<ops.toList.length:=by omega
  obtain⟨h1,_⟩:=hstep k hk'
  simp only[so,h1,tY]
  refine gO fun hm=>?_
  simp only[WO,hFk k hk',eA]at hw
  simp at hw
  obtain⟨p,hp,rfl⟩:=List.mem_map.1 hm
  exact hw.2 p.2 hp
 have key : ∀ fuel (listed : Array Bool), listed.size = ops.size → left (fun k => listed.getD k false) ops.size = fuel →
   (∀ j o,listed.getD j false=true→ops[j]?=some o→∀ e∈o.after,Region.binds .any e=true→listed.getD e.on false=true) →
   ∀ a w,SimF c nt (cQ WT st (fun k=>listed.getD k false) ops.size) (cQ WO so (fun k=>listed.getD k false) ops.size) (fun l=>l<S.nx∨∃ k,k<ops.size∧listed.getD k false=true∧l=S.nx+k) a w →
    wpAnyIn (Fw c.ro) 0 c.P .any ops Q fuel listed a w:=by
  intro fuel
  induction fuel with
  | zero =>
   intro listed hsz hleft hcl2 a w hsim
   have hall:=b3n hleft
   have hnil:Region.ready .any ops listed=[]:=by
    cases hr:Region.ready .any ops listed with
    | nil=>rfl
    | cons x xs =>
     have hx:x∈Region.ready .any ops listed:=by rw[hr];simp
     obtain⟨h1,o,ho,_⟩:=mem_ready.1 hx
     have hlt:x<ops.size:=(Array.getElem?_eq_some_iff.1 ho).1
     have:=hall x hlt
     rw[Array.getD_eq_getD_getElem?,Array.getElem?_eq_getElem (by omega)]at h1 this
     simp at h1 this
     rw[h1]at this
     contradiction
   refine⟨hnil,hK _ _ _ _ hk ?_⟩
   obtain⟨g,rfl,hg,ht,hsz2,hu,hln⟩:=hsim
   have h8:=hs.choose_spec.2.2.2.2.2.2
   have e1:cQ WT st (fun k=>listed.getD k false) ops.size=look (Ss ops.toList.length).t:=by
    funext r
    rw[hlen]
    exact rO hst (fun k hk _=>hall k hk) (Nat.le_refl _)
   have e2:cQ WO so (fun k=>listed.getD k false) ops.size=look (Ss ops.toList.length).o:=by
    funext r
    rw[hlen]
    exact rO hso (fun k hk _=>hall k hk) (Nat.le_refl _)
   rw[e1]at ht
   rw[e2]at hg
   refine⟨g,rfl,hg,ht,hsz2,fun l hl=>?_,hln,by simp only;omega⟩
   rcases hu l hl with h|⟨k,h1,h2,rfl⟩
   ·simp only;omega
   ·simp only;omega
  | succ fuel ih =>
   intro listed hsz hleft hcl2 a w hsim
   refine⟨fun hnil=>?_,fun j hj=>?_⟩
   ·
    exfalso
    have hex:∃ k,k<ops.size∧listed.getD k false=false:=by
     refine Classical.byContradiction fun hno=>?_
     have:∀ n,n≤ops.size→left (fun k=>listed.getD k false) n=0:=by
      intro n
      induction n with
      | zero=>intro _;rfl
      | succ n ihn =>
       intro hn
       simp only[left,ihn (by omega)]
       have:listed.getD n false=true:=by
        cases hq:listed.getD n false
        ·exact absurd ⟨n,by omega,hq⟩ hno
        ·rfl
       simp[this]
     rw[this _ (Nat.le_refl _)]at hleft
     omega
    obtain⟨k0,hk0,hf0⟩:=hex
    have hmin:∀ n k,k≤n→k<ops.size→listed.getD k false=false→∃ x,x∈Region.ready .any ops listed:=by
     intro n
     induction n with
     | zero =>
      intro k hkn hlt hf
      obtain rfl:k=0:=by omega
      refine⟨0,mem_ready.2 ⟨?_,ops[0],by simp[hlt],fun e he hb=>?_⟩⟩
      ·rw[Array.getD_eq_getD_getElem?,Array.getElem?_eq_getElem (by omega)]at hf ⊢
       simpa using hf
      ·have:=hback' 0 ops[0] (by simp[hlt]) e he hb
       omega
     | succ n ihn =>
      intro k hkn hlt hf
      by_cases hall:∀ e∈ops[k].after,Region.binds .any e=true→listed.getD e.on false=true
      ·refine⟨k,mem_ready.2 ⟨?_,ops[k],by simp[hlt],hall⟩⟩
       rw[Array.getD_eq_getD_getElem?,Array.getElem?_eq_getElem (by omega)]at hf ⊢
       simpa using hf
      ·have:∃ e,e∈ops[k].after∧Region.binds .any e=true∧listed.getD e.on false=false:=by
        refine Classical.byContradiction fun hno=>hall fun e he hb=>?_
        cases hq:listed.getD e.on false
        ·exact absurd ⟨e,he,hb,hq⟩ hno
        ·rfl
       obtain⟨e,he,hb,hq⟩:=this
       have:=hback' k ops[k] (by simp[hlt]) e he hb
       exact ihn e.on (by omega) (by omega) hq
    obtain⟨x,hx⟩:=hmin k0 k0 (Nat.le_refl _) hk0 hf0
    rw[hnil]at hx
    simp at hx
   ·obtain⟨h1,o,ho,hdeps⟩:=mem_ready.1 hj
    have hlt:j<ops.size:=(Array.getElem?_eq_some_iff.1 ho).1
    have hjl:j<ops.toList.length:=by omega
    have hoj:ops.toList[j]=o:=by
     have:=(Array.getElem?_eq_some_iff.1 ho).2
     simpa using this
    obtain⟨s1,s2,s3⟩:=hstep j hjl
    have hDj:listed.getD j false=false:=by
     rw[Array.getD_eq_getD_getElem?,Array.getElem?_eq_getElem (by omega)]at h1 ⊢
     simpa using h1
    let D:Nat→Bool:=fun k=>listed.getD k false
    let D':Nat→Bool:=fun k=>(listed.setIfInBounds j true).getD k false
    have hD':∀ k,D' k=(D k||k == j):=by
     intro k
     simp only[D,D']
     by_cases hkj:k=j
     ·subst hkj
      rw[Array.getD_eq_getD_getElem?,Array.getElem?_setIfInBounds_self_of_lt (by omega)]
      simp
     ·rw[getD_set_ne false (Ne.symm hkj)]
      simp[hkj]
    have hclosed:∀ j o,D j=true→ops[j]?=some o→∀ e∈o.after,Region.binds .any e=true→D e.on=true:=hcl2
    have hbefore:∀ k,k<j→g8 (F k) (F j)=true→D k=true:=fun k hk hc =>
     b1p (D:=fun k=>D k=true) hclosed (hcl k j hk hlt hc) ho hdeps
    have hbehind:∀ k,j<k→k<ops.size→g8 (F j) (F k)=true→D k=false:=fun k hk hkn hc=>by
     cases hq:D k
     ·rfl
     ·have:=a0w (D:=fun k=>D k=true) hclosed _ _ _ (hcl j k hk hkn hc) hq
      simp only[D,hDj]at this
      contradiction
    have hFj:=hFk j hjl
    have agreeT:∀ t∈(F j).tr,cQ WT st D ops.size t=st j t:=by
     intro t ht
     rw[xC ops.size (by omega:j≤ops.size) fun k h1 h2 hw=>?_]
     ·refine rO hst (fun k hk hw=>hbefore k hk ?_) (by omega)
      have:gV (F k).tw (F j).tr=true:=List.any_eq_true.2 ⟨t,by simpa [WT]using hw,by simpa using ht⟩
      simp[g8,this]
     ·by_cases hkj:k=j
      ·rw[hkj];exact hDj
      ·refine hbehind k (by omega) h2 ?_
       have:gV (F j).tr (F k).tw=true:=List.any_eq_true.2 ⟨t,ht,by simpa [WT]using hw⟩
       simp[g8,this]
    have agreeO:∀ l∈(F j).rd,cQ WO so D ops.size l=so j l:=by
     intro l hl
     rw[xC ops.size (by omega:j≤ops.size) fun k h1 h2 hw=>?_]
     ·refine rO hso (fun k hk hw=>hbefore k hk ?_) (by omega)
      have:gV (F k).ow (F j).rd=true:=List.any_eq_true.2 ⟨l,by simpa [WO]using hw,by simpa using hl⟩
      simp[g8,this]
     ·by_cases hkj:k=j
      ·rw[hkj];exact hDj
      ·refine hbehind k (by omega) h2 ?_
       have:gV (F j).rd (F k).ow=true:=List.any_eq_true.2 ⟨l,hl,by simpa [WO]using hw⟩
       simp[g8,this]
    have s3':vX c nt ops o (S.nx+j) (st j) (so j) (F j) (es j):=by
     rw[hFj]
     rw[hoj]at s3
     rw[hoj]
     simpa using s3
    refine wpOp_step (rd:=st j) (ob:=so j) ho s3' agreeT agreeO (by rw[← hoj];exact s2) ?_ hsim ?_
    ·rintro (h|⟨k,h1,h2,h3⟩)
     ·omega
     ·obtain rfl:k=j:=by omega
      rw[hDj]at h2
      contradiction
    ·intro a w hsim2
     refine ih (listed.setIfInBounds j true) (by simpa using hsz) ?_ ?_ a w ?_
     ·have:=b7o (D:=D) (D':=D') hD' hDj ops.size
      rw[if_pos hlt]at this
      simp only[D,D']at this
      omega
     ·intro k ok hk hok e he hb
      have hk':D' k=true:=hk
      rw[hD']at hk'
      show D' e.on=true
      rw[hD']
      have hor:D k=true∨(k == j)=true:=by
       cases hq:D k
       ·rw[hq]at hk';exact .inr (by simpa using hk')
       ·exact .inl rfl
      rcases hor with h|h
      ·rw[hclosed k ok h hok e he hb];rfl
      ·obtain rfl:k=j:=by simpa using h
       rw[ho]at hok
       simp only[Option.some.injEq]at hok
       subst hok
       have:D e.on=true:=hdeps e he hb
       rw[this];rfl
     ·obtain⟨g,rfl,hg,ht,hsz2,hu,hln⟩:=hsim2
      have e1:cQ WT st D' ops.size=fun t=>if o.dst=some t then (es j).val else cQ WT st D ops.size t:=by
       funext t
       rw[a2h hD' ops.size fun k h1 h2 hw hwk=>hbehind k h1 h2 ?_]
       ·have hw:WT j t=true↔o.dst=some t:=by
         simp only[WT,hFj,eA,hoj]
         cases o.dst<;>simp[eq_comm]
        by_cases hd:o.dst=some t
        ·rw[if_pos ⟨hlt,hw.2 hd⟩,if_pos hd]
         simp only[st,s1,wW,hoj]
         rw[if_pos hd]
        ·rw[if_neg (fun h=>hd (hw.1 h.2)),if_neg hd]
       ·have:gV (F j).tw (F k).tw=true:=List.any_eq_true.2 ⟨t,by simpa [WT]using hw,by simpa [WT]using hwk⟩
        simp[g8,this]
      have e2:cQ WO so D' ops.size=upd (cQ WO so D ops.size) (es j).ob:=by
       funext l
       rw[a2h hD' ops.size fun k h1 h2 hw hwk=>hbehind k h1 h2 ?_]
       ·have hwdef:WO j l=true↔(l=S.nx+j∨l∈(es j).ob.map (·.1)):=by
         simp only[WO,hFj,eA,List.contains_cons,Bool.or_eq_true,beq_iff_eq]
         simp
        by_cases hm:l∈(es j).ob.map (·.1)
        ·rw[if_pos ⟨hlt,hwdef.2 (.inr hm)⟩]
         simp only[so,s1,tY]
         exact (sI l hm).trans (sI l hm).symm
        ·rw[gO hm]
         by_cases hl:l=S.nx+j
         ·rw[if_pos ⟨hlt,hwdef.2 (.inl hl)⟩]
          simp only[so,s1,tY]
          rw[gO hm]
          symm
          rw[xC ops.size (by omega:j≤ops.size) fun k h1 h2 hw=>?_]
          ·refine rO hso (fun k hk hw=>hbefore k hk ?_) (by omega)
           have:gV (F k).ow (F j).ow=true:=List.any_eq_true.2 ⟨l,by simpa [WO]using hw,by simp[hFj,eA,hl]⟩
           simp[g8,this]
          ·by_cases hkj:k=j
           ·rw[hkj];exact hDj
           ·refine hbehind k (by omega) h2 ?_
            have:gV (F j).ow (F k).ow=true:=List.any_eq_true.2 ⟨l,by simp[hFj,eA,hl],by simpa [WO]using hw⟩
            simp[g8,this]
         ·rw[if_neg (fun h=>by rcases hwdef.1 h.2 with h|h<;>contradiction)]
       ·have:gV (F j).ow (F k).ow=true:=List.any_eq_true.2 ⟨l,by simpa [WO]using hw,by simpa [WO]using hwk⟩
        simp[g8,this]
      refine⟨g,rfl,?_,?_,hsz2,fun l hl=>?_,hln⟩
      ·show GOk c g (cQ WO so D' ops.size)
       rw[e2];exact hg
      ·show TOk g (cQ WT st D' ops.size) a
       rw[e1];exact ht
      ·rcases hu l hl with (h|⟨k,h1,h2,h3⟩)|h
       ·exact .inl h
       ·refine .inr ⟨k,h1,?_,h3⟩
        show D' k=true
        rw[hD']
        have:D k=true:=h2
        rw[this];rfl
       ·refine .inr ⟨j,hlt,?_,h⟩
        show D' j=true
        rw[hD']
        simp
 have hD0:∀ k,(Array.replicate ops.size false).getD k false=false:=fun k=>by
  rw[Array.getD_eq_getD_getElem?]
  by_cases hk:k<ops.size
  ·simp[hk]
  ·rw[Array.getElem?_eq_none (by simpa using hk)];rfl
 have hl0:∀ n,left (fun k=>(Array.replicate ops.size false).getD k false) n=n:=fun n=>b3o hD0 n
 have hm0:∀ (W:Nat→Nat→Bool) (s:Nat→Nat→AV) n,cQ W s (fun k=>(Array.replicate ops.size false).getD k false) n=s 0:=fun W s n=>b1e hD0 W s n
 refine key ops.size _ (by simp) (hl0 _) (fun j o hj=>by rw[hD0]at hj;contradiction) a w ?_
 rw[hm0,hm0]
 obtain⟨g,rfl,hg,ht,hsz,hu,hln,h8⟩:=hs
 exact⟨g,rfl,by show GOk c g (look (Ss 0).o);rw[h0];exact hg,by show TOk g (look (Ss 0).t) a;rw[h0];exact ht,hsz,fun l hl=>.inl (hu l hl),hln⟩
end Go.Sx
