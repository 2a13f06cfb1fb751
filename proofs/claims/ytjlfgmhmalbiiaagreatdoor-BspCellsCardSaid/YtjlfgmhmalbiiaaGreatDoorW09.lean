import Derived.Deep.LoopGhost
import Derived.ControlIn
import Derived.Test.YtjlfgmhmalbiiaaGreatDoorW08
set_option linter.all false
open Array renaming getD_eq_getD_getElem? → Aa, getElem?_eq_some_iff → Ac, getElem?_eq_getElem → Ad, getElem?_setIfInBounds_self_of_lt → Ae, replicate → Af, any_eq_true' → Am
open Bool renaming and_eq_true → Ah, or_eq_true → Al, and_false → Ap, false_and → Aq, or_false → Ar
open List renaming any_eq_true → Ab, all_eq_true → Ai, range → Aj
open Nat renaming le_refl → Ag, le_trans → Ak, lt_of_lt_of_le → An
open Option renaming some → Ao
namespace Go.Sx
set_option linter.unusedVariables false
set_option linter.unusedSimpArgs false
theorem c7v {F:Fence} {n:Nat} {P:Program} {o:Oper} {a:Act} {w:World} {K K':Act→World→Prop} {Q:Exit→Act→World→Prop} (h:o.wpIn F n P a w K fun _ _ _=>False) (hk:∀ a w,K a w→K' a w):o.wpIn F n P a w K' Q:=by
 unfold Oper.wpIn at *
 refine⟨h.1,?_⟩
 have h:=h.2
 generalize (o.semAt F.round a.eval).run P w=r at *
 cases r with
 | ok n w' =>
  cases n<;>simp only[Oper.uponIn]at h ⊢ <;>
   first
    | exact hk _ _ h
    | exact⟨h.1,CallsIn.mono h.2 (fun e w'' he=>by cases e<;>first|exact hk _ _ he|exact he.elim|(obtain⟨_,_,h⟩:=he;exact h.elim))⟩
    | exact⟨h.1,RowsIn.mono h.2 (fun _ _ he=>hk _ _ he)⟩
    | exact⟨h.1,RoundIn.mono h.2 (fun e w'' he=>by cases e<;>first|exact hk _ _ he|exact he.elim|(obtain⟨_,_,h⟩:=he;exact h.elim))⟩
 | halt x w'=>cases x<;>simp only[Oper.uponIn]at h ⊢
def pB (c:Cx) (nt:Nat) (rd ob:Nat→AV) (U:Nat→Prop) (a:Act) (w:World):Prop :=
 ∃ g,g.w=w∧GOk c g ob∧TOk g rd a∧Sz c nt a∧(∀ l,g.us l→U l)∧Lnk c g
theorem TOk.put {g : Gh} {rd : Nat → AV} {a : Act} {dst : Option Nat} {v : Value} {x : AV} (h : TOk g rd a) (hd : ∀ d, dst = some d → d < a.tmps.size) (hr : Rel g x v) :
  TOk g (fun t=>if dst=some t then x else rd t) (a.put dst v):=by
 refine⟨by cases dst<;>exact h.1,fun t=>?_⟩
 cases dst with
 | none=>exact h.2 t
 | some d =>
  have hlt:=hd d rfl
  simp only[Act.put,Ao.injEq]
  by_cases ht:d=t
  ·subst ht
   rw[if_pos rfl]
   rw[Aa,Ae hlt]
   exact hr
  ·rw[if_neg ht]
   rw[Aa,Array.getElem?_setIfInBounds_ne ht,← Aa]
   exact h.2 t
theorem b9z (a:Act) (dst:Option Nat) (v:Value):(a.put dst v).tmps.size=a.tmps.size:=by
 cases dst<;>simp[Act.put]
theorem Sz.put {c:Cx} {nt:Nat} {a:Act} (h:Sz c nt a) (dst:Option Nat) (v:Value):Sz c nt (a.put dst v):=⟨by rw[b9z];exact h.1,by cases dst<;>exact h.2.1,h.2.2⟩
theorem wpOp_step {c : Cx} {nt : Nat} {ops : Array Oper} {o : Oper} {j i : Nat} {rd ob rd' ob' : Nat → AV} {f : Foot} {e : Eff} {U : Nat → Prop} {Q : Exit → Act → World → Prop} {K : Act → World → Prop} {a : Act} {w : World}
  (hj:ops[j]?=some o) (hs:xS c nt ops o i rd ob f e) (h1:∀ t∈f.tr,rd' t=rd t) (h2:∀ l∈f.rd,ob' l=ob l) (hd:∀ d,o.dst=some d→d<nt) (hU:¬ U i) (hsim:pB c nt rd' ob' U a w)
  (hK:∀ a w,pB c nt (fun t=>if o.dst=some t then e.val else rd' t) (upd ob' e.ob) (fun l=>U l∨l=i) a w→K a w):wpOpIn (Fw c.ro) 0 c.P ops Q j K a w:=by
 obtain⟨g,rfl,hg,ht,hsz,hu,hln⟩:=hsim
 have:=hs rd' ob' h1 h2 g a hg ht hsz.1 (fun h=>hU (hu _ h))
 unfold wpOpIn
 simp only[hj]
 split
 ·rename_i hw
  rw[if_pos hw]at this
  refine c7v this ?_
  rintro a' w' ⟨v,g',rfl,rfl,he,hg',hr,hu'⟩
  refine hK _ _ ⟨g',rfl,hg',(ht.mono he).put (by rw[hsz.1];exact hd) hr,hsz.put _ _,fun l hl=>?_,hln.mono he⟩
  rcases hu' l hl with h|h
  ·exact .inl (hu l h)
  ·exact .inr h
 ·rename_i hw
  rw[if_neg hw]at this
  obtain⟨hr,ho⟩:=this
  rw[ho]at hK
  exact⟨fun _ _=>trivial,hK _ _ ⟨g,rfl,hg,ht.put (by rw[hsz.1];exact hd) hr,hsz.put _ _,fun l hl=>.inl (hu l hl),hln⟩⟩
theorem vC (S:AS) (dst:Option Nat) (e:Eff):look (S.step dst e).t=fun t=>if dst=some t then e.val else look S.t t:=by
 funext t
 cases dst with
 | none=>simp[AS.step]
 | some d=>simp[AS.step,look]
theorem sH (S:AS) (dst:Option Nat) (e:Eff):look (S.step dst e).o=upd (look S.o) e.ob:=sI _ _
theorem b4f {c : Cx} {nt : Nat} {ops : Array Oper} {S : AS} {K : AS → List Foot → Prop} {Q : Exit → Act → World → Prop} {a : Act} {w : World} (h : aJ c.P nt ops.toList ops.toList 0 S [] K) (hs : Sim c nt S a w)
  (hK:∀ S' fs a w,K S' fs→Sim c nt { S' with nx:=S.nx+ops.size } a w→Q .normal a w):wpOpsIn (Fw c.ro) 0 c.P ops Q (Aj ops.size) a w:=by
 obtain⟨Ss,es,h0,hk,hnx,hstep⟩:=a3k _ _ _ _ h
 have key:∀ m k,k+m=ops.size→∀ a w,pB c nt (look (Ss k).t) (look (Ss k).o) (fun l=>l<S.nx+k) a w→wpOpsIn (Fw c.ro) 0 c.P ops Q (List.range' k m) a w:=by
  intro m
  induction m with
  | zero =>
   intro k hk' a w hsim
   simp only[List.range'_zero,wpOpsIn]
   refine hK _ _ _ _ hk ?_
   obtain⟨g,rfl,hg,ht,hsz,hu,hln⟩:=hsim
   have:ops.toList.length=k:=by simp;omega
   rw[this]
   exact⟨g,rfl,hg,ht,hsz,fun l hl=>by have:=hu l hl;simp only;omega,hln,by have:=hs.choose_spec.2.2.2.2.2.2;simp only;omega⟩
  | succ m ih =>
   intro k hk' a w hsim
   rw[List.range'_succ,wpOpsIn_cons]
   have hlt:k<ops.toList.length:=by simp;omega
   obtain⟨h1,h2,h3⟩:=hstep k hlt
   refine wpOp_step (o:=ops.toList[k]) (by simp at hlt;simp[hlt]) h3 (fun _ _=>rfl) (fun _ _=>rfl) h2 (fun h=>by omega) hsim fun a w hsim=>?_
   refine ih (k+1) (by omega) a w ?_
   obtain⟨g,rfl,hg,ht,hsz,hu,hln⟩:=hsim
   refine⟨g,rfl,?_,?_,hsz,fun l hl=>?_,hln⟩
   ·rw[h1,sH];exact hg
   ·rw[h1,vC];exact ht
   ·rcases hu l hl with h|h<;>omega
 rw[List.range_eq_range']
 refine key ops.size 0 (by omega) a w ?_
 obtain⟨g,rfl,hg,ht,hsz,hu,hln,h8⟩:=hs
 exact⟨g,rfl,by rw[h0];exact hg,by rw[h0];exact ht,hsz,fun l hl=>by have:=hu l hl;omega,hln⟩
def jP (ops:Array Oper):Nat→Nat→Nat→Bool
 | 0,_,_=>false
 | n+1,i,j=>match ops[j]? with
  | some o=>o.after.any fun e=>Region.binds .any e&&(e.on == i||jP ops n i e.on)
  | none=>false
def gZ (xs ys:List Nat):Bool:=xs.any fun x=>ys.contains x
def iF (f g:Foot):Bool:=gZ f.tr g.tw||gZ f.tw g.tr||gZ f.tw g.tw||gZ f.rd g.ow||gZ f.ow g.rd||gZ f.ow g.ow
def mX (ops:Array Oper) (fs:List Foot):Bool :=
 ((Aj ops.size).all fun j=>match ops[j]? with|some o=>o.after.all fun e=>!Region.binds .any e||decide (e.on<j)|none=>true) &&
 (Aj ops.size).all fun j=>(Aj j).all fun i=>match fs[i]?,fs[j]? with
  | some f,some g=>!iF f g||jP ops ops.size i j
  | _,_=>true
theorem a3d {ops:Array Oper} {D:Nat→Prop} (hc:∀ j o,D j→ops[j]?=some o→∀ e∈o.after,Region.binds .any e=true→D e.on):∀ (n i j:Nat),jP ops n i j=true→D j→D i:=by
 intro n
 induction n with
 | zero=>intro i j h;simp[jP]at h
 | succ n ih =>
  intro i j h hj
  simp only[jP]at h
  split at h
  ·rename_i o ho
   obtain⟨e,he,hh⟩:=Am.1 h
   simp only[Ah,Al,beq_iff_eq]at hh
   have hd:=hc j o hj ho e he hh.1
   rcases hh.2 with h1|h1
   ·rw[← h1];exact hd
   ·exact ih i e.on h1 hd
  ·contradiction
theorem b4v {ops : Array Oper} {D : Nat → Prop} (hc : ∀ j o, D j → ops[j]? = some o → ∀ e ∈ o.after, Region.binds .any e = true → D e.on) {n i j : Nat} (h : jP ops n i j = true) {o : Oper} (ho : ops[j]? = some o)
  (hr:∀ e∈o.after,Region.binds .any e=true→D e.on):D i:=by
 cases n with
 | zero=>simp[jP]at h
 | succ n =>
  simp only[jP,ho]at h
  obtain⟨e,he,hh⟩:=Am.1 h
  simp only[Ah,Al,beq_iff_eq]at hh
  have hd:=hr e he hh.1
  rcases hh.2 with h1|h1
  ·rw[← h1];exact hd
  ·exact a3d hc n i e.on h1 hd
def cQ (W:Nat→Nat→Bool) (st:Nat→Nat→AV) (D:Nat→Bool):Nat→Nat→AV
 | 0,r=>st 0 r
 | k+1,r=>if D k&&W k r then st (k+1) r else cQ W st D k r
theorem sN {W:Nat→Nat→Bool} {st:Nat→Nat→AV} {D:Nat→Bool} {n:Nat} (hst:∀ k,k<n→∀ r,W k r=false→st (k+1) r=st k r) {r j:Nat} (h1:∀ k,k<j→W k r=true→D k=true) (hjn:j≤n):cQ W st D j r=st j r:=by
 induction j with
 | zero=>rfl
 | succ j ih =>
  simp only[cQ]
  by_cases hw:W j r=true
  ·rw[h1 j (by omega) hw,hw];rfl
  ·have hw':W j r=false:=by simpa using hw
   rw[hw',Ap,if_neg (by simp),ih (fun k hk=>h1 k (by omega)) (by omega),hst j (by omega) r hw']
theorem yT {W:Nat→Nat→Bool} {st:Nat→Nat→AV} {D:Nat→Bool} {r j:Nat}:∀ n,j≤n→(∀ k,j≤k→k<n→W k r=true→D k=false)→cQ W st D n r=cQ W st D j r:=by
 intro n
 induction n with
 | zero =>
  intro hj _
  have hj0:j=0:=by omega
  subst hj0
  rfl
 | succ n ih =>
  intro hj h
  by_cases hjn:j=n+1
  ·rw[hjn]
  ·simp only[cQ]
   have hn:(D n&&W n r)=false:=by
    cases hw:W n r
    ·simp
    ·rw[h n (by omega) (by omega) hw];rfl
   rw[hn,if_neg (by simp)]
   exact ih (by omega) fun k h1 h2=>h k h1 (by omega)
theorem a4q {W : Nat → Nat → Bool} {st : Nat → Nat → AV} {D D' : Nat → Bool} {j r : Nat} (hD : ∀ k, D' k = (D k || k == j)) : ∀ n, (∀ k, j < k → k < n → W j r = true → W k r = true → D k = false) →
  cQ W st D' n r=if j<n∧W j r=true then st (j+1) r else cQ W st D n r:=by
 intro n
 induction n with
 | zero=>intro _;simp[cQ]
 | succ n ih =>
  intro h
  simp only[cQ,hD]
  by_cases hnj:n=j
  ·subst hnj
   simp only[BEq.rfl,Bool.or_true,Bool.true_and]
   by_cases hw:W n r=true
   ·rw[if_pos hw,if_pos ⟨by omega,hw⟩]
   ·rw[if_neg hw,if_neg (fun h=>hw h.2),ih fun k h1 h2=>by omega]
    rw[if_neg (fun h=>by omega)]
    have:W n r=false:=by simpa using hw
    simp[this]
  ·have hb:(n == j)=false:=by simpa using hnj
   rw[hb,Ar]
   have ih':=ih fun k h1 h2=>h k h1 (by omega)
   by_cases hlt:j<n
   ·by_cases hw:W j r=true
    ·by_cases hwn:W n r=true
     ·have:=h n hlt (by omega) hw hwn
      rw[this,Aq,if_neg (by simp),ih',if_pos ⟨hlt,hw⟩,if_pos ⟨by omega,hw⟩]
     ·have:W n r=false:=by simpa using hwn
      rw[this,Ap,if_neg (by simp),ih',if_pos ⟨hlt,hw⟩,if_pos ⟨by omega,hw⟩]
    ·simp only[hw,and_false,if_false]at ih' ⊢
     rw[ih']
     simp
   ·have hlt2:¬ j<n+1:=by omega
    simp only[hlt,hlt2,false_and,if_false]at ih' ⊢
    rw[ih']
def left (D:Nat→Bool):Nat→Nat
 | 0=>0
 | k+1=>left D k+if D k then 0 else 1
theorem b6u {D:Nat→Bool}:∀ {n},left D n=0→∀ k,k<n→D k=true:=by
 intro n
 induction n with
 | zero=>intro _ k hk;omega
 | succ n ih =>
  intro h k hk
  simp only[left]at h
  by_cases hkn:k=n
  ·subst hkn
   by_cases hd:D k=true
   ·exact hd
   ·rw[if_neg hd]at h;omega
  ·exact ih (by omega) k (by omega)
theorem c1h {D D':Nat→Bool} {j:Nat} (hD:∀ k,D' k=(D k||k == j)) (hj:D j=false):∀ n,left D n=left D' n+if j<n then 1 else 0:=by
 intro n
 induction n with
 | zero=>simp[left]
 | succ n ih =>
  simp only[left,hD]
  by_cases hnj:n=j
  ·subst hnj
   rw[hj,ih]
   simp
  ·have hb:(n == j)=false:=by simpa using hnj
   have e:(if j<n+1 then 1 else 0)=(if j<n then 1 else 0):=by split<;>split<;>omega
   rw[hb,Ar,ih,e]
   omega
theorem b6v {D:Nat→Bool} (hD:∀ k,D k=false):∀ n,left D n=n:=by
 intro n
 induction n with
 | zero=>rfl
 | succ n ih=>simp only[left,ih,hD];simp
theorem b4k {D:Nat→Bool} (hD:∀ k,D k=false) (W:Nat→Nat→Bool) (s:Nat→Nat→AV):∀ n,cQ W s D n=s 0:=by
 intro n
 funext r
 induction n with
 | zero=>rfl
 | succ n ih=>simp only[cQ,hD,Aq,Bool.false_eq_true,if_false,ih]
theorem b4g {c : Cx} {nt : Nat} {ops : Array Oper} {S : AS} {K : AS → List Foot → Prop} {Q : Exit → Act → World → Prop} {a : Act} {w : World} (h : aJ c.P nt ops.toList ops.toList 0 S [] fun S' fs => mX ops fs = true ∧ K S' fs) (hs : Sim c nt S a w)
  (hK:∀ S' fs a w,K S' fs→Sim c nt { S' with nx:=S.nx+ops.size } a w→Q .normal a w):wpAnyIn (Fw c.ro) 0 c.P .any ops Q ops.size (Af ops.size false) a w:=by
 obtain⟨Ss,es,h0,⟨hord,hk⟩,hnx,hstep⟩:=a3k _ _ _ _ h
 simp only[List.nil_append,Nat.add_zero]at hord hk
 let F:Nat→Foot:=fun k=>eF ops.toList (ops.toList.getD k default) (S.nx+k) (es k)
 have hF:∀ k,k<ops.size→((Aj ops.toList.length).map fun k=>eF ops.toList (ops.toList.getD k default) (S.nx+k) (es k))[k]?=some (F k):=fun k hk=>by
  simp[List.getElem?_map,List.getElem?_range,hk,F]
 unfold mX at hord
 rw[Ah]at hord
 obtain⟨hback,hclash⟩:=hord
 have hback':∀ j o,ops[j]?=some o→∀ e∈o.after,Region.binds .any e=true→e.on<j:=by
  intro j o ho e he hb
  have hlt:j<ops.size:=(Ac.1 ho).1
  have:=Ai.1 hback j (by simpa using hlt)
  rw[ho]at this
  have:=Array.all_eq_true'.1 this e he
  simpa [hb]using this
 have hcl:∀ i j,i<j→j<ops.size→iF (F i) (F j)=true→jP ops ops.size i j=true:=by
  intro i j hij hj hc
  have:=Ai.1 (Ai.1 hclash j (by simpa using hj)) i (by simpa using hij)
  rw[hF i (by omega),hF j hj]at this
  simpa [hc]using this
 let WT:Nat→Nat→Bool:=fun k t=>(F k).tw.contains t
 let WO:Nat→Nat→Bool:=fun k l=>(F k).ow.contains l
 let st:Nat→Nat→AV:=fun k=>look (Ss k).t
 let so:Nat→Nat→AV:=fun k=>look (Ss k).o
 have hlen:ops.toList.length=ops.size:=by simp
 have hFk:∀ k (hk:k<ops.toList.length),F k=eF ops.toList ops.toList[k] (S.nx+k) (es k):=fun k hk=>by
  have hk':k<ops.size:=by omega
  simp[F,hk']
 have hst:∀ k,k<ops.size→∀ r,WT k r=false→st (k+1) r=st k r:=by
  intro k hk r hw
  have hk':k<ops.toList.length:=by omega
  obtain⟨h1,_⟩:=hstep k hk'
  simp only[st,h1,vC]
  rw[if_neg]
  intro e
  simp only[WT,hFk k hk',eF,e]at hw
  simp at hw
 have hso:∀ k,k<ops.size→∀ r,WO k r=false→so (k+1) r=so k r:=by
  intro k hk r hw
  have hk':k<ops.toList.length:=by omega
  obtain⟨h1,_⟩:=hstep k hk'
  simp only[so,h1,sH]
  refine gU fun hm=>?_
  simp only[WO,hFk k hk',eF]at hw
  simp at hw
  obtain⟨p,hp,rfl⟩:=List.mem_map.1 hm
  exact hw.2 p.2 hp
 have key : ∀ fuel (listed : Array Bool), listed.size = ops.size → left (fun k => listed.getD k false) ops.size = fuel →
   (∀ j o,listed.getD j false=true→ops[j]?=some o→∀ e∈o.after,Region.binds .any e=true→listed.getD e.on false=true) →
   ∀ a w,pB c nt (cQ WT st (fun k=>listed.getD k false) ops.size) (cQ WO so (fun k=>listed.getD k false) ops.size) (fun l=>l<S.nx∨∃ k,k<ops.size∧listed.getD k false=true∧l=S.nx+k) a w →
    wpAnyIn (Fw c.ro) 0 c.P .any ops Q fuel listed a w:=by
  intro fuel
  induction fuel with
  | zero =>
   intro listed hsz hleft hcl2 a w hsim
   have hall:=b6u hleft
   have hnil:Region.ready .any ops listed=[]:=by
    cases hr:Region.ready .any ops listed with
    | nil=>rfl
    | cons x xs =>
     have hx:x∈Region.ready .any ops listed:=by rw[hr];simp
     obtain⟨h1,o,ho,_⟩:=mem_ready.1 hx
     have hlt:x<ops.size:=(Ac.1 ho).1
     have:=hall x hlt
     rw[Aa,Ad (by omega)]at h1 this
     simp at h1 this
     rw[h1]at this
     contradiction
   refine⟨hnil,hK _ _ _ _ hk ?_⟩
   obtain⟨g,rfl,hg,ht,hsz2,hu,hln⟩:=hsim
   have h8:=hs.choose_spec.2.2.2.2.2.2
   have e1:cQ WT st (fun k=>listed.getD k false) ops.size=look (Ss ops.toList.length).t:=by
    funext r
    rw[hlen]
    exact sN hst (fun k hk _=>hall k hk) (Ag _)
   have e2:cQ WO so (fun k=>listed.getD k false) ops.size=look (Ss ops.toList.length).o:=by
    funext r
    rw[hlen]
    exact sN hso (fun k hk _=>hall k hk) (Ag _)
   rw[e1]at ht
   rw[e2]at hg
   refine⟨g,rfl,hg,ht,hsz2,fun l hl=>?_,hln,by simp only;omega⟩
   rcases hu l hl with h|⟨k,h1,h2,rfl⟩
   ·simp only;omega
   ·simp only;omega
  | succ fuel ih =>
   intro listed hsz hleft hcl2 a w hsim
   refine⟨fun hnil=>?_,fun j hj=>?_⟩
   ·
    exfalso
    have hex:∃ k,k<ops.size∧listed.getD k false=false:=by
     refine Classical.byContradiction fun hno=>?_
     have:∀ n,n≤ops.size→left (fun k=>listed.getD k false) n=0:=by
      intro n
      induction n with
      | zero=>intro _;rfl
      | succ n ihn =>
       intro hn
       simp only[left,ihn (by omega)]
       have:listed.getD n false=true:=by
        cases hq:listed.getD n false
        ·exact absurd ⟨n,by omega,hq⟩ hno
        ·rfl
       simp[this]
     rw[this _ (Ag _)]at hleft
     omega
    obtain⟨k0,hk0,hf0⟩:=hex
    have hmin:∀ n k,k≤n→k<ops.size→listed.getD k false=false→∃ x,x∈Region.ready .any ops listed:=by
     intro n
     induction n with
     | zero =>
      intro k hkn hlt hf
      obtain rfl:k=0:=by omega
      refine⟨0,mem_ready.2 ⟨?_,ops[0],by simp[hlt],fun e he hb=>?_⟩⟩
      ·rw[Aa,Ad (by omega)]at hf ⊢
       simpa using hf
      ·have:=hback' 0 ops[0] (by simp[hlt]) e he hb
       omega
     | succ n ihn =>
      intro k hkn hlt hf
      by_cases hall:∀ e∈ops[k].after,Region.binds .any e=true→listed.getD e.on false=true
      ·refine⟨k,mem_ready.2 ⟨?_,ops[k],by simp[hlt],hall⟩⟩
       rw[Aa,Ad (by omega)]at hf ⊢
       simpa using hf
      ·have:∃ e,e∈ops[k].after∧Region.binds .any e=true∧listed.getD e.on false=false:=by
        refine Classical.byContradiction fun hno=>hall fun e he hb=>?_
        cases hq:listed.getD e.on false
        ·exact absurd ⟨e,he,hb,hq⟩ hno
        ·rfl
       obtain⟨e,he,hb,hq⟩:=this
       have:=hback' k ops[k] (by simp[hlt]) e he hb
       exact ihn e.on (by omega) (by omega) hq
    obtain⟨x,hx⟩:=hmin k0 k0 (Ag _) hk0 hf0
    rw[hnil]at hx
    simp at hx
   ·obtain⟨h1,o,ho,hdeps⟩:=mem_ready.1 hj
    have hlt:j<ops.size:=(Ac.1 ho).1
    have hjl:j<ops.toList.length:=by omega
    have hoj:ops.toList[j]=o:=by
     have:=(Ac.1 ho).2
     simpa using this
    obtain⟨s1,s2,s3⟩:=hstep j hjl
    have hDj:listed.getD j false=false:=by
     rw[Aa,Ad (by omega)]at h1 ⊢
     simpa using h1
    let D:Nat→Bool:=fun k=>listed.getD k false
    let D':Nat→Bool:=fun k=>(listed.setIfInBounds j true).getD k false
    have hD':∀ k,D' k=(D k||k == j):=by
     intro k
     simp only[D,D']
     by_cases hkj:k=j
     ·subst hkj
      rw[Aa,Ae (by omega)]
      simp
     ·rw[getD_set_ne false (Ne.symm hkj)]
      simp[hkj]
    have hclosed:∀ j o,D j=true→ops[j]?=some o→∀ e∈o.after,Region.binds .any e=true→D e.on=true:=hcl2
    have hbefore:∀ k,k<j→iF (F k) (F j)=true→D k=true:=fun k hk hc =>
     b4v (D:=fun k=>D k=true) hclosed (hcl k j hk hlt hc) ho hdeps
    have hbehind:∀ k,j<k→k<ops.size→iF (F j) (F k)=true→D k=false:=fun k hk hkn hc=>by
     cases hq:D k
     ·rfl
     ·have:=a3d (D:=fun k=>D k=true) hclosed _ _ _ (hcl j k hk hkn hc) hq
      simp only[D,hDj]at this
      contradiction
    have hFj:=hFk j hjl
    have agreeT:∀ t∈(F j).tr,cQ WT st D ops.size t=st j t:=by
     intro t ht
     rw[yT ops.size (by omega:j≤ops.size) fun k h1 h2 hw=>?_]
     ·refine sN hst (fun k hk hw=>hbefore k hk ?_) (by omega)
      have:gZ (F k).tw (F j).tr=true:=Ab.2 ⟨t,by simpa [WT]using hw,by simpa using ht⟩
      simp[iF,this]
     ·by_cases hkj:k=j
      ·rw[hkj];exact hDj
      ·refine hbehind k (by omega) h2 ?_
       have:gZ (F j).tr (F k).tw=true:=Ab.2 ⟨t,ht,by simpa [WT]using hw⟩
       simp[iF,this]
    have agreeO:∀ l∈(F j).rd,cQ WO so D ops.size l=so j l:=by
     intro l hl
     rw[yT ops.size (by omega:j≤ops.size) fun k h1 h2 hw=>?_]
     ·refine sN hso (fun k hk hw=>hbefore k hk ?_) (by omega)
      have:gZ (F k).ow (F j).rd=true:=Ab.2 ⟨l,by simpa [WO]using hw,by simpa using hl⟩
      simp[iF,this]
     ·by_cases hkj:k=j
      ·rw[hkj];exact hDj
      ·refine hbehind k (by omega) h2 ?_
       have:gZ (F j).rd (F k).ow=true:=Ab.2 ⟨l,hl,by simpa [WO]using hw⟩
       simp[iF,this]
    have s3':xS c nt ops o (S.nx+j) (st j) (so j) (F j) (es j):=by
     rw[hFj]
     rw[hoj]at s3
     rw[hoj]
     simpa using s3
    refine wpOp_step (rd:=st j) (ob:=so j) ho s3' agreeT agreeO (by rw[← hoj];exact s2) ?_ hsim ?_
    ·rintro (h|⟨k,h1,h2,h3⟩)
     ·omega
     ·obtain rfl:k=j:=by omega
      rw[hDj]at h2
      contradiction
    ·intro a w hsim2
     refine ih (listed.setIfInBounds j true) (by simpa using hsz) ?_ ?_ a w ?_
     ·have:=c1h (D:=D) (D':=D') hD' hDj ops.size
      rw[if_pos hlt]at this
      simp only[D,D']at this
      omega
     ·intro k ok hk hok e he hb
      have hk':D' k=true:=hk
      rw[hD']at hk'
      show D' e.on=true
      rw[hD']
      have hor:D k=true∨(k == j)=true:=by
       cases hq:D k
       ·rw[hq]at hk';exact .inr (by simpa using hk')
       ·exact .inl rfl
      rcases hor with h|h
      ·rw[hclosed k ok h hok e he hb];rfl
      ·obtain rfl:k=j:=by simpa using h
       rw[ho]at hok
       simp only[Ao.injEq]at hok
       subst hok
       have:D e.on=true:=hdeps e he hb
       rw[this];rfl
     ·obtain⟨g,rfl,hg,ht,hsz2,hu,hln⟩:=hsim2
      have e1:cQ WT st D' ops.size=fun t=>if o.dst=some t then (es j).val else cQ WT st D ops.size t:=by
       funext t
       rw[a4q hD' ops.size fun k h1 h2 hw hwk=>hbehind k h1 h2 ?_]
       ·have hw:WT j t=true↔o.dst=some t:=by
         simp only[WT,hFj,eF,hoj]
         cases o.dst<;>simp[eq_comm]
        by_cases hd:o.dst=some t
        ·rw[if_pos ⟨hlt,hw.2 hd⟩,if_pos hd]
         simp only[st,s1,vC,hoj]
         rw[if_pos hd]
        ·rw[if_neg (fun h=>hd (hw.1 h.2)),if_neg hd]
       ·have:gZ (F j).tw (F k).tw=true:=Ab.2 ⟨t,by simpa [WT]using hw,by simpa [WT]using hwk⟩
        simp[iF,this]
      have e2:cQ WO so D' ops.size=upd (cQ WO so D ops.size) (es j).ob:=by
       funext l
       rw[a4q hD' ops.size fun k h1 h2 hw hwk=>hbehind k h1 h2 ?_]
       ·have hwdef:WO j l=true↔(l=S.nx+j∨l∈(es j).ob.map (·.1)):=by
         simp only[WO,hFj,eF,List.contains_cons,Al,beq_iff_eq]
         simp
        by_cases hm:l∈(es j).ob.map (·.1)
        ·rw[if_pos ⟨hlt,hwdef.2 (.inr hm)⟩]
         simp only[so,s1,sH]
         exact (tN l hm).trans (tN l hm).symm
        ·rw[gU hm]
         by_cases hl:l=S.nx+j
         ·rw[if_pos ⟨hlt,hwdef.2 (.inl hl)⟩]
          simp only[so,s1,sH]
          rw[gU hm]
          symm
          rw[yT ops.size (by omega:j≤ops.size) fun k h1 h2 hw=>?_]
          ·refine sN hso (fun k hk hw=>hbefore k hk ?_) (by omega)
           have:gZ (F k).ow (F j).ow=true:=Ab.2 ⟨l,by simpa [WO]using hw,by simp[hFj,eF,hl]⟩
           simp[iF,this]
          ·by_cases hkj:k=j
           ·rw[hkj];exact hDj
           ·refine hbehind k (by omega) h2 ?_
            have:gZ (F j).ow (F k).ow=true:=Ab.2 ⟨l,by simp[hFj,eF,hl],by simpa [WO]using hw⟩
            simp[iF,this]
         ·rw[if_neg (fun h=>by rcases hwdef.1 h.2 with h|h<;>contradiction)]
       ·have:gZ (F j).ow (F k).ow=true:=Ab.2 ⟨l,by simpa [WO]using hw,by simpa [WO]using hwk⟩
        simp[iF,this]
      refine⟨g,rfl,?_,?_,hsz2,fun l hl=>?_,hln⟩
      ·show GOk c g (cQ WO so D' ops.size)
       rw[e2];exact hg
      ·show TOk g (cQ WT st D' ops.size) a
       rw[e1];exact ht
      ·rcases hu l hl with (h|⟨k,h1,h2,h3⟩)|h
       ·exact .inl h
       ·refine .inr ⟨k,h1,?_,h3⟩
        show D' k=true
        rw[hD']
        have:D k=true:=h2
        rw[this];rfl
       ·refine .inr ⟨j,hlt,?_,h⟩
        show D' j=true
        rw[hD']
        simp
 have hD0:∀ k,(Af ops.size false).getD k false=false:=fun k=>by
  rw[Aa]
  by_cases hk:k<ops.size
  ·simp[hk]
  ·rw[Array.getElem?_eq_none (by simpa using hk)];rfl
 have hl0:∀ n,left (fun k=>(Af ops.size false).getD k false) n=n:=fun n=>b6v hD0 n
 have hm0:∀ (W:Nat→Nat→Bool) (s:Nat→Nat→AV) n,cQ W s (fun k=>(Af ops.size false).getD k false) n=s 0:=fun W s n=>b4k hD0 W s n
 refine key ops.size _ (by simp) (hl0 _) (fun j o hj=>by rw[hD0]at hj;contradiction) a w ?_
 rw[hm0,hm0]
 obtain⟨g,rfl,hg,ht,hsz,hu,hln,h8⟩:=hs
 exact⟨g,rfl,by show GOk c g (look (Ss 0).o);rw[h0];exact hg,by show TOk g (look (Ss 0).t) a;rw[h0];exact ht,hsz,fun l hl=>.inl (hu l hl),hln⟩
end Go.Sx
namespace Go.Sx
set_option linter.unusedVariables false
set_option linter.unusedSimpArgs false
theorem b2l {F : Fence} {n : Nat} {P : Program} {Q : Exit → Act → World → Prop} {a : Act} {w : World} {c : Code} (I : Nat → Act → World → Prop) (n₀ : Nat) (h₀ : I n₀ a w)
  (round:∀ m a w,I m a w→c.wpIn F n P (Exit.then (fun a' w'=>∃ n',n'<m∧I n' a' w') Q) a w):(Code.loop c).wpIn F n P Q a w:=by
 refine wpIn_loop (fun a w=>∃ n,I n a w) (fun a w=>leastOf (fun n=>I n a w)) ⟨n₀,h₀⟩ ?_
 intro a w hI
 refine wpIn_mono (round _ a w (leastOf_spec hI).1) ?_
 intro e a' w' hq
 cases e with
 | normal =>
  obtain⟨n',hlt,hI'⟩:=hq
  exact show (∃ n,I n a' w')∧leastOf (fun n=>I n a' w')<leastOf (fun n=>I n a w)from⟨⟨n',hI'⟩,Nat.lt_of_le_of_lt ((leastOf_spec ⟨n',hI'⟩).2 n' hI') hlt⟩
 | exit id=>exact hq
 | goto l=>exact hq
 | ret=>exact hq
 | panic ch=>exact hq
 | outgrown=>exact hq
abbrev mark (D:Nat):Deferred:={ target:=.collected D,args:=#[] }
def Mkd (c:Cx) (g:Gh) (ob:Nat→AV) (D:Nat):Prop:=c.w0.heap.size≤D∧¬ g.fz D∧(∀ l b,aE g l (ob l)=some b→b≠D)∧g.w.heap[D]?=some (.deferred (some []))
structure Le (c c':Cx):Prop where
 P:c'.P=c.P
 ro:c'.ro=c.ro
 sz:c.w0.heap.size≤c'.w0.heap.size
 back:∀ g ob,GOk c' g ob→GOk c g ob
 lnk:∀ g,Lnk c' g→Lnk c g
 ds:∃ Ds:List Nat,c'.ds=Ds.map mark++c.ds∧Ds.Nodup∧∀ D∈Ds,D<c'.w0.heap.size∧c.w0.heap.size≤D∧∀ g ob,GOk c' g ob→Mkd c g ob D
theorem Le.refl (c:Cx):Le c c:=⟨rfl,rfl,Ag _,fun _ _ h=>h,fun _ h=>h,[],rfl,List.Pairwise.nil,fun D h=>by simp at h⟩
theorem Le.trans {a b c:Cx} (h:Le a b) (k:Le b c):Le a c:=by
 obtain⟨Ds,d1,d2,d3⟩:=h.ds
 obtain⟨Es,e1,e2,e3⟩:=k.ds
 refine⟨k.P.trans h.P,k.ro.trans h.ro,Ak h.sz k.sz,fun g ob q=>h.back g ob (k.back g ob q),fun g q=>h.lnk g (k.lnk g q),Es++Ds,by rw[e1,d1];simp,?_,?_⟩
 ·rw[List.nodup_append]
  refine⟨e2,d2,fun x hx y hy e=>?_⟩
  subst e
  exact absurd (d3 x hy).1 (Nat.not_lt.2 (e3 x hx).2.1)
 ·intro D hD
  rcases List.mem_append.1 hD with hD|hD
  ·obtain⟨h1,h0,h2⟩:=e3 D hD
   refine⟨h1,Ak h.sz h0,fun g ob q=>?_⟩
   obtain⟨q1,q2,q3,q4⟩:=h2 g ob q
   exact⟨Ak h.sz q1,q2,q3,q4⟩
  ·obtain⟨h1,h0,h2⟩:=d3 D hD
   exact⟨An h1 k.sz,h0,fun g ob q=>h2 g ob (k.back g ob q)⟩
def iH (c:Cx) (nt:Nat) (Q:Exit→AS→Prop):Exit→Act→World→Prop
 | .panic _,_,_|.outgrown,_,_=>False
 | e,a,w=>∃ c' S,Le c c'∧Q e S∧Sim c' nt S a w
theorem c1e {c c':Cx} {nt:Nat} {Q:Exit→AS→Prop} (hl:Le c c') (e:Exit) (a:Act) (w:World):iH c' nt Q e a w→iH c nt Q e a w:=by
 cases e<;>simp only[iH]<;>first|exact fun h=>h.elim|(rintro⟨d,S,h0,h1,h2⟩;exact⟨d,S,hl.trans h0,h1,h2⟩)
def AWp (P:Program) (nt:Nat) (code:Code) (Q:Exit→AS→Prop) (S:AS):Prop :=
 ∀ c a w,c.P=P→Sim c nt S a w→code.wpIn (Fw c.ro) 0 P (iH c nt Q) a w
theorem AWp.le {P:Program} {nt:Nat} {code:Code} {Q:Exit→AS→Prop} {S:AS} (h:AWp P nt code Q S) {c c':Cx} (hl:Le c c') (hP:c.P=P) {a:Act} {w:World} (hs:Sim c' nt S a w):code.wpIn (Fw c.ro) 0 P (iH c nt Q) a w:=by
 have:=h c' a w (hl.P.trans hP) hs
 rw[hl.ro]at this
 exact wpIn_mono this (c1e hl)
inductive Itm where
 | code (c:Code)
 | blk (id:Nat)
 | stop (I:AS→Prop)
def Qof (P:Program) (nt:Nat) (R:AS→Prop):List Itm→Exit→AS→Prop
 | [],.normal,S=>R S
 | [],.ret,S=>R S
 | [],_,_=>False
 | .code c::k,.normal,S=>AWp P nt c (Qof P nt R k) S
 | .code _::k,e,S=>Qof P nt R k e S
 | .blk id::k,.exit j,S=>if j=id then Qof P nt R k .normal S else Qof P nt R k (.exit j) S
 | .blk _::k,e,S=>Qof P nt R k e S
 | .stop I::_,.normal,S=>I S
 | .stop _::k,e,S=>Qof P nt R k e S
def AW (P:Program) (nt:Nat) (R:AS→Prop) (k:List Itm) (S:AS):Prop:=Qof P nt R k .normal S
variable {P:Program} {nt:Nat} {R:AS→Prop} {k:List Itm} {S:AS}
theorem AW.nil (h:R S):AW P nt R [] S:=h
theorem AW.blk {id:Nat} (h:AW P nt R k S):AW P nt R (.blk id::k) S:=h
theorem AW.stop {I:AS→Prop} (h:I S):AW P nt R (.stop I::k) S:=h
theorem AW.skip (h:AW P nt R k S):AW P nt R (.code .skip::k) S:=fun c a w _ hs=>wpIn_skip ⟨c,S,.refl c,h,hs⟩
theorem AW.seq {x y:Code} (h:AW P nt R (.code x::.code y::k) S):AW P nt R (.code (.seq x y)::k) S:=by
 intro c a w hP hs
 refine wpIn_seq (wpIn_mono (h c a w hP hs) ?_)
 intro e a' w' hq
 cases e<;>simp only[Exit.then]<;>simp only[iH]at hq
 ·obtain⟨c',S',hl,h1,h2⟩:=hq
  exact AWp.le h1 hl hP h2
 all_goals first|exact hq.elim|exact hq
def unwind (id:Nat):List Itm→Option (List Itm)
 | []=>none
 | .blk j::k=>if id=j then some k else unwind id k
 | _::k=>unwind id k
theorem c3f {id:Nat} {k':List Itm}:∀ {k:List Itm},unwind id k=some k'→Qof P nt R k' .normal S→Qof P nt R k (.exit id) S:=by
 intro k
 induction k with
 | nil=>intro h;simp[unwind]at h
 | cons x k ih =>
  intro h hq
  cases x with
  | code c=>simp only[unwind]at h;exact ih h hq
  | stop I=>simp only[unwind]at h;exact ih h hq
  | blk j =>
   simp only[unwind]at h
   simp only[Qof]
   split at h
   ·rename_i e
    simp only[Ao.injEq]at h
    subst h
    rw[if_pos e]
    exact hq
   ·rename_i e
    rw[if_neg e]
    exact ih h hq
theorem c7d:∀ {k:List Itm},R S→Qof P nt R k .ret S:=by
 intro k
 induction k with
 | nil=>exact fun h=>h
 | cons x k ih=>intro h;cases x<;>exact ih h
theorem AW.exit {id:Nat} {k':List Itm} (hu:unwind id k=some k') (h:AW P nt R k' S):AW P nt R (.code (.exit id)::k) S:=fun c a w _ hs=>wpIn_exit ⟨c,S,.refl c,c3f hu h,hs⟩
theorem AW.ret (h:R S):AW P nt R (.code .ret::k) S:=fun c a w _ hs=>wpIn_ret ⟨c,S,.refl c,c7d h,hs⟩
theorem AW.block {id:Nat} {x:Code} (h:AW P nt R (.code x::.blk id::k) S):AW P nt R (.code (.block id x)::k) S:=by
 intro c a w hP hs
 refine wpIn_block (wpIn_mono (h c a w hP hs) ?_)
 intro e a' w' hq
 cases e<;>simp only[Exit.inBlock]<;>simp only[iH]at hq ⊢<;>(try exact hq)
 obtain⟨c',S',hl,h1,h2⟩:=hq
 simp only[Qof]at h1
 split
 ·rename_i e
  rw[if_pos e]at h1
  exact⟨c',S',hl,h1,h2⟩
 ·rename_i e
  rw[if_neg e]at h1
  exact⟨c',S',hl,h1,h2⟩
theorem AW.cond {c:Operand} {x y:Code} {b:Bool} (hc:rdO (look S.t) c=.lit (.bool b)) (ht:b=true→AW P nt R (.code x::k) S) (hf:b=false→AW P nt R (.code y::k) S):AW P nt R (.code (.cond c x y)::k) S:=by
 intro cx a w hP hs
 have hev:a.eval c=.bool b:=by
  obtain⟨g,rfl,hg,htk,_⟩:=hs
  have:=a0e htk c
  rw[hc]at this
  generalize a.eval c=v at this
  cases this
  rfl
 exact wpIn_cond_split hev (fun e=>ht e cx a w hP hs) (fun e=>hf e cx a w hP hs)
theorem AW.region {id:Nat} {ops:Array Oper} (h:aJ P nt ops.toList ops.toList 0 S [] fun S' _=>AW P nt R k { S' with nx:=S.nx+ops.size }):AW P nt R (.code (.region id ops false)::k) S:=by
 intro c a w hP hs
 subst hP
 exact wpIn_region (b4f h hs fun S' fs a w hk hs'=>⟨c,_,.refl c,hk,hs'⟩)
theorem c7f {id : Nat} {ops : Array Oper} (hm : P.follows .mixedOrders = true) (h : aJ P nt ops.toList ops.toList 0 S [] fun S' fs => mX ops fs = true ∧ AW P nt R k { S' with nx := S.nx + ops.size }) :
  AW P nt R (.code (.region id ops true)::k) S:=by
 intro c a w hP hs
 subst hP
 refine wpIn_region_any hm (b4g h ?_ fun S' fs a w hk hs'=>⟨c,_,.refl c,hk,hs'⟩)
 obtain⟨g,rfl,hg,ht,hsz,hu,hln,h8⟩:=hs
 obtain⟨he,hg'⟩:=hg.same { g.w with drawn:=g.w.drawn+1 } rfl rfl ⟨rfl,Nat.le_succ _⟩ rfl
 exact⟨_,rfl,hg',ht.mono he,hsz,hu,hln.mono he,h8⟩
def Weak (S T:AS):Prop:=∀ c nt a w,Sim c nt S a w→Sim c nt T a w
theorem Weak.trans {S T U:AS} (h:Weak S T) (h':Weak T U):Weak S U:=fun c nt a w hs=>h' c nt a w (h c nt a w hs)
theorem AW.weak {x:Code} {T:AS} (hw:Weak S T) (h:AW P nt R (.code x::k) T):AW P nt R (.code x::k) S:=fun c a w hP hs=>h c a w hP (hw c nt a w hs)
theorem AW.loop {x:Code} {α:Type} (St:α→AS) (μ:α→Nat) (x0:α) (h0:Weak S (St x0)) (h:∀ z,AW P nt R (.code x::.stop (fun S'=>∃ z',Weak S' (St z')∧μ z'<μ z)::k) (St z)):AW P nt R (.code (.loop x)::k) S:=by
 intro c a w hP hs
 refine b2l (fun n a w=>∃ z c',μ z=n∧Le c c'∧Sim c' nt (St z) a w) (μ x0) ⟨x0,c,rfl,.refl c,h0 c nt a w hs⟩ ?_
 rintro n a w ⟨z,c',rfl,hl,hz⟩
 refine wpIn_mono (AWp.le (h z) hl hP hz) ?_
 intro e a' w' hq
 cases e<;>simp only[Exit.then]<;>simp only[iH]at hq ⊢<;>(try exact hq)
 obtain⟨c2,S',hl2,⟨z',h1,h2⟩,h3⟩:=hq
 exact⟨_,h2,z',c2,rfl,hl2,h1 c2 nt a' w' h3⟩
theorem a8y {x:Code} {α:Type} (J:α→AS) (h:AW P nt R (.code x::.stop (fun S'=>∃ z,Weak S' (J z))::k) S) (h2:∀ z,AW P nt R k (J z)):AW P nt R (.code x::k) S:=by
 intro c a w hP hs
 refine wpIn_mono (h c a w hP hs) ?_
 intro e a' w' hq
 cases e<;>simp only[iH]at hq ⊢<;>(try exact hq)
 obtain⟨c2,S',hl2,⟨z,h1⟩,h3⟩:=hq
 exact⟨c2,_,hl2,h2 z,h1 c2 nt a' w' h3⟩
theorem a4c {S:AS} {t o:List (Nat × AV)} {nx:Nat} (ht:∀ p∈t,look S.t p.1=p.2) (ho:∀ p∈o,look S.o p.1=p.2) (hnx:S.nx≤nx):Weak S ⟨t,o,nx⟩:=by
 have hl:∀ (l s:List (Nat × AV)),(∀ p∈l,look s p.1=p.2)→∀ k,look l k=.any∨look l k=look s k:=by
  intro l s
  induction l with
  | nil=>intro _ k;exact .inl rfl
  | cons p l ih =>
   intro h k
   obtain⟨i,a⟩:=p
   simp only[look]
   by_cases hi:i=k
   ·rw[if_pos hi]
    right
    have:=h (i,a) (by simp)
    simp only at this
    rw[← hi,this]
   ·rw[if_neg hi]
    exact ih (fun p hp=>h p (by simp[hp])) k
 intro c nt a w hs
 obtain⟨g,rfl,hg,htk,hsz,hu,hln,h8⟩:=hs
 have hlo:=hl o S.o ho
 have hlt:=hl t S.t ht
 have hbl:∀ l b,aE g l (look o l)=some b→aE g l (look S.o l)=some b:=by
  intro l b hb
  rcases hlo l with h|h
  ·rw[h]at hb;simp[aE]at hb
  ·rw[← h];exact hb
 refine⟨g,rfl,⟨hg.os,hg.tape,hg.output,hg.size,hg.old,hg.fzo,hg.fzn,hg.fzx,fun l=>?_,fun l b hb=>hg.own l b (hbl l b hb),fun l l' b hb hb'=>hg.dis l l' b (hbl l b hb) (hbl l' b hb')⟩,⟨htk.1,fun k=>?_⟩,hsz,fun l hl=>An (hu l hl) hnx,hln,Ak h8 hnx⟩
 ·show ObjOk g l (look o l)
  rcases hlo l with h|h
  ·rw[h];trivial
  ·rw[h];exact hg.obj l
 ·show Rel g (look t k) _
  rcases hlt k with h|h
  ·rw[h];exact .any _
  ·rw[h];exact htk.2 k
end Go.Sx
