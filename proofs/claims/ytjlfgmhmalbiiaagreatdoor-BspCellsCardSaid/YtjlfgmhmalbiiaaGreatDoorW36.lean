import Derived.Test.YtjlfgmhmalbiiaaGreatDoorW35
set_option linter.all false
open Bool renaming or_eq_true → Aj, or_false → Am
open List renaming getD_eq_getElem?_getD → Aa, mem_append → Ab, length_append → Ac, range → Ad, getElem?_eq_getElem → Ae, nodup_range → Af, perm_append_comm → Ag, mem_cons → Ah, length_cons → Ai, mem_range → Ak, any_cons → Al, any_nil → An
open Rat renaming not_lt → Ao
namespace Go.Sx
open Geo (V Sd)
set_option linter.unusedVariables false
inductive BT where
 | lf (b:Bool)
 | nd (k:Nat) (p:Pl) (l r:BT)
def lfv (b:Bool):Int:=if b then -1 else 0
namespace BT
def ids:BT→List Nat
 | lf _=>[]
 | nd k _ l r=>k::(ids l++ids r)
def pls:BT→List Pl
 | lf _=>[]
 | nd _ p l r=>p::(pls l++pls r)
def ht:BT→Nat
 | lf _=>0
 | nd _ _ l r=>max (ht l) (ht r)+1
def leaves (x:Pt):BT→List Int
 | lf b=>[lfv b]
 | nd _ p l r=>(if 0<aB p x then []else leaves x l)++(if aB p x<0 then []else leaves x r)
def cells:BT→aC→List aC
 | lf b,c=>if b then [c]else []
 | nd _ p l r,c=>cells l (aP p c).1++cells r (aP p c).2
def chk:BT→aC→Bool
 | lf _,c=>!c.isEmpty
 | nd _ p l r,c=>!c.isEmpty&&(chk l (aP p c).1&&chk r (aP p c).2)
def turn:BT→BT
 | lf b=>lf (!b)
 | nd k p l r=>nd k p (turn l) (turn r)
def tl:BT→Nat
 | lf b=>if b then 1 else 0
 | nd _ _ l r=>tl l+tl r
def reach:BT→Bool→V→Prop
 | lf b',b,_=>b'=b
 | nd _ p l r,b,x=>((tH p).at x≤0∧reach l b x)∨(0≤(tH p).at x∧reach r b x)
theorem chk_ne {T:BT} {c:aC} (h:T.chk c=true):c≠[]:=by
 intro e;subst e;cases T<;>simp[chk]at h
theorem chk_nd {k:Nat} {p:Pl} {l r:BT} {c:aC}:(nd k p l r).chk c=true↔c≠[]∧l.chk (aP p c).1=true∧r.chk (aP p c).2=true:=by
 simp[chk]
theorem cells_len (T:BT):∀ c,(T.cells c).length=T.tl:=by
 induction T with
 | lf b=>intro c;cases b<;>rfl
 | nd k p l r hl hr=>intro c;simp only[cells,tl,Ac,hl,hr]
theorem tl_turn (T:BT):T.tl+T.turn.tl=T.ids.length+1:=by
 induction T with
 | lf b=>cases b<;>rfl
 | nd k p l r hl hr=>simp only[tl,turn,ids,Ai,Ac]at *;omega
theorem reach_any (T:BT) (x:V):T.reach true x∨T.reach false x:=by
 induction T with
 | lf b=>cases b<;>simp[reach]
 | nd k p l r hl hr =>
  simp only[reach]
  by_cases h:(tH p).at x≤0
  ·rcases hl with q|q
   ·exact .inl (.inl ⟨h,q⟩)
   ·exact .inr (.inl ⟨h,q⟩)
  ·have h':0≤(tH p).at x:=by grind
   rcases hr with q|q
   ·exact .inl (.inr ⟨h',q⟩)
   ·exact .inr (.inr ⟨h',q⟩)
theorem c4p {p:Pl} {x:Pt} (hw:0<x.w):¬ 0<aB p x↔(tH p).at (tv x)≤0:=by
 have h1:0<(tH p).at (tv x)↔0<aB p x:=(kA p hw).trans lL.symm
 rw[← h1]
 exact Ao
theorem c4q {p:Pl} {x:Pt} (hw:0<x.w):¬ aB p x<0↔0≤(tH p).at (tv x):=by
 have h1:(tH p).at (tv x)<0↔aB p x<0:=(nJ p hw).trans lM.symm
 rw[← h1]
 exact Ao
theorem leaves_iff (T:BT) {x:Pt} (hw:0<x.w) (b:Bool):lfv b∈T.leaves x↔T.reach b (tv x):=by
 induction T with
 | lf b'=>cases b'<;>cases b<;>simp[leaves,reach,lfv]
 | nd k p l r hl hr =>
  simp only[leaves,reach,Ab,← c4p hw,← c4q hw,← hl,← hr]
  refine or_congr ?_ ?_<;>split<;>rename_i h<;>simp[h]
theorem leaves_two (T:BT) (x:Pt):∀ k∈T.leaves x,k=-1∨k=0:=by
 induction T with
 | lf b=>cases b<;>simp[leaves,lfv]
 | nd k p l r hl hr =>
  intro q hq
  simp only[leaves,Ab]at hq
  rcases hq with hq|hq
  ·split at hq
   ·simp at hq
   ·exact hl q hq
  ·split at hq
   ·simp at hq
   ·exact hr q hq
def nz (T:BT):Prop:=∀ p∈T.pls,(tH p).n≠⟨0,0,0⟩
theorem gK {k:Nat} {p:Pl} {l r:BT}:(nd k p l r).nz↔(tH p).n≠⟨0,0,0⟩∧l.nz∧r.nz:=by
 unfold nz
 simp only[pls,Ah,Ab]
 constructor
 ·intro h;exact⟨h p (.inl rfl),fun q hq=>h q (.inr (.inl hq)),fun q hq=>h q (.inr (.inr hq))⟩
 ·rintro⟨h1,h2,h3⟩ q (rfl|hq|hq)
  ·exact h1
  ·exact h2 q hq
  ·exact h3 q hq
theorem a0s (b:Pl) (v:V):(tH (aW b)).at v=- (tH b).at v:=by rw[a1c,Geo.m8]
theorem a9t {b:Pl} (hn:(tH b).n≠⟨0,0,0⟩):(tH (aW b)).n≠⟨0,0,0⟩:=by
 intro e
 apply hn
 rw[a1c]at e
 have ex:=congrArg Geo.V.x e
 have ey:=congrArg Geo.V.y e
 have ez:=congrArg Geo.V.z e
 simp only[Geo.neg,Geo.c9,Geo.c8,Geo.c7]at ex ey ez
 apply Geo.V.ext<;>simp only<;>grind
theorem uK {k : Nat} {p : Pl} {l r : BT} {c : aC} (hc : CellOK c) (hn : (nd k p l r).nz) (h : (nd k p l r).chk c = true) :
  CellOK (beh p c)∧CellOK (beh (aW p) c)∧(aP p c).1=beh p c∧(aP p c).2=beh (aW p) c∧l.chk (beh p c)=true∧r.chk (beh (aW p) c)=true:=by
 obtain⟨h0,h1,h2⟩:=chk_nd.1 h
 obtain⟨n0,_,_⟩:=gK.1 hn
 have hf:=b7i (.inr hc) n0
 have e1:(aP p c).1=beh p c:=rfl
 rw[e1]at h1
 rw[hf]at h2
 have o1:=b0o (b:=p) (.inr hc)
 have o2:=b0o (b:=aW p) (.inr hc)
 exact⟨o1.elim (fun e=>absurd e (chk_ne h1)) id,o2.elim (fun e=>absurd e (chk_ne h2)) id,rfl,hf,h1,h2⟩
theorem cells_ok {T:BT}:∀ {c:aC},CellOK c→T.nz→T.chk c=true→∀ d∈T.cells c,CellOK d:=by
 induction T with
 | lf b=>intro c hc _ _ d hd;cases b<;>simp[cells]at hd;subst hd;exact hc
 | nd k p l r hl hr =>
  intro c hc hn h d hd
  obtain⟨c1,c2,e1,e2,h1,h2⟩:=uK hc hn h
  simp only[cells,Ab,e1,e2]at hd
  rcases hd with hd|hd
  ·exact hl c1 (gK.1 hn).2.1 h1 d hd
  ·exact hr c2 (gK.1 hn).2.2 h2 d hd
theorem cells_sm {T:BT}:∀ {c:aC} {d:Nat},SmC d c→T.nz→(∀ p∈T.pls,BPl 6 p)→T.chk c=true→∀ e∈T.cells c,SmC (d+T.ht) e:=by
 induction T with
 | lf b=>intro c d hc _ _ _ e he;cases b<;>simp[cells]at he;subst he;exact hc
 | nd k p l r hl hr =>
  intro c d hc hn hp h e he
  obtain⟨c1,c2,e1,e2,h1,h2⟩:=uK hc.toCellOK hn h
  have hs:=wH hc (hp p (by simp[pls]))
  rw[e1,e2]at hs
  have s1:=hs.1.elim (fun q=>absurd q (chk_ne h1)) id
  have s2:=hs.2.elim (fun q=>absurd q (chk_ne h2)) id
  simp only[cells,Ab,e1,e2]at he
  have key:∀ j,j≤max l.ht r.ht→SmC (d+1+j) e→SmC (d+(nd k p l r).ht) e:=fun j hj q=>⟨q.toCellOK,by have:=q.n;simp only[ht];omega,q.p⟩
  rcases he with he|he
  ·exact key _ (Nat.le_max_left _ _) (hl s1 (gK.1 hn).2.1 (fun q hq=>hp q (by simp[pls,hq])) h1 e he)
  ·exact key _ (Nat.le_max_right _ _) (hr s2 (gK.1 hn).2.2 (fun q hq=>hp q (by simp[pls,hq])) h2 e he)
theorem cells_cl {T:BT} (x:V):∀ {c:aC},CellOK c→T.nz→T.chk c=true→((T.reach true x∧Geo.Cl (sds c) x)↔∃ d∈T.cells c,Geo.Cl (sds d) x):=by
 induction T with
 | lf b=>intro c hc _ _;cases b<;>simp[cells,reach]
 | nd k p l r hl hr =>
  intro c hc hn h
  obtain⟨c1,c2,e1,e2,h1,h2⟩:=uK hc hn h
  simp only[cells,Ab,e1,e2,reach]
  have i1:=hl c1 (gK.1 hn).2.1 h1
  have i2:=hr c2 (gK.1 hn).2.2 h2
  rw[b0p (.inr hc) (chk_ne h1)]at i1
  rw[b0p (.inr hc) (chk_ne h2),a0s]at i2
  have z:- (tH p).at x≤0↔0≤(tH p).at x:=by constructor<;>intro q<;>grind
  rw[z]at i2
  constructor
  ·rintro⟨⟨a,b⟩|⟨a,b⟩,q⟩
   ·obtain⟨d,d1,d2⟩:=i1.1 ⟨b,q,a⟩;exact⟨d,.inl d1,d2⟩
   ·obtain⟨d,d1,d2⟩:=i2.1 ⟨b,q,a⟩;exact⟨d,.inr d1,d2⟩
  ·rintro⟨d,d1|d1,d2⟩
   ·obtain⟨b,q,a⟩:=i1.2 ⟨d,d1,d2⟩;exact⟨.inl ⟨a,b⟩,q⟩
   ·obtain⟨b,q,a⟩:=i2.2 ⟨d,d1,d2⟩;exact⟨.inr ⟨a,b⟩,q⟩
theorem cells_inn {T:BT} {x:V}:∀ {c:aC},CellOK c→T.nz→T.chk c=true→∀ d∈T.cells c,InnP d x→¬ T.reach false x∧InnP c x:=by
 induction T with
 | lf b=>intro c hc _ _ d hd hx;cases b<;>simp[cells]at hd;subst hd;exact⟨by simp[reach],hx⟩
 | nd k p l r hl hr =>
  intro c hc hn h d hd hx
  obtain⟨c1,c2,e1,e2,h1,h2⟩:=uK hc hn h
  have n0:=(gK.1 hn).1
  simp only[cells,Ab,e1,e2]at hd
  simp only[reach]
  rcases hd with hd|hd
  ·obtain⟨q1,q2⟩:=hl c1 (gK.1 hn).2.1 h1 d hd hx
   obtain⟨q3,q4⟩:=(xB (.inr hc) n0 x).1 q2
   refine⟨?_,q3⟩
   rintro (⟨_,q⟩|⟨q,_⟩)
   ·exact q1 q
   ·grind
  ·obtain⟨q1,q2⟩:=hr c2 (gK.1 hn).2.2 h2 d hd hx
   obtain⟨q3,q4⟩:=(xB (.inr hc) (a9t n0) x).1 q2
   rw[a0s]at q4
   refine⟨?_,q3⟩
   rintro (⟨q,_⟩|⟨_,q⟩)
   ·grind
   ·exact q1 q
theorem cells_one {T:BT} (x:V):∀ {c:aC},CellOK c→T.nz→T.chk c=true→(T.cells c).Pairwise fun d e=>¬ (InnP d x∧InnP e x):=by
 induction T with
 | lf b=>intro c hc _ _;cases b<;>simp[cells]
 | nd k p l r hl hr =>
  intro c hc hn h
  obtain⟨c1,c2,e1,e2,h1,h2⟩:=uK hc hn h
  have n0:=(gK.1 hn).1
  simp only[cells,e1,e2,List.pairwise_append]
  refine⟨hl c1 (gK.1 hn).2.1 h1,hr c2 (gK.1 hn).2.2 h2,fun d hd e he hh=>?_⟩
  have q1:=(cells_inn c1 (gK.1 hn).2.1 h1 d hd hh.1).2
  have q2:=(cells_inn c2 (gK.1 hn).2.2 h2 e he hh.2).2
  have q3:=((xB (.inr hc) n0 x).1 q1).2
  have q4:=((xB (.inr hc) (a9t n0) x).1 q2).2
  rw[a0s]at q4
  grind
end BT
def cD (x:Pt):Int:=if 1000*x.w<x.x.natAbs∨1000*x.w<x.y.natAbs∨1000*x.w<x.z.natAbs then -1 else if x.x.natAbs=1000*x.w∨x.y.natAbs=1000*x.w∨x.z.natAbs=1000*x.w then 0 else 1
theorem c2d (x:Pt):cJ aN x=cD x:=by
 have hne:¬ aN=[]:=by unfold aN;simp
 have ho:kG aN x=true↔(1000*x.w<x.x.natAbs∨1000*x.w<x.y.natAbs∨1000*x.w<x.z.natAbs):=by
  unfold kG aN
  simp only[Al,An,Am,Aj,decide_eq_true_eq,aB,lL,abv]
  omega
 have hi:onB aN x=true↔(x.x.natAbs=1000*x.w∨x.y.natAbs=1000*x.w∨x.z.natAbs=1000*x.w)∨(x.w<0∧(x.x.natAbs=- 1000*x.w∨x.y.natAbs=- 1000*x.w∨x.z.natAbs=- 1000*x.w)):=by
  unfold onB aN
  simp only[Al,An,Am,Aj,decide_eq_true_eq,mW,abv]
  omega
 unfold cJ cD
 by_cases h1:kG aN x=true
 ·rw[if_pos (.inr h1),if_pos (ho.1 h1)]
 ·rw[if_neg (fun e=>e.elim hne h1),if_neg (fun e=>h1 (ho.2 e))]
  have h3:¬ x.w<0:=fun h=>h1 (ho.2 (by omega))
  by_cases h2:onB aN x=true
  ·rw[if_pos h2,if_pos ((hi.1 h2).elim id (fun e=>absurd e.1 h3))]
  ·rw[if_neg h2,if_neg (fun e=>h2 (hi.2 (.inl e)))]
end Go.Sx
namespace Go.Sx
set_option linter.unusedVariables false
abbrev TN:=Pl × Int × Int
def Rep (N:List TN):BT→Int→Prop
 | .lf b,k=>k=lfv b
 | .nd j p l r,k=>k=(j:Int)+1∧∃ n,N[j]?=some n∧n.1=p∧Rep N l n.2.1∧Rep N r n.2.2
def Reps (N:List TN):List BT→List Int→Prop
 | [],[]=>True
 | T::Ts,k::ks=>Rep N T k∧Reps N Ts ks
 | _,_=>False
def uH (Ts:List BT):List Nat:=Ts.flatMap BT.ids
def bV (N:List TN) (todo:List Int) (met:List Nat):Prop:=∃ Ts,Reps N Ts todo∧(uH Ts++met).Perm (Ad N.length)
theorem yZ (b:Bool):lfv b=-1∨lfv b=0:=by cases b<;>simp[lfv]
theorem b6c {N:List TN} {ks ks':List Int} (h:ks.Perm ks'):∀ {Ts:List BT},Reps N Ts ks→∃ Ts',Reps N Ts' ks'∧Ts.Perm Ts':=by
 induction h with
 | nil=>intro Ts h;exact⟨Ts,h,.refl _⟩
 | cons k _ ih =>
  intro Ts h
  cases Ts with
  | nil=>exact h.elim
  | cons T Ts =>
   obtain⟨Ts',h1,h2⟩:=ih h.2
   exact⟨T::Ts',⟨h.1,h1⟩,h2.cons T⟩
 | swap a b l =>
  intro Ts h
  match Ts,h with
  | [],h=>exact h.elim
  | [_],h=>exact h.2.elim
  | T::U::Ts,h=>exact⟨U::T::Ts,⟨h.2.1,h.1,h.2.2⟩,.swap _ _ _⟩
 | trans _ _ ih1 ih2 =>
  intro Ts h
  obtain⟨T1,a1,a2⟩:=ih1 h
  obtain⟨T2,b1,b2⟩:=ih2 a1
  exact⟨T2,b1,a2.trans b2⟩
theorem vE {N:List TN} {ks ks':List Int} {met met':List Nat} (h:ks.Perm ks') (hm:met.Perm met'):bV N ks met↔bV N ks' met':=by
 have key:∀ {ks ks':List Int} {met met':List Nat},ks.Perm ks'→met.Perm met'→bV N ks met→bV N ks' met':=by
  rintro ks ks' met met' h hm ⟨Ts,h1,h2⟩
  obtain⟨Ts',h3,h4⟩:=b6c h h1
  exact⟨Ts',h3,(List.Perm.append (h4.symm.flatMap_right _) hm.symm).trans h2⟩
 exact⟨key h hm,key h.symm hm.symm⟩
theorem a3c {N:List TN} {k:Int} {ks:List Int} {met:List Nat} (hk:k=-1∨k=0):bV N (k::ks) met↔bV N ks met:=by
 constructor
 ·rintro⟨Ts,h1,h2⟩
  cases Ts with
  | nil=>exact h1.elim
  | cons T Ts =>
   refine⟨Ts,h1.2,?_⟩
   cases T with
   | lf b=>exact h2
   | nd j p l r=>have:=h1.1.1;omega
 ·rintro⟨Ts,h1,h2⟩
  refine⟨.lf (decide (k=-1))::Ts,⟨?_,h1⟩,h2⟩
  rcases hk with rfl|rfl<;>simp[Rep,lfv]
theorem c9b {N:List TN} {T:BT}:∀ {k:Int},Rep N T k→(k=-1∨k=0)∨(1≤k∧k≤N.length∧(k - 1).toNat∈T.ids):=by
 cases T with
 | lf b=>intro k h;exact .inl (by rw[show k=lfv b from h];exact yZ b)
 | nd j p l r =>
  rintro k ⟨rfl,n,n1,_⟩
  have:=(List.getElem?_eq_some_iff.1 n1).1
  exact .inr ⟨by omega,by omega,by simp[BT.ids]⟩
theorem b6f {a b c:List Nat} {n:Nat} (h:(a++b++c).Perm (Ad n)) {x:Nat} (h1:x∈a) (h2:x∈c):False:=by
 have:=h.nodup_iff.2 Af
 rw[List.nodup_append]at this
 exact this.2.2 x (List.mem_append_left _ h1) x h2 rfl
theorem a3x {N:List TN} {k:Int} {ks:List Int} {met:List Nat} (hk:k < -1∨N.length<k∨(1≤k∧(k - 1).toNat∈met)):¬ bV N (k::ks) met:=by
 rintro⟨Ts,h1,h2⟩
 cases Ts with
 | nil=>exact h1.elim
 | cons T Ts =>
  have:=c9b h1.1
  rcases hk with hk|hk|⟨hk,hm⟩
  ·omega
  ·omega
  ·rcases this with h|⟨_,_,h⟩
   ·omega
   ·exact b6f h2 h hm
theorem a3b {N:List TN} {j:Nat} {n:TN} {ks:List Int} {met:List Nat} (hn:N[j]?=some n):bV N (((j:Int)+1)::ks) met↔bV N (n.2.1::n.2.2::ks) (j::met):=by
 have pm:∀ (a b c:List Nat),(((j::(a++b))++c)++met).Perm ((a++(b++c))++(j::met)):=fun a b c=>by
  have:((j::(a++b))++c)++met=j::((a++(b++c))++met):=by simp
  rw[this]
  exact List.perm_middle.symm
 constructor
 ·rintro⟨Ts,h1,h2⟩
  cases Ts with
  | nil=>exact h1.elim
  | cons T Ts =>
   cases T with
   | lf b=>have h3:(j:Int)+1=lfv b:=h1.1;rcases yZ b with e|e<;>omega
   | nd j' p l r =>
    obtain⟨⟨e1,m,m1,rfl,m3,m4⟩,h3⟩:=h1
    obtain rfl:j'=j:=by omega
    rw[hn]at m1
    obtain rfl:=Option.some.inj m1
    exact⟨l::r::Ts,⟨m3,m4,h3⟩,(pm _ _ _).symm.trans h2⟩
 ·rintro⟨Ts,h1,h2⟩
  match Ts,h1 with
  | [],h1=>exact h1.elim
  | [_],h1=>exact h1.2.elim
  | l::r::Ts,h1 =>
   exact⟨.nd j n.1 l r::Ts,⟨⟨rfl,n,hn,rfl,h1.1,h1.2.1⟩,h1.2.2⟩,(pm _ _ _).trans h2⟩
theorem a3v {N:List TN} {k:Int}:bV N [k] []↔∃ T,Rep N T k∧T.ids.Perm (Ad N.length):=by
 constructor
 ·rintro⟨Ts,h1,h2⟩
  match Ts,h1 with
  | [],h1=>exact h1.elim
  | [T],h1=>exact⟨T,h1.1,by simpa [uH]using h2⟩
  | _::_::_,h1=>exact h1.2.elim
 ·rintro⟨T,h1,h2⟩
  exact⟨[T],⟨h1,trivial⟩,by simpa [uH]using h2⟩
def mtB (M:List Bool):List Nat:=(Ad M.length).filter fun j=>M.getD j false
theorem oC {M:List Bool} {j:Nat}:j∈mtB M↔j<M.length∧M.getD j false=true:=by simp[mtB]
theorem a1j (M:List Bool):(mtB M).Nodup:=Af.filter _
theorem a2x {a b:List Nat} (ha:a.Nodup) (hb:b.Nodup) (h:∀ x,x∈a↔x∈b):a.Perm b:=(List.perm_ext_iff_of_nodup ha hb).2 h
theorem a6a {M:List Bool} {j i:Nat} (hj:j<M.length):(M.set j true).getD i false=if i=j then true else M.getD i false:=by
 rw[Aa,Aa,List.getElem?_set]
 by_cases h:j=i
 ·subst h;simp[hj]
 ·rw[if_neg h,if_neg (fun e=>h e.symm)]
theorem a7u {M:List Bool} {j:Nat} (hj:j<M.length) (h:M.getD j false=false):(mtB (M.set j true)).Perm (j::mtB M):=by
 refine a2x (a1j _) (List.nodup_cons.2 ⟨fun hm=>?_,a1j _⟩) fun x=>?_
 ·have:=(oC.1 hm).2;rw[h]at this;contradiction
 ·rw[oC,List.length_set,a6a hj,Ah,oC]
  by_cases e:x=j
  ·subst e;simp[hj]
  ·simp[e]
theorem a7v (n:Nat):mtB (List.replicate n false)=[]:=by
 unfold mtB
 rw[List.filter_eq_nil_iff]
 intro a ha
 simp[Aa,List.getElem?_replicate]
 split<;>simp
theorem a3w {N:List TN} {M:List Bool} (hM:M.length=N.length):bV N [] (mtB M)↔∀ b∈M,b=true:=by
 have h1:bV N [] (mtB M)↔(mtB M).Perm (Ad N.length):=by
  constructor
  ·rintro⟨Ts,h1,h2⟩
   cases Ts with
   | nil=>simpa [uH]using h2
   | cons T Ts=>exact h1.elim
  ·exact fun h=>⟨[],trivial,by simpa [uH]using h⟩
 rw[h1]
 constructor
 ·intro h b hb
  obtain⟨i,hi,rfl⟩:=List.getElem_of_mem hb
  have:=(oC.1 (h.mem_iff.2 (Ak.2 (hM▸hi)))).2
  rw[Aa,Ae hi]at this
  exact this
 ·intro h
  refine a2x (a1j _) Af fun x=>?_
  rw[oC,Ak,hM]
  refine⟨And.left,fun hx=>⟨hx,?_⟩⟩
  rw[Aa,Ae (hM▸hx)]
  exact h _ (List.getElem_mem _)
theorem yK {N:List TN} {k:Int} {ks:List Int} {met:List Nat}:bV N (ks++[k]) met↔bV N (k::ks) met:=vE Ag (.refl _)
theorem a3u {N:List TN} {a b:Int} {ks:List Int} {met:List Nat}:bV N (ks++[a,b]) met↔bV N (a::b::ks) met:=vE Ag (.refl _)
structure TrOK (N:List TN) (k:Int) (T:BT):Prop where
 rep:Rep N T k
 perm:T.ids.Perm (Ad N.length)
theorem TrOK.len {N:List TN} {k:Int} {T:BT} (h:TrOK N k T):T.ids.length=N.length:=by rw[h.perm.length_eq,List.length_range]
theorem b1q (T:BT):T.ht≤T.ids.length:=by
 induction T with
 | lf b=>exact Nat.zero_le _
 | nd j p l r hl hr=>simp only[BT.ht,BT.ids,Ai,Ac];omega
theorem a7f {N:List TN} {T:BT}:∀ {k:Int},Rep N T k→∀ p∈T.pls,∃ n∈N,n.1=p:=by
 induction T with
 | lf b=>intro k _ p hp;simp[BT.pls]at hp
 | nd j q l r hl hr =>
  rintro k ⟨_,n,n1,rfl,n3,n4⟩ p hp
  simp only[BT.pls,Ah,Ab]at hp
  rcases hp with rfl|hp|hp
  ·exact⟨n,List.mem_of_getElem? n1,rfl⟩
  ·exact hl n3 p hp
  ·exact hr n4 p hp
def BT.chkR:BT→aC→Bool
 | .lf _,_=>true
 | .nd _ p l r,c=>!(cP p c).1.isEmpty&&(!(cP p c).2.isEmpty&&(chkR l (cP p c).1&&chkR r (cP p c).2))
theorem c6r {T:BT}:∀ {c d:aC},CellOK c→CellOK d→RC c d→(T.chkR c=true↔T.chk d=true):=by
 induction T with
 | lf b=>intro c d _ hd _;simp[BT.chkR,BT.chk,hd.ne]
 | nd j p l r hl hr =>
  intro c d hc hd h
  obtain⟨r1,r2⟩:=h.spl hc hd p
  have o1:=a7d (b:=p) hc
  have o2:=zF (b:=p) hd
  rw[BT.chk_nd]
  simp only[BT.chkR,Bool.and_eq_true,Bool.not_eq_true',List.isEmpty_eq_false_iff]
  constructor
  ·rintro⟨n1,n2,h1,h2⟩
   have m1:(aP p d).1≠[]:=fun e=>n1 (r1.nil_iff.2 e)
   have m2:(aP p d).2≠[]:=fun e=>n2 (r2.nil_iff.2 e)
   exact⟨hd.ne,(hl (o1.1.elim (fun e=>absurd e n1) id) (o2.1.elim (fun e=>absurd e m1) id) r1).1 h1,(hr (o1.2.elim (fun e=>absurd e n2) id) (o2.2.elim (fun e=>absurd e m2) id) r2).1 h2⟩
  ·rintro⟨_,h1,h2⟩
   have m1:=BT.chk_ne h1
   have m2:=BT.chk_ne h2
   have n1:(cP p c).1≠[]:=fun e=>m1 (r1.nil_iff.1 e)
   have n2:(cP p c).2≠[]:=fun e=>m2 (r2.nil_iff.1 e)
   exact⟨n1,n2,(hl (o1.1.elim (fun e=>absurd e n1) id) (o2.1.elim (fun e=>absurd e m1) id) r1).2 h1,(hr (o1.2.elim (fun e=>absurd e n2) id) (o2.2.elim (fun e=>absurd e m2) id) r2).2 h2⟩
end Go.Sx
