import Derived.Test.YtjlfgmhmalbiiaaGreatDoorX34
set_option linter.all false
open Array renaming getD_eq_getD_getElem? → Ad, size_setIfInBounds → Al
open List renaming getD_eq_getElem?_getD → Aa, mem_cons → Ac, mem_map → Ag, map_cons → Ah, range → Aj, getElem?_eq_getElem → Ak, nodup_range → Am, perm_append_comm → An, all_eq_true → Ap, nodup_cons → Aq, mem_range → Ar
open Nat renaming lt_of_lt_of_le → Ab, not_lt → Af, le_refl → Ai, le_trans → Ao, lt_irrefl → As, zero_le → At
open Option renaming some → Ae
namespace Go.Sx
set_option linter.unusedVariables false
abbrev TN:=Pl × Int × Int
def Rep (N:List TN):BT→Int→Prop
 | .lf b,k=>k=lfv b
 | .nd j p l r,k=>k=(j:Int)+1∧∃ n,N[j]?=some n∧n.1=p∧Rep N l n.2.1∧Rep N r n.2.2
def Reps (N:List TN):List BT→List Int→Prop
 | [],[]=>True
 | T::Ts,k::ks=>Rep N T k∧Reps N Ts ks
 | _,_=>False
def uW (Ts:List BT):List Nat:=Ts.flatMap BT.ids
def b8 (N:List TN) (todo:List Int) (met:List Nat):Prop:=∃ Ts,Reps N Ts todo∧(uW Ts++met).Perm (Aj N.length)
theorem zR (b:Bool):lfv b=-1∨lfv b=0:=by cases b<;>simp[lfv]
theorem b7i {N:List TN} {ks ks':List Int} (h:ks.Perm ks'):∀ {Ts:List BT},Reps N Ts ks→∃ Ts',Reps N Ts' ks'∧Ts.Perm Ts':=by
 induction h with
 | nil=>intro Ts h;exact⟨Ts,h,.refl _⟩
 | cons k _ ih =>
  intro Ts h
  cases Ts with
  | nil=>exact h.elim
  | cons T Ts =>
   obtain⟨Ts',h1,h2⟩:=ih h.2
   exact⟨T::Ts',⟨h.1,h1⟩,h2.cons T⟩
 | swap a b l =>
  intro Ts h
  match Ts,h with
  | [],h=>exact h.elim
  | [_],h=>exact h.2.elim
  | T::U::Ts,h=>exact⟨U::T::Ts,⟨h.2.1,h.1,h.2.2⟩,.swap _ _ _⟩
 | trans _ _ ih1 ih2 =>
  intro Ts h
  obtain⟨T1,a1,a2⟩:=ih1 h
  obtain⟨T2,b1,b2⟩:=ih2 a1
  exact⟨T2,b1,a2.trans b2⟩
theorem vS {N:List TN} {ks ks':List Int} {met met':List Nat} (h:ks.Perm ks') (hm:met.Perm met'):b8 N ks met↔b8 N ks' met':=by
 have key:∀ {ks ks':List Int} {met met':List Nat},ks.Perm ks'→met.Perm met'→b8 N ks met→b8 N ks' met':=by
  rintro ks ks' met met' h hm ⟨Ts,h1,h2⟩
  obtain⟨Ts',h3,h4⟩:=b7i h h1
  exact⟨Ts',h3,(List.Perm.append (h4.symm.flatMap_right _) hm.symm).trans h2⟩
 exact⟨key h hm,key h.symm hm.symm⟩
theorem a4d {N:List TN} {k:Int} {ks:List Int} {met:List Nat} (hk:k=-1∨k=0):b8 N (k::ks) met↔b8 N ks met:=by
 constructor
 ·rintro⟨Ts,h1,h2⟩
  cases Ts with
  | nil=>exact h1.elim
  | cons T Ts =>
   refine⟨Ts,h1.2,?_⟩
   cases T with
   | lf b=>exact h2
   | nd j p l r=>have:=h1.1.1;omega
 ·rintro⟨Ts,h1,h2⟩
  refine⟨.lf (decide (k=-1))::Ts,⟨?_,h1⟩,h2⟩
  rcases hk with rfl|rfl<;>simp[Rep,lfv]
theorem a1z {N:List TN} {T:BT}:∀ {k:Int},Rep N T k→(k=-1∨k=0)∨(1≤k∧k≤N.length∧(k - 1).toNat∈T.ids):=by
 cases T with
 | lf b=>intro k h;exact .inl (by rw[show k=lfv b from h];exact zR b)
 | nd j p l r =>
  rintro k ⟨rfl,n,n1,_⟩
  have:=(List.getElem?_eq_some_iff.1 n1).1
  exact .inr ⟨by omega,by omega,by simp[BT.ids]⟩
theorem b7m {a b c:List Nat} {n:Nat} (h:(a++b++c).Perm (Aj n)) {x:Nat} (h1:x∈a) (h2:x∈c):False:=by
 have:=h.nodup_iff.2 Am
 rw[List.nodup_append]at this
 exact this.2.2 x (List.mem_append_left _ h1) x h2 rfl
theorem a5c {N:List TN} {k:Int} {ks:List Int} {met:List Nat} (hk:k < -1∨N.length<k∨(1≤k∧(k - 1).toNat∈met)):¬ b8 N (k::ks) met:=by
 rintro⟨Ts,h1,h2⟩
 cases Ts with
 | nil=>exact h1.elim
 | cons T Ts =>
  have:=a1z h1.1
  rcases hk with hk|hk|⟨hk,hm⟩
  ·omega
  ·omega
  ·rcases this with h|⟨_,_,h⟩
   ·omega
   ·exact b7m h2 h hm
theorem a4c {N:List TN} {j:Nat} {n:TN} {ks:List Int} {met:List Nat} (hn:N[j]?=some n):b8 N (((j:Int)+1)::ks) met↔b8 N (n.2.1::n.2.2::ks) (j::met):=by
 have pm:∀ (a b c:List Nat),(((j::(a++b))++c)++met).Perm ((a++(b++c))++(j::met)):=fun a b c=>by
  have:((j::(a++b))++c)++met=j::((a++(b++c))++met):=by simp
  rw[this]
  exact List.perm_middle.symm
 constructor
 ·rintro⟨Ts,h1,h2⟩
  cases Ts with
  | nil=>exact h1.elim
  | cons T Ts =>
   cases T with
   | lf b=>have h3:(j:Int)+1=lfv b:=h1.1;rcases zR b with e|e<;>omega
   | nd j' p l r =>
    obtain⟨⟨e1,m,m1,rfl,m3,m4⟩,h3⟩:=h1
    obtain rfl:j'=j:=by omega
    rw[hn]at m1
    obtain rfl:=Ae.inj m1
    exact⟨l::r::Ts,⟨m3,m4,h3⟩,(pm _ _ _).symm.trans h2⟩
 ·rintro⟨Ts,h1,h2⟩
  match Ts,h1 with
  | [],h1=>exact h1.elim
  | [_],h1=>exact h1.2.elim
  | l::r::Ts,h1 =>
   exact⟨.nd j n.1 l r::Ts,⟨⟨rfl,n,hn,rfl,h1.1,h1.2.1⟩,h1.2.2⟩,(pm _ _ _).trans h2⟩
theorem a5a {N:List TN} {k:Int}:b8 N [k] []↔∃ T,Rep N T k∧T.ids.Perm (Aj N.length):=by
 constructor
 ·rintro⟨Ts,h1,h2⟩
  match Ts,h1 with
  | [],h1=>exact h1.elim
  | [T],h1=>exact⟨T,h1.1,by simpa [uW]using h2⟩
  | _::_::_,h1=>exact h1.2.elim
 ·rintro⟨T,h1,h2⟩
  exact⟨[T],⟨h1,trivial⟩,by simpa [uW]using h2⟩
def mtB (M:List Bool):List Nat:=(Aj M.length).filter fun j=>M.getD j false
theorem oJ {M:List Bool} {j:Nat}:j∈mtB M↔j<M.length∧M.getD j false=true:=by simp[mtB]
theorem a2e (M:List Bool):(mtB M).Nodup:=Am.filter _
theorem a3x {a b:List Nat} (ha:a.Nodup) (hb:b.Nodup) (h:∀ x,x∈a↔x∈b):a.Perm b:=(List.perm_ext_iff_of_nodup ha hb).2 h
theorem a7q {M:List Bool} {j i:Nat} (hj:j<M.length):(M.set j true).getD i false=if i=j then true else M.getD i false:=by
 rw[Aa,Aa,List.getElem?_set]
 by_cases h:j=i
 ·subst h;simp[hj]
 ·rw[if_neg h,if_neg (fun e=>h e.symm)]
theorem a9n {M:List Bool} {j:Nat} (hj:j<M.length) (h:M.getD j false=false):(mtB (M.set j true)).Perm (j::mtB M):=by
 refine a3x (a2e _) (Aq.2 ⟨fun hm=>?_,a2e _⟩) fun x=>?_
 ·have:=(oJ.1 hm).2;rw[h]at this;contradiction
 ·rw[oJ,List.length_set,a7q hj,Ac,oJ]
  by_cases e:x=j
  ·subst e;simp[hj]
  ·simp[e]
theorem a9o (n:Nat):mtB (List.replicate n false)=[]:=by
 unfold mtB
 rw[List.filter_eq_nil_iff]
 intro a ha
 simp[Aa,List.getElem?_replicate]
 split<;>simp
theorem a5b {N:List TN} {M:List Bool} (hM:M.length=N.length):b8 N [] (mtB M)↔∀ b∈M,b=true:=by
 have h1:b8 N [] (mtB M)↔(mtB M).Perm (Aj N.length):=by
  constructor
  ·rintro⟨Ts,h1,h2⟩
   cases Ts with
   | nil=>simpa [uW]using h2
   | cons T Ts=>exact h1.elim
  ·exact fun h=>⟨[],trivial,by simpa [uW]using h⟩
 rw[h1]
 constructor
 ·intro h b hb
  obtain⟨i,hi,rfl⟩:=List.getElem_of_mem hb
  have:=(oJ.1 (h.mem_iff.2 (Ar.2 (hM▸hi)))).2
  rw[Aa,Ak hi]at this
  exact this
 ·intro h
  refine a3x (a2e _) Am fun x=>?_
  rw[oJ,Ar,hM]
  refine⟨And.left,fun hx=>⟨hx,?_⟩⟩
  rw[Aa,Ak (hM▸hx)]
  exact h _ (List.getElem_mem _)
theorem zA {N:List TN} {k:Int} {ks:List Int} {met:List Nat}:b8 N (ks++[k]) met↔b8 N (k::ks) met:=vS An (.refl _)
theorem a4z {N:List TN} {a b:Int} {ks:List Int} {met:List Nat}:b8 N (ks++[a,b]) met↔b8 N (a::b::ks) met:=vS An (.refl _)
structure TrOK (N:List TN) (k:Int) (T:BT):Prop where
 rep:Rep N T k
 perm:T.ids.Perm (Aj N.length)
theorem TrOK.len {N:List TN} {k:Int} {T:BT} (h:TrOK N k T):T.ids.length=N.length:=by rw[h.perm.length_eq,List.length_range]
theorem b2o (T:BT):T.ht≤T.ids.length:=by
 induction T with
 | lf b=>exact At _
 | nd j p l r hl hr=>simp only[BT.ht,BT.ids,List.length_cons,List.length_append];omega
theorem a8x {N:List TN} {T:BT}:∀ {k:Int},Rep N T k→∀ p∈T.pls,∃ n∈N,n.1=p:=by
 induction T with
 | lf b=>intro k _ p hp;simp[BT.pls]at hp
 | nd j q l r hl hr =>
  rintro k ⟨_,n,n1,rfl,n3,n4⟩ p hp
  simp only[BT.pls,Ac,List.mem_append]at hp
  rcases hp with rfl|hp|hp
  ·exact⟨n,List.mem_of_getElem? n1,rfl⟩
  ·exact hl n3 p hp
  ·exact hr n4 p hp
def jL (k:Int):Int:=if k<1 then -1 - k else k
def fW (n:TN):TN:=(n.1,jL n.2.1,jL n.2.2)
theorem c1n {N:List TN} {T:BT}:∀ {k:Int},Rep N T k→Rep (N.map fW) T.turn (jL k):=by
 induction T with
 | lf b=>intro k h;rw[show k=lfv b from h];cases b<;>rfl
 | nd j p l r hl hr =>
  rintro k ⟨rfl,n,n1,rfl,n3,n4⟩
  refine⟨if_neg (by omega),fW n,by rw[List.getElem?_map,n1];rfl,rfl,hl n3,hr n4⟩
theorem TrOK.turn {N:List TN} {k:Int} {T:BT} (h:TrOK N k T):TrOK (N.map fW) (jL k) T.turn:=⟨c1n h.rep,by rw[BT.turn_ids,List.length_map];exact h.perm⟩
def BT.chkR:BT→aE→Bool
 | .lf _,_=>true
 | .nd _ p l r,c=>!(cY p c).1.isEmpty&&(!(cY p c).2.isEmpty&&(chkR l (cY p c).1&&chkR r (cY p c).2))
theorem c8p {T:BT}:∀ {c d:aE},CellOK c→CellOK d→RC c d→(T.chkR c=true↔T.chk d=true):=by
 induction T with
 | lf b=>intro c d _ hd _;simp[BT.chkR,BT.chk,hd.ne]
 | nd j p l r hl hr =>
  intro c d hc hd h
  obtain⟨r1,r2⟩:=h.spl hc hd p
  have o1:=a8u (b:=p) hc
  have o2:=a0c (b:=p) hd
  rw[BT.chk_nd]
  simp only[BT.chkR,Bool.and_eq_true,Bool.not_eq_true',List.isEmpty_eq_false_iff]
  constructor
  ·rintro⟨n1,n2,h1,h2⟩
   have m1:(aQ p d).1≠[]:=fun e=>n1 (r1.nil_iff.2 e)
   have m2:(aQ p d).2≠[]:=fun e=>n2 (r2.nil_iff.2 e)
   exact⟨hd.ne,(hl (o1.1.elim (fun e=>absurd e n1) id) (o2.1.elim (fun e=>absurd e m1) id) r1).1 h1,(hr (o1.2.elim (fun e=>absurd e n2) id) (o2.2.elim (fun e=>absurd e m2) id) r2).1 h2⟩
  ·rintro⟨_,h1,h2⟩
   have m1:=BT.chk_ne h1
   have m2:=BT.chk_ne h2
   have n1:(cY p c).1≠[]:=fun e=>m1 (r1.nil_iff.1 e)
   have n2:(cY p c).2≠[]:=fun e=>m2 (r2.nil_iff.1 e)
   exact⟨n1,n2,(hl (o1.1.elim (fun e=>absurd e n1) id) (o2.1.elim (fun e=>absurd e m1) id) r1).2 h1,(hr (o1.2.elim (fun e=>absurd e n2) id) (o2.2.elim (fun e=>absurd e m2) id) r2).2 h2⟩
end Go.Sx
namespace Go.Sx
set_option linter.unusedVariables false
set_option linter.unusedSimpArgs false
def r9:List Nat→List AV→List (Nat × AV)→List (Nat × AV)
 | p::ps,x::xs,t=>r9 ps xs ((p,x)::t)
 | _,_,t=>t
theorem b5r (ts:List AV) (k:Nat):look (aD 0 ts) k=ts.getD k .any:=by
 rw[a4b]
 by_cases h:k<ts.length
 ·rw[if_pos ⟨At _,by omega⟩];simp
 ·rw[if_neg (fun q=>h (by omega))]
  rw[Aa,List.getElem?_eq_none (by omega)];rfl
theorem c1o {g : Gh} : ∀ (ps : List Nat) (xs : List AV) (vs : List Value) (t : List (Nat × AV)) (tm : Array Value), ps.length = xs.length → (∀ p ∈ ps, p < tm.size) → RelL g xs vs → (∀ k, Rel g (look t k) (tm.getD k undef)) →
  ∀ k,Rel g (look (r9 ps xs t) k) (((ps.zip vs).foldl (fun tm (p,v)=>tm.setIfInBounds p v) tm).getD k undef)∧((ps.zip vs).foldl (fun tm (p,v)=>tm.setIfInBounds p v) tm).size=tm.size:=by
 intro ps
 induction ps with
 | nil=>intro xs vs t tm _ _ _ h k;exact⟨by cases xs<;>exact h k,by simp⟩
 | cons p ps ih =>
  intro xs vs t tm hl hp hr h k
  cases xs with
  | nil=>simp at hl
  | cons x xs =>
   cases vs with
   | nil=>simp[RelL]at hr
   | cons v vs =>
    have h0:=hr.2 0 (by simp) (by simp)
    have hr':RelL g xs vs:=⟨by simpa using hr.1,fun i h1 h2=>hr.2 (i+1) (by simpa using h1) (by simpa using h2)⟩
    have hlt:p<tm.size:=hp p (by simp)
    simp only[r9,List.zip_cons_cons,List.foldl_cons]
    have:=ih xs vs ((p,x)::t) (tm.setIfInBounds p v) (by simpa using hl) (fun q hq=>by rw[Al];exact hp q (by simp[hq])) hr' (fun k=>?_) k
    ·rw[Al]at this;exact this
    ·simp only[look]
     by_cases hk:p=k
     ·subst hk
      rw[if_pos rfl,Ad,Array.getElem?_setIfInBounds_self_of_lt hlt]
      exact h0
     ·rw[if_neg hk,Ad,Array.getElem?_setIfInBounds_ne hk,← Ad]
      exact h k
def Cx.at (c:Cx) (g:Gh) (ob:Nat→AV):Cx:={ c with w0:=g.w,fz0:=g.fz,W0:=fun b=>∃ l,aF g l (ob l)=some b }
theorem yP {c:Cx} {g:Gh} {ob:Nat→AV} (h:GOk c g ob):GOk (c.at g ob) g ob :=
 ⟨rfl,Tp.rfl,rfl,Ai _,fun _ _ _=>rfl,fun b hb=>hb,fun b hb=>.inl hb,h.fzx,h.obj,fun l b hb=>⟨.inl ⟨l,hb⟩,(h.own l b hb).2⟩,h.dis⟩
theorem xQ {c:Cx} {g:Gh} {ob:Nat→AV} (h:GOk c g ob) {g':Gh} {ob':Nat→AV} (k:GOk (c.at g ob) g' ob'):GOk c g' ob':=by
 refine⟨k.os.trans h.os,k.tape.trans h.tape,k.output.trans h.output,Ao h.size k.size,fun b hb hw=>?_,fun b hb=>k.fzo b (h.fzo b hb),fun b hb=>?_,k.fzx,k.obj,fun l b hb=>⟨?_,(k.own l b hb).2⟩,k.dis⟩
 ·refine (k.old b (Ab hb h.size) ?_).trans (h.old b hb hw)
  rintro⟨l,hl⟩
  rcases (h.own l b hl).1 with q|q
  ·exact hw q
  ·omega
 ·rcases k.fzn b hb with q|⟨l,q⟩|q
  ·exact h.fzn b q
  ·rcases (h.own l b q).1 with q|q
   ·exact .inr (.inl q)
   ·exact .inr (.inr q)
  ·exact .inr (.inr (Ao h.size q))
 ·rcases (k.own l b hb).1 with⟨l',q⟩|q
  ·exact (h.own l' b q).1
  ·exact .inr (Ao h.size q)
theorem GOk.putD {c : Cx} {g : Gh} {ob : Nat → AV} {D : Nat} (o : Obj) (hg : GOk c g ob) (h1 : c.W0 D ∨ c.w0.heap.size ≤ D) (h2 : ¬ g.fz D) (h3 : ∀ l b, aF g l (ob l) = some b → b ≠ D) :
  Ev g { g with w:=g.w.putObj D o }∧GOk c { g with w:=g.w.putObj D o } ob:=by
 have he:Ev g { g with w:=g.w.putObj D o }:=⟨fun b hb=>⟨hb,World.putObj_heap_other (fun e=>h2 (e▸hb))⟩,fun l hl=>⟨hl,rfl,Ai _,fun _=>rfl⟩⟩
 have hbk:∀ l x,aF { g with w:=g.w.putObj D o } l x=aF g l x:=fun l x=>by cases x<;>rfl
 refine⟨he,hg.os,hg.tape,hg.output,by simp only[World.putObj_size];exact hg.size,fun b hb hw=>?_,hg.fzo,hg.fzn,fun b hb=>by simp only[World.putObj_size];exact hg.fzx b hb,fun l=>?_,fun l b hb=>?_,fun l l' b hb hb'=>?_⟩
 ·have hne:b≠D:=by
   rintro rfl
   rcases h1 with h1|h1
   ·exact hw h1
   ·omega
  exact (World.putObj_heap_other hne).trans (hg.old b hb hw)
 ·exact (hg.obj l).keep he ⟨rfl,rfl⟩ fun b hb=>World.putObj_heap_other (h3 l b hb)
 ·rw[hbk]at hb;exact hg.own l b hb
 ·rw[hbk]at hb hb';exact hg.dis l l' b hb hb'
theorem GOk.cx {c c':Cx} {g:Gh} {ob:Nat→AV} (h:GOk c g ob) (h1:c'.w0=c.w0) (h2:c'.fz0=c.fz0) (h3:c'.W0=c.W0):GOk c' g ob :=
 ⟨by rw[h1];exact h.os,by rw[h1];exact h.tape,by rw[h1];exact h.output,by rw[h1];exact h.size,by rw[h1,h3];exact h.old,by rw[h2];exact h.fzo,by rw[h1,h2,h3];exact h.fzn,h.fzx,h.obj,by rw[h1,h3];exact h.own,h.dis⟩
theorem c0s {P : Program} {L i fn nt : Nat} {ps : List Nat} {asg body : Code} {ts : List AV} {args : List AV} {pre post : List (Nat × AV)}
  (hn:∀ p∈pre,p.1<8) (hi:i<8) (hip:i∉pre.map (·.1)) (hps:ps.length=args.length) (hpn:∀ p∈ps,p<nt)
  (hpost:∀ p∈post,p.1∈pre.map (·.1)∧InC (fun l=>l∈pre.map (·.1)) p.2)
  (h:AW P nt (fun _=>False) [.code asg,.stop (fun S=>AW P nt (fun _=>False) [.code body,.stop (fun S=>∀ p∈post,look S.o p.1=p.2)] S)] ⟨r9 ps args (aD 0 ts),pre,8⟩) :
  XOK P (MY P L) args ((i,.lpo L fn nt ps asg body ts)::pre) (.lit (.bool true)) ((i,.lpo L fn nt ps asg body ts)::post):=by
 intro g vals hus hg hrel
 have hoi:upd aG ((i,.lpo L fn nt ps asg body ts)::pre) i=.lpo L fn nt ps asg body ts:=by simp[upd]
 have hob:∀ l,l≠i→upd aG ((i,.lpo L fn nt ps asg body ts)::pre) l=upd aG pre l:=fun l hl=>by
  simp only[upd];rw[if_neg (fun e=>hl e.symm)]
 have hpi:upd aG pre i=.any:=iA hip
 have hrec:=hg.obj i
 rw[hoi]at hrec
 obtain⟨hui,hL,tm,df,hrec,hsz,hts⟩:=hrec
 have hbi:=hg.own i L (by rw[hoi];simp only[aF,hL])
 have hdi:∀ l b,aF g l (upd aG pre l)=some b→b≠L:=fun l b hb e=>by
  subst e
  by_cases hl:l=i
  ·subst hl;rw[hpi]at hb;simp[aF]at hb
  ·exact hl (hg.dis l i b (by rw[hob l hl];exact hb) (by rw[hoi];simp only[aF,hL]))
 have hLlt:L<g.w.heap.size:=(Array.getElem?_eq_some_iff.1 hrec).1
 have hg1:GOk (bK P g (upd aG ((i,.lpo L fn nt ps asg body ts)::pre))) g (upd aG pre):=by
  refine⟨hg.os,hg.tape,hg.output,hg.size,hg.old,hg.fzo,hg.fzn,hg.fzx,fun l=>?_,fun l b hb=>?_,fun l l' b hb hb'=>?_⟩
  ·by_cases hl:l=i
   ·subst hl;rw[hpi];trivial
   ·have:=hg.obj l;rwa [hob l hl]at this
  ·by_cases hl:l=i
   ·subst hl;rw[hpi]at hb;simp[aF]at hb
   ·exact hg.own l b (by rw[hob l hl];exact hb)
  ·by_cases hl:l=i
   ·subst hl;rw[hpi]at hb;simp[aF]at hb
   ·by_cases hl':l'=i
    ·subst hl';rw[hpi]at hb';simp[aF]at hb'
    ·exact hg.dis l l' b (by rw[hob l hl];exact hb) (by rw[hob l' hl'];exact hb')
 let c0:Cx:={ bK P g (upd aG ((i,.lpo L fn nt ps asg body ts)::pre))with ro:=some L }
 have hg2:GOk c0 g (upd aG pre):=⟨hg1.os,hg1.tape,hg1.output,hg1.size,hg1.old,hg1.fzo,hg1.fzn,hg1.fzx,hg1.obj,hg1.own,hg1.dis⟩
 let c1:Cx:=c0.at g (upd aG pre)
 have hW1:¬ c1.W0 L:=by rintro⟨l,hl⟩;exact hdi l L hl rfl
 have hlnk:Lnk c1 g:=fun l hl=>by
  have hl':g.us l:=hl
  refine⟨?_,hl',rfl,Ai _,fun _=>rfl⟩
  rcases Ag.1 ((hus l).1 hl')with⟨p,hp,rfl⟩
  rcases Ac.1 hp with rfl|hp
  ·exact hi
  ·exact hn p hp
 have hu8:∀ l,g.us l→l<8:=fun l hl=>(hlnk l hl).1
 have hvl:=hrel.1
 have hy:=run_yield (P:=P) (args:=vals.toArray) hrec (by simp;omega)
 have hfold:∀ (q:List Nat) (v:List Value) (m:Array Value),((q.toArray.zip v.toArray).foldl (fun tmps (t,a)=>tmps.setIfInBounds t a) m)=(q.zip v).foldl (fun tm (p,v)=>tm.setIfInBounds p v) m:=fun q v m=>by
  rw[← Array.foldl_toList];simp
 simp only[hfold]at hy
 refine⟨fn,_,asg,body,hy,roundIn_of_wpIn (F:=Fence.wide) trivial ?_⟩
 have hT:=c1o (g:=g) ps args vals (aD 0 ts) tm hps (fun p hp=>by rw[hsz];exact hpn p hp) hrel (fun k=>by rw[b5r];exact hts k)
 generalize htm:(ps.zip vals).foldl (fun tm (p,v)=>tm.setIfInBounds p v) tm=tm1 at hT
 have hsim:Sim c1 nt ⟨r9 ps args (aD 0 ts),pre,8⟩ { tmps:=tm1,defers:=[] } g.w:=by
  refine⟨g,rfl,?_,⟨trivial,fun k=>(hT k).1⟩,⟨(hT 0).2.trans hsz,rfl,fun l hl=>?_⟩,hu8,hlnk,Ai _⟩
  ·show GOk c1 g (look pre);rw[a6q];exact yP hg2
  ·obtain rfl:L=l:=Ae.inj hl
   exact⟨hLlt,hW1,_,hrec⟩
 refine wpIn_mono (h c1 _ _ rfl hsim) ?_
 intro e a1 w1 hq
 cases e with
 | normal =>
  obtain⟨c2,S1,hle,hJ,hs1⟩:=hq
  obtain⟨g1,rfl,k1,k2,k3,k4,k5,k6⟩:=hs1
  have b1:=hle.back _ _ k1
  have hr1:g1.w.heap[L]?=some (.loop { state:=.ready,pending:=none,fn:=fn,tmps:=tm,params:=ps.toArray,assign:=asg,body:=body,defers:=df }):=(b1.old L hLlt hW1).trans hrec
  have hfL:¬ g1.fz L:=fun hf=>by
   rcases b1.fzn L hf with q|q|q
   ·exact hbi.2 q
   ·exact hW1 q
   ·exact absurd hLlt (Af.2 q)
  have hbL:∀ l b,aF g1 l (look S1.o l)=some b→b≠L:=fun l b hb e=>by
   subst e
   rcases (b1.own l b hb).1 with q|q
   ·exact hW1 q
   ·exact absurd hLlt (Af.2 q)
  refine⟨_,run_beginRound hr1 rfl,?_⟩
  generalize hbz:(Obj.loop { state:=.busy,pending:=none,fn:=fn,tmps:=tm,params:=ps.toArray,assign:=asg,body:=body,defers:=df })=bz
  let cT:Cx:=bK P g (upd aG ((i,.lpo L fn nt ps asg body ts)::pre))
  have hWT:cT.W0 L:=⟨i,by rw[hoi];simp only[aF,hL]⟩
  have hgT:GOk cT g1 (look S1.o):=(xQ hg2 b1).cx rfl rfl rfl
  obtain⟨e1,hgT1⟩:=hgT.putD bz (.inl hWT) hfL hbL
  let c3:Cx:={ cT.at { g1 with w:=g1.w.putObj L bz } (look S1.o)with ro:=some L,ds:=a1.defers }
  have hL2:L<(g1.w.putObj L bz).heap.size:=by rw[World.putObj_size];exact Ab hLlt b1.size
  have hb2:(g1.w.putObj L bz).heap[L]?=some bz:=World.putObj_heap_same (Ab hLlt b1.size)
  have hW3:¬ c3.W0 L:=by
   rintro⟨l,hl⟩
   refine hbL l L ?_ rfl
   rw[← hl];cases look S1.o l<;>rfl
  have hln3:Lnk c3 { g1 with w:=g1.w.putObj L bz }:=fun l hl=>(hle.lnk _ k5) l hl
  have hsim3:Sim c3 nt S1 a1 (g1.w.putObj L bz) :=
   ⟨{ g1 with w:=g1.w.putObj L bz },rfl,(yP hgT1).cx rfl rfl rfl,k2.mono e1,⟨k3.1,rfl,fun l hl=>by
    obtain rfl:L=l:=Ae.inj hl
    exact⟨hL2,hW3,_,hb2.trans (congrArg some hbz.symm)⟩⟩,k4,hln3,k6⟩
  refine wpIn_mono (hJ c3 a1 _ rfl hsim3) ?_
  intro e a3 w3 hq3
  cases e with
  | normal =>
   obtain⟨c4,S2,hle3,hpo,g3,rfl,m1,m2,m3,m4,m5,m6⟩:=hq3
   have d1:=hle3.back _ _ m1
   have hr3:g3.w.heap[L]?=some bz:=(d1.old L hL2 hW3).trans hb2
   have d2:GOk cT g3 (look S2.o):=xQ hgT1 (d1.cx rfl rfl rfl)
   have hf3:¬ g3.fz L:=fun hf=>by
    rcases d1.fzn L hf with q|q|q
    ·exact hfL q
    ·exact hW3 q
    ·exact absurd hL2 (Af.2 q)
   have hb3:∀ l b,aF g3 l (look S2.o l)=some b→b≠L:=fun l b hb e=>by
    subst e
    rcases (d1.own l b hb).1 with q|q
    ·exact hW3 q
    ·exact absurd hL2 (Af.2 q)
   have hln4:=hle3.lnk _ m5
   rw[← hbz]at hr3
   refine⟨_,_,run_endRound none hr3,?_⟩
   simp only[Option.isNone_none,if_true]
   generalize hrz:(Obj.loop { state:=.ready,pending:=none,fn:=fn,tmps:=tm,params:=ps.toArray,assign:=asg,body:=body,defers:=df })=rz at *
   obtain⟨e4,d4⟩:=d2.putD rz (.inl hWT) hf3 hb3
   have hL4:(g3.w.putObj L rz).heap[L]?=some rz:=World.putObj_heap_same (Ab hLlt d2.size)
   let g4:Gh:={ g3 with w:=g3.w.putObj L rz }
   let g5:Gh:={ g4 with us:=g.us }
   have hfz:∀ b,g.fz b→g4.w.heap[b]?=g.w.heap[b]?:=fun b hb=>d4.old b (hg.fzx b hb) fun⟨l,hl⟩=>(hg.own l b hl).2 hb
   have hev:Ev g g5:=⟨fun b hb=>⟨d4.fzo b hb,hfz b hb⟩,fun l hl=>⟨hl,(hln4 l hl).2.2⟩⟩
   have hblk:∀ l x,aF g5 l x=aF g4 l x:=fun l x=>by cases x<;>rfl
   have hui5:g5.blk i=L:=((hln4 i hui).2.2.1).trans hL
   have hK:∀ l,l∈pre.map (·.1)→g4.us l→g5.us l∧g5.blk l=g4.blk l∧g5.des l=g4.des l∧g5.len l=g4.len l:=fun l hl hu=>⟨(hus l).2 (by simp only[Ah,Ac];exact .inr hl),rfl,rfl,rfl⟩
   have hoP:upd aG ((i,.lpo L fn nt ps asg body ts)::post) i=.lpo L fn nt ps asg body ts:=by simp[upd]
   have hoQ:∀ l,l≠i→upd aG ((i,.lpo L fn nt ps asg body ts)::post) l=upd aG post l:=fun l hl=>by
    simp only[upd];rw[if_neg (fun e=>hl e.symm)]
   have hobp:∀ l,upd aG post l=.any∨(l∈post.map (·.1)∧upd aG post l=look S2.o l):=fun l=>by
    by_cases hm:l∈post.map (·.1)
    ·exact .inr ⟨hm,(hpo _ (oO (ob:=aG) rfl hm)).symm⟩
    ·exact .inl (iA hm)
   have hbl:∀ l b,aF g5 l (upd aG post l)=some b→aF g4 l (look S2.o l)=some b:=fun l b hb=>by
    rcases hobp l with h|⟨_,h⟩
    ·rw[h]at hb;simp[aF]at hb
    ·rw[h,hblk]at hb;exact hb
   have hb4:∀ l b,aF g4 l (look S2.o l)=some b→b≠L:=fun l b hb=>hb3 l b (by rw[← hb];cases look S2.o l<;>rfl)
   refine⟨_,g5,rfl,rfl,hev,fun l=>Iff.rfl,⟨d4.os,d4.tape,d4.output,d4.size,d4.old,d4.fzo,d4.fzn,d4.fzx,fun l=>?_,fun l b hb=>?_,fun l l' b hb hb'=>?_⟩,.lit _⟩
   ·by_cases hl:l=i
    ·subst hl
     rw[hoP]
     exact⟨hui,hui5,tm,df,hL4.trans (by rw[hrz]),hsz,fun t=>(hts t).mono hev⟩
    ·rw[hoQ l hl]
     rcases hobp l with h|⟨hm,h⟩
     ·rw[h];trivial
     ·obtain⟨p,hp,rfl⟩:=Ag.1 hm
      have hp2:=hpost p hp
      have e:look S2.o p.1=p.2:=hpo p hp
      rw[h]
      exact tB (g:=g4) (g':=g5) (K:=fun l=>l∈pre.map (·.1)) rfl (fun b hb=>hb) hK hp2.1 (by rw[e];exact hp2.2) (d4.obj p.1)
   ·by_cases hl:l=i
    ·subst hl
     rw[hoP]at hb
     simp only[aF,Ae.injEq]at hb
     obtain rfl:L=b:=hui5.symm.trans hb
     exact⟨.inl hWT,hf3⟩
    ·rw[hoQ l hl]at hb
     exact d4.own l b (hbl l b hb)
   ·by_cases hl:l=i
    ·by_cases hl':l'=i
     ·rw[hl,hl']
     ·subst hl
      rw[hoP]at hb
      rw[hoQ l' hl']at hb'
      simp only[aF,Ae.injEq]at hb
      exact absurd (hb.symm.trans hui5) (hb4 l' b (hbl l' b hb'))
    ·by_cases hl':l'=i
     ·subst hl'
      rw[hoP]at hb'
      rw[hoQ l hl]at hb
      simp only[aF,Ae.injEq]at hb'
      exact absurd (hb'.symm.trans hui5) (hb4 l b (hbl l b hb))
     ·rw[hoQ l hl]at hb
      rw[hoQ l' hl']at hb'
      exact d4.dis l l' b (hbl l b hb) (hbl l' b hb')
  | exit id=>obtain⟨_,_,_,h,_⟩:=hq3;exact h.elim
  | goto l=>obtain⟨_,_,_,h,_⟩:=hq3;exact h.elim
  | ret=>obtain⟨_,_,_,h,_⟩:=hq3;exact h.elim
  | panic ch=>exact hq3.elim
  | outgrown=>exact hq3.elim
 | exit id=>obtain⟨_,_,_,h,_⟩:=hq;exact h.elim
 | goto l=>obtain⟨_,_,_,h,_⟩:=hq;exact h.elim
 | ret=>obtain⟨_,_,_,h,_⟩:=hq;exact h.elim
 | panic ch=>exact hq.elim
 | outgrown=>exact hq.elim
theorem b3l {P : Program} {w : World} {l : Nat} {r : Loop} (fn : FuncId) (tmps : Array Value) (ps : Array Tmp) (assign body : Code) (h : w.heap[l]? = some (.loop r)) :
  (Instr.enterLoop fn tmps ps assign body (some l)).run P w=.ok (w.heap.size,[]) (w.alloc (.loop { state:=.ready,pending:=none,fn,tmps,params:=ps,assign,body,defers:=r.defers })):=by
 unfold Instr.enterLoop
 simp only[Sem.run_bind,run_getLoop h,run_newObj_alloc,Result.andThen,Sem.run_pure]
theorem GOk.push {c:Cx} {g:Gh} {ob:Nat→AV} (o:Obj) (hg:GOk c g ob):Ev g { g with w:=g.w.alloc o }∧GOk c { g with w:=g.w.alloc o } ob:=by
 have hold:∀ b,b<g.w.heap.size→(g.w.alloc o).heap[b]?=g.w.heap[b]?:=fun b hb=>Go.RowKit.Below.heap_alloc _ _ _ hb
 have he:Ev g { g with w:=g.w.alloc o }:=⟨fun b hb=>⟨hb,hold b (hg.fzx b hb)⟩,fun l hl=>⟨hl,rfl,Ai _,fun _=>rfl⟩⟩
 have hbk:∀ l x,aF { g with w:=g.w.alloc o } l x=aF g l x:=fun l x=>by cases x<;>rfl
 refine⟨he,hg.os,hg.tape,hg.output,by simp only[World.size_alloc];exact Nat.le_succ_of_le hg.size,fun b hb hw=>(hold b (Ab hb hg.size)).trans (hg.old b hb hw),hg.fzo,hg.fzn,fun b hb=>by simp only[World.size_alloc];exact Nat.lt_succ_of_lt (hg.fzx b hb),fun l=>?_,fun l b hb=>?_,fun l l' b hb hb'=>?_⟩
 ·exact (hg.obj l).keep he ⟨rfl,rfl⟩ fun b hb=>hold b ((hg.obj l).lt hb)
 ·rw[hbk]at hb;exact hg.own l b hb
 ·rw[hbk]at hb hb';exact hg.dis l l' b hb hb'
theorem a9k {c : Cx} {g : Gh} {ob : Nat → AV} (hg : GOk c g ob) (i : Nat) (hi : ¬ g.us i) {fn nt : Nat} {ps : List Nat} {asg body : Code} {ts : List AV} {tm : Array Value} (df : Nat) (hsz : tm.size = nt) (hts : ∀ t, Rel g (ts.getD t .any) (tm.getD t undef)) :
  ∃ g':Gh,g'.w=g.w.alloc (.loop { state:=.ready,pending:=none,fn:=fn,tmps:=tm,params:=ps.toArray,assign:=asg,body:=body,defers:=df })∧Ev g g'∧GOk c g' (upd ob [(i,.lpo g.w.heap.size fn nt ps asg body ts)])∧(∀ l,g'.us l→g.us l∨l=i)∧g'.fz=g.fz∧∀ l b,aF g' l (upd ob [(i,.lpo g.w.heap.size fn nt ps asg body ts)] l)=some b→b=g.w.heap.size∨aF g l (ob l)=some b:=by
 let o:Obj:=.loop { state:=.ready,pending:=none,fn:=fn,tmps:=tm,params:=ps.toArray,assign:=asg,body:=body,defers:=df }
 have hold:∀ b,b<g.w.heap.size→(g.w.alloc o).heap[b]?=g.w.heap[b]?:=fun b hb=>Go.RowKit.Below.heap_alloc _ _ _ hb
 let g':Gh:={ g with w:=g.w.alloc o,us:=fun l=>g.us l∨l=i,blk:=fun l=>if l=i then g.w.heap.size else g.blk l }
 have he:Ev g g':=⟨fun b hb=>⟨hb,hold b (hg.fzx b hb)⟩,fun l hl=>⟨.inl hl,if_neg (fun (e:l=i)=>hi (e▸hl)),Ai _,fun _=>rfl⟩⟩
 refine⟨g',rfl,he,?_,fun l hl=>hl,rfl,fun l b hb=>?_⟩
 case refine_2 =>
  by_cases e:i=l
  ·subst e
   left
   simp only[upd,if_true,aF,Ae.injEq]at hb
   exact hb.symm.trans (if_pos rfl)
  ·right
   simp only[upd,if_neg e]at hb
   have e1:g'.blk l=g.blk l:=if_neg (fun h=>e h.symm)
   generalize ob l=x at hb ⊢
   cases x<;>simp only[aF]at hb ⊢<;>first|exact hb|(rw[← e1];exact hb)
 refine hg.turn he i _ rfl Tp.rfl rfl (by simp[g']) rfl (fun l hl=>⟨if_neg hl,rfl,rfl⟩) (fun b hb _=>hold b hb) ?_ ?_
 ·exact⟨.inr rfl,if_pos rfl,tm,df,World.alloc_heap_new g.w o,hsz,fun t=>(hts t).mono he⟩
 ·intro b hb
  right
  simp only[aF,Ae.injEq]at hb
  rw[← hb]
  exact Nat.le_of_eq (if_pos rfl).symm
theorem c4f {g:Gh} {i:Nat} {x:AV} (h:ObjOk g i x) (hi:¬ g.us i):(∀ g':Gh,ObjOk g' i x)∧∀ g':Gh,aF g' i x=none:=by
 cases x<;>first|exact absurd h.1 hi|exact absurd h.1.1 hi|exact⟨fun _=>trivial,fun _=>rfl⟩
theorem b9r {P : Program} {nt : Nat} {R : AS → Prop} {k : List Itm} {S : AS} {fv : Operand} {ps : List Nat} {asg body : Code} {f : Nat} {caps : List AV} {pre post : List (Nat × AV)} (ts : List AV)
  (hf:fnT P f=true) (hfv:rdO (look S.t) fv=.clo f caps) (hts:∀ t,ts.getD t .any=.any∨ts.getD t .any=look S.t t)
  (hc:∀ L fn,CallOK P f (.lit (.func (.yield L) #[] #[])::caps) ((S.nx,.lpo L fn nt ps asg body ts)::pre) (.tup []) ((S.nx,.lpo L fn nt ps asg body ts)::post))
  (hob:∀ p∈pre,look S.o p.1=p.2) (hin:∀ a∈caps,In (fun l=>l∈pre.map (·.1)) a) (hinc:∀ p∈pre,InC (fun l=>l∈pre.map (·.1)) p.2) (htn:∀ a∈ts,In (fun l=>l∈pre.map (·.1)) a)
  (hnd:(pre.map (·.1)).Nodup) (hnx:∀ p∈pre,p.1<S.nx) (hpost:∀ p∈post,p.1∈pre.map (·.1)∧InC (fun l=>l∈pre.map (·.1)) p.2) (hall:(pre.map (·.1)).all (fun l=>(post.map (·.1)).contains l)=true) (hlv:∀ p∈pre,p.2.live=true)
  (h:AW P nt R k { t:=S.t,o:=post++S.o,nx:=S.nx+1 }):AW P nt R (.code (.rangeFunc fv ps.toArray asg body)::k) S:=by
 intro c a w hP hs
 subst hP
 obtain⟨g,rfl,hg,ht,hsz,hu,hln,h8⟩:=hs
 have hi0:¬ g.us S.nx:=fun h=>by have:=hu _ h;omega
 have hipre:S.nx∉pre.map (·.1):=fun hm=>by
  obtain⟨p,hp,e⟩:=Ag.1 hm
  have:=hnx p hp;omega
 have hipost:S.nx∉post.map (·.1):=fun hm=>by
  obtain⟨p,hp,e⟩:=Ag.1 hm
  exact hipre (e▸(hpost p hp).1)
 refine wpIn_rangeFunc ?_
 intro fn _
 have htsr:∀ (g':Gh),Ev g g'→∀ t,Rel g' (ts.getD t .any) (a.tmps.getD t undef):=fun g' he t=>by
  rcases hts t with q|q
  ·rw[q];exact .any _
  ·rw[q];exact (ht.2 t).mono he
 obtain⟨L, Ds, g1, hent, he1, hg1, hu1, hDn, hD'⟩ : ∃ L Ds g1, (Instr.enterLoop fn a.tmps ps.toArray asg body c.ro).run c.P g.w = .ok (L, List.map mark Ds) g1.w ∧ Ev g g1 ∧ GOk c g1 (upd (look S.o) [(S.nx, .lpo L fn nt ps asg body ts)]) ∧ (∀ l, g1.us l → g.us l ∨ l = S.nx) ∧ Ds.Nodup ∧
   ∀ D∈Ds,c.w0.heap.size≤D∧D<g1.w.heap.size∧¬ g1.fz D∧(∀ l b,aF g1 l (upd (look S.o) [(S.nx,.lpo L fn nt ps asg body ts)] l)=some b→b≠D)∧g1.w.heap[D]?=some (.deferred (some [])):=by
  cases hro:c.ro with
  | none =>
   obtain⟨p1,p2⟩:=hg.push (.deferred (some []))
   obtain⟨g2,q1,q2,q3,q4,q5,q6⟩:=a9k p2 S.nx hi0 (fn:=fn) (ps:=ps) (asg:=asg) (body:=body) g.w.heap.size hsz.1 (htsr _ p1)
   have e0:(g.w.alloc (.deferred (some []))).heap.size=g.w.heap.size+1:=World.size_alloc _ _
   simp only[e0]at q3 q6
   refine⟨g.w.heap.size+1,[g.w.heap.size],g2,?_,p1.trans q2,q3,q4,by simp,fun D hD=>?_⟩
   ·rw[run_enterLoop_outer,q1];rfl
   ·obtain rfl:=List.mem_singleton.1 hD
    have hlt:g.w.heap.size<(g.w.alloc (.deferred (some []))).heap.size:=by rw[e0];exact Nat.lt_succ_self _
    refine⟨hg.size,?_,?_,fun l b hb e=>?_,?_⟩
    ·rw[q1];simp;omega
    ·intro hfz
     rw[q5]at hfz
     exact absurd (hg.fzx _ hfz) (As _)
    ·subst e
     rcases q6 l _ hb with x|x
     ·omega
     ·have y:aF g l (look S.o l)=some g.w.heap.size:=by rw[← x];cases look S.o l<;>rfl
      exact absurd ((hg.obj l).lt y) (As _)
    ·rw[q1];exact (Go.RowKit.Below.heap_alloc _ _ _ hlt).trans (World.alloc_heap_new _ _)
  | some l0 =>
   obtain⟨r1,r2,r0,r3⟩:=hsz.2.2 l0 hro
   obtain⟨g2,q1,q2,q3,q4,q5,q6⟩:=a9k hg S.nx hi0 (fn:=fn) (ps:=ps) (asg:=asg) (body:=body) r0.defers hsz.1 (htsr _ (Ev.refl g))
   exact⟨g.w.heap.size,[],g2,by rw[b3l _ _ _ _ _ ((hg.old l0 r1 r2).trans r3),q1];rfl,q2,q3,q4,List.Pairwise.nil,fun D hD=>by simp at hD⟩
 let ob1:Nat→AV:=upd (look S.o) [(S.nx,.lpo L fn nt ps asg body ts)]
 let c1:Cx:=c.at g1 ob1
 have hg1c:GOk c1 g1 ob1:=yP hg1
 have hoi:ob1 S.nx=.lpo L fn nt ps asg body ts:=by simp[ob1,upd]
 have hoj:∀ l,l≠S.nx→ob1 l=look S.o l:=fun l hl=>by simp only[ob1,upd];rw[if_neg (fun e=>hl e.symm)]
 have hrec:=hg1.obj S.nx
 rw[show upd (look S.o) [(S.nx,.lpo L fn nt ps asg body ts)] S.nx=_ from hoi]at hrec
 obtain⟨hui1,hL1,tm,df,hrec,_,_⟩:=hrec
 obtain⟨cs,hev,hcs⟩:∃ cs:Array Value,a.eval fv=.func (.func f) #[] cs∧RelL g caps cs.toList:=by
  have h1:=a1c ht fv
  rw[hfv]at h1
  generalize a.eval fv=v at h1
  cases h1 with
  | clo _ _ cs hs hh=>exact⟨cs,rfl,by simpa using hs,fun i i1 i2=>by simpa using hh i i1 (by simpa using i2)⟩
 have hrel:RelL g1 (.lit (.func (.yield L) #[] #[])::caps) (.func (.yield L) #[] #[]::cs.toList):=RelL.cons (.lit _) (hcs.mono he1)
 refine⟨L,Ds.map mark,g1.w,{ target:=.fn (.func f) cs,args:=#[.func (.yield L) #[] #[]] },g1.w,f,(.func (.yield L) #[] #[]::cs.toList).toArray,g1.w,hent,?_,fun _ _=>trivial,?_,fun h=>by simp[Fw,Fence.wide]at h,?_⟩
 ·simp only[resolve,hev]
  simp[go_sem]
 ·have:=a3o hf (#[.func (.yield L) #[] #[]]++cs) g1.w
  simp[invoke,this]
 refine b0e ?_
 have hmem:∀ l,l∈((S.nx,AV.lpo L fn nt ps asg body ts)::pre).map (·.1)→g1.us l:=fun l hl=>by
  simp only[Ah,Ac]at hl
  rcases hl with rfl|hl
  ·exact hui1
  ·obtain⟨p,hp,rfl⟩:=Ag.1 hl
   have h1:=hg1.obj p.1
   have hne:p.1≠S.nx:=by have:=hnx p hp;omega
   rw[show upd (look S.o) [(S.nx,.lpo L fn nt ps asg body ts)] p.1=_ from hoj _ hne,hob p hp]at h1
   have h2:=hlv p hp
   generalize p.2=x at h1 h2
   cases x<;>first|exact h1.1|(simp[AV.live]at h2)
 have hmono:∀ l,l∈pre.map (·.1)→l∈((S.nx,AV.lpo L fn nt ps asg body ts)::pre).map (·.1):=fun l hl=>by simp only[Ah,Ac];exact .inr hl
 have hrun := a0e (c := c1) (M := fun vals w R => Calls c.P f vals.toArray w R) (fun h k => h.mono k) (ob := ob1) (hc L fn) (fun p hp => by
   rcases Ac.1 hp with rfl|hp
   ·exact hoi
   ·rw[hoj _ (by have:=hnx p hp;omega)];exact hob p hp)
  (fun x hx=>by
   rcases Ac.1 hx with rfl|hx
   ·exact .lit _
   ·exact (hin x hx).mono hmono)
  (fun p hp=>by
   rcases Ac.1 hp with rfl|hp
   ·exact fun x hx=>(htn x hx).mono hmono
   ·exact (hinc p hp).mono hmono)
  (by simp only[Ah,Aq];exact⟨hipre,hnd⟩) (.tup _ (fun x hx=>by simp at hx))
  (fun p hp=>by
   rcases Ac.1 hp with rfl|hp
   ·exact⟨by simp,fun x hx=>(htn x hx).mono hmono⟩
   ·exact⟨hmono _ (hpost p hp).1,(hpost p hp).2.mono hmono⟩)
  (by
   simp only[Ah,List.all_cons,List.contains_cons,BEq.rfl,Bool.true_or,Bool.true_and]
   refine Ap.2 fun l hl=>?_
   have:=Ap.1 hall l hl
   simp only[this,Bool.or_true])
  ob1 (fun _ _=>rfl) g1 _ hg1c hrel hmem
 refine hrun.mono ?_
 rintro e w' ⟨v,g2,rfl,rfl,he2,hg2,_,hu2⟩
 have hrec2:=hg2.obj S.nx
 rw[show upd ob1 ((S.nx,AV.lpo L fn nt ps asg body ts)::post) S.nx=.lpo L fn nt ps asg body ts by simp[upd]]at hrec2
 obtain⟨hui2,hL2,tm2,df2,hrec2,_,_⟩:=hrec2
 have hown2:=hg2.own S.nx L (by rw[show upd ob1 ((S.nx,AV.lpo L fn nt ps asg body ts)::post) S.nx=.lpo L fn nt ps asg body ts by simp[upd]];simp only[aF,hL2])
 have hdead:=c4f (hg.obj S.nx) hi0
 have hob2:∀ l,l≠S.nx→upd ob1 ((S.nx,AV.lpo L fn nt ps asg body ts)::post) l=look (post++S.o) l:=fun l hl=>by
  rw[y9]
  simp only[upd]
  rw[if_neg (fun e=>hl e.symm)]
  by_cases hm:l∈post.map (·.1)
  ·exact (uE l hm).trans (uE l hm).symm
  ·rw[iA hm,iA hm,hoj l hl]
 have hoi2:look (post++S.o) S.nx=look S.o S.nx:=by rw[y9,iA hipost]
 have hbl2:∀ l b,aF g2 l (look (post++S.o) l)=some b→b≠L∧aF g2 l (upd ob1 ((S.nx,AV.lpo L fn nt ps asg body ts)::post) l)=some b:=fun l b hb=>by
  by_cases hl:l=S.nx
  ·subst hl;rw[hoi2,hdead.2]at hb;contradiction
  ·rw[← hob2 l hl]at hb
   refine⟨fun e=>?_,hb⟩
   rw[e]at hb
   exact hl (hg2.dis l S.nx _ hb (by rw[show upd ob1 ((S.nx,AV.lpo L fn nt ps asg body ts)::post) S.nx=.lpo L fn nt ps asg body ts by simp[upd]];simp only[aF,hL2]))
 have hg3:GOk c1 g2 (look (post++S.o)):=by
  refine⟨hg2.os,hg2.tape,hg2.output,hg2.size,hg2.old,hg2.fzo,hg2.fzn,hg2.fzx,fun l=>?_,fun l b hb=>hg2.own l b (hbl2 l b hb).2,fun l l' b hb hb'=>hg2.dis l l' b (hbl2 l b hb).2 (hbl2 l' b hb').2⟩
  by_cases hl:l=S.nx
  ·subst hl;rw[hoi2];exact hdead.1 g2
  ·rw[← hob2 l hl];exact hg2.obj l
 obtain⟨e3,hg4⟩:=hg3.putD (.loop { state:=.exhausted,pending:=none,fn:=fn,tmps:=tm2,params:=ps.toArray,assign:=asg,body:=body,defers:=df2 }) hown2.1 hown2.2 (fun l b hb=>(hbl2 l b hb).1)
 refine⟨none,_,run_endLoop hrec2 (by simp),?_⟩
 generalize hw4:g2.w.putObj L (.loop { state:=.exhausted,pending:=none,fn:=fn,tmps:=tm2,params:=ps.toArray,assign:=asg,body:=body,defers:=df2 })=w4 at e3 hg4
 have hs4:w4.heap.size=g2.w.heap.size:=by rw[← hw4,World.putObj_size]
 have hput:∀ b,b≠L→w4.heap[b]?=g2.w.heap[b]?:=fun b hb=>by rw[← hw4];exact World.putObj_heap_other hb
 have hgc:GOk c { g2 with w:=w4 } (look (post++S.o)):=xQ hg1 hg4
 have hDL:∀ D∈Ds,D≠L:=fun D hD e=>by
  obtain⟨_,_,_,d4,_⟩:=hD' D hD
  exact d4 S.nx L (by rw[show upd (look S.o) [(S.nx,.lpo L fn nt ps asg body ts)] S.nx=_ from hoi];simp only[aF,hL1]) e.symm
 have hDW:∀ D∈Ds,¬ c1.W0 D:=fun D hD=>by
  rintro⟨l,hl⟩
  obtain⟨_,_,_,d4,_⟩:=hD' D hD
  exact d4 l D hl rfl
 have hD4:∀ D∈Ds,D<w4.heap.size∧w4.heap[D]?=some (.deferred (some []))∧¬ g2.fz D∧∀ l b,aF { g2 with w:=w4 } l (look (post++S.o) l)=some b→b≠D:=fun D hD=>by
  obtain⟨d1,d2,d3,d4,d5⟩:=hD' D hD
  refine⟨by rw[hs4];exact Ab d2 hg2.size,?_,?_,fun l b hb e=>?_⟩
  ·rw[hput D (hDL D hD)];exact (hg2.old D d2 (hDW D hD)).trans d5
  ·intro hf
   rcases hg2.fzn D hf with x|x|x
   ·exact d3 x
   ·exact hDW D hD x
   ·exact absurd d2 (Af.2 x)
  ·subst e
   rcases (hg4.own l b hb).1 with x|x
   ·exact hDW b hD x
   ·exact absurd d2 (Af.2 x)
 let c2:Cx:={ c.at { g2 with w:=w4 } (look (post++S.o))with ds:=Ds.map mark++c.ds }
 have hg5:GOk c2 { g2 with w:=w4 } (look (post++S.o)):=(yP hgc).cx rfl rfl rfl
 have hle:Le c c2:=by
  refine⟨rfl,rfl,hgc.size,fun g' ob' q=>xQ hgc (q.cx rfl rfl rfl),fun g' q=>q,Ds,rfl,hDn,fun D hD=>?_⟩
  obtain⟨m1,m2,m3,m4⟩:=hD4 D hD
  have hW2:¬ c2.W0 D:=by rintro⟨l,hl⟩;exact m4 l D hl rfl
  refine⟨m1,(hD' D hD).1,fun g' ob' q=>⟨(hD' D hD).1,fun hf=>?_,fun l b hb e=>?_,(q.old D m1 hW2).trans m2⟩⟩
  ·rcases q.fzn D hf with x|x|x
   ·exact m3 x
   ·exact hW2 x
   ·exact absurd m1 (Af.2 x)
  ·subst e
   rcases (q.own l b hb).1 with x|x
   ·exact hW2 x
   ·exact absurd m1 (Af.2 x)
 refine⟨c2,_,hle,h,{ g2 with w:=w4 },rfl,hg5,ht.mono ((he1.trans he2).trans e3),⟨hsz.1,congrArg _ hsz.2.1,fun l hl=>?_⟩,fun l hl=>?_,hln.mono ((he1.trans he2).trans e3),by simp only;omega⟩
 ·obtain⟨r1,r2,r0,r3⟩:=hsz.2.2 l hl
  refine⟨Ab r1 hgc.size,?_,r0,(hgc.old l r1 r2).trans r3⟩
  rintro⟨l',hl'⟩
  rcases (hgc.own l' l hl').1 with x|x
  ·exact r2 x
  ·exact absurd r1 (Af.2 x)
 ·rcases hu1 l (hu2 l hl)with x|x
  ·have:=hu l x;simp only;omega
  ·simp only;omega
theorem b4u {P : Program} {L : Nat} {args : List AV} {ob : Nat → AV} {E : Eff → Prop} (pre : List (Nat × AV)) (r : AV) (post : List (Nat × AV)) (hc : XOK P (MY P L) args pre r post) (hob : ∀ p ∈ pre, ob p.1 = p.2) (hin : ∀ x ∈ args, In (fun k => k ∈ pre.map (·.1)) x)
  (ha:∀ p∈pre,InC (fun k=>k∈pre.map (·.1)) p.2) (hnd:(pre.map (·.1)).Nodup) (hr:In (fun _=>False) r) (hb:∀ p∈post,p.1∈pre.map (·.1)∧InC (fun k=>k∈pre.map (·.1)) p.2) (hall:(pre.map (·.1)).all (fun l=>(post.map (·.1)).contains l)=true)
  (hl:∀ p∈pre,p.2.live=true) (h:E ⟨r,post,pre.map (·.1)⟩):callY P L args ob fun e=>(∀ l∈e.rd,(ob l).live=true)∧E e:=by
 refine⟨pre,r,post,hc,hob,hin,ha,hnd,hr,hb,hall,?_,h⟩
 intro k hk
 obtain⟨p,hp,rfl⟩:=Ag.1 hk
 rw[hob p hp]
 exact hl p hp
@[congr] theorem callY_cg (P:Program) (L:Nat) (x:List AV) (ob:Nat→AV) (E:Eff→Prop) (x':List AV) (h_x:x=x'):callY P L x ob E=callY P L x' ob E:=by subst h_x;rfl
end Go.Sx
