import Derived.Test.YtjlfgmhmalbiiaaGreatDoorW09
set_option linter.all false
open Array renaming replicate → Aj
open List renaming getElem_mem → Aa, getElem_map → Ac, eq_nil_of_length_eq_zero → Ad, getElem?_eq_getElem → Ae, mem_map → Ag, length_cons → Ai, nodup_cons → Ak
open Nat renaming le_refl → Ab, lt_of_lt_of_le → Af, zero_add → Ah
namespace Go.Sx
set_option linter.unusedVariables false
set_option linter.unusedSimpArgs false
def InS (K:Nat→Prop) (S:AS):Prop:=(∀ p∈S.t,In K p.2)∧(∀ p∈S.o,K p.1∧InC K p.2)
theorem jV:∀ {l:List (Nat × AV)} {k:Nat},look l k=.any∨(k,look l k)∈l:=by
 intro l
 induction l with
 | nil=>intro k;exact .inl rfl
 | cons p l ih =>
  intro k
  obtain⟨i,a⟩:=p
  simp only[look]
  by_cases hi:i=k
  ·rw[if_pos hi,hi];exact .inr (by simp)
  ·rw[if_neg hi]
   rcases @ih k with h|h
   ·exact .inl h
   ·exact .inr (by simp[h])
theorem sK {g g':Gh} {K:Nat→Prop} {l:Nat} {a:AV} (hw:g'.w=g.w) (hf:∀ b,g.fz b→g'.fz b) (hK:∀ l,K l→g.us l→g'.us l∧g'.blk l=g.blk l∧g'.des l=g.des l∧g'.len l=g.len l) (hl:K l) (hi:InC K a) (h:ObjOk g l a):ObjOk g' l a:=by
 have hcar:∀ {x v},Rel g x v→In K x→Rel g' x v:=fun h hi=>cY (g:=g) (g':=g') (K:=K) (fun b hb=>⟨hf b hb,by rw[hw]⟩) hK h hi
 cases a with
 | blk cs =>
  obtain⟨hu,vs,e,h1,h2,h3,h4⟩:=h
  obtain⟨u1,u2,u3,u4⟩:=hK l hl hu
  exact⟨u1,vs,e,by rw[hw,u2];exact h1,h2,h3,fun i a1 a2=>hcar (h4 i a1 a2) (hi _ (Aa a1))⟩
 | vec k es =>
  obtain⟨hu,h1,h2,h3,h4,h5⟩:=h
  obtain⟨u1,u2,u3,u4⟩:=hK l hl hu
  refine⟨u1,by rw[u3];exact h1,by rw[u4];exact h2,h3,h4,?_⟩
  rw[u3,hw]
  rcases h5 with h5|⟨b,vs,h6,h7,h8,h9,h10,h11,h12⟩
  ·exact .inl h5
  ·exact .inr ⟨b,vs,h6,h7,h8,h9,h10,h11,fun i a1 j a2 a3=>hcar (h12 i a1 j a2 a3) (hi _ (Aa a1) _ (Aa a2))⟩
 | vcp k es cp =>
  obtain⟨⟨hu,h1,h2,h3,h4,h5⟩,h6⟩:=h
  obtain⟨u1,u2,u3,u4⟩:=hK l hl hu
  refine⟨⟨u1,by rw[u3];exact h1,by rw[u4];exact h2,h3,h4,?_⟩,by rw[u3];exact h6⟩
  rw[u3,hw]
  rcases h5 with h5|⟨b,vs,h6,h7,h8,h9,h10,h11,h12⟩
  ·exact .inl h5
  ·exact .inr ⟨b,vs,h6,h7,h8,h9,h10,h11,fun i a1 j a2 a3=>hcar (h12 i a1 j a2 a3) (hi _ (Aa a1) _ (Aa a2))⟩
 | mpo es =>
  obtain⟨hu,arr,clock,h1,h2⟩:=h
  obtain⟨u1,u2,u3,u4⟩:=hK l hl hu
  exact⟨u1,arr,clock,by rw[hw,u2];exact h1,h2⟩
 | ito m n s =>
  obtain⟨hu,hm,h1⟩:=h
  obtain⟨u1,u2,u3,u4⟩:=hK l hl hu
  obtain⟨v1,v2,v3,v4⟩:=hK m hi hm
  exact⟨u1,v1,by rw[hw,u2,v2];exact h1⟩
 | lpo L fn nt ps asg body ts =>
  obtain⟨hu,hL,tm,df,h1,h2,h3⟩:=h
  obtain⟨u1,u2,u3,u4⟩:=hK l hl hu
  exact⟨u1,u2.trans hL,tm,df,by rw[hw];exact h1,h2,fun t=>hcar (h3 t) (w6 hi t)⟩
 | _=>trivial
theorem b5a {S:AS} {n:Nat} (h8:8≤n) (h:InS (fun l=>l<n) S):Weak S { S with nx:=n }:=by
 intro c nt a w hs
 obtain⟨g,rfl,hg,htk,hsz,hu,hln,_⟩:=hs
 let g':Gh:={ g with us:=fun l=>g.us l∧l<n }
 have hK:∀ l,l<n→g.us l→g'.us l∧g'.blk l=g.blk l∧g'.des l=g.des l∧g'.len l=g.len l:=fun l hl hu=>⟨⟨hu,hl⟩,rfl,rfl,rfl⟩
 have hblk:∀ l x,aE g' l x=aE g l x:=fun l x=>by cases x<;>rfl
 refine⟨g',rfl,⟨hg.os,hg.tape,hg.output,hg.size,hg.old,hg.fzo,hg.fzn,hg.fzx,fun l=>?_,fun l b hb=>?_,fun l l' b hb hb'=>?_⟩,⟨htk.1,fun k=>?_⟩,hsz,fun l hl=>hl.2,fun l hl=>by obtain⟨h1,h2,h3⟩:=hln l hl;exact⟨h1,⟨h2,by omega⟩,h3⟩,h8⟩
 ·rcases @jV S.o l with h1|h1
  ·rw[h1];trivial
  ·exact sK (g:=g) (g':=g') (K:=fun l=>l<n) rfl (fun b hb=>hb) hK (h.2 _ h1).1 (h.2 _ h1).2 (hg.obj l)
 ·rw[hblk]at hb;exact hg.own l b hb
 ·rw[hblk]at hb hb';exact hg.dis l l' b hb hb'
 ·have hin:In (fun l=>l<n) (look S.t k):=by
   rcases @jV S.t k with h1|h1
   ·rw[h1];exact .any
   ·exact h.1 _ h1
  exact cY (g:=g) (g':=g') (K:=fun l=>l<n) (fun b hb=>⟨hb,rfl⟩) hK (htk.2 k) hin
theorem Weak.nil {S:AS} (d k:Nat) (hk:0<k) (h:look S.t d=.lit (.slice none 0 0)):Weak S { t:=(d,.ref S.nx 0 0 0)::S.t,o:=(S.nx,.vec k [])::S.o,nx:=S.nx+1 }:=by
 intro c nt a w hs
 obtain⟨g,rfl,hg,htk,hsz,hu,hln,h8⟩:=hs
 obtain⟨g',a1,a2,a3,a4,a5⟩:=a0k hg S.nx k 0 (fun h=>by have:=hu _ h;omega) hk
 refine⟨g',a1,a3,⟨htk.1,fun t=>?_⟩,hsz,fun l hl=>?_,hln.mono a2,by simp only;omega⟩
 ·simp only[look]
  by_cases ht:d=t
  ·subst ht
   rw[if_pos rfl]
   have:=htk.2 d
   rw[h]at this
   generalize a.tmps.getD d undef=v at this
   cases this
   exact a4
  ·rw[if_neg ht]
   exact (htk.2 t).mono a2
 ·rcases a5 l hl with h|h
  ·have:=hu l h;simp only;omega
  ·simp only;omega
theorem jT {S:AS} (l j k:Nat) (cs:List AV) (hk:0<k) (h:look S.o l=.blk cs) (hj:j<cs.length) (hn:cs[j]=.lit (.slice none 0 0)) (hl:l<S.nx):Weak S { t:=S.t,o:=(l,.blk (cs.set j (.ref S.nx 0 0 0)))::(S.nx,.vec k [])::S.o,nx:=S.nx+1 }:=by
 intro c nt a w hs
 obtain⟨g,rfl,hg,htk,hsz,hu,hln,h8⟩:=hs
 obtain⟨g',a1,a2,a3,a4,a5⟩:=a0k hg S.nx k 0 (fun h=>by have:=hu _ h;omega) hk
 have hne:S.nx≠l:=by omega
 have hok:=a3.obj l
 have hb0:aE g' l (upd (look S.o) [(S.nx,.vec k [])] l)=some (g'.blk l):=by simp only[upd,if_neg hne,h,aE]
 simp only[upd,if_neg hne,h]at hok
 obtain⟨h1,vs,e,h2,h3,h4,h5⟩:=hok
 have a6:GOk c g' (upd (upd (look S.o) [(S.nx,.vec k [])]) [(l,.blk (cs.set j (.ref S.nx 0 0 0)))]):=by
  refine a3.turn (Ev.refl g') l _ rfl Tp.rfl rfl (Ab _) rfl (fun _ _=>⟨rfl,rfl,rfl⟩) (fun b _ _=>rfl) ⟨h1,vs,e,h2,by simpa using h3,h4,fun i i1 i2=>?_⟩ (fun b hb=>.inl ?_)
  ·by_cases hij:j=i
   ·subst hij
    have:=h5 j hj i2
    rw[hn]at this
    simp only[List.getElem_set_self]
    generalize vs[j]=x at this
    cases this
    exact a4
   ·rw[List.getElem_set_ne hij]
    exact h5 i (by simpa using i1) i2
  ·rw[hb0]
   exact hb
 refine⟨g',a1,a6,⟨htk.1,fun t=>(htk.2 t).mono a2⟩,hsz,fun l' hl'=>?_,hln.mono a2,by simp only;omega⟩
 rcases a5 l' hl' with h|h
 ·have:=hu l' h;simp only;omega
 ·simp only;omega
def fzl (l:Nat) (c:AV) (a:AV):AV :=
 match a with
 | .loc l' o=>if l'=l then bw (fun _=>c) (.loc l' o)else a
 | .vp l' i j m=>if l'=l then bw (fun _=>c) (.vp l' i j m)else a
 | .ref l' o n m=>if l'=l then bw (fun _=>c) (.ref l' o n m)else a
 | .bs l' o k n=>if l'=l then bw (fun _=>c) (.bs l' o k n)else a
 | .agg cs=>.agg (cs.map fun x=>match x with
  | .loc l' o=>if l'=l then bw (fun _=>c) (.loc l' o)else x
  | .vp l' i j m=>if l'=l then bw (fun _=>c) (.vp l' i j m)else x
  | .ref l' o n m=>if l'=l then bw (fun _=>c) (.ref l' o n m)else x
  | .bs l' o k n=>if l'=l then bw (fun _=>c) (.bs l' o k n)else x
  | x=>x)
 | a=>a
def jZ (g:Gh) (l:Nat) (c:AV):Gh:={ g with fz:=fun b=>g.fz b∨aE g l c=some b }
theorem sO (g:Gh) (l:Nat) (c:AV):Ev g (jZ g l c):=⟨fun b hb=>⟨.inl hb,rfl⟩,fun l hl=>⟨hl,rfl,Ab _,fun _=>rfl⟩⟩
theorem GOk.only {c:Cx} {g:Gh} {ob:Nat→AV} (h:GOk c g ob) (l:Nat):GOk c g (fun l'=>if l'=l then ob l else .any):=by
 have hb:∀ l' b,aE g l' (if l'=l then ob l else .any)=some b→l'=l∧aE g l (ob l)=some b:=by
  intro l' b hb
  split at hb
  ·rename_i e;subst e;exact⟨rfl,hb⟩
  ·simp[aE]at hb
 refine⟨h.os,h.tape,h.output,h.size,h.old,h.fzo,h.fzn,h.fzx,fun l'=>?_,fun l' b hl=>h.own l b (hb l' b hl).2,fun l1 l2 b h1 h2=>(hb l1 b h1).1.trans (hb l2 b h2).1.symm⟩
 show ObjOk g l' (if l'=l then ob l else .any)
 split
 ·rename_i e;subst e;exact h.obj l'
 ·trivial
theorem c4t {c:Cx} {g:Gh} {ob:Nat→AV} (hg:GOk c g ob) (l:Nat) {a:AV} {v:Value} (hid:oZ a=[l]) (h:Rel g a v):Rel (jZ g l (ob l)) (bw (fun _=>ob l) a) v:=by
 have h1:=oO (hg.only l) h
 have e:bw (fun l'=>if l'=l then ob l else .any) a=bw (fun _=>ob l) a:=wO fun l' hl'=>by
  rw[hid]at hl'
  simp only[List.mem_singleton]at hl'
  subst hl'
  simp
 rw[← e]
 have hev:Ev (gI g fun l'=>if l'=l then ob l else .any) (jZ g l (ob l)):=by
  refine⟨fun b hb=>⟨?_,rfl⟩,fun l hl=>⟨hl,rfl,Ab _,fun _=>rfl⟩⟩
  rcases hb with hb|⟨l',hb⟩
  ·exact .inl hb
  ·right
   dsimp only at hb
   split at hb
   ·rename_i e;subst e;exact hb
   ·simp[aE]at hb
 exact h1.mono hev
theorem a7i {c:Cx} {g:Gh} {ob:Nat→AV} (hg:GOk c g ob) (l:Nat) {a:AV} {v:Value} (h:Rel g a v):Rel (jZ g l (ob l)) (fzl l (ob l) a) v:=by
 have single:∀ {x:AV} {v:Value},Rel g x v→Rel (jZ g l (ob l)) (match x with
  | .loc l' o=>if l'=l then bw (fun _=>ob l) (.loc l' o)else x
  | .vp l' i j m=>if l'=l then bw (fun _=>ob l) (.vp l' i j m)else x
  | .ref l' o n m=>if l'=l then bw (fun _=>ob l) (.ref l' o n m)else x
  | .bs l' o k n=>if l'=l then bw (fun _=>ob l) (.bs l' o k n)else x
  | x=>x) v:=by
  intro x v h
  cases x<;>simp only<;>(try exact h.mono (sO g l (ob l))) <;>
  ·split
   ·rename_i e
    subst e
    exact c4t hg _ rfl h
   ·exact h.mono (sO g l (ob l))
 cases a with
 | agg cs =>
  cases h with
  | agg _ vs hs ho hr =>
   refine .agg _ _ (by simpa using hs) ho fun i h1 h2=>?_
   simp only[Ac]
   exact single (hr i (by simpa using h1) h2)
 | loc l' o=>exact single h
 | vp l' i j m=>exact single h
 | ref l' o n m=>exact single h
 | bs l' o k n=>exact single h
 | _=>exact h.mono (sO g l (ob l))
theorem yN {S:AS} (l:Nat) {t o:List (Nat × AV)} (ht:∀ p∈t,look S.t p.1=p.2∨fzl l (look S.o l) (look S.t p.1)=p.2) (ho:∀ p∈o,p.1≠l∧look S.o p.1=p.2):Weak S ⟨t,o,S.nx⟩:=by
 intro c nt a w hs
 obtain⟨g,rfl,hg,htk,hsz,hu,hln,h8⟩:=hs
 have hlo:∀ k,look o k=.any∨(k≠l∧look o k=look S.o k):=fun k=>by
  rcases @jV o k with h|h
  ·exact .inl h
  ·exact .inr ⟨(ho _ h).1,(ho _ h).2.symm⟩
 have hev:=sO g l (look S.o l)
 have hbl:∀ k b,aE (jZ g l (look S.o l)) k (look o k)=some b→k≠l∧aE g k (look S.o k)=some b:=by
  intro k b hb
  rcases hlo k with h|⟨hk,h⟩
  ·rw[h]at hb;simp[aE]at hb
  ·rw[h]at hb
   refine⟨hk,?_⟩
   generalize look S.o k=x at hb ⊢
   cases x<;>exact hb
 refine⟨jZ g l (look S.o l),rfl,⟨hg.os,hg.tape,hg.output,hg.size,hg.old,fun b hb=>.inl (hg.fzo b hb),fun b hb=>?_,fun b hb=>?_,fun k=>?_,fun k b hb=>?_,fun k k' b hb hb'=>hg.dis k k' b (hbl k b hb).2 (hbl k' b hb').2⟩,⟨htk.1,fun k=>?_⟩,hsz,hu,hln.mono hev,h8⟩
 ·rcases hb with hb|hb
  ·exact hg.fzn b hb
  ·rcases (hg.own l b hb).1 with h|h
   ·exact .inr (.inl h)
   ·exact .inr (.inr h)
 ·rcases hb with hb|hb
  ·exact hg.fzx b hb
  ·exact (hg.obj l).lt hb
 ·show ObjOk _ k (look o k)
  rcases hlo k with h|⟨hk,h⟩
  ·rw[h];trivial
  ·rw[h]
   exact (hg.obj k).keep hev ⟨rfl,rfl⟩ fun b hb=>rfl
 ·obtain⟨hk,hb2⟩:=hbl k b hb
  refine⟨(hg.own k b hb2).1,?_⟩
  rintro (h|h)
  ·exact (hg.own k b hb2).2 h
  ·exact hk (hg.dis k l b hb2 h)
 ·show Rel _ (look t k) _
  rcases @jV t k with h|h
  ·rw[h];exact .any _
  ·rcases ht _ h with h1|h1
   ·simp only at h1
    rw[← h1]
    exact (htk.2 k).mono hev
   ·simp only at h1
    rw[← h1]
    exact a7i hg l (htk.2 k)
end Go.Sx
namespace Go.Sx
set_option linter.unusedVariables false
set_option linter.unusedSimpArgs false
def nK (P:Program) (S:AS):ResultVar→AV→Prop
 | .tmp t,x=>look S.t t=x
 | .cell a t,x=>∃ ag s,agT P t=some ag∧szT P t=some s∧(ag=true∨s=1)∧jM ag s (look S.t a) (look S.o) fun e=>e.val=x
def l4 (P:Program) (S:AS):List ResultVar→AV→Prop
 | [],r=>r=.tup []
 | [x],r=>nK P S x r
 | xs,r=>∃ vs:List AV,r=.tup vs∧xs.length=vs.length∧∀ i (h1:i<xs.length) (h2:i<vs.length),nK P S xs[i] vs[i]
def bwc (ob:Nat→AV):AV→AV
 | .agg cs=>.agg (cs.map (bw ob))
 | .clo f cs=>.clo f (cs.map (bw ob))
 | a=>bw ob a
def bwr (ob:Nat→AV):AV→AV
 | .tup cs=>.tup (cs.map (bwc ob))
 | a=>bwc ob a
theorem a7j {c:Cx} {g:Gh} {ob:Nat→AV} (hg:GOk c g ob) {a:AV} {v:Value} (h:Rel g a v):Rel (gI g ob) (bwc ob a) v:=by
 cases a with
 | agg cs =>
  cases h with
  | agg _ vs hs ho hr=>exact .agg _ _ (by simpa using hs) ho fun i h1 h2=>by simp only[Ac];exact oO hg (hr i (by simpa using h1) h2)
 | clo f cs =>
  cases h with
  | clo _ _ vs hs hr=>exact .clo _ _ _ (by simpa using hs) fun i h1 h2=>by simp only[Ac];exact oO hg (hr i (by simpa using h1) h2)
 | _=>exact oO hg h
theorem c4v {c:Cx} {g:Gh} {ob:Nat→AV} (hg:GOk c g ob) {a:AV} {v:Value} (h:Rel g a v):Rel (gI g ob) (bwr ob a) v:=by
 cases a with
 | tup cs =>
  cases h with
  | tup _ vs hs hr=>exact .tup _ _ (by simpa using hs) fun i h1 h2=>by simp only[Ac];exact a7j hg (hr i (by simpa using h1) h2)
 | _=>exact a7j hg h
def RetA (P:Program) (rs:List ResultVar) (r:AV) (S:AS):Prop:=∃ x,l4 P S rs x∧bwr (look S.o) x=r
def RetB (P:Program) (rs:List ResultVar) (r:AV) (post:List (Nat × AV)) (S:AS):Prop:=l4 P S rs r∧∀ p∈post,look S.o p.1=p.2
def resF (a:Act):ResultVar→Sem Value
 | .tmp t=>pure (a.tmps.getD t undef)
 | .cell p t=>do loadVar t (← asAddr (a.tmps.getD p undef))
theorem c0v {c : Cx} {g : Gh} {S : AS} {a : Act} (hg : GOk c g (look S.o)) (ht : TOk g (look S.t) a) : ∀ (xs : List ResultVar) (vs : List AV), xs.length = vs.length →
  (∀ i (h1:i<xs.length) (h2:i<vs.length),nK c.P S xs[i] vs[i])→∃ us:List Value,(xs.mapM (resF a)).run c.P g.w=.ok us g.w∧RelL g vs us:=by
 have one:∀ x v,nK c.P S x v→∃ u,(resF a x).run c.P g.w=.ok u g.w∧Rel g v u:=by
  intro x v h
  cases x with
  | tmp t=>simp only[nK]at h;subst h;exact⟨_,rfl,ht.2 t⟩
  | cell p t =>
   obtain⟨ag,s,h1,h2,h3,h4⟩:=h
   obtain⟨e,he,heo,hr⟩:=a5x (c:=c) (g:=g) (v:=undef) h1 h2 h3 h4
   obtain⟨u,hu1,hu2⟩:=hr (look S.o) (fun _ _=>rfl) g _ hg (ht.2 p)
   subst he
   refine⟨u,?_,hu2⟩
   simp only[resF]
   generalize a.tmps.getD p undef=q at hu1
   unfold Instr.loadAt Instr.sureAddr at hu1
   cases q with
   | pointer q =>
    cases q with
    | none=>simp[Sem.run_bind]at hu1
    | some q=>simpa [Sem.run_bind,asAddr]using hu1
   | _=>simp[Sem.run_bind]at hu1
 intro xs
 induction xs with
 | nil=>intro vs hl _;obtain rfl:vs=[]:=Ad hl.symm;exact⟨[],rfl,.nil⟩
 | cons x xs ih =>
  intro vs hl h
  cases vs with
  | nil=>simp at hl
  | cons v vs =>
   obtain⟨u,hu1,hu2⟩:=one x v (h 0 (by simp) (by simp))
   obtain⟨us,hs1,hs2⟩:=ih vs (by simpa using hl) fun i h1 h2=>h (i+1) (by simpa using h1) (by simpa using h2)
   exact⟨u::us,by simp[List.mapM_cons,Sem.run_bind,hu1,hs1],.cons hu2 hs2⟩
theorem sG {c:Cx} {g:Gh} {S:AS} {a:Act} {fn:Func} {r:AV} (h:l4 c.P S fn.results.toList r) (hg:GOk c g (look S.o)) (ht:TOk g (look S.t) a):∃ v,(results fn a.tmps).run c.P g.w=.ok v g.w∧Rel g r v:=by
 have key : ∀ vs : List AV, fn.results.toList.length = vs.length → (∀ i (h1 : i < fn.results.toList.length) (h2 : i < vs.length), nK c.P S fn.results.toList[i] vs[i]) →
   ∃ us:List Value,(results fn a.tmps).run c.P g.w=.ok (if h:us.toArray.size=1 then us.toArray[0]else .tuple us.toArray) g.w∧RelL g vs us:=by
  intro vs hl hv
  obtain⟨us,h1,h2⟩:=c0v hg ht fn.results.toList vs hl hv
  refine⟨us,?_,h2⟩
  have e:results fn a.tmps=(do let vs ← fn.results.mapM (resF a);pure (if h:vs.size=1 then vs[0]else .tuple vs)):=by
   unfold results
   congr 1
  rw[e,Sem.run_bind,Array.mapM_eq_mapM_toList,Sem.run_map,h1]
  rfl
 generalize hxs:fn.results.toList=xs at h key
 cases xs with
 | nil =>
  simp only[l4]at h
  subst h
  obtain⟨us,h1,h2⟩:=key [] rfl (fun i h=>by simp at h)
  obtain rfl:us=[]:=Ad h2.1
  exact⟨_,h1,by simpa using Rel.tup [] #[] rfl (fun i h=>by simp at h)⟩
 | cons x xs =>
  cases xs with
  | nil =>
   simp only[l4]at h
   obtain⟨us,h1,h2⟩:=key [r] rfl (fun i h1 h2=>by
    have:i=0:=by simpa using h2
    subst this
    exact h)
   have hl:=h2.1
   match us,hl with
   | [u],_=>exact⟨u,by simpa using h1,h2.2 0 (by simp) (by simp)⟩
  | cons y ys =>
   simp only[l4]at h
   obtain⟨vs,rfl,hl,hv⟩:=h
   obtain⟨us,h1,h2⟩:=key vs hl hv
   have hl2:¬ us.toArray.size=1:=by
    have:=h2.1
    simp only[Ai]at hl
    simp
    omega
   rw[dif_neg hl2]at h1
   exact⟨_,h1,.tup _ _ (by simpa using h2.1) fun i a1 a2=>by simpa using h2.2 i a1 (by simpa using a2)⟩
def aD:Nat→List AV→List (Nat × AV)
 | _,[]=>[]
 | i,a::r=>(i,a)::aD (i+1) r
theorem a3a:∀ (args:List AV) (i k:Nat),look (aD i args) k=if i≤k∧k<i+args.length then args.getD (k - i) .any else .any:=by
 intro args
 induction args with
 | nil=>intro i k;simp only[aD,look,List.length_nil];rw[if_neg (by omega)]
 | cons a args ih =>
  intro i k
  simp only[aD,look,ih,Ai]
  by_cases hik:i=k
  ·subst hik
   rw[if_pos rfl,if_pos (by omega)]
   simp
  ·rw[if_neg hik]
   by_cases hc:i+1≤k∧k<i+1+args.length
   ·rw[if_pos hc,if_pos (by omega)]
    have:k - i=(k - (i+1))+1:=by omega
    rw[this]
    simp
   ·rw[if_neg hc,if_neg (by omega)]
theorem a5g (pre:List (Nat × AV)):look pre=upd aF pre:=by
 funext l
 induction pre with
 | nil=>rfl
 | cons p pre ih=>obtain⟨i,a⟩:=p;simp only[look,upd,ih]
theorem sR {P : Program} {f : Nat} {fn : Func} {args : List AV} {pre : List (Nat × AV)} {n : Nat} (hn : ∀ p ∈ pre, p.1 < 8) (h8 : 8 ≤ n) (hargs : args.length ≤ fn.ntmps) {g : Gh} {vals : List Value} (hus : ∀ l, g.us l ↔ l ∈ pre.map (·.1)) (hg : GOk (bG P g (upd aF pre)) g (upd aF pre)) (hr : RelL g args vals) :
  Sim (bG P g (upd aF pre)) fn.ntmps ⟨aD 0 args,pre,n⟩ { tmps:=vals.toArray++Aj (fn.ntmps - vals.toArray.size) undef,defers:=[] } g.w:=by
 have hl:=hr.1
 refine⟨g,rfl,by show GOk _ g (look pre);rw[a5g];exact hg,⟨trivial,fun k=>?_⟩,⟨by simp;omega,rfl,fun l h=>by cases h⟩,fun l hl=>?_,fun l hl=>?_,h8⟩
 ·show Rel g (look (aD 0 args) k) _
  rw[a3a]
  split
  ·rename_i h
   have hk:k<args.length:=by omega
   rw[Array.getD_eq_getD_getElem?,Array.getElem?_append_left (by simp;omega)]
   simp only[Nat.sub_zero,List.getElem?_toArray,List.getD,Ae hk,Option.getD_some]
   rw[Ae (by omega)]
   exact hr.2 k hk (by omega)
  ·exact .any _
 ·obtain⟨p,hp,rfl⟩:=Ag.1 ((hus l).1 hl)
  have:=hn p hp
  simp only
  omega
 ·have hl':g.us l:=hl
  obtain⟨p,hp,rfl⟩:=Ag.1 ((hus l).1 hl')
  exact⟨hn p hp,hl',rfl,Ab _,fun _=>rfl⟩
theorem sE {P : Program} {f : FuncId} {fn : Func} {code : Code} {args : Array Value} {w : World} {R : Ending → World → Prop} (hf : P.funcs[f]? = some fn) (hb : fn.body = some code)
  (h:code.wpIn (Fw none) 0 P (bodyPostM (Fw none) 0 P fn R) { tmps:=args++Aj (fn.ntmps - args.size) undef,defers:=[] } w):Calls P f args w R :=
 (callsIn_wide (n:=0)).1 (callsIn_of_wp_marks hf hb trivial h)
theorem GOk.shut {c : Cx} {g : Gh} {ob : Nat → AV} {D : Nat} (o : Obj) (hg : GOk c g ob) (h1 : c.w0.heap.size ≤ D) (h2 : ¬ g.fz D) (h3 : ∀ l b, aE g l (ob l) = some b → b ≠ D) :
  Ev g { g with w:=g.w.putObj D o }∧GOk c { g with w:=g.w.putObj D o } ob:=by
 have he:Ev g { g with w:=g.w.putObj D o }:=⟨fun b hb=>⟨hb,World.putObj_heap_other (fun e=>h2 (e▸hb))⟩,fun l hl=>⟨hl,rfl,Ab _,fun _=>rfl⟩⟩
 have hbk:∀ l x,aE { g with w:=g.w.putObj D o } l x=aE g l x:=fun l x=>by cases x<;>rfl
 refine⟨he,hg.os,hg.tape,hg.output,by simp only[World.putObj_size];exact hg.size,fun b hb hw=>?_,hg.fzo,hg.fzn,fun b hb=>by simp only[World.putObj_size];exact hg.fzx b hb,fun l=>?_,fun l b hb=>?_,fun l l' b hb hb'=>?_⟩
 ·exact (World.putObj_heap_other (show b≠D by omega)).trans (hg.old b hb hw)
 ·exact (hg.obj l).keep he ⟨rfl,rfl⟩ fun b hb=>World.putObj_heap_other (h3 l b hb)
 ·rw[hbk]at hb;exact hg.own l b hb
 ·rw[hbk]at hb hb';exact hg.dis l l' b hb hb'
theorem sX {c : Cx} {P : Program} {fn : Func} {R : AS → Prop} {Rr : Ending → World → Prop} (hP : c.P = P) (hds : c.ds = []) (h : ∀ S g a, R S → GOk c g (look S.o) → TOk g (look S.t) a → a.tmps.size = fn.ntmps → Lnk c g → ∃ v, (results fn a.tmps).run P g.w = .ok v g.w ∧ Rr (.returned v) g.w)
  (e:Exit) (a:Act) (w:World) (hq:iH c fn.ntmps (Qof P fn.ntmps R []) e a w):bodyPostM (Fw none) 0 P fn Rr e a w:=by
 have key:∀ (Ds:List Nat) (S:AS) (g:Gh),R S→Ds.Nodup→GOk c g (look S.o)→TOk g (look S.t) a→a.tmps.size=fn.ntmps→Lnk c g→(∀ D∈Ds,Mkd c g (look S.o) D)→LeavesInM (Fw none) 0 P fn a.tmps Rr (Ds.map mark) .returning g.w:=by
  intro Ds
  induction Ds with
  | nil =>
   intro S g hS _ hg ht hsz hln _
   exact h S g a hS hg ht hsz hln
  | cons D Ds ih =>
   intro S g hS hnd hg ht hsz hln hD
   obtain⟨k1,k2,k3,k4⟩:=hD D (by simp)
   obtain⟨he,hg'⟩:=hg.shut (.deferred none) k1 k2 k3
   refine⟨by simp,.inl ⟨D,_,rfl,run_takeDeferred k4,?_⟩⟩
   refine ih S _ hS (Ak.1 hnd).2 hg' (ht.mono he) hsz (hln.mono he) fun E hE=>?_
   obtain⟨q1,q2,q3,q4⟩:=hD E (by simp[hE])
   refine⟨q1,q2,fun l b hb=>q3 l b (by rw[← hb];cases look S.o l<;>rfl),?_⟩
   have hne:E≠D:=fun e=>(Ak.1 hnd).1 (e▸hE)
   exact (World.putObj_heap_other hne).trans q4
 have fin:∀ c' S,Le c c'→R S→Sim c' fn.ntmps S a w→LeavesInM (Fw none) 0 P fn a.tmps Rr a.defers .returning w:=by
  rintro c' S hl hS ⟨g,rfl,hg,ht,hsz,hu,hln,_⟩
  obtain⟨Ds,d1,d2,d3⟩:=hl.ds
  rw[hsz.2.1,d1,hds,List.append_nil]
  exact key Ds S g hS d2 (hl.back _ _ hg) ht hsz.1 (hl.lnk _ hln) fun D hD=>(d3 D hD).2.2 g _ hg
 cases e with
 | normal=>obtain⟨c',S,hl,h1,h2⟩:=hq;exact fin c' S hl h1 h2
 | ret=>obtain⟨c',S,hl,h1,h2⟩:=hq;exact fin c' S hl h1 h2
 | exit id=>obtain⟨c',S,hl,h1,h2⟩:=hq;exact h1.elim
 | goto l=>obtain⟨c',S,hl,h1,h2⟩:=hq;exact h1.elim
 | panic ch=>exact hq.elim
 | outgrown=>exact hq.elim
theorem Flat.in {K:Nat→Prop} {a:AV} (h:Flat a):In K a:=by
 induction h with
 | lit v=>exact .lit v
 | agg cs _ ih=>exact .agg cs ih
 | tup cs _ ih=>exact .tup cs ih
theorem a5d {P : Program} {f : Nat} {fn : Func} {code : Code} {args : List AV} {r : AV} (hf : P.funcs[f]? = some fn) (hb : fn.body = some code) (ha : args.length ≤ fn.ntmps) (hin : In (fun _ => False) r)
  (h:AW P fn.ntmps (RetA P fn.results.toList r) [.code code] ⟨aD 0 args,[],8⟩):CallOK P f args [] r []:=by
 intro g vals hus hg hr
 have hsim:=sR (P:=P) (f:=f) (fn:=fn) (n:=8) (pre:=[]) (by simp) (Ab _) ha hus hg hr
 refine sE hf hb (wpIn_mono (h _ _ _ rfl hsim) (sX rfl rfl fun S g1 a hS hg1 ht hsz hu=>?_))
 obtain⟨x,hx,hxr⟩:=hS
 obtain⟨v,hv,hvr⟩:=sG (c:=bG P g (upd aF [])) hx hg1 ht
 have hrel:=c4v hg1 hvr
 rw[hxr]at hrel
 let g2:Gh:={ gI g1 (look S.o)with us:=g.us }
 have hus':∀ l,¬ g.us l:=fun l hl=>by simpa using (hus l).1 hl
 have hnoW:∀ b,¬ (bG P g (upd aF [])).W0 b:=by rintro b ⟨l,hl⟩;simp[upd,aF,aE]at hl
 have hold:∀ b,b<g.w.heap.size→g1.w.heap[b]?=g.w.heap[b]?:=fun b hb=>hg1.old b hb (hnoW b)
 refine⟨v,hv,v,g2,rfl,rfl,⟨fun b hb=>⟨.inl (hg1.fzo b hb),hold b (hg.fzx b hb)⟩,fun l hl=>(hus' l hl).elim⟩,fun l=>Iff.rfl,?_,?_⟩
 ·refine⟨hg1.os,hg1.tape,hg1.output,hg1.size,hg1.old,fun b hb=>.inl (hg1.fzo b hb),?_,?_,fun l=>trivial,fun l b hb=>by simp[upd,aF,aE]at hb,fun l l' b hb=>by simp[upd,aF,aE]at hb⟩
  ·rintro b (hb|⟨l,hb⟩)
   ·exact hg1.fzn b hb
   ·rcases (hg1.own l b hb).1 with h|h
    ·exact .inr (.inl h)
    ·exact .inr (.inr h)
  ·rintro b (hb|⟨l,hb⟩)
   ·exact hg1.fzx b hb
   ·exact (hg1.obj l).lt hb
 ·exact cY (g:=gI g1 (look S.o)) (g':=g2) (K:=fun _=>False) (fun b hb=>⟨hb,rfl⟩) (fun l hl=>hl.elim) hrel hin
theorem b5c {P : Program} {f : Nat} {fn : Func} {code : Code} {args : List AV} {pre post : List (Nat × AV)} {r : AV} (hf : P.funcs[f]? = some fn) (hb : fn.body = some code) (ha : args.length ≤ fn.ntmps) (hn : ∀ p ∈ pre, p.1 < 8) (hin : In (fun _ => False) r)
  (hpost:∀ p∈post,p.1∈pre.map (·.1)∧InC (fun l=>l∈pre.map (·.1)) p.2)
  (h:AW P fn.ntmps (RetB P fn.results.toList r post) [.code code] ⟨aD 0 args,pre,8⟩):CallOK P f args pre r post:=by
 intro g vals hus hg hr
 have hsim:=sR (P:=P) (f:=f) (fn:=fn) (n:=8) (pre:=pre) hn (Ab _) ha hus hg hr
 refine sE hf hb (wpIn_mono (h _ _ _ rfl hsim) (sX rfl rfl fun S g1 a hS hg1 ht hsz hln=>?_))
 obtain⟨hx,hpo⟩:=hS
 obtain⟨v,hv,hvr⟩:=sG (c:=bG P g (upd aF pre)) hx hg1 ht
 let g2:Gh:={ g1 with us:=g.us }
 have hfz:∀ b,g.fz b→g1.w.heap[b]?=g.w.heap[b]?:=fun b hb=>hg1.old b (hg.fzx b hb) fun⟨l,hl⟩=>(hg.own l b hl).2 hb
 have hK:∀ l,l∈pre.map (·.1)→g1.us l→g2.us l∧g2.blk l=g1.blk l∧g2.des l=g1.des l∧g2.len l=g1.len l:=fun l hl hu=>⟨(hus l).2 hl,rfl,rfl,rfl⟩
 have hblk:∀ l x,aE g2 l x=aE g1 l x:=fun l x=>by cases x<;>rfl
 have hob:∀ l,upd aF post l=.any∨(l∈post.map (·.1)∧upd aF post l=look S.o l):=fun l=>by
  by_cases hm:l∈post.map (·.1)
  ·exact .inr ⟨hm,(hpo _ (oK (ob:=aF) rfl hm)).symm⟩
  ·exact .inl (gU hm)
 have hbl:∀ l b,aE g2 l (upd aF post l)=some b→aE g1 l (look S.o l)=some b:=fun l b hb=>by
  rcases hob l with h|⟨_,h⟩
  ·rw[h]at hb;simp[aE]at hb
  ·rw[h,hblk]at hb;exact hb
 refine⟨v,hv,v,g2,rfl,rfl,⟨fun b hb=>⟨hg1.fzo b hb,hfz b hb⟩,fun l hl=>⟨hl,(hln l hl).2.2⟩⟩,fun l=>Iff.rfl,?_,?_⟩
 ·refine⟨hg1.os,hg1.tape,hg1.output,hg1.size,hg1.old,hg1.fzo,hg1.fzn,hg1.fzx,fun l=>?_,fun l b hb=>hg1.own l b (hbl l b hb),fun l l' b hb hb'=>hg1.dis l l' b (hbl l b hb) (hbl l' b hb')⟩
  rcases hob l with h|⟨hm,h⟩
  ·rw[h];trivial
  ·obtain⟨p,hp,rfl⟩:=Ag.1 hm
   have hp2:=hpost p hp
   have e:look S.o p.1=p.2:=hpo p hp
   rw[h]
   refine sK (g:=g1) (g':=g2) (K:=fun l=>l∈pre.map (·.1)) rfl (fun b hb=>hb) hK hp2.1 (by rw[e];exact hp2.2) (hg1.obj p.1)
 ·exact cY (g:=g1) (g':=g2) (K:=fun _=>False) (fun b hb=>⟨hb,rfl⟩) (fun l hl=>hl.elim) hvr hin
def RetF (P:Program) (rs:List ResultVar) (k:Nat) (es:List (List AV)) (S:AS):Prop:=∃ l,l4 P S rs (.ref l 0 es.length es.length)∧look S.o l=.vec k es
theorem b8e {P : Program} {f : Nat} {fn : Func} {code : Code} {args : List AV} {k : Nat} {es : List (List AV)} (hf : P.funcs[f]? = some fn) (hb : fn.body = some code) (ha : args.length ≤ fn.ntmps) (hfl : ∀ e ∈ es, ∀ c ∈ e, Flat c)
  (h:AW P fn.ntmps (RetF P fn.results.toList k es) [.code code] ⟨aD 0 args,[],8⟩):CallFr P f args k es:=by
 intro g vals hus hg hr
 have hsim:=sR (P:=P) (f:=f) (fn:=fn) (n:=8) (pre:=[]) (by simp) (Ab _) ha (fun l=>by simp[hus l]) hg hr
 refine sE hf hb (wpIn_mono (h _ _ _ rfl hsim) (sX rfl rfl fun S g1 a hS hg1 ht hsz hu=>?_))
 obtain⟨l,hx,hl⟩:=hS
 obtain⟨v,hv,hvr⟩:=sG (c:=bG P g (upd aF [])) hx hg1 ht
 have hnoW:∀ b,¬ (bG P g (upd aF [])).W0 b:=by rintro b ⟨l,hl⟩;simp[upd,aF,aE]at hl
 have hold:∀ b,b<g.w.heap.size→g1.w.heap[b]?=g.w.heap[b]?:=fun b hb=>hg1.old b hb (hnoW b)
 have hok:=hg1.obj l
 have hown:=hg1.own l
 rw[hl]at hok hown
 obtain⟨hus',hk,hln,hk0,hke,h5⟩:=hok
 refine⟨v,hv,v,rfl,hg1.os,hg1.tape,hg1.output,hg1.size,hold,hk0,hke,?_⟩
 cases hvr with
 | ref _ _ _ _ _ hu' hm hc hvv =>
  have hvv:=hvv hln.symm
  rcases h5 with⟨h6,rfl,h7⟩|⟨b,vs,h6,h7,h8,h9,h10,h11,h12⟩
  ·left
   refine⟨rfl,?_⟩
   rw[hvv]
   simp[Des.slice,h6,h7]
  ·right
   refine⟨b,(g1.des l).cap,vs,(g1.des l).e,by rw[hvv];simp[Des.slice,h6],?_,h7,h8,h9,h10,h11,fun g i a1 j a2 a3=>(h12 i a1 j a2 a3).flat (hfl _ (Aa a1) _ (Aa a2))⟩
   rcases (hown b (by simp[aE,h6])).1 with h|h
   ·exact absurd h (hnoW b)
   ·exact h
theorem b8c {P : Program} {f : Nat} {fn : Func} {code : Code} {args : List AV} {k : Nat} {es : List (List AV)} (hf : P.funcs[f]? = some fn) (hb : fn.body = some code) (ha : args.length ≤ fn.ntmps) (hin : ∀ e ∈ es, ∀ c ∈ e, In (fun _ => False) c)
  (h:AW P fn.ntmps (RetF P fn.results.toList k es) [.code code] ⟨aD 0 args,[],8⟩):CallVc P f args k es:=by
 intro g vals hus hg hr
 have hsim:=sR (P:=P) (f:=f) (fn:=fn) (n:=8) (pre:=[]) (by simp) (Ab _) ha (fun l=>by simp[hus l]) hg hr
 refine sE hf hb (wpIn_mono (h _ _ _ rfl hsim) (sX rfl rfl fun S g1 a hS hg1 ht hsz hu=>?_))
 obtain⟨l,hx,hl⟩:=hS
 obtain⟨v,hv,hvr⟩:=sG (c:=bG P g (upd aF [])) hx hg1 ht
 have hnoW:∀ b,¬ (bG P g (upd aF [])).W0 b:=by rintro b ⟨l,hl⟩;simp[upd,aF,aE]at hl
 have hold:∀ b,b<g.w.heap.size→g1.w.heap[b]?=g.w.heap[b]?:=fun b hb=>hg1.old b hb (hnoW b)
 have hok:=hg1.obj l
 have hown:=hg1.own l
 rw[hl]at hok hown
 obtain⟨hus',hk,hln,hk0,hke,h5⟩:=hok
 let g2:Gh:={ g1 with us:=fun _=>False }
 refine⟨v,hv,v,g2,rfl,rfl,⟨fun b hb=>⟨hg1.fzo b hb,hold b (hg.fzx b hb)⟩,fun l hl=>(hus l hl).elim⟩,fun l hl=>hl,⟨hg1.os,hg1.tape,hg1.output,hg1.size,hg1.old,hg1.fzo,hg1.fzn,hg1.fzx,fun l=>trivial,fun l b hb=>by simp[upd,aF,aE]at hb,fun l l' b hb=>by simp[upd,aF,aE]at hb⟩,hk0,hke,?_⟩
 cases hvr with
 | ref _ _ _ _ _ hu' hm hc hvv =>
  have hvv:=hvv hln.symm
  rcases h5 with⟨h6,rfl,h7⟩|⟨b,vs,h6,h7,h8,h9,h10,h11,h12⟩
  ·left
   refine⟨rfl,?_⟩
   rw[hvv]
   simp[Des.slice,h6,h7]
  ·right
   have ho:=hown b (by simp[aE,h6])
   refine⟨b,(g1.des l).cap,vs,(g1.des l).e,by rw[hvv];simp[Des.slice,h6],?_,ho.2,h7,h8,h9,h10,h11,fun i a1 j a2 a3=>cY (g:=g1) (g':=g2) (K:=fun _=>False) (fun b hb=>⟨hb,rfl⟩) (fun l hl=>hl.elim) (h12 i a1 j a2 a3) (hin _ (Aa a1) _ (Aa a2))⟩
   rcases ho.1 with h|h
   ·exact absurd h (hnoW b)
   ·exact h
def RetN (P:Program) (rs:List ResultVar) (r:AV) (S:AS):Prop:=∃ x,l4 P S rs x∧bwn (look S.o) x=r
theorem b8d {P : Program} {f : Nat} {fn : Func} {code : Code} {args : List AV} {r : AV} (hf : P.funcs[f]? = some fn) (hb : fn.body = some code) (ha : args.length ≤ fn.ntmps) (hfl : FlatS r)
  (h:AW P fn.ntmps (RetN P fn.results.toList r) [.code code] ⟨aD 0 args,[],8⟩):CallNw P f args r:=by
 intro g vals hus hg hr
 have hsim:=sR (P:=P) (f:=f) (fn:=fn) (n:=8) (pre:=[]) (by simp) (Ab _) ha (fun l=>by simp[hus l]) hg hr
 refine sE hf hb (wpIn_mono (h _ _ _ rfl hsim) (sX rfl rfl fun S g1 a hS hg1 ht hsz hu=>?_))
 obtain⟨x,hx,rfl⟩:=hS
 obtain⟨v,hv,hvr⟩:=sG (c:=bG P g (upd aF [])) hx hg1 ht
 have hnoW:∀ b,¬ (bG P g (upd aF [])).W0 b:=by rintro b ⟨l,hl⟩;simp[upd,aF,aE]at hl
 have hold:∀ b,b<g.w.heap.size→g1.w.heap[b]?=g.w.heap[b]?:=fun b hb=>hg1.old b hb (hnoW b)
 exact⟨v,hv,v,rfl,hg1.os,hg1.tape,hg1.output,hg1.size,hold,c4w hg1 hnoW hvr hfl⟩
end Go.Sx
namespace Go.Sx
set_option linter.unusedVariables false
set_option linter.unusedSimpArgs false
def rn (l:Nat):AV→AV
 | .loc 0 o=>.loc l o
 | .ref 0 o n m=>.ref l o n m
 | .vp 0 i j m=>.vp l i j m
 | .bs 0 o k n=>.bs l o k n
 | a=>a
def jO:AV→Prop
 | .loc i _=>i=0
 | .ref i _ _ _=>i=0
 | .vp i _ _ _=>i=0
 | .bs i _ _ _=>i=0
 | a=>In (fun _=>False) a
theorem pG {P : Program} {f : Nat} {args : List AV} {a b r : AV} (h : CallOK P f args [(0, a)] r [(0, b)]) (ha : InC (fun _ => False) a) (hb : InC (fun _ => False) b) (hr : In (fun _ => False) r) (hargs : ∀ x ∈ args, jO x) (l : Nat) :
  CallOK P f (args.map (rn l)) [(l,a)] r [(l,b)]:=by
 intro g vals hus hg hrel
 let g0:Gh:={ w:=g.w,fz:=g.fz,us:=fun i=>i=0,blk:=fun _=>g.blk l,des:=fun _=>g.des l,len:=fun _=>g.len l }
 have hul:g.us l:=(hus l).2 (by simp)
 have hob0:∀ i,i≠0→upd aF [(0,a)] i=.any:=fun i hi=>by simp[upd,aF];intro e;exact absurd e.symm hi
 have hobl:∀ i,i≠l→upd aF [(l,a)] i=.any:=fun i hi=>by simp[upd,aF];intro e;exact absurd e.symm hi
 have hcl:∀ {G G':Gh} {x:AV} {v:Value},(∀ b,G.fz b→G'.fz b∧G'.w.heap[b]?=G.w.heap[b]?)→Rel G x v→In (fun _=>False) x→Rel G' x v:=fun hf hx hi=>cY (K:=fun _=>False) hf (fun l hl=>hl.elim) hx hi
 have hobj:∀ (G G':Gh) (i j:Nat) (x:AV),InC (fun _=>False) x→G'.w=G.w→(∀ b,G.fz b→G'.fz b)→G'.us j→G'.blk j=G.blk i→G'.des j=G.des i→G'.len j=G.len i→ObjOk G i x→ObjOk G' j x:=by
  intro G G' i j x hx hw hf hu h1 h2 h3 hok
  cases x with
  | blk cs =>
   obtain⟨_,vs,e,k1,k2,k3,k4⟩:=hok
   exact⟨hu,vs,e,by rw[hw,h1];exact k1,k2,k3,fun i a1 a2=>hcl (fun b hb=>⟨hf b hb,by rw[hw]⟩) (k4 i a1 a2) (hx _ (Aa a1))⟩
  | vec k es =>
   obtain⟨_,k1,k2,k3,k4,k5⟩:=hok
   refine⟨hu,by rw[h2];exact k1,by rw[h3];exact k2,k3,k4,?_⟩
   rw[h2,hw]
   rcases k5 with k5|⟨b,vs,m1,m2,m3,m4,m5,m6,m7⟩
   ·exact .inl k5
   ·exact .inr ⟨b,vs,m1,m2,m3,m4,m5,m6,fun i a1 j a2 a3=>hcl (fun b hb=>⟨hf b hb,by rw[hw]⟩) (m7 i a1 j a2 a3) (hx _ (Aa a1) _ (Aa a2))⟩
  | vcp k es cp =>
   obtain⟨⟨_,k1,k2,k3,k4,k5⟩,k6⟩:=hok
   refine⟨⟨hu,by rw[h2];exact k1,by rw[h3];exact k2,k3,k4,?_⟩,by rw[h2];exact k6⟩
   rw[h2,hw]
   rcases k5 with k5|⟨b,vs,m1,m2,m3,m4,m5,m6,m7⟩
   ·exact .inl k5
   ·exact .inr ⟨b,vs,m1,m2,m3,m4,m5,m6,fun i a1 j a2 a3=>hcl (fun b hb=>⟨hf b hb,by rw[hw]⟩) (m7 i a1 j a2 a3) (hx _ (Aa a1) _ (Aa a2))⟩
  | mpo es=>obtain⟨_,arr,clock,k1,k2⟩:=hok;exact⟨hu,arr,clock,by rw[hw,h1];exact k1,k2⟩
  | ito m n s=>exact hx.elim
  | lpo L fn nt ps asg body ts=>obtain⟨_,hL,tm,df,k1,k2,k3⟩:=hok;exact⟨hu,h1.trans hL,tm,df,by rw[hw];exact k1,k2,fun t=>hcl (fun b hb=>⟨hf b hb,by rw[hw]⟩) (k3 t) (w6 hx t)⟩
  | _=>trivial
 have hblk:∀ (G G':Gh) (i j:Nat) (x:AV),G'.blk j=G.blk i→G'.des j=G.des i→aE G' j x=aE G i x:=by
  intro G G' i j x h1 h2
  cases x<;>simp[aE,h1,h2]
 have hb0:∀ i b',aE g0 i (upd aF [(0,a)] i)=some b'→i=0∧aE g l (upd aF [(l,a)] l)=some b':=by
  intro i b' hb'
  by_cases hi:i=0
  ·subst hi
   refine⟨rfl,?_⟩
   simp only[upd,if_true]at hb' ⊢
   rw[← hb']
   exact (hblk g g0 l 0 a rfl rfl).symm
  ·rw[hob0 i hi]at hb';simp[aE]at hb'
 have hg0:GOk (bG P g0 (upd aF [(0,a)])) g0 (upd aF [(0,a)]):=by
  refine⟨rfl,Tp.rfl,rfl,Ab _,fun _ _ _=>rfl,fun b hb=>hb,fun b hb=>.inl hb,hg.fzx,fun i=>?_,fun i b' hb'=>⟨.inl ⟨i,hb'⟩,(hg.own l b' (hb0 i b' hb').2).2⟩,fun i i' b' h1 h2=>(hb0 i b' h1).1.trans (hb0 i' b' h2).1.symm⟩
  by_cases hi:i=0
  ·subst hi
   have:=hg.obj l
   simp only[upd,if_true]at this ⊢
   exact hobj g g0 l 0 a ha rfl (fun b hb=>hb) rfl rfl rfl rfl this
  ·rw[hob0 i hi];trivial
 have hrel0:RelL g0 args vals:=by
  refine⟨by simpa using hrel.1,fun i h1 h2=>?_⟩
  have h3:=hrel.2 i (by simpa using h1) h2
  simp only[Ac]at h3
  have ht:=hargs _ (Aa h1)
  generalize args[i]=x at h3 ht
  generalize vals[i]=v at h3
  cases x with
  | loc j o=>simp only[jO]at ht;subst ht;simp only[rn]at h3;cases h3 with|loc _ _ hu=>exact .loc (g:=g0) 0 o rfl
  | ref j o n m=>simp only[jO]at ht;subst ht;simp only[rn]at h3;cases h3 with|ref _ _ _ _ _ hu hm hc hv=>exact .ref (g:=g0) 0 o n m _ rfl hm hc hv
  | vp j o n m=>simp only[jO]at ht;subst ht;simp only[rn]at h3;cases h3 with|vp _ _ _ _ _ hu hm hc hv=>exact .vp (g:=g0) 0 o n m _ rfl hm hc hv
  | bs j o k n=>simp only[jO]at ht;subst ht;simp only[rn]at h3;cases h3 with|bs _ _ _ _ cap hu hc=>exact .bs (g:=g0) 0 o k n cap rfl hc
  | _=>simp only[rn]at h3;exact hcl (G:=g) (G':=g0) (fun b hb=>⟨hb,rfl⟩) h3 ht
 refine (h g0 vals (fun i=>by simp[g0]) hg0 hrel0).mono ?_
 rintro e w' ⟨v,g',rfl,rfl,he,hus',hg',hrr⟩
 let g1:Gh:={ w:=g'.w,fz:=g'.fz,us:=g.us,blk:=fun _=>g'.blk 0,des:=fun _=>g'.des 0,len:=fun _=>g'.len 0 }
 have hl:∀ i,g.us i→i=l:=fun i hi=>by simpa using (hus i).1 hi
 have h0:g'.us 0:=(hus' 0).2 rfl
 have hW:∀ b',(bG P g0 (upd aF [(0,a)])).W0 b'→(bG P g (upd aF [(l,a)])).W0 b':=by
  rintro b' ⟨i,hi⟩
  exact⟨l,(hb0 i b' hi).2⟩
 have hb1:∀ i b',aE g1 i (upd aF [(l,b)] i)=some b'→i=l∧aE g' 0 (upd aF [(0,b)] 0)=some b':=by
  intro i b' hb'
  by_cases hi:i=l
  ·subst hi
   refine⟨rfl,?_⟩
   simp only[upd,if_true]at hb' ⊢
   rw[← hb']
   exact (hblk g' g1 0 i b rfl rfl).symm
  ·have:upd aF [(l,b)] i=.any:=by simp[upd,aF];intro e;exact absurd e.symm hi
   rw[this]at hb';simp[aE]at hb'
 obtain⟨e1,e2,e3,e4⟩:=he.us 0 rfl
 refine⟨v,g1,rfl,rfl,⟨he.fz,fun i hi=>?_⟩,fun i=>Iff.rfl,?_,?_⟩
 ·obtain rfl:=hl i hi
  exact⟨hi,e2,e3,e4⟩
 ·refine⟨hg'.os,hg'.tape,hg'.output,hg'.size,fun b' hb' hw=>hg'.old b' hb' (fun hw'=>hw (hW b' hw')),hg'.fzo,fun b' hb'=>?_,hg'.fzx,fun i=>?_,fun i b' hb'=>?_,fun i i' b' h1 h2=>(hb1 i b' h1).1.trans (hb1 i' b' h2).1.symm⟩
  ·rcases hg'.fzn b' hb' with h|h|h
   ·exact .inl h
   ·exact .inr (.inl (hW b' h))
   ·exact .inr (.inr h)
  ·by_cases hi:i=l
   ·subst hi
    have:=hg'.obj 0
    simp only[upd,if_true]at this ⊢
    exact hobj g' g1 0 i b hb rfl (fun b hb=>hb) hul rfl rfl rfl this
   ·have:upd aF [(l,b)] i=.any:=by simp[upd,aF];intro e;exact absurd e.symm hi
    show ObjOk g1 i _
    rw[this];trivial
  ·obtain⟨k1,k2⟩:=hg'.own 0 b' (hb1 i b' hb').2
   refine⟨?_,k2⟩
   rcases k1 with h|h
   ·exact .inl (hW b' h)
   ·exact .inr h
 ·exact hcl (G:=g') (G':=g1) (fun b hb=>⟨hb,rfl⟩) hrr hr
theorem CallFr.ok {P:Program} {f:Nat} {args:List AV} {k:Nat} {es:List (List AV)} (h:CallFr P f args k es):CallOK P f args [] (.sl es) []:=by
 intro g vals hus hg hr
 have hno:∀ l,¬ g.us l:=fun l hl=>by simpa using (hus l).1 hl
 refine (h g vals hno hg hr).mono ?_
 rintro e w' ⟨v,rfl,hos,htp,hou,hsz,hold,hk0,hke,hv⟩
 have hany:∀ l,upd aF [] l=.any:=fun l=>rfl
 rcases hv with⟨rfl,rfl⟩|⟨b,cap,vs,ety,rfl,hb0,hb,hc,hm,hs,h1,h2⟩
 ·refine⟨_,{ g with w:=w' },rfl,rfl,⟨fun b hb=>⟨hb,hold b (hg.fzx b hb)⟩,fun l hl=>(hno l hl).elim⟩,fun l=>Iff.rfl,?_,.slnil⟩
  exact⟨hos.trans hg.os,htp.trans hg.tape,hou.trans hg.output,hsz,fun b hb _=>hold b hb,hg.fzo,hg.fzn,fun b hb=>Af (hg.fzx b hb) hsz,fun l=>trivial,fun l b hb=>by simp[hany,aE]at hb,fun l l' b hb=>by simp[hany,aE]at hb⟩
 ·let g1:Gh:={ g with w:=w',fz:=fun x=>g.fz x∨x=b }
  have hlt:b<w'.heap.size:=Array.getElem?_eq_some_iff.1 hb |>.1
  refine⟨_,g1,rfl,rfl,⟨fun b hb=>⟨.inl hb,hold b (hg.fzx b hb)⟩,fun l hl=>(hno l hl).elim⟩,fun l=>Iff.rfl,?_,?_⟩
  ·refine⟨hos.trans hg.os,htp.trans hg.tape,hou.trans hg.output,hsz,fun b hb _=>hold b hb,fun b hb=>.inl (hg.fzo b hb),?_,?_,fun l=>trivial,fun l b hb=>by simp[hany,aE]at hb,fun l l' b hb=>by simp[hany,aE]at hb⟩
   ·rintro x (hx|rfl)
    ·exact hg.fzn x hx
    ·exact .inr (.inr hb0)
   ·rintro x (hx|rfl)
    ·exact Af (hg.fzx x hx) hsz
    ·exact hlt
  ·refine .sl (g:=g1) es b 0 cap k vs ety (0,0) (.inr rfl) hb hc (fun i hi=>hke _ (Aa hi)) (fun _=>?_) (fun j hj hjk=>?_) (fun i a1 j a2 a3=>?_)
   ·rw[hs,Ah];exact Nat.mul_le_mul_right _ hc
   ·simp only[Ah]at hj ⊢
    exact h1 j hj hjk
   ·simp only[Ah]at a3 ⊢
    exact h2 g1 i a1 j a2 a3
end Go.Sx
