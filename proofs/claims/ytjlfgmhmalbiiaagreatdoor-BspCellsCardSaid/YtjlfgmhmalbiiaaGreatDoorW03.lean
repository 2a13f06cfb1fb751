import Derived.Test.YtjlfgmhmalbiiaaGreatDoorW02
set_option linter.all false
open Array renaming getElem_toList → Ag
open List renaming flatten_cons → Aa, getElem_mem → Ab, getElem_cons_zero → Ad, getElem_cons_succ → Ae, length_append → Ai, getElem_take → Aj, getElem_drop → Ak, replicate → An
open Nat renaming add_mul → Ac, mul_le_mul_right → Ah, le_refl → Al, mul_comm → Ao, mod_lt → Ap
open Option renaming some → Af, map_some → Am
namespace Go.Sx
set_option linter.unusedVariables false
set_option linter.unusedSimpArgs false
theorem c1s {α : Type} (k : Nat) : ∀ (es : List (List α)), (∀ e ∈ es, e.length = k) → es.flatten.length = es.length * k ∧
  ∀ i (hi:i<es.length) j (hj:j<es[i].length) (h:i*k+j<es.flatten.length),es.flatten[i*k+j]=es[i][j]:=by
 intro es
 induction es with
 | nil=>intro _;exact⟨by simp,fun i hi=>by simp at hi⟩
 | cons e es ih =>
  intro h
  obtain⟨h1,h2⟩:=ih (fun x hx=>h x (by simp[hx]))
  have he:e.length=k:=h e (by simp)
  refine⟨by simp only[Aa,Ai,h1,he,List.length_cons,Ac];omega,fun i hi j hj hl=>?_⟩
  cases i with
  | zero =>
   simp only[Ad]at hj
   simp only[Aa,Nat.zero_mul,Nat.zero_add,Ad]
   rw[List.getElem_append_left hj]
  | succ i =>
   simp only[Ae]at hj
   have hi':i<es.length:=by simpa using hi
   have hm:(i+1)*k=i*k+k:=by rw[Ac];simp
   simp only[Aa,Ae]
   have hlt:i*k+j<es.flatten.length:=by
    simp only[Aa,Ai]at hl
    omega
   rw[List.getElem_append_right (by omega)]
   have e1:(i+1)*k+j - e.length=i*k+j:=by omega
   simp only[e1]
   exact h2 i hi' j hj hlt
theorem b4s {α : Type} (k : Nat) (hk : 0 < k) (es : List (List α)) (h : ∀ e ∈ es, e.length = k) (q : Nat) (hq : q < es.flatten.length) :
  ∃ (hi:q / k<es.length) (hj:q % k<es[q / k].length),es.flatten[q]=es[q / k][q % k]:=by
 obtain⟨h1,h2⟩:=c1s k es h
 have hi:q / k<es.length:=by
  rw[Nat.div_lt_iff_lt_mul hk];omega
 have hj:q % k<es[q / k].length:=by rw[h _ (Ab _)];exact Ap _ hk
 refine⟨hi,hj,?_⟩
 have e:=Nat.div_add_mod q k
 have e2:q / k*k+q % k=q:=by rw[Ao];exact e
 have:=h2 (q / k) hi (q % k) hj (by omega)
 simp only[e2]at this
 exact this
theorem pY {c : Cx} {g : Gh} {ob : Nat → AV} (h : GOk c g ob) (i k cap : Nat) (hi : ¬ g.us i) (es : List (List AV)) (vs : Array Value) (e : TypeId) (hk : 0 < k) (hes : ∀ e ∈ es, e.length = k) (hs : vs.size = cap * k) (hc : es.length ≤ cap) (hm : cap ≤ maxLen)
  (h1:∀ j (h2:j<vs.size),j<es.length*k→vs[j].oneCell'=true) (hr:∀ p (h1:p<es.length) q (h2:q<es[p].length) (h3:p*k+q<vs.size),Rel g es[p][q] vs[p*k+q])
  (w:World) (hw:w.heap=g.w.heap) (ho:w.os=g.w.os) (ht:Tp w g.w) (hu:w.output=g.w.output) :
  ∃ g':Gh,g'.w=w.alloc (.cells vs e)∧Ev g g'∧GOk c g' (upd ob [(i,.vec k es)])∧Rel g' (.ref i 0 es.length es.length) (.slice (some ⟨w.heap.size,0,none⟩) es.length cap)∧∀ l,g'.us l→g.us l∨l=i:=by
 have hold:∀ b,b<g.w.heap.size→(w.alloc (.cells vs e)).heap[b]?=g.w.heap[b]?:=fun b hb=>by rw[Go.RowKit.Below.heap_alloc _ _ _ (by rw[hw];exact hb),hw]
 let g':Gh:={ g with w:=w.alloc (.cells vs e),us:=fun l=>g.us l∨l=i,des:=fun l=>if l=i then ⟨some w.heap.size,k,cap,e⟩else g.des l,len:=fun l=>if l=i then es.length else g.len l }
 have hdi:g'.des i=⟨some w.heap.size,k,cap,e⟩:=if_pos rfl
 have hli:g'.len i=es.length:=if_pos rfl
 have hne:∀ l,g.us l→l≠i:=fun l hl e=>hi (e▸hl)
 have he:Ev g g':=by
  refine⟨fun b hb=>⟨hb,hold b (h.fzx b hb)⟩,fun l hl=>⟨.inl hl,rfl,?_,fun _=>if_neg (hne l hl)⟩⟩
  show _≤(if l=i then _ else _)
  rw[if_neg (hne l hl)]
  exact Al _
 refine⟨g',rfl,he,?_,?_,fun l hl=>hl⟩
 ·refine h.turn he i (.vec k es) ho ht hu (by simp[g',hw]) rfl (fun l hl=>⟨rfl,if_neg hl,if_neg hl⟩) (fun b hb _=>hold b hb) ?_ ?_
  ·refine⟨.inr rfl,by rw[hdi],hli,hk,hes,.inr ⟨w.heap.size,vs,by rw[hdi],by rw[hdi];exact heap_alloc_new w _,by rw[hdi];exact hc,by rw[hdi];exact hm,by rw[hdi];exact hs,h1,fun p h2 q h3 h4=>(hr p h2 q h3 h4).mono he⟩⟩
  ·intro b hb
   right
   simp only[aE,hdi,Af.injEq]at hb
   rw[← hb,hw]
   exact Al _
 ·refine .ref i 0 _ _ _ (.inr rfl) (by rw[hli];exact Al _) rfl (fun _=>?_)
  simp[Des.slice,hdi]
def byT (P:Program) (t:TypeId):Option Nat:=(P.info? t).map (·.bytes)
def oS (P:Program) (t:TypeId) (x y:AV) (i:Nat) (E:Eff→Prop):Prop :=
 match slT P t,x,y with
 | some (e,s),.lit (.int _ n),.lit (.int _ m)=>match zeT P e,byT P e with
  | some z,some by'=>0<s∧z.length=s∧n≤m∧0≤n∧m≤9223372036854775807∧(by':Int)*m≤281474976710656∧E ⟨.ref i 0 n.toNat n.toNat,[(i,.vec s (An n.toNat z))],[]⟩
  | _,_=>False
 | _,_,_=>False
theorem a8d {P:Program} {t:TypeId} {z:List AV} {s b:Nat} {v:Value} (hz:(P.info? t).bind (·.zero)=some v) (hs:szT P t=some s) (hb:byT P t=some b):∃ i,P.info? t=some i∧i.zero=some v∧i.size=s∧i.bytes=b:=by
 unfold szT at hs
 unfold byT at hb
 cases hi:P.info? t with
 | none=>simp[hi]at hz
 | some i=>simp[hi]at hz hs hb;exact⟨i,rfl,hz,hs,hb⟩
theorem c0w {c : Cx} {t : TypeId} {x y : AV} {i : Nat} {ob : Nat → AV} {E : Eff → Prop} (h : oS c.P t x y i E) :
  ∃ e,E e∧e.rd=[]∧∀ ob' g v u,GOk c g ob'→Rel g x v→Rel g y u→¬ g.us i→∃ r g',(Instr.makeSlice t v u).run c.P g.w=.ok r g'.w∧Ev g g'∧GOk c g' (upd ob' e.ob)∧Rel g' e.val r∧∀ l,g'.us l→g.us l∨l=i:=by
 unfold oS at h
 split at h
 ·rename_i e s k1 n k2 m hsl
  obtain⟨hu,hs⟩:=kU hsl
  split at h
  ·rename_i z b hz hb
   obtain⟨hs0,hzl,hnm,h0,hmax,hby,h⟩:=h
   refine⟨_,h,rfl,fun ob' g v u hg hr hr2 hi=>?_⟩
   cases hr
   cases hr2
   obtain⟨zv,hz1,hz2,hz3,hz4,hz5⟩:=pV hz
   obtain⟨inf,hi1,hi2,hi3,hi4⟩:=a8d (z:=z) hz5 hs hb
   have hrun:=run_make (P:=c.P) g.w t e inf zv hu hi1 hi2 k1 k2 n m h0 hnm (by rw[hi4];exact hby) hmax
   have hzsz:zv.cells.size=s:=by rw[hz2,hzl]
   have hmade:∀ j (hj:j<(madeCells zv.cells (m.toNat*inf.size)).size),∃ h2:j % s<zv.cells.size,(madeCells zv.cells (m.toNat*inf.size))[j]=zv.cells[j % s]:=by
    intro j hj
    have:j % s<zv.cells.size:=by rw[hzsz];exact Ap _ hs0
    refine⟨this,?_⟩
    simp only[madeCells,Array.getElem_map,Array.getElem_range,hzsz]
    simp[this]
   obtain⟨g',a1,a2,a3,a4,a5⟩:=pY hg i s m.toNat hi (An n.toNat z) (madeCells zv.cells (m.toNat*inf.size)) e hs0 (fun x hx=>by rw[List.eq_of_mem_replicate hx,hzl]) (by rw[size_madeCells,hi3]) (by simp;omega) (by simp only[maxLen];omega)
    (fun j h2 _=>by obtain⟨h3,h4⟩:=hmade j h2;rw[h4];exact hz4 _ h3)
    (fun p h1 q h2 h3=>by
     obtain⟨h4,h5⟩:=hmade _ h3
     rw[h5]
     simp only[List.getElem_replicate]at h2 ⊢
     have:(p*s+q) % s=q:=by rw[Ao,Nat.mul_add_mod];exact Nat.mod_eq_of_lt (by omega)
     simp only[this]
     exact hz3 g q h2 (by rw[hzsz];omega)) g.w rfl rfl Tp.rfl rfl
   exact⟨_,g',by rw[a1];exact hrun,a2,a3,by simpa using a4,a5⟩
  ·exact h.elim
 ·exact h.elim
def rD (x:AV) (ob:Nat→AV):Option (List (List AV) × List Nat) :=
 match x with
 | .ref l o n m=>match ob l with
  | .vec k es=>if m=es.length∧o+n≤m then some ((es.drop o).take n,[l])else none
  | .vcp k es _=>if m=es.length∧o+n≤m then some ((es.drop o).take n,[l])else none
  | _=>none
 | x=>(nT x).map fun es=>(es,[])
def Holds (g:Gh) (v:Value) (k:Nat) (es:List (List AV)):Prop :=
 (es=[]∧∃ (a:Option Addr) (cap:Nat),v=.slice a 0 cap) ∨
 ∃ (a:Addr) (cap:Nat) (us:List Value),v=.slice (some a) es.length cap∧us.length=es.length*k∧(∀ j u,us[j]?=some u→g.w.cell? (a.add j)=some u)∧(∀ u∈us,u.oneCell'=true) ∧
  ∀ p (h1:p<es.length) q (h2:q<es[p].length) (h3:p*k+q<us.length),Rel g es[p][q] us[p*k+q]
theorem a2g {g : Gh} {b o k n cap : Nat} {vs : Array Value} {e : TypeId} {fr : Nat × Nat} {es : List (List AV)} (hb : g.w.heap[b]? = some (.cells vs e fr)) (hs : o + es.length * k ≤ vs.size)
  (h1:∀ j (h1:o+j<vs.size),j<es.length*k→vs[o+j].oneCell'=true) (hr:∀ p (h1:p<es.length) q (h2:q<es[p].length) (h3:o+p*k+q<vs.size),Rel g es[p][q] vs[o+p*k+q])
  (hk:∀ e∈es,e.length=k):Holds g (.slice (some ⟨b,o,none⟩) es.length cap) k es:=by
 refine .inr ⟨⟨b,o,none⟩,cap,(vs.toList.drop o).take (es.length*k),rfl,by simp;omega,fun j u hu=>?_,fun u hu=>?_,fun p hp q hq h3=>?_⟩
 ·rw[List.getElem?_take]at hu
  split at hu
  ·simp only[List.getElem?_drop,Array.getElem?_toList]at hu
   simp[jG,World.cell?,hb,hu]
  ·contradiction
 ·obtain⟨i,hi,rfl⟩:=List.getElem_of_mem hu
  simp at hi
  simp only[Aj,Ak,Ag]
  exact h1 i (by omega) (by omega)
 ·simp only[Aj,Ak,Ag]
  simp at h3
  have:=hr p hp q hq (by omega)
  simpa only[Nat.add_assoc]using this
theorem a5s {g:Gh} {l o n m k k':Nat} {es':List (List AV)} {v:Value} (hok:ObjOk g l (.vec k' es')) (hm:m=es'.length) (hon:o+n≤m) (hk:∀ e∈(es'.drop o).take n,e.length=k) (hr:Rel g (.ref l o n m) v):Holds g v k ((es'.drop o).take n):=by
 obtain⟨hus,hk',hln,hk0,hke,h5⟩:=hok
 cases hr with
 | ref _ _ _ _ _ hu' hm2 hc hv =>
  have hv':=hv (by omega)
  subst hv'
  have hlen:((es'.drop o).take n).length=n:=by simp;omega
  by_cases hn:n=0
  ·left
   subst hn
   exact⟨by simp,_,_,rfl⟩
  ·rcases h5 with⟨_,rfl,_⟩|⟨b,vs,h6,h7,h8,h9,h10,h11,h12⟩
   ·simp at hm;omega
   ·have hkk:k'=k:=by
     have h1:=hk _ (Ab (l:=(es'.drop o).take n) (n:=0) (by omega))
     have h2:=hke _ (Ab (l:=es') (n:=o) (by omega))
     simp only[mD,Nat.add_zero]at h1
     omega
    subst hkk
    simp only[Des.slice,h6,Am,hk']
    have hcap:es'.length*k'≤(g.des l).cap*k':=Ah _ h8
    have hon':(o+n)*k'≤es'.length*k':=Ah _ (by omega)
    rw[Ac]at hon'
    have:=a2g (g:=g) (b:=b) (o:=o*k') (n:=n) (k:=k') (cap:=(g.des l).cap - o) (vs:=vs) (es:=(es'.drop o).take n) h7 (by rw[hlen];omega) (fun j hj hj2=>h11 _ _ (by rw[hlen]at hj2;omega))
     (fun p hp q hq h3=>by
      rw[mD]at hq
      have hx:=h12 (o+p) (by omega) q hq (by rw[Ac];omega)
      simp only[mD]
      have e3:(o+p)*k'+q=o*k'+p*k'+q:=by rw[Ac]
      simp only[e3]at hx
      exact hx) hk
    rw[hlen]at this
    exact this
theorem pP {c : Cx} {x : AV} {ob ob' : Nat → AV} {es : List (List AV)} {ls : List Nat} {k : Nat} (h : rD x ob = some (es, ls)) (hk : ∀ e ∈ es, e.length = k) (ho : ∀ l ∈ ls, ob' l = ob l) {g : Gh} {v : Value} (hg : GOk c g ob') (hr : Rel g x v) :
  Holds g v k es:=by
 unfold rD at h
 split at h
 ·rename_i l o n m
  split at h
  ·rename_i k' es' hob
   split at h
   ·rename_i hc
    obtain⟨hm,hon⟩:=hc
    simp only[Af.injEq,Prod.mk.injEq]at h
    obtain⟨rfl,rfl⟩:=h
    exact a5s (by have:=hg.obj l;rw[ho l (by simp),hob]at this;exact this) hm hon hk hr
   ·contradiction
  ·rename_i k' es' _ hob
   split at h
   ·rename_i hc
    obtain⟨hm,hon⟩:=hc
    simp only[Af.injEq,Prod.mk.injEq]at h
    obtain⟨rfl,rfl⟩:=h
    exact a5s (by have:=hg.obj l;rw[ho l (by simp),hob]at this;exact this.1) hm hon hk hr
   ·contradiction
  ·contradiction
 ·cases hes:nT x with
  | none=>simp[hes]at h
  | some es' =>
   simp only[hes,Am,Af.injEq,Prod.mk.injEq]at h
   obtain⟨rfl,rfl⟩:=h
   have hr:=v8 hes hr
   cases hr with
   | slnil=>exact .inl ⟨rfl,_,0,rfl⟩
   | sl _ b o cap k' vs e fr hf hb hc hk' hs hoc hrel =>
    by_cases hn:es'.length=0
    ·left
     have:es'=[]:=List.eq_nil_of_length_eq_zero hn
     exact⟨this,some ⟨b,o,none⟩,cap,by rw[hn]⟩
    ·have hkk:k'=k:=by rw[← hk' 0 (by omega)];exact hk _ (Ab _)
     subst hkk
     exact a2g (n:=es'.length) hb (hs (by omega)) (fun j h1 h2=>hoc j h1 h2) (fun p hp q hq h3=>hrel p hp q hq h3) hk
end Go.Sx
