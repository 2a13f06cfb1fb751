import Derived.Maps.RangeRun
import Derived.Test.YtjlfgmhmalbiiaaGreatDoorW05
set_option linter.all false
open Array renaming getElem?_setIfInBounds → Am, length_toList → Ao, getElem?_eq_some_iff → Ap, toList_push → A5, ext → Be
open List renaming mem_map → Aa, getElem_mem → Ac, getElem?_map → Ad, mem_of_getElem? → Ag, getElem?_eq_getElem → Ah, getElem?_modify → Ai, getElem?_eq_some_iff → Aj, getElem_map → Ak, mem_append → An, mem_cons → Aq, getElem?_cons_zero → Ar, getElem?_eq_none → As, length_singleton → At, getElem?_append → Au, mem_iff_getElem → Av, getElem_modify → Aw, map_congr_left → Ax, find?_eq_none → Ay, map_map → A4, getElem?_inj → A6, ext_getElem? → A7, nodup_cons → Ba, map_cons → Bb
open Nat renaming le_refl → Al, eq_zero_or_pos → Az, lt_of_lt_of_le → A3, zero_add → A9, le_trans → Bc
open Option renaming map_some → Ab, isSome_iff_exists → Ae, some → Af, map_eq_map → A8
namespace Go.Sx
open Go.MapKept
set_option linter.unusedVariables false
set_option linter.unusedSimpArgs false
def nA:List AV→Option (List Value)
 | []=>some []
 | .lit v::cs=>(nA cs).map (v::·)
 | _=>none
def valOf:AV→Option Value
 | .agg cs=>(nA cs).map fun vs=>.agg vs.toArray
 | .lit (.agg _)|.lit (.tuple _)=>none
 | .lit v=>some v
 | _=>none
def nS:Value→AV
 | .agg vs=>.agg (vs.toList.map .lit)
 | v=>.lit v
theorem b3g:∀ {cs:List AV} {vs:List Value},nA cs=some vs→cs=vs.map .lit:=by
 intro cs
 induction cs with
 | nil=>intro vs h;simp[nA]at h;subst h;rfl
 | cons c cs ih =>
  intro vs h
  cases c<;>simp only[nA]at h<;>try contradiction
  rename_i v
  cases hq:nA cs with
  | none=>simp[hq]at h
  | some us =>
   simp only[hq,Ab,Af.injEq]at h
   subst h
   simp[ih hq]
theorem sQ {g:Gh} {a:AV} {v u:Value} (h:valOf a=some u) (hr:Rel g a v):v=u∧∀ i (hi:i<u.cells.size),u.cells[i].oneCell'=true:=by
 have hsol:a.solid=true:=by
  cases a<;>simp only[valOf]at h<;>try contradiction
  ·rename_i w;cases w<;>simp only[valOf]at h<;>first|contradiction|rfl
  ·rfl
 have h3:=(hr.cells hsol).2.2
 have:v=u:=by
  cases hr with
  | lit v=>cases v<;>simp only[valOf,Af.injEq]at h<;>first|contradiction|exact h
  | agg cs vs hs ho hh =>
   simp only[valOf]at h
   cases hq:nA cs with
   | none=>simp[hq]at h
   | some us =>
    simp only[hq,Ab,Af.injEq]at h
    subst h
    have hcs:=b3g hq
    subst hcs
    congr 1
    apply Be
    ·simpa using hs
    ·intro i h1 h2
     have:=hh i (by simpa using h2) h1
     simp only[Ak]at this
     generalize hv:vs[i]=x at this
     cases this
     simp
  | _=>simp[valOf]at h
 subst this
 exact⟨rfl,h3⟩
theorem pU {g:Gh} {v:Value} (h:∀ i (hi:i<v.cells.size),v.cells[i].oneCell'=true):Rel g (nS v) v:=by
 cases v<;>try exact .lit _
 rename_i vs
 exact .agg _ vs (by simp) (fun i hi=>h i hi) fun i h1 h2=>by
  simp only[Ak,Array.getElem_toList]
  exact .lit _
def zvT (P:Program) (t:TypeId):Option Value:=((P.info? t).bind (·.zero)).bind fun v=>if v.cells.all (·.oneCell')then some v else none
theorem a6w {P:Program} {t:TypeId} {z:Value} (h:zvT P t=some z):(∀ w,(zeroValue t).run P w=.ok z w)∧∀ i (hi:i<z.cells.size),z.cells[i].oneCell'=true:=by
 unfold zvT at h
 cases hi:P.info? t with
 | none=>simp[hi]at h
 | some i =>
  cases hz:i.zero with
  | none=>simp[hi,hz]at h
  | some v =>
   simp only[hi,Option.bind_some,hz]at h
   split at h
   ·rename_i ha
    simp only[Af.injEq]at h
    subst h
    exact⟨fun w=>by simp[zeroValue,typeInfo,hi,hz],fun i h2=>by simpa using Array.all_eq_true.1 ha i h2⟩
   ·contradiction
open Classical in
noncomputable def bY (es:List (Value × Value)) (k:Value):Option Value:=(es.find? fun e=>decide (e.1=k)).map (·.2)
open Classical in
noncomputable def eO (es:List (Value × Value)) (k v:Value):List (Value × Value) :=
 if k∈es.map (·.1)then es.map (fun e=>if e.1=k then (k,v)else e)else es++[(k,v)]
def lQ (P:Program) (k:TypeId) (es:List (Value × Value)):Prop:=(∀ e∈es,(keyOf P k e.1).isSome=true)∧(es.map (·.1)).Nodup
def p7 (P:Program) (t:TypeId) (x ix:AV) (ok:Bool) (ob:Nat→AV) (E:Eff→Prop):Prop :=
 match x with
 | .mp l=>match ob l,mpT P t,valOf ix with
  | .mpo es,some (k,e),some kv=>WideMaps.KeyLaw P k∧(keyOf P k kv).isSome=true∧lQ P k es∧match zvT P e with
   | some z=>match ok with
    | true=>E ⟨.tup [nS ((bY es kv).getD z),.lit (.bool (bY es kv).isSome)],[],[l]⟩
    | false=>E ⟨nS ((bY es kv).getD z),[],[l]⟩
   | none=>False
  | _,_,_=>False
 | _=>False
def rE (P:Program) (t:TypeId) (x ix y:AV) (ob:Nat→AV) (E:Eff→Prop):Prop :=
 match x with
 | .mp l=>match ob l,mpT P t,valOf ix,valOf y with
  | .mpo es,some (k,_),some kv,some yv=>WideMaps.KeyLaw P k∧(keyOf P k kv).isSome=true∧lQ P k es∧E ⟨.any,[(l,.mpo (eO es kv yv))],[l]⟩
  | _,_,_,_=>False
 | _=>False
theorem zR {P : Program} {k : TypeId} (K : WideMaps.KeyLaw P k) {arr : Array MapEntry} {clock : Nat} {es : List (Value × Value)} (hm : MapOk arr clock es) (hk : lQ P k es) {kv : Value} (hkv : (keyOf P k kv).isSome = true) (w : World) :
  ((Instr.findKey k kv arr.toList).run P w=.ok none w∧bY es kv=none∧kv∉es.map (·.1)) ∨
  ∃ (j:Nat) (e:MapEntry),(Instr.findKey k kv arr.toList).run P w=.ok (some (j,e.val)) w∧arr.toList[j]?=some e∧e.key=kv∧bY es kv=some e.val∧kv∈es.map (·.1):=by
 obtain⟨lx,hlx⟩:=Ae.1 hkv
 have hall:∀ e∈arr.toList,∃ l,keyOf P k e.key=some l:=fun e he=>by
  have:(e.key,e.val)∈es:=by rw[← hm.ents];exact Aa.2 ⟨e,he,rfl⟩
  exact Ae.1 (hk.1 _ this)
 have hkeys:es.map (·.1)=arr.toList.map (·.key):=by rw[← hm.ents,A4];rfl
 rcases K.find w hlx arr.toList hall with⟨h1,h2⟩|⟨j,e,h1,h2,h3⟩
 ·left
  have hn:kv∉es.map (·.1):=by
   rw[hkeys]
   intro h
   obtain⟨e,he,h⟩:=Aa.1 h
   exact h2 e he h
  refine⟨h1,?_,hn⟩
  unfold bY
  rw[Ay.2 (fun e he=>by
   simp only[decide_eq_true_eq]
   intro h
   exact hn (Aa.2 ⟨e,he,h⟩))]
  rfl
 ·right
  have he:e∈arr.toList:=Ag h2
  have hmem:(e.key,e.val)∈es:=by rw[← hm.ents];exact Aa.2 ⟨e,he,rfl⟩
  refine⟨j,e,h1,h2,h3,?_,Aa.2 ⟨_,hmem,h3⟩⟩
  unfold bY
  cases hq:es.find? (fun e=>@decide (e.1=kv) (Classical.propDecidable _))with
  | none =>
   have:=Ay.1 hq _ hmem
   simp[h3]at this
  | some q =>
   have hqm:=List.mem_of_find?_eq_some hq
   have hqk:q.1=kv:=by simpa using List.find?_some hq
   have key:∀ (l:List (Value × Value)),(l.map (·.1)).Nodup→∀ a∈l,∀ b∈l,a.1=b.1→a=b:=by
    intro l
    induction l with
    | nil=>intro _ a ha;simp at ha
    | cons x l ih =>
     intro hn a ha b hb hab
     simp only[Bb,Ba,Aa,not_exists,not_and]at hn
     rcases Aq.1 ha with ea|ma<;>rcases Aq.1 hb with eb|mb
     ·rw[ea,eb]
     ·exact absurd (by rw[← hab,ea]) (hn.1 b mb)
     ·exact absurd (by rw[hab,eb]) (hn.1 a ma)
     ·exact ih hn.2 a ma b mb hab
   have:=key es hk.2 q hqm _ hmem (by simp only;rw[hqk,h3])
   rw[this];rfl
theorem b4m {c : Cx} {t : TypeId} {x ix : AV} {ok : Bool} {ob : Nat → AV} {E : Eff → Prop} (h : p7 c.P t x ix ok ob E) :
  ∃ e,E e∧e.ob=[]∧∀ ob',(∀ l∈e.rd,ob' l=ob l)→∀ g v vi,GOk c g ob'→Rel g x v→Rel g ix vi →
   ∃ u,(Instr.lookup t v vi ok).run c.P g.w=.ok u g.w∧Rel g e.val u:=by
 unfold p7 at h
 split at h
 ·rename_i l
  split at h
  ·rename_i es k e kv hob hmp hkv
   obtain⟨K,hk1,hk2,h⟩:=h
   have hu:=tJ hmp
   split at h
   ·rename_i z hz
    obtain⟨z1,z2⟩:=a6w hz
    have main:∀ ob',(∀ l'∈[l],ob' l'=ob l')→∀ g v vi,GOk c g ob'→Rel g (.mp l) v→Rel g ix vi→∃ arr clock,MapOk arr clock es∧v=.map (some (g.blk l))∧g.w.heap[g.blk l]?=some (.map arr clock)∧vi=kv:=by
     intro ob' ho g v vi hg hr hri
     have hok:=hg.obj l
     rw[ho l (by simp),hob]at hok
     obtain⟨_,arr,clock,hb,hm⟩:=hok
     cases hr
     exact⟨arr,clock,hm,rfl,hb,(sQ hkv hri).1⟩
    have res:∀ ob',(∀ l'∈[l],ob' l'=ob l')→∀ g v vi,GOk c g ob'→Rel g (.mp l) v→Rel g ix vi→∃ r:Value,(Instr.lookup t v vi false).run c.P g.w=.ok r g.w∧(Instr.lookup t v vi true).run c.P g.w=.ok (.tuple #[r,.bool (bY es kv).isSome]) g.w∧Rel g (nS ((bY es kv).getD z)) r:=by
     intro ob' ho g v vi hg hr hri
     obtain⟨arr,clock,hm,rfl,hb,rfl⟩:=main ob' ho g v vi hg hr hri
     obtain⟨lx,hlx⟩:=Ae.1 hk1
     have hck:=K.check g.w arr.isEmpty hlx
     rcases zR K hm hk2 hk1 g.w with⟨f1,f2,_⟩|⟨j,e',f1,f2,f3,f4,f5⟩
     ·refine⟨z,?_,?_,?_⟩
      ·simp[Instr.lookup,Sem.run_bind,run_underlying hu,MapKept.run_getObj_map hb,hck,f1,z1]
      ·simp[Instr.lookup,Sem.run_bind,run_underlying hu,MapKept.run_getObj_map hb,hck,f1,z1,f2]
      ·rw[f2];exact pU z2
     ·refine⟨e'.val,?_,?_,?_⟩
      ·simp[Instr.lookup,Sem.run_bind,run_underlying hu,MapKept.run_getObj_map hb,hck,f1]
      ·simp[Instr.lookup,Sem.run_bind,run_underlying hu,MapKept.run_getObj_map hb,hck,f1,f4]
      ·rw[f4]
       refine pU (hm.cell (e'.key,e'.val) ?_)
       rw[← hm.ents]
       exact Aa.2 ⟨e',Ag f2,rfl⟩
    split at h
    ·refine⟨_,h,rfl,fun ob' ho g v vi hg hr hri=>?_⟩
     obtain⟨r,r1,r2,r3⟩:=res ob' ho g v vi hg hr hri
     refine⟨_,r2,.tup _ _ rfl fun i h1 h2=>?_⟩
     match i,h1 with
     | 0,_=>exact r3
     | 1,_=>exact .lit _
    ·refine⟨_,h,rfl,fun ob' ho g v vi hg hr hri=>?_⟩
     obtain⟨r,r1,r2,r3⟩:=res ob' ho g v vi hg hr hri
     exact⟨r,r1,r3⟩
   ·exact h.elim
  ·exact h.elim
 ·exact h.elim
end Go.Sx
namespace Go.Sx
open Go.MapKept
set_option linter.unusedVariables false
set_option linter.unusedSimpArgs false
theorem tA {c : Cx} {g : Gh} {ob : Nat → AV} (hg : GOk c g ob) {l : Nat} {es es' : List (Value × Value)} (hob : ob l = .mpo es) {arr arr' : Array MapEntry} {clock clock' : Nat} (hb : g.w.heap[g.blk l]? = some (.map arr clock)) (hm : MapOk arr' clock' es') :
  ∃ g':Gh,g'.w={ g.w with heap:=g.w.heap.setIfInBounds (g.blk l) (.map arr' clock') }∧Ev g g'∧GOk c g' (upd ob [(l,.mpo es')])∧∀ l,g'.us l→g.us l:=by
 have hok:=hg.obj l
 rw[hob]at hok
 have hus:=hok.1
 have hown:=hg.own l (g.blk l) (by rw[hob];rfl)
 have hlt:g.blk l<g.w.heap.size:=(Ap.1 hb).1
 have hold:∀ b,b≠g.blk l→(g.w.heap.setIfInBounds (g.blk l) (.map arr' clock'))[b]?=g.w.heap[b]?:=fun b hb=>by
  rw[Am];simp[Ne.symm hb]
 have he:Ev g { g with w:={ g.w with heap:=g.w.heap.setIfInBounds (g.blk l) (.map arr' clock') } } :=
  ⟨fun b hb=>⟨hb,hold b (fun e=>hown.2 (e▸hb))⟩,fun l hl=>⟨hl,rfl,Al _,fun _=>rfl⟩⟩
 refine⟨_,rfl,he,?_,fun l hl=>hl⟩
 refine hg.turn he l (.mpo es') rfl Tp.rfl rfl (by simp) rfl (fun l hl=>⟨rfl,rfl,rfl⟩) (fun b hb hne=>?_) ?_ ?_
 ·refine hold b fun e=>hne ?_
  rw[hob,e];rfl
 ·refine⟨hus,arr',clock',?_,hm⟩
  show (g.w.heap.setIfInBounds (g.blk l) _)[g.blk l]?=_
  rw[Am];simp[hlt]
 ·intro b hb
  left
  rw[hob];exact hb
open Classical in
theorem c0p {c : Cx} {t : TypeId} {x ix y : AV} {ob : Nat → AV} {E : Eff → Prop} (h : rE c.P t x ix y ob E) :
  ∃ e,E e∧e.val=.any∧∀ ob',(∀ l∈e.rd,ob' l=ob l)→∀ g v vi vy,GOk c g ob'→Rel g x v→Rel g ix vi→Rel g y vy →
   ∃ g':Gh,(Instr.mapUpdate t v vi vy).run c.P g.w=.ok () g'.w∧Ev g g'∧GOk c g' (upd ob' e.ob)∧∀ l,g'.us l→g.us l:=by
 unfold rE at h
 split at h
 ·rename_i l
  split at h
  ·rename_i es k e kv yv hob hmp hkv hyv
   obtain⟨K,hk1,hk2,h⟩:=h
   have hu:=tJ hmp
   refine⟨_,h,rfl,fun ob' ho g v vi vy hg hr hri hry=>?_⟩
   have hobl:ob' l=.mpo es:=by rw[ho l (by simp)];exact hob
   have hok:=hg.obj l
   rw[hobl]at hok
   obtain⟨hus,arr,clock,hb,hm⟩:=hok
   cases hr
   obtain⟨e1,hkcell⟩:=sQ hkv hri
   obtain⟨e2,hcell⟩:=sQ hyv hry
   subst e1
   subst e2
   obtain⟨lx,hlx⟩:=Ae.1 hk1
   have hck:=K.check g.w false hlx
   rcases zR K hm hk2 hk1 g.w with⟨f1,f2,f3⟩|⟨j,e',f1,f2,f3,f4,f5⟩
   ·have hput:eO es vi vy=es++[(vi,vy)]:=by unfold eO;rw[if_neg f3]
    obtain⟨g',a1,a2,a3,a4⟩:=tA hg hobl hb (arr':=arr.push ⟨vi,vy,clock⟩) (clock':=clock+1) (es':=eO es vi vy) (by
     refine⟨?_,?_,?_,?_,?_⟩
     ·rw[hput];simp[hm.ents]
     ·intro i e hi
      simp only[A5,Au]at hi
      split at hi
      ·exact hm.born i e hi
      ·rename_i hlt
       have h0:i - arr.toList.length=0:=by
        rcases Az (i - arr.toList.length)with h|h
        ·exact h
        ·rw[As (by simp only[At];omega)]at hi;contradiction
       rw[h0]at hi
       simp only[Ar,Af.injEq]at hi
       subst hi
       have:=hm.clk
       simp only[Ao]at h0 hlt
       simp only
       omega
     ·rw[hm.clk];simp
     ·intro e he
      rw[hput]at he
      rcases An.1 he with he|he
      ·exact hm.cell e he
      ·simp at he;subst he;exact hcell
     ·intro e he
      rw[hput]at he
      rcases An.1 he with he|he
      ·exact hm.kcell e he
      ·simp at he;subst he;exact hkcell)
    refine⟨g',?_,a2,a3,a4⟩
    rw[a1]
    simp[Instr.mapUpdate,Sem.run_bind,run_underlying hu,MapKept.run_getObj_map hb,hck,f1,MapKept.run_setObj_map _ hb,Result.andThen]
   ·have hput:eO es vi vy=es.map (fun e=>if e.1=vi then (vi,vy)else e):=by unfold eO;rw[if_pos f5]
    have hst:=K.stays g.w hlx
    have hj:arr[j]?=some e':=by simpa using f2
    obtain⟨g',a1,a2,a3,a4⟩:=tA hg hobl hb (arr':=arr.modify j (fun q=>{ q with key:=vi,val:=vy })) (clock':=clock) (es':=eO es vi vy) (by
     have hkeys:arr.toList.map (·.key)=es.map (·.1):=by rw[← hm.ents,A4];rfl
     have hnd:(arr.toList.map (·.key)).Nodup:=by rw[hkeys];exact hk2.2
     have hmod:(arr.modify j (fun q=>{ q with key:=vi,val:=vy })).toList=arr.toList.modify j (fun q=>{ q with key:=vi,val:=vy }):=by simp
     have huniq:∀ i e,arr.toList[i]?=some e→e.key=vi→i=j:=by
      intro i e hi hk
      have h1:(arr.toList.map (·.key))[i]?=some vi:=by simp only[Ad,hi,Ab,hk]
      have h2:(arr.toList.map (·.key))[j]?=some vi:=by simp only[Ad,f2,Ab,f3]
      have hil:i<(arr.toList.map (·.key)).length:=(Aj.1 h1).1
      exact (A6 hil hnd).1 (h1.trans h2.symm)
     refine⟨?_,?_,?_,?_,?_⟩
     ·rw[hput,hmod,← hm.ents]
      apply A7
      intro i
      simp only[Ad,Ai]
      cases hq:arr.toList[i]? with
      | none=>simp
      | some q =>
       simp only[Ab,Option.map_map]
       by_cases hij:j=i
       ·subst hij
        rw[f2]at hq
        simp only[Af.injEq]at hq
        subst hq
        simp[f3]
       ·have:q.key≠vi:=fun h=>hij (huniq i q hq h).symm
        simp[hij,this]
     ·intro i e hi
      rw[hmod,Ai]at hi
      cases hq:arr.toList[i]? with
      | none=>simp[hq]at hi
      | some q =>
       have hb:=hm.born i q hq
       rw[hq]at hi;simp only[A8,Ab]at hi
       split at hi<;>simp only[Af.injEq]at hi<;>subst hi<;>exact hb
     ·rw[hm.clk];simp
     ·intro e he
      rw[hput]at he
      obtain⟨q,hq,rfl⟩:=Aa.1 he
      split
      ·exact hcell
      ·exact hm.cell q hq
     ·intro e he
      rw[hput]at he
      obtain⟨q,hq,rfl⟩:=Aa.1 he
      split
      ·exact hkcell
      ·exact hm.kcell q hq)
    refine⟨g',?_,a2,a3,a4⟩
    rw[a1]
    simp[Instr.mapUpdate,Sem.run_bind,run_underlying hu,MapKept.run_getObj_map hb,hck,f1,hj,f3,hst,MapKept.run_setObj_map _ hb,Result.andThen]
  ·exact h.elim
 ·exact h.elim
theorem c5j {c : Cx} {g : Gh} {ob : Nat → AV} (h : GOk c g ob) (i : Nat) (hi : ¬ g.us i) (w : World) (hw : w.heap = g.w.heap) (ho : w.os = g.w.os) (ht : Tp w g.w) (hu : w.output = g.w.output) :
  ∃ g':Gh,g'.w=w.alloc (.map #[] 0)∧Ev g g'∧GOk c g' (upd ob [(i,.mpo [])])∧Rel g' (.mp i) (.map (some w.heap.size))∧∀ l,g'.us l→g.us l∨l=i:=by
 have hold:∀ b,b<g.w.heap.size→(w.alloc (.map #[] 0)).heap[b]?=g.w.heap[b]?:=fun b hb=>by rw[Go.RowKit.Below.heap_alloc _ _ _ (by rw[hw];exact hb),hw]
 have he:Ev g { g with w:=w.alloc (.map #[] 0),us:=fun l=>g.us l∨l=i,blk:=fun l=>if l=i then w.heap.size else g.blk l }:=by
  refine⟨fun b hb=>⟨hb,hold b (h.fzx b hb)⟩,fun l hl=>⟨.inl hl,?_,Al _,fun _=>rfl⟩⟩
  show (if l=i then _ else _)=_
  rw[if_neg (by rintro rfl;exact hi hl)]
 refine⟨_,rfl,he,?_,?_,fun l hl=>hl⟩
 ·refine h.turn he i (.mpo []) ho ht hu (by simp[hw]) rfl (fun l hl=>⟨if_neg hl,rfl,rfl⟩) (fun b hb _=>hold b hb) ?_ ?_
  ·refine⟨.inr rfl,#[],0,?_,⟨rfl,by simp,by simp,by simp,by simp⟩⟩
   show (w.alloc _).heap[if i=i then _ else _]?=_
   rw[if_pos rfl]
   exact heap_alloc_new w _
  ·intro b hb
   right
   have:w.heap.size=b:=by simpa [aE]using hb
   rw[← this,hw]
   exact Al _
 ·have:=Rel.mp (g:={ g with w:=w.alloc (.map #[] 0),us:=fun l=>g.us l∨l=i,blk:=fun l=>if l=i then w.heap.size else g.blk l }) i (.inr rfl)
  simpa using this
end Go.Sx
namespace Go.Sx
open Go.MapKept
set_option linter.unusedVariables false
set_option linter.unusedSimpArgs false
open Classical in
noncomputable def nM (es:List (Value × Value)) (k:Value):Nat:=es.findIdx fun e=>decide (e.1=k)
def l6 (es:List (Value × Value)) (n:Nat) (v:Value):List (Value × Value):=es.modify n fun e=>(e.1,v)
def rF (P:Program) (t:TypeId) (x ix:AV) (ob:Nat→AV) (E:Eff→Prop):Prop :=
 match x with
 | .mp l=>match ob l,mpT P t,valOf ix with
  | .mpo es,some (k,e),some kv=>WideMaps.KeyLaw P k∧(keyOf P k kv).isSome=true∧lQ P k es∧match zvT P e with
   | some z=>E ⟨.tup [nS ((bY es kv).getD z),.lit (.int .i64 (nM es kv))],[(l,.mpo (eO es kv ((bY es kv).getD z)))],[l]⟩
   | none=>False
  | _,_,_=>False
 | _=>False
def rR (x s y:AV) (ob:Nat→AV) (E:Eff→Prop):Prop :=
 match x,s with
 | .mp l,.lit (.int k n)=>match ob l,valOf y with
  | .mpo es,some yv=>0≤n∧n.toNat<es.length∧E ⟨.any,[(l,.mpo (l6 es n.toNat yv))],[l]⟩
  | _,_=>False
 | _,_=>False
def rL (P:Program) (t:TypeId) (x:AV) (i:Nat) (ob:Nat→AV) (E:Eff→Prop):Prop :=
 match x with
 | .mp l=>match ob l,mpT P t with
  | .mpo es,some _=>E ⟨.loc i 0,[(i,.ito l es.length [])],[l]⟩
  | _,_=>False
 | _=>False
def rS (x:AV) (ob:Nat→AV) (E:Eff→Prop):Prop :=
 match x with
 | .loc r 0=>match ob r with
  | .ito l n seen=>match ob l with
   | .mpo es=>es.length=n∧match seen.getLast? with
    | some j=>match es[j]? with
     | some (k,v)=>E ⟨.tup [nS k,nS v],[],[r,l]⟩
     | none=>False
    | none=>False
   | _=>False
  | _=>False
 | _=>False
theorem MapOk.len {arr:Array MapEntry} {clock:Nat} {es:List (Value × Value)} (h:MapOk arr clock es):arr.size=es.length:=by
 rw[← h.ents];simp
theorem MapOk.clock {arr:Array MapEntry} {clock:Nat} {es:List (Value × Value)} (h:MapOk arr clock es):clock=es.length:=by
 rw[h.clk,h.len]
theorem c5o {arr:Array MapEntry} {clock:Nat} {es:List (Value × Value)} (hm:MapOk arr clock es) (hnd:(es.map (·.1)).Nodup) {j:Nat} {e:MapEntry} (hj:arr.toList[j]?=some e) {kv:Value} (hk:e.key=kv):nM es kv=j:=by
 have hjl:j<es.length:=by
  have:=(Aj.1 hj).1
  rw[Ao,hm.len]at this
  exact this
 have hkey:∀ (i:Nat) (hi:i<es.length),es[i].1=kv→i=j:=by
  intro i hi h
  have h1:(es.map (·.1))[i]?=some kv:=by rw[Ad,Ah hi,Ab,h]
  have h2:(es.map (·.1))[j]?=some kv:=by
   have:=hm.ents
   rw[← this,A4]
   simp only[Ad,hj,Ab,Function.comp,hk]
  exact (A6 (by simpa using hi) hnd).1 (h1.trans h2.symm)
 have hat:es[j].1=kv:=by
  have h2:es[j]?=some (e.key,e.val):=by rw[← hm.ents];simp only[Ad,hj,Ab]
  rw[Ah hjl]at h2
  simp only[Af.injEq]at h2
  rw[h2];exact hk
 unfold nM
 rw[List.findIdx_eq hjl]
 refine⟨by simpa using hat,fun i hi=>?_⟩
 rw[decide_eq_false_iff_not]
 intro h
 have:=hkey i (by omega) h
 omega
theorem a4p {es:List (Value × Value)} {kv:Value} (h:kv∉es.map (·.1)):nM es kv=es.length:=by
 unfold nM
 rw[List.findIdx_eq_length]
 intro e he
 rw[decide_eq_false_iff_not]
 exact fun h'=>h (Aa.2 ⟨e,he,h'⟩)
theorem MapOk.push {arr : Array MapEntry} {clock : Nat} {es : List (Value × Value)} (hm : MapOk arr clock es) (k v : Value) (hk : ∀ i (h : i < k.cells.size), k.cells[i].oneCell' = true) (hv : ∀ i (h : i < v.cells.size), v.cells[i].oneCell' = true) :
  MapOk (arr.push ⟨k,v,clock⟩) (clock+1) (es++[(k,v)]):=by
 refine⟨by simp[hm.ents],fun i e hi=>?_,by rw[hm.clk];simp,fun e he=>?_,fun e he=>?_⟩
 ·simp only[A5,Au]at hi
  split at hi
  ·exact hm.born i e hi
  ·rename_i hlt
   have h0:i - arr.toList.length=0:=by
    rcases Az (i - arr.toList.length)with h|h
    ·exact h
    ·rw[As (by simp only[At];omega)]at hi;contradiction
   rw[h0]at hi
   simp only[Ar,Af.injEq]at hi
   subst hi
   have:=hm.clk
   simp only[Ao]at h0 hlt
   simp only
   omega
 ·rcases An.1 he with he|he
  ·exact hm.cell e he
  ·simp at he;subst he;exact hv
 ·rcases An.1 he with he|he
  ·exact hm.kcell e he
  ·simp at he;subst he;exact hk
theorem MapOk.mod {arr : Array MapEntry} {clock : Nat} {es : List (Value × Value)} (hm : MapOk arr clock es) (j : Nat) (v : Value) (hv : ∀ i (h : i < v.cells.size), v.cells[i].oneCell' = true) :
  MapOk (arr.modify j fun e=>{ e with val:=v }) clock (l6 es j v):=by
 have hmod:(arr.modify j fun e=>{ e with val:=v }).toList=arr.toList.modify j fun e=>{ e with val:=v }:=by simp
 have hents:(arr.toList.modify j fun e=>{ e with val:=v }).map (fun e=>(e.key,e.val))=l6 es j v:=by
  unfold l6
  rw[← hm.ents]
  apply A7
  intro i
  simp only[Ad,Ai]
  cases arr.toList[i]? with
  | none=>simp
  | some q=>by_cases hij:j=i<;>simp[hij]
 refine⟨by rw[hmod,hents],fun i e hi=>?_,by rw[hm.clk];simp,fun e he=>?_,fun e he=>?_⟩
 ·rw[hmod,Ai]at hi
  cases hq:arr.toList[i]? with
  | none=>simp[hq]at hi
  | some q =>
   have hb:=hm.born i q hq
   rw[hq]at hi;simp only[A8,Ab]at hi
   split at hi<;>simp only[Af.injEq]at hi<;>subst hi<;>exact hb
 ·unfold l6 at he
  obtain⟨i,hi,rfl⟩:=Av.1 he
  rw[Aw]
  split
  ·exact hv
  ·exact hm.cell _ (Ac _)
 ·unfold l6 at he
  obtain⟨i,hi,rfl⟩:=Av.1 he
  rw[Aw]
  have hi':i<es.length:=by simpa using hi
  split
  ·exact hm.kcell es[i] (Ac hi')
  ·exact hm.kcell _ (Ac _)
theorem c0s {c : Cx} {t : TypeId} {x ix : AV} {ob : Nat → AV} {E : Eff → Prop} (h : rF c.P t x ix ob E) :
  ∃ e,E e∧∀ ob',(∀ l∈e.rd,ob' l=ob l)→∀ g v vi,GOk c g ob'→Rel g x v→Rel g ix vi →
   ∃ u,∃ g':Gh,(Instr.mapEntry t v vi).run c.P g.w=.ok u g'.w∧Ev g g'∧GOk c g' (upd ob' e.ob)∧Rel g' e.val u∧∀ l,g'.us l→g.us l:=by
 unfold rF at h
 split at h
 ·rename_i l
  split at h
  ·rename_i es k e kv hob hmp hkv
   obtain⟨K,hk1,hk2,h⟩:=h
   have hu:=tJ hmp
   split at h
   ·rename_i z hz
    obtain⟨z1,z2⟩:=a6w hz
    refine⟨_,h,fun ob' ho g v vi hg hr hri=>?_⟩
    have hobl:ob' l=.mpo es:=by rw[ho l (by simp)];exact hob
    have hok:=hg.obj l
    rw[hobl]at hok
    obtain⟨hus,arr,clock,hb,hm⟩:=hok
    cases hr
    obtain⟨e1,hkcell⟩:=sQ hkv hri
    subst e1
    obtain⟨lx,hlx⟩:=Ae.1 hk1
    have hck:=K.check g.w false hlx
    rcases zR K hm hk2 hk1 g.w with⟨f1,f2,f3⟩|⟨j,e',f1,f2,f3,f4,f5⟩
    ·have hput:eO es vi z=es++[(vi,z)]:=by unfold eO;rw[if_neg f3]
     obtain⟨g',a1,a2,a3,a4⟩:=tA hg hobl hb (hm.push vi z hkcell z2)
     rw[f2,Option.getD_none,hput]
     refine⟨.tuple #[z,goInt clock],g',?_,a2,a3,?_,a4⟩
     ·rw[a1]
      simp[Instr.mapEntry,Sem.run_bind,run_underlying hu,MapKept.run_getObj_map hb,hck,f1,z1,MapKept.run_setObj_map _ hb,Result.andThen]
     ·refine .tup _ _ rfl fun i h1 h2=>?_
      match i,h1 with
      | 0,_=>exact pU z2
      | 1,_ =>
       have:clock=nM es vi:=by rw[a4p f3,hm.clock]
       subst this
       exact .lit _
    ·have hj:arr[j]?=some e':=by simpa using f2
     have hst:=K.stays g.w hlx
     have hmi:=c5o hm hk2.2 f2 f3
     have hcell:∀ i (h:i<e'.val.cells.size),e'.val.cells[i].oneCell'=true:=by
      refine hm.cell (e'.key,e'.val) ?_
      rw[← hm.ents]
      exact Aa.2 ⟨e',Ag f2,rfl⟩
     have harr:(arr.modify j fun q=>{ q with key:=vi })=arr:=by
      apply Be
      ·simp
      ·intro i h1 h2
       rw[Array.getElem_modify]
       split
       ·rename_i hij
        subst hij
        have:arr[j]=e':=by rw[Array.getElem?_eq_getElem h2]at hj;exact Af.inj hj
        rw[this,← f3]
       ·rfl
     have hput:eO es vi e'.val=es:=by
      unfold eO
      rw[if_pos f5]
      conv=>rhs;rw[← List.map_id es]
      refine Ax fun q hq=>?_
      by_cases hqk:q.1=vi
      ·rw[if_pos hqk]
       have hmem:(vi,e'.val)∈es:=by rw[← hm.ents,← f3];exact Aa.2 ⟨e',Ag f2,rfl⟩
       have key:∀ (l:List (Value × Value)),(l.map (·.1)).Nodup→∀ a∈l,∀ b∈l,a.1=b.1→a=b:=by
        intro l
        induction l with
        | nil=>intro _ a ha;simp at ha
        | cons x l ih =>
         intro hn a ha b hb hab
         simp only[Bb,Ba,Aa,not_exists,not_and]at hn
         rcases Aq.1 ha with ea|ma<;>rcases Aq.1 hb with eb|mb
         ·rw[ea,eb]
         ·exact absurd (by rw[← hab,ea]) (hn.1 b mb)
         ·exact absurd (by rw[hab,eb]) (hn.1 a ma)
         ·exact ih hn.2 a ma b mb hab
       exact (key es hk2.2 q hq _ hmem hqk).symm
      ·rw[if_neg hqk];rfl
     obtain⟨g',a1,a2,a3,a4⟩:=tA hg hobl hb hm
     rw[f4,Option.getD_some,hput]
     refine⟨.tuple #[e'.val,goInt e'.born],g',?_,a2,a3,?_,a4⟩
     ·rw[a1]
      simp[Instr.mapEntry,Sem.run_bind,run_underlying hu,MapKept.run_getObj_map hb,hck,f1,hj,f3,hst,harr,MapKept.run_setObj_map _ hb,Result.andThen]
     ·refine .tup _ _ rfl fun i h1 h2=>?_
      match i,h1 with
      | 0,_=>exact pU hcell
      | 1,_ =>
       have:e'.born=nM es vi:=by rw[hmi,hm.born j e' f2]
       rw[this]
       exact .lit _
   ·exact h.elim
  ·exact h.elim
 ·exact h.elim
theorem c6j {c : Cx} {t : TypeId} {x s y : AV} {ob : Nat → AV} {E : Eff → Prop} (h : rR x s y ob E) :
  ∃ e,E e∧e.val=.any∧∀ ob',(∀ l∈e.rd,ob' l=ob l)→∀ g v vs vy,GOk c g ob'→Rel g x v→Rel g s vs→Rel g y vy →
   ∃ g':Gh,(Instr.entryStore t v vs vy).run c.P g.w=.ok () g'.w∧Ev g g'∧GOk c g' (upd ob' e.ob)∧∀ l,g'.us l→g.us l:=by
 unfold rR at h
 split at h
 ·rename_i l k n
  split at h
  ·rename_i es yv hob hyv
   obtain⟨hn,hlt,h⟩:=h
   refine⟨_,h,rfl,fun ob' ho g v vs vy hg hr hrs hry=>?_⟩
   have hobl:ob' l=.mpo es:=by rw[ho l (by simp)];exact hob
   have hok:=hg.obj l
   rw[hobl]at hok
   obtain⟨hus,arr,clock,hb,hm⟩:=hok
   cases hr
   cases hrs
   obtain⟨e2,hcell⟩:=sQ hyv hry
   subst e2
   obtain⟨g',a1,a2,a3,a4⟩:=tA hg hobl hb (hm.mod n.toNat vy hcell)
   refine⟨g',?_,a2,a3,a4⟩
   rw[a1]
   have hal:n.toNat<arr.size:=by rw[hm.len];exact hlt
   have hf:arr.findIdx? (fun e=>(e.born:Int) == n)=some n.toNat:=by
    rw[Array.findIdx?_eq_some_iff_getElem]
    refine⟨hal,?_,fun j hj=>?_⟩
    ·have:=hm.born n.toNat arr[n.toNat] (by simp[hal])
     rw[this];simp;omega
    ·have:=hm.born j arr[j] (by simp)
     rw[this];simp;omega
   simp[Instr.entryStore,Sem.run_bind,MapKept.run_getObj_map hb,asInt,asIntOf,hf,MapKept.run_setObj_map _ hb,Result.andThen]
  ·exact h.elim
 ·exact h.elim
theorem c4s {c : Cx} {t : TypeId} {x : AV} {i : Nat} {ob : Nat → AV} {E : Eff → Prop} (h : rL c.P t x i ob E) :
  ∃ e,E e∧∀ ob',(∀ l∈e.rd,ob' l=ob l)→∀ g v,GOk c g ob'→¬ g.us i→Rel g x v →
   ∃ u,∃ g':Gh,(Instr.range t v).run c.P g.w=.ok u g'.w∧Ev g g'∧GOk c g' (upd ob' e.ob)∧Rel g' e.val u∧∀ l,g'.us l→g.us l∨l=i:=by
 unfold rL at h
 split at h
 ·rename_i l
  split at h
  ·rename_i es ke hob hmp
   refine⟨_,h,fun ob' ho g v hg hi hr=>?_⟩
   obtain⟨k,e⟩:=ke
   have hu:=tJ hmp
   have hobl:ob' l=.mpo es:=by rw[ho l (by simp)];exact hob
   have hok:=hg.obj l
   rw[hobl]at hok
   obtain⟨hus,arr,clock,hb,hm⟩:=hok
   cases hr
   have hli:l≠i:=fun e=>hi (e▸hus)
   have hcl:=hm.clock
   let o:Obj:=.mapIter (some (g.blk l)) es.length #[] es.length
   have hold:∀ b,b<g.w.heap.size→(g.w.alloc o).heap[b]?=g.w.heap[b]?:=fun b hb=>Go.RowKit.Below.heap_alloc _ _ _ hb
   have he:Ev g { g with w:=g.w.alloc o,us:=fun l=>g.us l∨l=i,blk:=fun l=>if l=i then g.w.heap.size else g.blk l }:=by
    refine⟨fun b hb=>⟨hb,hold b (hg.fzx b hb)⟩,fun l hl=>⟨.inl hl,?_,Al _,fun _=>rfl⟩⟩
    show (if l=i then _ else _)=_
    rw[if_neg (by rintro rfl;exact hi hl)]
   refine⟨.pointer (some ⟨g.w.heap.size,0,none⟩),_,?_,he,?_,?_,fun l hl=>hl⟩
   ·subst hcl
    simp[Instr.range,Sem.run_bind,run_underlying hu,MapKept.run_getObj_map hb,newObj,Sem.run,Result.andThen,o]
   ·refine hg.turn he i (.ito l es.length []) rfl Tp.rfl rfl (by simp) rfl (fun l hl=>⟨if_neg hl,rfl,rfl⟩) (fun b hb _=>hold b hb) ?_ ?_
    ·refine⟨.inr rfl,.inl hus,?_⟩
     show (g.w.alloc o).heap[if i=i then _ else _]?=some (Obj.mapIter (some (if l=i then _ else _)) _ _ _)
     rw[if_pos rfl,if_neg hli]
     exact heap_alloc_new g.w _
    ·intro b hb
     right
     have:g.w.heap.size=b:=by simpa [aE]using hb
     omega
   ·have:=Rel.loc (g:={ g with w:=g.w.alloc o,us:=fun l=>g.us l∨l=i,blk:=fun l=>if l=i then g.w.heap.size else g.blk l }) i 0 (.inr rfl)
    simpa using this
  ·exact h.elim
 ·exact h.elim
theorem c6k {c : Cx} {x : AV} {ob : Nat → AV} {E : Eff → Prop} (h : rS x ob E) :
  ∃ e,E e∧e.ob=[]∧∀ ob',(∀ l∈e.rd,ob' l=ob l)→∀ g v,GOk c g ob'→Rel g x v→∃ u,(Instr.entry v).run c.P g.w=.ok u g.w∧Rel g e.val u:=by
 unfold rS at h
 split at h
 ·rename_i r
  split at h
  ·rename_i l n seen hobr
   split at h
   ·rename_i es hob
    obtain⟨hn,h⟩:=h
    split at h
    ·rename_i j hj
     split at h
     ·rename_i k v hes
      refine⟨_,h,rfl,fun ob' ho g u hg hr=>?_⟩
      have hol:ob' l=.mpo es:=by rw[ho l (by simp)];exact hob
      have hor:ob' r=.ito l n seen:=by rw[ho r (by simp)];exact hobr
      have h1:=hg.obj l
      rw[hol]at h1
      obtain⟨hus,arr,clock,hb,hm⟩:=h1
      have h2:=hg.obj r
      rw[hor]at h2
      obtain⟨hus2,_,hit⟩:=h2
      cases hr
      have hjl:j<es.length:=(Aj.1 hes).1
      have hja:j<arr.size:=by rw[hm.len];exact hjl
      have hbj:arr[j].born=j:=hm.born j arr[j] (by simp[hja])
      have hkv:(arr[j].key,arr[j].val)=(k,v):=by
       have:=hm.ents
       rw[← this]at hes
       simpa [Ad,hja]using hes
      have hsp:seen.toArray=(seen.dropLast.toArray).push arr[j].born:=by
       rw[hbj]
       have:seen=seen.dropLast++[j]:=by
        have hne:seen≠[]:=by rintro rfl;simp at hj
        have:=List.dropLast_concat_getLast hne
        rw[List.getLast?_eq_some_getLast hne]at hj
        rw[Af.inj hj]at this
        exact this.symm
       conv=>lhs;rw[this]
       simp
      have hnd:(arr.toList.map (·.born)).Nodup:=by
       rw[List.nodup_iff_pairwise_ne,List.pairwise_map,List.pairwise_iff_getElem]
       intro a b ha hb' hab
       rw[hm.born a _ (Ah ha),hm.born b _ (Ah hb')]
       omega
      rw[hsp]at hit
      have hcl:=hm.clock
      have:=run_entry_at (P:=c.P) g.w (g.blk r) (g.blk l) n seen.dropLast.toArray arr clock arr[j] (by rw[hcl,hn];exact hit) hb (by simp) hnd
      refine⟨_,this,?_⟩
      have hmem:(k,v)∈es:=Ag hes
      simp only[Prod.mk.injEq]at hkv
      rw[hkv.1,hkv.2]
      refine .tup _ _ rfl fun i h1 h2=>?_
      match i,h1 with
      | 0,_=>exact pU (hm.kcell _ hmem)
      | 1,_=>exact pU (hm.cell _ hmem)
     ·exact h.elim
    ·exact h.elim
   ·exact h.elim
  ·exact h.elim
 ·exact h.elim
end Go.Sx
namespace Go.Sx
set_option linter.unusedVariables false
set_option linter.unusedSimpArgs false
def frN (h0:Nat) (w:World):Gh:={ w:=w,fz:=fun b=>h0≤b∧b<w.heap.size,us:=fun _=>False,blk:=fun _=>0,des:=fun _=>⟨none,0,0,0⟩,len:=fun _=>0 }
def CallNw (P:Program) (f:Nat) (args:List AV) (r:AV):Prop :=
 ∀ (g:Gh) (vals:List Value),(∀ l,¬ g.us l)→GOk (bG P g (upd aF [])) g (upd aF [])→RelL g args vals →
  Calls P f vals.toArray g.w fun e w'=>∃ v,e=.returned v∧w'.os=g.w.os∧Tp w' g.w∧w'.output=g.w.output∧g.w.heap.size≤w'.heap.size∧(∀ b,b<g.w.heap.size→w'.heap[b]?=g.w.heap[b]?)∧Rel (frN g.w.heap.size w') r v
def callD (P:Program) (f:Nat) (args:List AV) (ob:Nat→AV) (E:Eff→Prop):Prop :=
 ∃ r,fnT P f=true∧CallNw P f (args.map (bwa ob)) r∧(∀ a∈args.map (bwa ob),In (fun _=>False) a)∧In (fun _=>False) r∧E ⟨r,[],args.flatMap idA⟩
theorem b7q {c : Cx} {f : Nat} {args : List AV} {ob : Nat → AV} {E : Eff → Prop} (h : callD c.P f args ob E) :
  ∃ e,E e∧fnT c.P f=true∧∀ ob',(∀ l∈e.rd,ob' l=ob l)→∀ g vals,GOk c g ob'→RelL g args vals →
   Calls c.P f vals.toArray g.w fun e' w'=>∃ v g',e'=.returned v∧g'.w=w'∧Ev g g'∧GOk c g' (upd ob' e.ob)∧Rel g' e.val v∧∀ l,g'.us l→g.us l:=by
 obtain⟨r,hfn,hok,hin,hcl,hE⟩:=h
 refine⟨_,hE,hfn,fun ob' ho g vals hg hr=>?_⟩
 have hbw:args.map (bwa ob')=args.map (bwa ob):=by
  apply Ax
  intro a ha
  exact zB fun l hl=>ho l (List.mem_flatMap.2 ⟨a,ha,hl⟩)
 let g0:Gh:={ gI g ob' with us:=fun _=>False }
 have hfzx:∀ b,g0.fz b→b<g0.w.heap.size:=by
  rintro b (hb|⟨l,hl⟩)
  ·exact hg.fzx b hb
  ·exact (hg.obj l).lt hl
 have hg0:GOk (bG c.P g0 (upd aF [])) g0 (upd aF []) :=
  ⟨rfl,Tp.rfl,rfl,Al _,fun _ _ _=>rfl,fun b hb=>hb,fun b hb=>.inl hb,hfzx,fun l=>trivial,fun l b hb=>by simp[upd,aF,aE]at hb,fun l l' b hb=>by simp[upd,aF,aE]at hb⟩
 have hrel:RelL g0 (args.map (bwa ob)) vals:=by
  refine⟨by simp[hr.1],fun i h1 h2=>?_⟩
  have hi:i<args.length:=by simpa using h1
  have h3:=a0f hg (hr.2 i hi h2)
  have e1:bwa ob' args[i]=(args.map (bwa ob))[i]:=by
   have:(args.map (bwa ob'))[i]'(by simpa using hi)=(args.map (bwa ob))[i]:=by simp only[hbw]
   simpa using this
  rw[e1]at h3
  exact cY (g:=gI g ob') (g':=g0) (K:=fun _=>False) (fun b hb=>⟨hb,rfl⟩) (fun l hl=>hl.elim) h3 (hin _ (Ac h1))
 refine (hok g0 vals (fun l=>by simp[g0]) hg0 hrel).mono ?_
 rintro e' w' ⟨v,rfl,hos,htp,hou,hsz,hold,hv⟩
 have hsz:g.w.heap.size≤w'.heap.size:=hsz
 have hold:∀ b,b<g.w.heap.size→w'.heap[b]?=g.w.heap[b]?:=hold
 let g':Gh:={ g with w:=w',fz:=fun b=>g.fz b∨(g.w.heap.size≤b∧b<w'.heap.size) }
 have hev:Ev g g':=⟨fun b hb=>⟨.inl hb,hold b (hg.fzx b hb)⟩,fun l hl=>⟨hl,rfl,Al _,fun _=>rfl⟩⟩
 have hblk:∀ l,aE g' l (ob' l)=aE g l (ob' l):=fun l=>by cases ob' l<;>rfl
 refine⟨v,g',rfl,rfl,hev,?_,?_,fun l hl=>hl⟩
 ·refine⟨hos.trans hg.os,htp.trans hg.tape,hou.trans hg.output,Bc hg.size hsz,fun b hb hw=>?_,fun b hb=>.inl (hg.fzo b hb),?_,?_,fun l=>?_,fun l b hb=>?_,fun l l' b hb hb'=>?_⟩
  ·show w'.heap[b]?=_
   rw[hold b (A3 hb hg.size)]
   exact hg.old b hb hw
  ·rintro b (hb|hb)
   ·exact hg.fzn b hb
   ·exact .inr (.inr (Bc hg.size hb.1))
  ·rintro b (hb|hb)
   ·exact A3 (hg.fzx b hb) hsz
   ·exact hb.2
  ·exact (hg.obj l).keep hev ⟨rfl,rfl⟩ fun b hb=>hold b ((hg.obj l).lt hb)
  ·simp only[upd,hblk]at hb
   obtain⟨k1,k2⟩:=hg.own l b hb
   refine⟨k1,?_⟩
   rintro (h|h)
   ·exact k2 h
   ·have:=(hg.obj l).lt hb
    omega
  ·simp only[upd,hblk]at hb hb'
   exact hg.dis l l' b hb hb'
 ·exact cY (g:=frN g0.w.heap.size w') (g':=g') (K:=fun _=>False) (fun b hb=>⟨.inr hb,rfl⟩) (fun l hl=>hl.elim) hv hcl
def kK (ob:Nat→AV):AV→AV
 | .ref l o n m=>match ob l with
  | .vec _ es=>if o=0∧n=es.length∧m=es.length then .sl es else .any
  | _=>.any
 | .lit v=>.lit v
 | _=>.any
def bwn (ob:Nat→AV):AV→AV
 | .agg cs=>.agg (cs.map (kK ob))
 | .tup cs=>.tup (cs.map (kK ob))
 | a=>kK ob a
def Flat1 (a:AV):Prop:=Flat a∨∃ es:List (List AV),a=.sl es∧∀ e∈es,∀ c∈e,Flat c
def FlatS:AV→Prop
 | .agg cs=>∀ c∈cs,Flat1 c
 | .tup cs=>∀ c∈cs,Flat1 c
 | a=>Flat1 a
theorem Flat.inn {K:Nat→Prop} {a:AV} (h:Flat a):In K a:=by
 induction h with
 | lit v=>exact .lit v
 | agg cs _ ih=>exact .agg cs ih
 | tup cs _ ih=>exact .tup cs ih
theorem Flat1.in {K:Nat→Prop} {a:AV} (h:Flat1 a):In K a:=by
 rcases h with h|⟨es,rfl,h⟩
 ·exact h.inn
 ·exact .sl es fun e he c hc=>(h e he c hc).inn
theorem FlatS.in {K:Nat→Prop} {a:AV} (h:FlatS a):In K a:=by
 cases a with
 | agg cs=>exact .agg cs fun c hc=>(h c hc).in
 | tup cs=>exact .tup cs fun c hc=>(h c hc).in
 | any=>exact .any
 | _=>exact Flat1.in h
theorem zI {c:Cx} {g:Gh} {ob:Nat→AV} (hg:GOk c g ob) (hno:∀ b,¬ c.W0 b) {a:AV} {v:Value} (h:Rel g a v) (hf:Flat1 (kK ob a)):Rel (frN c.w0.heap.size g.w) (kK ob a) v:=by
 have hbad:Flat1 .any→False:=by
  rintro (hx|⟨es',h1,h2⟩)
  ·cases hx
  ·cases h1
 cases a with
 | lit v'=>cases h;exact .lit _
 | ref l o n m =>
  simp only[kK]at hf ⊢
  have hok:=hg.obj l
  have hown:=hg.own l
  generalize hob:ob l=x at hok hf hown
  cases x with
  | vec k es =>
   simp only at hf ⊢
   split at hf
   ·rename_i hc
    rw[if_pos hc]
    obtain⟨rfl,rfl,rfl⟩:=hc
    obtain⟨hus',hk,hln,hk0,hke,h5⟩:=hok
    have hfl:∀ e∈es,∀ c∈e,Flat c:=by
     rcases hf with h|⟨es',h1,h2⟩
     ·cases h
     ·injection h1 with h1;subst h1;exact h2
    cases h with
    | ref _ _ _ _ _ hu' hm hc hvv =>
     have hvv:=hvv hln.symm
     rcases h5 with⟨h6,rfl,h7⟩|⟨b,vs,h6,h7,h8,h9,h10,h11,h12⟩
     ·rw[hvv]
      simp[Des.slice,h6,h7]
      exact .slnil
     ·rw[hvv]
      simp only[Des.slice,h6,Ab,Nat.zero_mul,Nat.sub_zero]
      have hb0:c.w0.heap.size≤b:=by
       rcases (hown b (by simp[aE,h6])).1 with h|h
       ·exact absurd h (hno b)
       ·exact h
      have hlt:b<g.w.heap.size:=(Ap.1 h7).1
      refine .sl (g:=frN c.w0.heap.size g.w) es b 0 _ k vs _ (0,0) ⟨hb0,hlt⟩ h7 h8 (fun i hi=>hke _ (Ac hi)) (fun _=>?_) (fun j hj hjk=>?_) (fun i a1 j a2 a3=>?_)
      ·rw[h10,A9];exact Nat.mul_le_mul_right _ h8
      ·simp only[A9]at hj ⊢
       exact h11 j hj hjk
      ·simp only[A9]at a3 ⊢
       exact (h12 i a1 j a2 a3).flat (hfl _ (Ac a1) _ (Ac a2))
   ·rcases hf with hx|⟨es',h1,h2⟩
    ·cases hx
    ·cases h1
  | _=>exact (hbad hf).elim
 | _=>exact (hbad hf).elim
theorem b7v {ob:Nat→AV} {a:AV} (h:FlatS (kK ob a)):Flat1 (kK ob a):=by
 cases a with
 | lit v=>exact h
 | ref l o n m =>
  simp only[kK]at h ⊢
  generalize ob l=x at h ⊢
  cases x with
  | vec k es =>
   simp only at h ⊢
   split at h
   ·rename_i hc;rw[if_pos hc];exact h
   ·rename_i hc;rw[if_neg hc];exact h
  | _=>exact h
 | _=>exact h
theorem c4w {c:Cx} {g:Gh} {ob:Nat→AV} (hg:GOk c g ob) (hno:∀ b,¬ c.W0 b) {a:AV} {v:Value} (h:Rel g a v) (hf:FlatS (bwn ob a)):Rel (frN c.w0.heap.size g.w) (bwn ob a) v:=by
 cases a with
 | agg cs =>
  cases h with
  | agg _ vs hs ho hr =>
   refine .agg _ _ (by simpa using hs) ho fun i h1 h2=>?_
   simp only[Ak]
   exact zI hg hno (hr i (by simpa using h1) h2) (hf _ (Aa.2 ⟨_,Ac (by simpa using h1),rfl⟩))
 | tup cs =>
  cases h with
  | tup _ vs hs hr =>
   refine .tup _ _ (by simpa using hs) fun i h1 h2=>?_
   simp only[Ak]
   exact zI hg hno (hr i (by simpa using h1) h2) (hf _ (Aa.2 ⟨_,Ac (by simpa using h1),rfl⟩))
 | _=>exact zI hg hno h (b7v hf)
end Go.Sx
