import Derived.WalkKit
import Derived.OrdersIn
import Derived.RangeFuncLeaves
import Derived.RangeFuncRecord
set_option linter.all false
open Array renaming getElem?_eq_some_iff → Aa, getElem_toList → Af
open List renaming getElem_mem → Ab, getElem_drop → Ad, getElem_take → Ae
open Nat renaming le_trans → Ac, mul_le_mul_right → Ag, lt_of_lt_of_le → Ah, le_refl → Ai, add_assoc → Aj, zero_add → Ak
namespace Go.Sx
set_option linter.unusedVariables false
inductive AV where
 | any
 | lit (v:Value)
 | agg (cs:List AV)
 | tup (vs:List AV)
 | sl (es:List (List AV))
 | fp (cs:List AV)
 | loc (l o:Nat)
 | ref (l o n m:Nat)
 | vp (l i j m:Nat)
 | clo (f:Nat) (caps:List AV)
 | bs (l o k n:Nat)
 | zs
 | mp (l:Nat)
 | blk (cs:List AV)
 | vec (k:Nat) (es:List (List AV))
 | mpo (es:List (Value × Value))
 | ito (l n:Nat) (seen:List Nat)
 | vcp (k:Nat) (es:List (List AV)) (cap:Nat)
 | lpo (L fn nt:Nat) (ps:List Nat) (asg body:Code) (ts:List AV)
structure Des where
 b:Option Nat
 k:Nat
 cap:Nat
 e:TypeId
structure Gh where
 w:World
 fz:Nat→Prop
 us:Nat→Prop
 blk:Nat→Nat
 des:Nat→Des
 len:Nat→Nat
def Des.slice (d:Des) (o n:Nat):Value:=.slice (d.b.map fun b=>⟨b,o*d.k,none⟩) n (d.cap - o)
inductive Rel (g:Gh):AV→Value→Prop
 | any (v:Value):Rel g .any v
 | lit (v:Value):Rel g (.lit v) v
 | agg (cs:List AV) (vs:Array Value) (hs:vs.size=cs.length) (h1:∀ i (h2:i<vs.size),vs[i].oneCell'=true) (h:∀ i (h1:i<cs.length) (h2:i<vs.size),Rel g cs[i] vs[i]):Rel g (.agg cs) (.agg vs)
 | tup (cs:List AV) (vs:Array Value) (hs:vs.size=cs.length) (h:∀ i (h1:i<cs.length) (h2:i<vs.size),Rel g cs[i] vs[i]):Rel g (.tup cs) (.tuple vs)
 | slnil {a:Option Addr}:Rel g (.sl []) (.slice a 0 0)
 | sl (es : List (List AV)) (b o cap k : Nat) (vs : Array Value) (e : TypeId) (fr : Nat × Nat) (hf : g.fz b) (hb : g.w.heap[b]? = some (.cells vs e fr)) (hc : es.length ≤ cap)
   (hk:∀ i (h1:i<es.length),es[i].length=k) (hs:0<es.length→o+es.length*k≤vs.size) (ho:∀ j (h1:o+j<vs.size),j<es.length*k→vs[o+j].oneCell'=true) (h:∀ i (h1:i<es.length) j (h2:j<es[i].length) (h3:o+i*k+j<vs.size),Rel g es[i][j] vs[o+i*k+j]) :
   Rel g (.sl es) (.slice (some ⟨b,o,none⟩) es.length cap)
 | fp (cs : List AV) (b o : Nat) (vs : Array Value) (e : TypeId) (fr : Nat × Nat) (hf : g.fz b) (hb : g.w.heap[b]? = some (.cells vs e fr)) (hs : o + cs.length ≤ vs.size)
   (ho:∀ j (h1:o+j<vs.size),j<cs.length→vs[o+j].oneCell'=true) (h:∀ j (h1:j<cs.length) (h2:o+j<vs.size),Rel g cs[j] vs[o+j]):Rel g (.fp cs) (.pointer (some ⟨b,o,none⟩))
 | loc (l o:Nat) (hu:g.us l):Rel g (.loc l o) (.pointer (some ⟨g.blk l,o,none⟩))
 | ref (l o n m:Nat) (v:Value) (hu:g.us l) (hm:m≤g.len l) (hc:v.oneCell'=true) (hv:m=g.len l→v=(g.des l).slice o n):Rel g (.ref l o n m) v
 | vp (l i j m:Nat) (v:Value) (hu:g.us l) (hm:m≤g.len l) (hc:v.oneCell'=true) (hv:m=g.len l→∃ b,(g.des l).b=some b∧v=.pointer (some ⟨b,i*(g.des l).k+j,none⟩)):Rel g (.vp l i j m) v
 | clo (f:Nat) (caps:List AV) (vs:Array Value) (hs:vs.size=caps.length) (h:∀ i (h1:i<caps.length) (h2:i<vs.size),Rel g caps[i] vs[i]):Rel g (.clo f caps) (.func (.func f) #[] vs)
 | bs (l o k n cap:Nat) (hu:g.us l) (hc:n≤cap):Rel g (.bs l o k n) (.slice (some ⟨g.blk l,o,none⟩) n cap)
 | zs {a:Option Addr}:Rel g .zs (.slice a 0 0)
 | mp (l:Nat) (hu:g.us l):Rel g (.mp l) (.map (some (g.blk l)))
structure Ev (g g':Gh):Prop where
 fz:∀ b,g.fz b→g'.fz b∧g'.w.heap[b]?=g.w.heap[b]?
 us:∀ l,g.us l→g'.us l∧g'.blk l=g.blk l∧g.len l≤g'.len l∧(g'.len l=g.len l→g'.des l=g.des l)
theorem Ev.refl (g:Gh):Ev g g:=⟨fun _ h=>⟨h,rfl⟩,fun _ h=>⟨h,rfl,Ai _,fun _=>rfl⟩⟩
theorem Ev.trans {a b c:Gh} (h:Ev a b) (k:Ev b c):Ev a c:=by
 refine⟨fun x hx=>?_,fun l hl=>?_⟩
 ·obtain⟨h1,h2⟩:=h.fz x hx
  obtain⟨k1,k2⟩:=k.fz x h1
  exact⟨k1,k2.trans h2⟩
 ·obtain⟨h1,h2,h3,h4⟩:=h.us l hl
  obtain⟨k1,k2,k3,k4⟩:=k.us l h1
  exact⟨k1,k2.trans h2,Ac h3 k3,fun e=>(k4 (by omega)).trans (h4 (by omega))⟩
theorem Rel.mono {g g':Gh} (he:Ev g g') {a:AV} {v:Value} (h:Rel g a v):Rel g' a v:=by
 induction h with
 | any v=>exact .any v
 | lit v=>exact .lit v
 | agg cs vs hs ho _ ih=>exact .agg cs vs hs ho ih
 | tup cs vs hs _ ih=>exact .tup cs vs hs ih
 | slnil=>exact .slnil
 | sl es b o cap k vs e fr hf hb hc hk hs ho _ ih=>exact .sl es b o cap k vs e fr (he.fz b hf).1 ((he.fz b hf).2.trans hb) hc hk hs ho ih
 | fp cs b o vs e fr hf hb hs ho _ ih=>exact .fp cs b o vs e fr (he.fz b hf).1 ((he.fz b hf).2.trans hb) hs ho ih
 | loc l o hu=>obtain⟨h1,h2,_⟩:=he.us l hu;rw[← h2];exact .loc l o h1
 | ref l o n m v hu hm hc hv =>
  obtain⟨h1,h2,h3,h4⟩:=he.us l hu
  exact .ref l o n m v h1 (by omega) hc (fun e=>by rw[h4 (by omega)];exact hv (by omega))
 | vp l i j m v hu hm hc hv =>
  obtain⟨h1,h2,h3,h4⟩:=he.us l hu
  exact .vp l i j m v h1 (by omega) hc (fun e=>by rw[h4 (by omega)];exact hv (by omega))
 | clo f caps vs hs _ ih=>exact .clo f caps vs hs ih
 | bs l o k n cap hu hc=>obtain⟨h1,h2,_⟩:=he.us l hu;rw[← h2];exact .bs l o k n cap h1 hc
 | zs=>exact .zs
 | mp l hu=>obtain⟨h1,h2,_⟩:=he.us l hu;rw[← h2];exact .mp l h1
def RelL (g:Gh) (cs:List AV) (vs:List Value):Prop:=vs.length=cs.length∧∀ i (h1:i<cs.length) (h2:i<vs.length),Rel g cs[i] vs[i]
theorem RelL.mono {g g':Gh} (he:Ev g g') {cs:List AV} {vs:List Value} (h:RelL g cs vs):RelL g' cs vs:=⟨h.1,fun i h1 h2=>(h.2 i h1 h2).mono he⟩
theorem RelL.nil {g:Gh}:RelL g [] []:=⟨rfl,fun i h1=>by simp at h1⟩
theorem RelL.cons {g:Gh} {c:AV} {cs:List AV} {v:Value} {vs:List Value} (h:Rel g c v) (hs:RelL g cs vs):RelL g (c::cs) (v::vs):=by
 refine⟨by simp[hs.1],fun i h1 h2=>?_⟩
 cases i with
 | zero=>exact h
 | succ i=>exact hs.2 i (by simpa using h1) (by simpa using h2)
inductive Flat:AV→Prop
 | lit (v:Value):Flat (.lit v)
 | agg (cs:List AV) (h:∀ c∈cs,Flat c):Flat (.agg cs)
 | tup (cs:List AV) (h:∀ c∈cs,Flat c):Flat (.tup cs)
theorem Rel.flat {g g':Gh} {a:AV} {v:Value} (h:Rel g a v):Flat a→Rel g' a v:=by
 induction h with
 | any v=>intro hf;cases hf
 | lit v=>intro _;exact .lit v
 | agg cs vs hs ho _ ih=>intro hf;cases hf with|agg _ hf=>exact .agg cs vs hs ho fun i h1 h2=>ih i h1 h2 (hf _ (Ab h1))
 | tup cs vs hs _ ih=>intro hf;cases hf with|tup _ hf=>exact .tup cs vs hs fun i h1 h2=>ih i h1 h2 (hf _ (Ab h1))
 | _=>intro hf;cases hf
def AV.cells:AV→List AV
 | .agg cs=>cs
 | a=>[a]
def AV.solid:AV→Bool
 | .agg _=>true
 | .lit (.agg _)|.lit (.tuple _)=>false
 | .lit _=>true
 | .sl _|.fp _|.loc ..|.clo ..|.ref ..|.vp ..|.bs ..|.zs|.mp ..=>true
 | _=>false
theorem b2y {v:Value} (h:v.oneCell'=true):v.cells=#[v]:=by
 cases v<;>first|rfl|(simp[Value.oneCell']at h)
theorem Rel.cells {g : Gh} {a : AV} {v : Value} (h : Rel g a v) (hsol : a.solid = true) :
  v.cells.size=a.cells.length∧(∀ i (h1:i<a.cells.length) (h2:i<v.cells.size),Rel g a.cells[i] v.cells[i])∧∀ i (h2:i<v.cells.size),v.cells[i].oneCell'=true:=by
 have single : ∀ (a : AV) (v : Value), Rel g a v → v.oneCell' = true → a.cells = [a] →
   v.cells.size=a.cells.length∧(∀ i (h1:i<a.cells.length) (h2:i<v.cells.size),Rel g a.cells[i] v.cells[i])∧∀ i (h2:i<v.cells.size),v.cells[i].oneCell'=true:=by
  intro a v h ho hc
  have hv:=b2y ho
  refine⟨by rw[hv,hc];rfl,fun i h1 h2=>?_,fun i h2=>?_⟩
  ·have:i=0:=by rw[hc]at h1;simpa using h1
   subst this
   simp only[hv,hc]
   exact h
  ·have:i=0:=by rw[hv]at h2;simpa using h2
   subst this
   simp only[hv]
   exact ho
 cases h with
 | any v=>simp[AV.solid]at hsol
 | lit v=>cases v<;>first|exact single _ _ (.lit _) rfl rfl|(simp[AV.solid]at hsol)
 | agg cs vs hs ho h=>exact⟨hs,h,ho⟩
 | tup=>simp[AV.solid]at hsol
 | slnil=>exact single _ _ .slnil rfl rfl
 | sl es b o cap k vs e fr hf hb hc hk hs ho h=>exact single _ _ (.sl es b o cap k vs e fr hf hb hc hk hs ho h) rfl rfl
 | fp cs b o vs e fr hf hb hs ho h=>exact single _ _ (.fp cs b o vs e fr hf hb hs ho h) rfl rfl
 | loc l o hu=>exact single _ _ (.loc l o hu) rfl rfl
 | ref l o n m v hu hm hc hv=>exact single _ _ (.ref l o n m v hu hm hc hv) hc rfl
 | vp l i j m v hu hm hc hv=>exact single _ _ (.vp l i j m v hu hm hc hv) hc rfl
 | clo f caps vs hs h=>exact single _ _ (.clo f caps vs hs h) rfl rfl
 | bs l o k n cap hu hc=>exact single _ _ (.bs l o k n cap hu hc) rfl rfl
 | zs=>exact single _ _ .zs rfl rfl
 | mp l hu=>exact single _ _ (.mp l hu) rfl rfl
theorem zM.{u} {α:Type u}:(∀ {a b:α} {l:List α},a∈b::l↔a=b∨a∈l)∧∀ a:α,a∈([]:List α)↔False:=⟨List.mem_cons,fun _=>⟨fun h=>(List.not_mem_nil h).elim,False.elim⟩⟩
end Go.Sx
namespace Go.Sx
set_option linter.unusedVariables false
structure Cx where
 P:Program
 w0:World
 fz0:Nat→Prop
 W0:Nat→Prop
 K0:Nat→Prop:=fun _=>False
 g0:Gh:=⟨w0,fun _=>False,fun _=>False,fun _=>0,fun _=>⟨none,0,0,0⟩,fun _=>0⟩
 ro:Option Nat:=none
 ds:List Deferred:=[]
def Fw (ro:Option Nat):Fence:={ Fence.wide with round:=ro }
theorem a8q {ro:Option Nat} {n:Nat} {P:Program} {f:FuncId} {args:Array Value} {w:World} {R:Ending→World→Prop} (h:Calls P f args w R):CallsIn (Fw ro) n P f args w R:=(callsIn_wide (n:=n)).2 h
theorem sM {ro : Option Nat} {P : Program} {o : Oper} {a : Act} {w w' : World} {f : FuncId} {args : Array Value} {next : Act → World → Prop} {Q : Exit → Act → World → Prop} (hnd : ∀ cl, o.op ≠ .defer cl) (he : (execOp a.eval o).run P w = .ok (.enter f args) w')
  (h:Calls P f args w' fun
   | .returned v,w''=>next (a.put o.dst v) w''
   | .panicked chain,w''=>Q (.panic chain) a w''
   | .outgrown,_=>LetsOut Q):o.wpIn (Fw ro) 0 P a w next Q:=by
 refine⟨fun _ _=>trivial,?_⟩
 rw[Oper.semAt_eq _ _ _ hnd,he,Oper.uponIn_enter]
 exact⟨fun k=>(by cases k),a8q h⟩
theorem yO {ro:Option Nat} {P:Program} {o:Oper} {a:Act} {w w':World} {v:Value} {next:Act→World→Prop} {Q:Exit→Act→World→Prop} (hnd:∀ cl,o.op≠.defer cl) (he:(execOp a.eval o).run P w=.ok (.value v) w') (h:next (a.put o.dst v) w'):o.wpIn (Fw ro) 0 P a w next Q:=by
 refine⟨fun _ _=>trivial,?_⟩
 rw[Oper.semAt_eq _ _ _ hnd,he]
 exact h
theorem b9g {ro:Option Nat} {P:Program} {o:Oper} {a:Act} {w w':World} {next:Act→World→Prop} {Q:Exit→Act→World→Prop} (hnd:∀ cl,o.op≠.defer cl) (he:(execOp a.eval o).run P w=.ok .skip w') (h:next (a.put o.dst undef) w'):o.wpIn (Fw ro) 0 P a w next Q:=by
 refine⟨fun _ _=>trivial,?_⟩
 rw[Oper.semAt_eq _ _ _ hnd,he]
 exact h
theorem b3w {ro : Option Nat} {P : Program} {o : Oper} {a : Act} {w w' : World} {l : Nat} {f : FuncId} {tm : Array Value} {asg body : Code} {next : Act → World → Prop} {Q : Exit → Act → World → Prop} (hnd : ∀ cl, o.op ≠ .defer cl) (he : (execOp a.eval o).run P w = .ok (.round l f tm asg body) w')
  (h:RoundIn Fence.wide 0 P l f tm asg body w' fun
   | .returned v,w''=>next (a.put o.dst v) w''
   | .panicked chain,w''=>Q (.panic chain) a w''
   | .outgrown,_=>LetsOut Q):o.wpIn (Fw ro) 0 P a w next Q:=by
 refine⟨fun _ _=>trivial,?_⟩
 rw[Oper.semAt_eq _ _ _ hnd,he,Oper.uponIn_round]
 exact⟨fun k=>(by cases k),h⟩
structure MapOk (arr:Array MapEntry) (clock:Nat) (es:List (Value × Value)):Prop where
 ents:arr.toList.map (fun e=>(e.key,e.val))=es
 born:∀ (i:Nat) (e:MapEntry),arr.toList[i]?=some e→e.born=i
 clk:clock=arr.size
 cell:∀ e∈es,∀ i (h:i<e.2.cells.size),e.2.cells[i].oneCell'=true
 kcell:∀ e∈es,∀ i (h:i<e.1.cells.size),e.1.cells[i].oneCell'=true
def ObjOk (g:Gh) (l:Nat):AV→Prop
 | .blk cs=>g.us l∧∃ vs e,g.w.heap[g.blk l]?=some (.cells vs e (0,0))∧vs.size=cs.length∧(∀ i (h2:i<vs.size),vs[i].oneCell'=true)∧∀ i (h1:i<cs.length) (h2:i<vs.size),Rel g cs[i] vs[i]
 | .vec k es => g.us l ∧ (g.des l).k = k ∧ g.len l = es.length ∧ 0 < k ∧ (∀ e ∈ es, e.length = k) ∧
   (((g.des l).b=none∧es=[]∧(g.des l).cap=0) ∨
    ∃ b vs,(g.des l).b=some b∧g.w.heap[b]?=some (.cells vs (g.des l).e (0,0))∧es.length≤(g.des l).cap∧(g.des l).cap≤maxLen∧vs.size=(g.des l).cap*k∧(∀ i (h2:i<vs.size),i<es.length*k→vs[i].oneCell'=true) ∧
     ∀ i (h1:i<es.length) j (h2:j<es[i].length) (h3:i*k+j<vs.size),Rel g es[i][j] vs[i*k+j])
 | .vcp k es cp => (g.us l ∧ (g.des l).k = k ∧ g.len l = es.length ∧ 0 < k ∧ (∀ e ∈ es, e.length = k) ∧
   (((g.des l).b=none∧es=[]∧(g.des l).cap=0) ∨
    ∃ b vs,(g.des l).b=some b∧g.w.heap[b]?=some (.cells vs (g.des l).e (0,0))∧es.length≤(g.des l).cap∧(g.des l).cap≤maxLen∧vs.size=(g.des l).cap*k∧(∀ i (h2:i<vs.size),i<es.length*k→vs[i].oneCell'=true) ∧
     ∀ i (h1:i<es.length) j (h2:j<es[i].length) (h3:i*k+j<vs.size),Rel g es[i][j] vs[i*k+j]))∧(g.des l).cap=cp
 | .mpo es=>g.us l∧∃ arr clock,g.w.heap[g.blk l]?=some (.map arr clock)∧MapOk arr clock es
 | .ito m n seen=>g.us l∧g.us m∧g.w.heap[g.blk l]?=some (.mapIter (some (g.blk m)) n seen.toArray n)
 | .lpo L fn nt ps asg body ts=>g.us l∧g.blk l=L∧∃ tm df,g.w.heap[L]?=some (.loop { state:=.ready,pending:=none,fn:=fn,tmps:=tm,params:=ps.toArray,assign:=asg,body:=body,defers:=df })∧tm.size=nt∧∀ t,Rel g (ts.getD t .any) (tm.getD t undef)
 | _=>True
def aE (g:Gh) (l:Nat):AV→Option Nat
 | .blk _=>some (g.blk l)
 | .vec _ _=>(g.des l).b
 | .vcp ..=>(g.des l).b
 | .mpo _=>some (g.blk l)
 | .ito ..=>some (g.blk l)
 | .lpo ..=>some (g.blk l)
 | _=>none
def Tp (w' w:World):Prop:=w'.tape=w.tape∧w.drawn≤w'.drawn
theorem Tp.rfl {w:World}:Tp w w:=⟨_root_.rfl,Ai _⟩
theorem Tp.trans {a b c:World} (h:Tp a b) (k:Tp b c):Tp a c:=⟨h.1.trans k.1,Ac k.2 h.2⟩
structure GOk (c:Cx) (g:Gh) (ob:Nat→AV):Prop where
 os:g.w.os=c.w0.os
 tape:Tp g.w c.w0
 output:g.w.output=c.w0.output
 size:c.w0.heap.size≤g.w.heap.size
 old:∀ b,b<c.w0.heap.size→¬ c.W0 b→g.w.heap[b]?=c.w0.heap[b]?
 fzo:∀ b,c.fz0 b→g.fz b
 fzn:∀ b,g.fz b→c.fz0 b∨c.W0 b∨c.w0.heap.size≤b
 fzx:∀ b,g.fz b→b<g.w.heap.size
 obj:∀ l,ObjOk g l (ob l)
 own:∀ l b,aE g l (ob l)=some b→(c.W0 b∨c.w0.heap.size≤b)∧¬ g.fz b
 dis:∀ l l' b,aE g l (ob l)=some b→aE g l' (ob l')=some b→l=l'
theorem ObjOk.lt {g:Gh} {l:Nat} {a:AV} {b:Nat} (h:ObjOk g l a) (hb:aE g l a=some b):b<g.w.heap.size:=by
 cases a<;>simp only[aE]at hb<;>try contradiction
 ·obtain⟨_,vs,e,h,_⟩:=h
  obtain rfl:g.blk l=b:=by simpa using hb
  exact Aa.1 h |>.1
 ·obtain⟨_,_,_,_,_,h|⟨b',vs,h,h2,_⟩⟩:=h
  ·rw[h.1]at hb;contradiction
  ·rw[h]at hb;obtain rfl:b'=b:=by simpa using hb
   exact Aa.1 h2 |>.1
 ·obtain⟨_,arr,clock,h,_⟩:=h
  obtain rfl:g.blk l=b:=by simpa using hb
  exact Aa.1 h |>.1
 ·obtain⟨_,_,h⟩:=h
  obtain rfl:g.blk l=b:=by simpa using hb
  exact Aa.1 h |>.1
 ·obtain⟨⟨_,_,_,_,_,h|⟨b',vs,h,h2,_⟩⟩,_⟩:=h
  ·rw[h.1]at hb;contradiction
  ·rw[h]at hb;obtain rfl:b'=b:=by simpa using hb
   exact Aa.1 h2 |>.1
 ·obtain⟨_,rfl,tm,df,h,_⟩:=h
  obtain rfl:g.blk l=b:=by simpa using hb
  exact Aa.1 h |>.1
theorem ObjOk.keep {g g' : Gh} (he : Ev g g') {l : Nat} {a : AV} (h : ObjOk g l a) (hp : g'.des l = g.des l ∧ g'.len l = g.len l)
  (hb:∀ b,aE g l a=some b→g'.w.heap[b]?=g.w.heap[b]?):ObjOk g' l a:=by
 cases a with
 | blk cs =>
  obtain⟨hu,vs,e,h1,h2,ho,h3⟩:=h
  obtain⟨u1,u2,_⟩:=he.us l hu
  exact⟨u1,vs,e,by rw[u2,hb _ rfl];exact h1,h2,ho,fun i h4 h5=>(h3 i h4 h5).mono he⟩
 | vec k es =>
  obtain⟨hu,h1,h2,h3,h4,h5⟩:=h
  obtain⟨u1,u2,_⟩:=he.us l hu
  refine⟨u1,by rw[hp.1];exact h1,by rw[hp.2];exact h2,h3,h4,?_⟩
  rw[hp.1]
  rcases h5 with h5|⟨b,vs,h6,h7,h8,h9,h10,ho,h11⟩
  ·exact .inl h5
  ·exact .inr ⟨b,vs,h6,by rw[hb b (by simp[aE,h6])];exact h7,h8,h9,h10,ho,fun i a1 j a2 a3=>(h11 i a1 j a2 a3).mono he⟩
 | vcp k es cp =>
  obtain⟨⟨hu,h1,h2,h3,h4,h5⟩,h6⟩:=h
  obtain⟨u1,u2,_⟩:=he.us l hu
  refine⟨⟨u1,by rw[hp.1];exact h1,by rw[hp.2];exact h2,h3,h4,?_⟩,by rw[hp.1];exact h6⟩
  rw[hp.1]
  rcases h5 with h5|⟨b,vs,h6,h7,h8,h9,h10,ho,h11⟩
  ·exact .inl h5
  ·exact .inr ⟨b,vs,h6,by rw[hb b (by simp[aE,h6])];exact h7,h8,h9,h10,ho,fun i a1 j a2 a3=>(h11 i a1 j a2 a3).mono he⟩
 | mpo es =>
  obtain⟨hu,arr,clock,h1,h2⟩:=h
  obtain⟨u1,u2,_⟩:=he.us l hu
  exact⟨u1,arr,clock,by rw[u2,hb _ rfl];exact h1,h2⟩
 | ito m n seen =>
  obtain⟨hu,hm,h1⟩:=h
  obtain⟨u1,u2,_⟩:=he.us l hu
  obtain⟨v1,v2,_⟩:=he.us m hm
  exact⟨u1,v1,by rw[u2,v2,hb _ rfl];exact h1⟩
 | lpo L fn nt ps asg body ts =>
  obtain⟨hu,rfl,tm,df,h1,h2,h3⟩:=h
  obtain⟨u1,u2,_⟩:=he.us l hu
  exact⟨u1,u2,tm,df,by rw[hb _ rfl];exact h1,h2,fun t=>(h3 t).mono he⟩
 | _=>trivial
def upd (ob:Nat→AV):List (Nat × AV)→Nat→AV
 | [],l=>ob l
 | (i,a)::r,l=>if i=l then a else upd ob r l
theorem GOk.turn {c : Cx} {g g' : Gh} {ob : Nat → AV} (h : GOk c g ob) (he : Ev g g') (i : Nat) (a : AV)
  (hos:g'.w.os=g.w.os) (htp:Tp g'.w g.w) (hou:g'.w.output=g.w.output) (hsz:g.w.heap.size≤g'.w.heap.size) (hfz:g'.fz=g.fz)
  (hpl:∀ l,l≠i→g'.blk l=g.blk l∧g'.des l=g.des l∧g'.len l=g.len l)
  (hh:∀ b,b<g.w.heap.size→aE g i (ob i)≠some b→g'.w.heap[b]?=g.w.heap[b]?)
  (hi:ObjOk g' i a) (hib:∀ b,aE g' i a=some b→aE g i (ob i)=some b∨g.w.heap.size≤b):GOk c g' (upd ob [(i,a)]):=by
 have hout:∀ l,l≠i→upd ob [(i,a)] l=ob l:=fun l hl=>by simp[upd];intro e;exact absurd e.symm hl
 have hin:upd ob [(i,a)] i=a:=by simp[upd]
 have hbk:∀ l,l≠i→aE g' l (ob l)=aE g l (ob l):=fun l hl=>by
  obtain⟨p1,p2,p3⟩:=hpl l hl
  cases ob l<;>simp[aE,p1,p2]
 have hne:∀ l b,l≠i→aE g l (ob l)=some b→aE g i (ob i)≠some b:=fun l b hl hb hb'=>hl (h.dis l i b hb hb')
 refine⟨by rw[hos];exact h.os,htp.trans h.tape,by rw[hou];exact h.output,Ac h.size hsz,?_,?_,?_,?_,?_,?_,?_⟩
 ·intro b hb hw
  rw[hh b (Ah hb h.size) ?_]
  ·exact h.old b hb hw
  ·intro hbi
   obtain⟨ho,_⟩:=h.own i b hbi
   rcases ho with ho|ho
   ·exact hw ho
   ·omega
 ·intro b hb;rw[hfz];exact h.fzo b hb
 ·intro b hb;rw[hfz]at hb;exact h.fzn b hb
 ·intro b hb;rw[hfz]at hb;exact Ah (h.fzx b hb) hsz
 ·intro l
  by_cases hl:l=i
  ·subst hl;rw[hin];exact hi
  ·rw[hout l hl]
   exact (h.obj l).keep he (hpl l hl).2 fun b hb=>hh b ((h.obj l).lt hb) (hne l b hl hb)
 ·intro l b hb
  by_cases hl:l=i
  ·subst hl
   rw[hin]at hb
   rw[hfz]
   rcases hib b hb with hb'|hb'
   ·exact h.own l b hb'
   ·exact⟨.inr (Ac h.size hb'),fun hf=>by have:=h.fzx b hf;omega⟩
  ·rw[hout l hl,hbk l hl]at hb
   rw[hfz]
   exact h.own l b hb
 ·intro l l' b hb hb'
  by_cases hl:l=i
  ·by_cases hl':l'=i
   ·exact hl.trans hl'.symm
   ·exfalso
    subst hl
    rw[hin]at hb
    rw[hout l' hl',hbk l' hl']at hb'
    rcases hib b hb with hb2|hb2
    ·exact hl' (h.dis l' l b hb' hb2)
    ·have:=(h.obj l').lt hb';omega
  ·by_cases hl':l'=i
   ·exfalso
    subst hl'
    rw[hin]at hb'
    rw[hout l hl,hbk l hl]at hb
    rcases hib b hb' with hb2|hb2
    ·exact hl (h.dis l l' b hb hb2)
    ·have:=(h.obj l).lt hb;omega
   ·rw[hout l hl,hbk l hl]at hb
    rw[hout l' hl',hbk l' hl']at hb'
    exact h.dis l l' b hb hb'
theorem GOk.same {c : Cx} {g : Gh} {ob : Nat → AV} (h : GOk c g ob) (w' : World) (hh : w'.heap = g.w.heap) (hos : w'.os = g.w.os) (htp : Tp w' g.w) (hou : w'.output = g.w.output) :
  Ev g { g with w:=w' }∧GOk c { g with w:=w' } ob:=by
 have he:Ev g { g with w:=w' }:=⟨fun b hb=>⟨hb,by simp[hh]⟩,fun l hl=>⟨hl,rfl,Ai _,fun _=>rfl⟩⟩
 refine⟨he,?_⟩
 refine⟨by simpa [hos]using h.os,htp.trans h.tape,by simpa [hou]using h.output,by simpa [hh]using h.size,fun b hb hw=>by simpa [hh]using h.old b hb hw,h.fzo,h.fzn,fun b hb=>by simpa [hh]using h.fzx b hb,fun l=>(h.obj l).keep he ⟨rfl,rfl⟩ (fun b _=>by simp[hh]),?_,?_⟩
 ·intro l b hb
  exact h.own l b (by cases hq:ob l<;>simp_all[aE])
 ·intro l l' b hb hb'
  exact h.dis l l' b (by cases hq:ob l<;>simp_all[aE]) (by cases hq:ob l'<;>simp_all[aE])
def Lnk (c:Cx) (g:Gh):Prop:=∀ l,c.K0 l→l<8∧g.us l∧g.blk l=c.g0.blk l∧c.g0.len l≤g.len l∧(g.len l=c.g0.len l→g.des l=c.g0.des l)
theorem Lnk.mono {c:Cx} {g g':Gh} (he:Ev g g') (h:Lnk c g):Lnk c g':=fun l hl=>by
 obtain⟨h1,h2,h3,h4,h5⟩:=h l hl
 obtain⟨k1,k2,k3,k4⟩:=he.us l h2
 exact⟨h1,k1,k2.trans h3,Ac h4 k3,fun e=>(k4 (by omega)).trans (h5 (by omega))⟩
def TOk (g:Gh) (rd:Nat→AV) (a:Act):Prop:=True∧∀ t,Rel g (rd t) (a.tmps.getD t undef)
theorem TOk.mono {g g':Gh} (he:Ev g g') {rd:Nat→AV} {a:Act} (h:TOk g rd a):TOk g' rd a:=⟨h.1,fun t=>(h.2 t).mono he⟩
def tO:Value→AV
 | .agg cs=>if cs.all (·.oneCell')then .agg (cs.toList.map .lit)else .any
 | v=>.lit v
theorem b3d (g:Gh) (v:Value):Rel g (tO v) v:=by
 cases v<;>first|exact .lit _|skip
 rename_i cs
 simp only[tO]
 split
 ·rename_i h
  exact .agg _ _ (by simp) (fun i h2=>by simpa using Array.all_eq_true.1 h i h2) (fun i h1 h2=>by simp;exact .lit _)
 ·exact .any _
def rdO (rd:Nat→AV):Operand→AV
 | .tmp t=>rd t
 | .const v=>tO v
 | .func f=>.clo f []
 | .global _=>.any
theorem a0e {g:Gh} {rd:Nat→AV} {a:Act} (h:TOk g rd a) (x:Operand):Rel g (rdO rd x) (a.eval x):=by
 cases x with
 | tmp t=>exact h.2 t
 | const v=>exact b3d g v
 | func f=>exact .clo f [] #[] rfl (fun i h1=>by simp at h1)
 | global _=>exact .any _
structure Eff where
 val:AV
 ob:List (Nat × AV)
 rd:List Nat
def Snd (c:Cx) (o:Oper) (i:Nat) (rd:Nat→AV) (ob:Nat→AV) (e:Eff):Prop :=
 ∀ g a,GOk c g ob→TOk g rd a→¬ g.us i →
  o.wpIn (Fw c.ro) 0 c.P a g.w (fun a' w'=>∃ v g',a'=a.put o.dst v∧g'.w=w'∧Ev g g'∧GOk c g' (upd ob e.ob)∧Rel g' e.val v∧∀ l,g'.us l→g.us l∨l=i) (fun _ _ _=>False)
theorem jR {c : Cx} {o : Oper} {i : Nat} {rd : Nat → AV} {ob : Nat → AV} {e : Eff} (hnd : ∀ cl, o.op ≠ .defer cl)
  (h:∀ g a,GOk c g ob→TOk g rd a→¬ g.us i→∃ v g',(execOp a.eval o).run c.P g.w=.ok (.value v) g'.w∧Ev g g'∧GOk c g' (upd ob e.ob)∧Rel g' e.val v∧∀ l,g'.us l→g.us l∨l=i) :
  Snd c o i rd ob e:=by
 intro g a hg ht hi
 obtain⟨v,g',hr,h1,h2,h3,h4⟩:=h g a hg ht hi
 exact yO hnd hr ⟨v,g',rfl,rfl,h1,h2,h3,h4⟩
theorem b7 {c : Cx} {o : Oper} {i : Nat} {rd : Nat → AV} {ob : Nat → AV} {x : AV} {ls : List Nat} (hnd : ∀ cl, o.op ≠ .defer cl)
  (h:∀ g a,GOk c g ob→TOk g rd a→∃ v,(execOp a.eval o).run c.P g.w=.ok (.value v) g.w∧Rel g x v):Snd c o i rd ob ⟨x,[],ls⟩ :=
 jR hnd fun g a hg ht hi=>let ⟨v,h1,h2⟩:=h g a hg ht;⟨v,g,h1,Ev.refl g,hg,h2,fun l hl=>.inl hl⟩
theorem yI {c : Cx} {o : Oper} {i : Nat} {rd : Nat → AV} {ob : Nat → AV} {ls : List Nat} {e : List (Nat × AV)} (hnd : ∀ cl, o.op ≠ .defer cl)
  (h:∀ g a,GOk c g ob→TOk g rd a→∃ g',(execOp a.eval o).run c.P g.w=.ok .skip g'.w∧Ev g g'∧GOk c g' (upd ob e)∧∀ l,g'.us l→g.us l) :
  Snd c o i rd ob ⟨.any,e,ls⟩:=by
 intro g a hg ht hi
 obtain⟨g',hr,h1,h2,h3⟩:=h g a hg ht
 exact b9g hnd hr ⟨undef,g',rfl,rfl,h1,h2,.any _,fun l hl=>.inl (h3 l hl)⟩
end Go.Sx
namespace Go.Sx
set_option linter.unusedVariables false
def agT (P:Program) (t:TypeId):Option Bool:=(P.underlying t).map fun d=>match d with|.struct _|.array _ _=>true|_=>false
def szT (P:Program) (t:TypeId):Option Nat:=(P.info? t).map (·.size)
theorem pK {P:Program} {t:TypeId} {b:Bool} (h:agT P t=some b) (w:World):(isAgg t).run P w=.ok b w:=by
 unfold agT at h
 cases hu:P.underlying t with
 | none=>simp[hu]at h
 | some d =>
  unfold isAgg
  rw[Sem.run_bind,run_underlying hu w]
  cases d<;>simp_all
theorem eB {P:Program} {t:TypeId} {s:Nat} (h:szT P t=some s) (w:World):(sizeOf t).run P w=.ok s w:=by
 unfold szT at h
 cases hi:P.info? t with
 | none=>simp[hi]at h
 | some i =>
  have:i.size=s:=by simpa [hi]using h
  simp[sizeOf,typeInfo,hi,this]
theorem jG (b o j:Nat):(⟨b,o,none⟩:Addr).add j=⟨b,o+j,none⟩:=by unfold Addr.add;split<;>simp_all
def Seg (g:Gh) (b o:Nat) (cs:List AV):Prop :=
 ∃ vs e fr,g.w.heap[b]?=some (.cells vs e fr)∧o+cs.length≤vs.size∧(∀ j (h1:o+j<vs.size),j<cs.length→vs[o+j].oneCell'=true) ∧
  ∀ j (h1:j<cs.length) (h2:o+j<vs.size),Rel g cs[j] vs[o+j]
theorem Seg.drop {g:Gh} {b o:Nat} {cs:List AV} (h:Seg g b o cs) (n:Nat) (hn:n≤cs.length):Seg g b (o+n) (cs.drop n):=by
 obtain⟨vs,e,fr,h1,h2,h3,h4⟩:=h
 refine⟨vs,e,fr,h1,by simp;omega,fun j hj hjl=>?_,fun j hj hj2=>?_⟩
 ·have:=h3 (n+j) (by omega) (by simp at hjl;omega)
  simpa only[Aj]using this
 ·have hl:n+j<cs.length:=by simp at hj;omega
  have:=h4 (n+j) hl (by omega)
  simp only[Ad]
  simpa only[Aj]using this
theorem Seg.cell {g : Gh} {b o : Nat} {cs : List AV} (h : Seg g b o cs) (j : Nat) (hj : j < cs.length) :
  ∃ v,g.w.cell? ⟨b,o+j,none⟩=some v∧Rel g cs[j] v∧v.oneCell'=true:=by
 obtain⟨vs,e,fr,h1,h2,h3,h4⟩:=h
 have hlt:o+j<vs.size:=by omega
 exact⟨vs[o+j],by simp[World.cell?,h1,hlt],h4 j hj hlt,h3 j hlt hj⟩
theorem Seg.vals {g : Gh} {b o : Nat} {cs : List AV} (h : Seg g b o cs) :
  ∃ us:List Value,us.length=cs.length∧(∀ j v,us[j]?=some v→g.w.cell? ⟨b,o+j,none⟩=some v)∧(∀ i (h1:i<cs.length) (h2:i<us.length),Rel g cs[i] us[i])∧∀ v∈us,v.oneCell'=true:=by
 obtain⟨vs,e,fr,h1,h2,h3,h4⟩:=h
 refine⟨(vs.toList.drop o).take cs.length,by simp;omega,fun j v hv=>?_,fun i hi hi2=>?_,fun v hv=>?_⟩
 ·rw[List.getElem?_take]at hv
  split at hv
  ·rename_i hj
   simp only[List.getElem?_drop,Array.getElem?_toList]at hv
   simp[World.cell?,h1,hv]
  ·contradiction
 ·simp only[Ae,Ad,Af]
  exact h4 i hi (by omega)
 ·obtain⟨i,hi,rfl⟩:=List.getElem_of_mem hv
  simp only[Ae,Ad,Af]
  simp at hi
  exact h3 i (by omega) (by omega)
def mk (ag:Bool) (s:Nat) (cs:List AV):AV:=if ag then .agg (cs.take s)else cs.headD .any
theorem yD {P : Program} {g : Gh} {t : TypeId} {ag : Bool} {s b o : Nat} {cs : List AV} (ha : agT P t = some ag) (hs : szT P t = some s) (h1 : ag = true ∨ s = 1) (h : Seg g b o cs) (hl : s ≤ cs.length) :
  ∃ v,(loadVar t ⟨b,o,none⟩).run P g.w=.ok v g.w∧Rel g (mk ag s cs) v:=by
 have ht:Seg g b o (cs.take s):=by
  obtain⟨vs,e,fr,a1,a2,a3,a4⟩:=h
  refine⟨vs,e,fr,a1,by simp;omega,fun j hj hjl=>a3 j hj (by simp at hjl;omega),fun j hj hj2=>?_⟩
  simp only[Ae]
  exact a4 j (by simp at hj;omega) hj2
 cases ag with
 | true =>
  obtain⟨us,u1,u2,u3,u4⟩:=ht.vals
  have hll:us.length=s:=by simp[u1];omega
  have hr:=run_loadCells_list (P:=P) g.w ⟨b,o,none⟩ us (fun j v hv=>by rw[jG];exact u2 j v hv)
  rw[hll]at hr
  refine⟨.agg us.toArray,?_,?_⟩
  ·unfold loadVar
   simp[Sem.run_bind,pK ha,eB hs,hr]
  ·simp only[mk,if_true]
   refine .agg _ _ (by simpa using u1) (fun i hi=>?_) (fun i hi hi2=>?_)
   ·simp
    exact u4 _ (Ab _)
   ·simp
    have:=u3 i hi (by simpa using hi2)
    simpa using this
 | false =>
  have hs1:s=1:=by simpa using h1
  subst hs1
  obtain⟨v,v1,v2,v3⟩:=h.cell 0 (by omega)
  refine⟨v,?_,?_⟩
  ·unfold loadVar
   simp only[Nat.add_zero]at v1
   simp[Sem.run_bind,pK ha,v1]
  ·cases cs with
   | nil=>simp at hl
   | cons c cs=>exact v2
theorem a3j {c:Cx} {g:Gh} {ob:Nat→AV} (h:GOk c g ob) {l:Nat} {cs:List AV} (hl:ob l=.blk cs):Seg g (g.blk l) 0 cs:=by
 have:=h.obj l
 rw[hl]at this
 obtain⟨_,vs,e,h1,h2,h3,h4⟩:=this
 refine⟨vs,e,(0,0),h1,by omega,fun j hj _=>h3 _ _,fun j hj hj2=>?_⟩
 have:=h4 j hj (by omega)
 simpa only[Ak]using this
theorem a3i {c : Cx} {g : Gh} {ob : Nat → AV} (h : GOk c g ob) {l k : Nat} {es : List (List AV)} (hl : ob l = .vec k es) {i : Nat} (hi : i < es.length) :
  ∃ b,(g.des l).b=some b∧Seg g b (i*k) es[i]:=by
 have:=h.obj l
 rw[hl]at this
 obtain⟨_,hk,hlen,hk0,hke,h5|⟨b,vs,h6,h7,h8,h9,h10,h11,h12⟩⟩:=this
 ·obtain⟨_,rfl,_⟩:=h5
  simp at hi
 ·have he:es[i].length=k:=hke _ (Ab _)
  have hik:i*k+k≤es.length*k:=by
   have:(i+1)*k≤es.length*k:=Ag _ hi
   rw[Nat.add_mul]at this;omega
  have hcap:es.length*k≤(g.des l).cap*k:=Ag _ h8
  refine⟨b,h6,vs,_,(0,0),h7,by omega,fun j hj hjl=>h11 _ _ (by omega),fun j hj hj2=>h12 i hi j hj hj2⟩
theorem vQ {g:Gh} {cs:List AV} {v:Value} (h:Rel g (.fp cs) v):∃ b o,v=.pointer (some ⟨b,o,none⟩)∧g.fz b∧Seg g b o cs:=by
 cases h with
 | fp _ b o vs e fr hf hb hs ho h=>exact⟨b,o,rfl,hf,vs,e,fr,hb,hs,fun j h1 h2=>ho j h1 h2,h⟩
theorem sU {g:Gh} {cs:List AV} {b o:Nat} (hf:g.fz b) (h:Seg g b o cs):Rel g (.fp cs) (.pointer (some ⟨b,o,none⟩)):=by
 obtain⟨vs,e,fr,h1,h2,h3,h4⟩:=h
 exact .fp cs b o vs e fr hf h1 h2 (fun j h1 h2=>h3 j h1 h2) h4
def jM (ag:Bool) (s:Nat) (a:AV) (ob:Nat→AV) (E:Eff→Prop):Prop :=
 match a with
 | .fp cs=>s≤cs.length∧E ⟨mk ag s cs,[],[]⟩
 | .loc l o=>match ob l with
  | .blk cs=>o+s≤cs.length∧E ⟨mk ag s (cs.drop o),[],[l]⟩
  | _=>False
 | .vp l i j m=>match ob l with
  | .vec k es=>m=es.length∧i<es.length∧j+s≤k∧E ⟨mk ag s ((es.getD i []).drop j),[],[l]⟩
  | _=>False
 | _=>False
theorem a5x {c : Cx} {g : Gh} {ob : Nat → AV} {t : TypeId} {ag : Bool} {s : Nat} {a : AV} {v : Value} {E : Eff → Prop} (ha : agT c.P t = some ag) (hs : szT c.P t = some s) (h1 : ag = true ∨ s = 1)
  (hE:jM ag s a ob E):∃ e,E e∧e.ob=[]∧∀ ob',(∀ l∈e.rd,ob' l=ob l)→∀ g v,GOk c g ob'→Rel g a v→∃ u,(Instr.loadAt t v).run c.P g.w=.ok u g.w∧Rel g e.val u:=by
 unfold jM at hE
 split at hE
 ·rename_i cs
  obtain⟨hl,hE⟩:=hE
  refine⟨_,hE,rfl,fun ob' ho g v hg hr=>?_⟩
  obtain⟨b,o,rfl,hf,hseg⟩:=vQ hr
  obtain⟨u,hu,hu2⟩:=yD ha hs h1 hseg hl
  exact⟨u,by simpa [Instr.loadAt,Instr.sureAddr]using hu,hu2⟩
 ·rename_i l o
  split at hE
  ·rename_i cs hob
   obtain⟨hl,hE⟩:=hE
   refine⟨_,hE,rfl,fun ob' ho g v hg hr=>?_⟩
   have hob':ob' l=.blk cs:=by rw[ho l (by simp),hob]
   cases hr with
   | loc _ _ hu =>
    have hseg:=(a3j hg hob').drop o (by omega)
    obtain⟨u,hu,hu2⟩:=yD ha hs h1 hseg (by simp;omega)
    simp only[Ak]at hu
    exact⟨u,by simpa [Instr.loadAt,Instr.sureAddr]using hu,hu2⟩
  ·exact hE.elim
 ·rename_i l i j m
  split at hE
  ·rename_i k es hob
   obtain⟨hm,hi,hj,hE⟩:=hE
   refine⟨_,hE,rfl,fun ob' ho g v hg hr=>?_⟩
   have hob':ob' l=.vec k es:=by rw[ho l (by simp),hob]
   have hok:=hg.obj l
   rw[hob']at hok
   cases hr with
   | vp _ _ _ _ _ hu hm' hc hv =>
    obtain⟨b,hb,rfl⟩:=hv (by rw[hok.2.2.1,hm])
    obtain⟨b',hb',hseg⟩:=a3i hg hob' hi
    obtain rfl:b=b':=by simpa [hb]using hb'
    have hlen:es[i].length=k:=hok.2.2.2.2.1 _ (Ab _)
    have hseg:=hseg.drop j (by omega)
    obtain⟨u,hu,hu2⟩:=yD ha hs h1 hseg (by simp;omega)
    refine⟨u,?_,by simpa [List.getD,List.getElem?_eq_getElem hi]using hu2⟩
    rw[hok.2.1]
    simpa [Instr.loadAt,Instr.sureAddr]using hu
  ·exact hE.elim
 ·exact hE.elim
end Go.Sx
