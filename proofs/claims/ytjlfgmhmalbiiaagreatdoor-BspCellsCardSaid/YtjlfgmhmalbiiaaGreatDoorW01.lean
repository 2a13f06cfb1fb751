import Derived.Laws.StructEq
import Derived.Test.YtjlfgmhmalbiiaaGreatDoorW00
set_option linter.all false
open Array renaming getElem_toList → Aa
open Bool renaming and_eq_true → Af
open Int renaming not_lt → Ar
open List renaming getElem_toArray → Ab, size_toArray → Ac, length_cons → Ag, eq_nil_of_length_eq_zero → Ah, drop_drop → Ai, getElem_append → Am, take_succ_cons → An, drop_succ_cons → Ao, getElem_mem → Ap, range → As
open Nat renaming mul_le_mul_right → Ad, le_refl → Al, add_mul → Aq
open Option renaming some → Ae, bind_some → Aj, map_some → Ak
namespace Go.Sx
set_option linter.unusedVariables false
def qJ (s:Nat) (a x:AV) (ob:Nat→AV) (E:Eff→Prop):Prop :=
 x.solid=true∧x.cells.length=s ∧
 match a with
 | .loc l o=>match ob l with
  | .blk cs=>o+s≤cs.length∧E ⟨.any,[(l,.blk (cs.take o++x.cells++cs.drop (o+s)))],[l]⟩
  | _=>False
 | .vp l i j m=>match ob l with
  | .vec k es=>m=es.length∧i<es.length∧j+s≤k∧E ⟨.any,[(l,.vec k (es.set i ((es.getD i []).take j++x.cells++(es.getD i []).drop (j+s))))],[l]⟩
  | _=>False
 | _=>False
theorem iS {α : Type} (xs ys : List α) (o i : Nat) (ho : o + ys.length ≤ xs.length) (h : i < (xs.take o ++ ys ++ xs.drop (o + ys.length)).length) (hx : i < xs.length) :
  (xs.take o++ys++xs.drop (o+ys.length))[i]=if h:o≤i∧i<o+ys.length then ys[i - o]'(by omega)else xs[i]:=by
 rw[Am]
 split
 ·rename_i h1
  rw[Am]
  split
  ·rename_i h2
   simp at h2
   rw[dif_neg (by omega)]
   simp
  ·rename_i h2
   simp at h1 h2
   rw[dif_pos (by omega)]
   congr 1
   simp;omega
 ·rename_i h1
  simp at h1
  rw[dif_neg (by omega)]
  simp only[List.getElem_drop,List.length_append,List.length_take]
  congr 1
  omega
theorem dB {α:Type} (xs ys:List α) (o:Nat) (ho:o+ys.length≤xs.length):(xs.take o++ys++xs.drop (o+ys.length)).length=xs.length:=by
 simp;omega
theorem yH {c : Cx} {g : Gh} {ob : Nat → AV} (h : GOk c g ob) {l b : Nat} (hb : aE g l (ob l) = some b) (vs : Array Value) (e : TypeId) (hh : g.w.heap[b]? = some (.cells vs e (0, 0))) (vs' : Array Value)
  (a:AV) (hi:ObjOk { g with w:=g.w.setRow b vs' } l a) (ha:aE { g with w:=g.w.setRow b vs' } l a=some b) :
  Ev g { g with w:=g.w.setRow b vs' }∧GOk c { g with w:=g.w.setRow b vs' } (upd ob [(l,a)]):=by
 have hown:=h.own l b hb
 have he:Ev g { g with w:=g.w.setRow b vs' }:=⟨fun b' hb'=>⟨hb',setRow_other _ _ _ _ (fun e=>by subst e;exact hown.2 hb')⟩,fun l hl=>⟨hl,rfl,Al _,fun _=>rfl⟩⟩
 refine⟨he,h.turn he l a rfl Tp.rfl rfl (by simp) rfl (fun _ _=>⟨rfl,rfl,rfl⟩) (fun b' _ hne=>setRow_other _ _ _ _ (fun e=>hne (by rw[e];exact hb))) hi (fun b' hb'=>.inl ?_)⟩
 rw[ha]at hb'
 rw[hb]
 exact hb'
theorem y7 {c:Cx} {g:Gh} {ob:Nat→AV} (h:GOk c g ob) {l b:Nat} (hb:aE g l (ob l)=some b) (vs':Array Value):Ev g { g with w:=g.w.setRow b vs' } :=
 ⟨fun b' hb'=>⟨hb',setRow_other _ _ _ _ (fun e=>by subst e;exact (h.own l b' hb).2 hb')⟩,fun l hl=>⟨hl,rfl,Al _,fun _=>rfl⟩⟩
theorem a2w {P : Program} {w : World} {t : TypeId} {s b o : Nat} {v : Value} {vs : Array Value} {e : TypeId} (hs : szT P t = some s) (hv : v.cells.size = s) (h1 : ∀ i (h : i < v.cells.size), v.cells[i].oneCell' = true)
  (hb:w.heap[b]?=some (.cells vs e (0,0))) (hl:o+s≤vs.size) :
  (Instr.storeAt t (.pointer (some ⟨b,o,none⟩)) v).run P w=.ok () (w.setRow b (vs.toList.take o++v.cells.toList++vs.toList.drop (o+v.cells.toList.length)).toArray):=by
 have hr:=run_storeCells_at P b o e v.cells.toList 0 vs w hb (by simp;omega) (fun x hx=>by
  obtain⟨i,hi,rfl⟩:=List.getElem_of_mem hx
  simpa using h1 i (by simpa using hi))
 simp only[Nat.add_zero]at hr
 simp[Instr.storeAt,Instr.sureAddr,storeVar,Sem.run_bind,eB hs,hv,hr]
theorem b5p {c : Cx} {ob : Nat → AV} {t : TypeId} {s : Nat} {a x : AV} {E : Eff → Prop} (hs : szT c.P t = some s) (hE : qJ s a x ob E) :
  ∃ e,E e∧e.val=.any∧∀ ob',(∀ l∈e.rd,ob' l=ob l)→∀ g v u,GOk c g ob'→Rel g a v→Rel g x u →
   ∃ g',(Instr.storeAt t v u).run c.P g.w=.ok () g'.w∧Ev g g'∧GOk c g' (upd ob' e.ob)∧∀ l,g'.us l→g.us l:=by
 unfold qJ at hE
 obtain⟨hsol,hlen,hE⟩:=hE
 split at hE
 ·rename_i l o
  split at hE
  ·rename_i cs hob
   obtain⟨hl,hE⟩:=hE
   refine⟨_,hE,rfl,fun ob' ho g v u hg hr hx=>?_⟩
   have hob':ob' l=.blk cs:=by rw[ho l (by simp),hob]
   obtain⟨hc1,hc2,hc3⟩:=hx.cells hsol
   cases hr with
   | loc _ _ hu =>
    have hok:=hg.obj l
    rw[hob']at hok
    obtain⟨_,vs,e,h1,h2,h3,h4⟩:=hok
    have hb:aE g l (ob' l)=some (g.blk l):=by rw[hob'];rfl
    have hr:=a2w (P:=c.P) (t:=t) (o:=o) (v:=u) hs (by omega) hc3 h1 (by omega)
    have hle:o+u.cells.toList.length≤vs.toList.length:=by simp;omega
    have hle2:o+x.cells.length≤cs.length:=by omega
    have hev:=y7 hg hb (vs.toList.take o++u.cells.toList++vs.toList.drop (o+u.cells.toList.length)).toArray
    obtain⟨he,hg'⟩:=yH hg hb vs e h1 (vs.toList.take o++u.cells.toList++vs.toList.drop (o+u.cells.toList.length)).toArray (.blk (cs.take o++x.cells++cs.drop (o+s)))
     (by
      refine⟨hu,_,e,setRow_heap _ _ _ _ _ _ h1,?_,fun i hi=>?_,fun i hi hi2=>?_⟩
      ·subst hlen
       rw[dB _ _ _ hle2,Ac,dB _ _ _ hle]
       simpa using h2
      ·simp only[Ac]at hi
       rw[dB _ _ _ hle]at hi
       simp only[Ab]
       rw[iS _ _ _ _ hle (by rw[dB _ _ _ hle];exact hi) hi]
       split
       ·simp;exact hc3 _ _
       ·simp;exact h3 _ _
      ·subst hlen
       have hi':i<cs.length:=by rw[dB _ _ _ hle2]at hi;exact hi
       have hi3:i<vs.toList.length:=by simp;omega
       simp only[Ab]
       rw[iS _ _ _ _ hle2 hi hi',iS _ _ _ _ hle (by rw[dB _ _ _ hle];exact hi3) hi3]
       have e1:u.cells.toList.length=x.cells.length:=by simp[hc1]
       by_cases hc:o≤i∧i<o+x.cells.length
       ·rw[dif_pos hc,dif_pos (by omega)]
        simp only[Aa]
        exact (hc2 (i - o) (by omega) (by omega)).mono hev
       ·rw[dif_neg hc,dif_neg (by omega)]
        simp only[Aa]
        exact (h4 i hi' (by omega)).mono hev)
     rfl
    exact⟨_,hr,he,hg',fun l hl=>hl⟩
  ·exact hE.elim
 ·rename_i l i j m
  split at hE
  ·rename_i k es hob
   obtain⟨hm,hi,hj,hE⟩:=hE
   refine⟨_,hE,rfl,fun ob' ho g v u hg hr hx=>?_⟩
   have hob':ob' l=.vec k es:=by rw[ho l (by simp),hob]
   obtain⟨hc1,hc2,hc3⟩:=hx.cells hsol
   have hok:=hg.obj l
   rw[hob']at hok
   obtain⟨hus,hk,hln,hk0,hke,h5|⟨b,vs,h6,h7,h8,h9,h10,h11,h12⟩⟩:=hok
   ·obtain⟨_,rfl,_⟩:=h5
    simp at hi
   cases hr with
   | vp _ _ _ _ _ hu hm' hc hv =>
    obtain⟨b',hb',rfl⟩:=hv (by rw[hln,hm])
    obtain rfl:b=b':=by simpa [h6]using hb'
    rw[hk]
    have hb:aE g l (ob' l)=some b:=by rw[hob'];exact h6
    have hei:es[i].length=k:=hke _ (Ap _)
    have hik:i*k+k≤es.length*k:=by
     have:(i+1)*k≤es.length*k:=Ad _ hi
     rw[Aq]at this;omega
    have hcap:es.length*k≤(g.des l).cap*k:=Ad _ h8
    have hr:=a2w (P:=c.P) (t:=t) (o:=i*k+j) (v:=u) hs (by omega) hc3 h7 (by omega)
    have hle:i*k+j+u.cells.toList.length≤vs.toList.length:=by simp;omega
    have hev:=y7 hg hb (vs.toList.take (i*k+j)++u.cells.toList++vs.toList.drop (i*k+j+u.cells.toList.length)).toArray
    have hgd:es.getD i []=es[i]:=by simp[List.getD,List.getElem?_eq_getElem hi]
    have hle2:j+x.cells.length≤es[i].length:=by omega
    subst hlen
    obtain⟨he,hg'⟩:=yH hg hb vs _ h7 (vs.toList.take (i*k+j)++u.cells.toList++vs.toList.drop (i*k+j+u.cells.toList.length)).toArray
     (.vec k (es.set i (es[i].take j++x.cells++es[i].drop (j+x.cells.length))))
     (by
      refine⟨hus,hk,by simpa using hln,hk0,fun e' he'=>?_,.inr ⟨b,_,h6,setRow_heap _ _ _ _ _ _ h7,by simpa using h8,h9,?_,fun q hq hq2=>?_,fun p hp q hq hq2=>?_⟩⟩
      ·rcases List.mem_or_eq_of_mem_set he' with h|h
       ·exact hke _ h
       ·rw[h,dB _ _ _ hle2];exact hei
      ·rw[Ac,dB _ _ _ hle]
       simpa using h10
      ·simp only[Ac]at hq
       rw[dB _ _ _ hle]at hq
       simp only[Ab]
       rw[iS _ _ _ _ hle (by rw[dB _ _ _ hle];exact hq) hq]
       split
       ·simp;exact hc3 _ _
       ·simp;exact h11 _ _ (by simpa using hq2)
      ·have hq3:p*k+q<vs.toList.length:=by
        simp only[Ac]at hq2
        rw[dB _ _ _ hle]at hq2
        exact hq2
       have hp':p<es.length:=by simpa using hp
       simp only[Ab]
       rw[iS _ _ _ _ hle (by rw[dB _ _ _ hle];exact hq3) hq3]
       have e1:u.cells.toList.length=x.cells.length:=by simp[hc1]
       by_cases hpi:p=i
       ·subst hpi
        simp only[List.getElem_set_self]at hq ⊢
        have hqk:q<es[p].length:=by rw[dB _ _ _ hle2]at hq;exact hq
        rw[iS _ _ _ _ hle2 hq hqk]
        by_cases hc:j≤q∧q<j+x.cells.length
        ·rw[dif_pos hc,dif_pos (by omega)]
         simp only[Aa]
         have:=(hc2 (q - j) (by omega) (by omega)).mono hev
         have e2:p*k+q - (p*k+j)=q - j:=by omega
         simp only[e2]
         exact this
        ·rw[dif_neg hc,dif_neg (by omega)]
         simp only[Aa]
         exact (h12 p hp' q hqk (by simpa using hq3)).mono hev
       ·simp only[List.getElem_set_ne (Ne.symm hpi)]at hq ⊢
        have hep:es[p].length=k:=hke _ (Ap _)
        have hout:¬ (i*k+j≤p*k+q∧p*k+q<i*k+j+u.cells.toList.length):=by
         intro hcon
         rcases Nat.lt_or_gt_of_ne hpi with hlt|hlt
         ·have:(p+1)*k≤i*k:=Ad _ hlt
          rw[Aq]at this;omega
         ·have:(i+1)*k≤p*k:=Ad _ hlt
          rw[Aq]at this;omega
        rw[dif_neg hout]
        simp only[Aa]
        exact (h12 p hp' q hq (by simpa using hq3)).mono hev)
     h6
    refine⟨_,hr,he,?_,fun l hl=>hl⟩
    rw[hgd]
    exact hg'
  ·exact hE.elim
 ·exact hE.elim
theorem a7s {c : Cx} {g : Gh} {ob : Nat → AV} (h : GOk c g ob) (i : Nat) (hi : ¬ g.us i) (cs : List AV) (vs : Array Value) (e : TypeId) (hs : vs.size = cs.length)
  (h1:∀ j (h2:j<vs.size),vs[j].oneCell'=true) (hr:∀ j (h1:j<cs.length) (h2:j<vs.size),Rel g cs[j] vs[j]) (w:World) (hw:w.heap=g.w.heap) (ho:w.os=g.w.os) (ht:Tp w g.w) (hu:w.output=g.w.output) :
  ∃ g':Gh,g'.w=w.alloc (.cells vs e)∧Ev g g'∧GOk c g' (upd ob [(i,.blk cs)])∧Rel g' (.loc i 0) (.pointer (some ⟨w.heap.size,0,none⟩))∧∀ l,g'.us l→g.us l∨l=i:=by
 have hold:∀ b,b<g.w.heap.size→(w.alloc (.cells vs e)).heap[b]?=g.w.heap[b]?:=fun b hb=>by rw[Go.RowKit.Below.heap_alloc _ _ _ (by rw[hw];exact hb),hw]
 have he:Ev g { g with w:=w.alloc (.cells vs e),us:=fun l=>g.us l∨l=i,blk:=fun l=>if l=i then w.heap.size else g.blk l }:=by
  refine⟨fun b hb=>⟨hb,hold b (h.fzx b hb)⟩,fun l hl=>⟨.inl hl,?_,Al _,fun _=>rfl⟩⟩
  show (if l=i then _ else _)=_
  rw[if_neg (by rintro rfl;exact hi hl)]
 refine⟨_,rfl,he,?_,?_,fun l hl=>hl⟩
 ·refine h.turn he i (.blk cs) ho ht hu (by simp[hw]) rfl (fun l hl=>⟨if_neg hl,rfl,rfl⟩) (fun b hb _=>hold b hb) ?_ ?_
  ·refine⟨.inr rfl,vs,e,?_,hs,h1,fun j a1 a2=>(hr j a1 a2).mono he⟩
   show (w.alloc _).heap[if i=i then _ else _]?=_
   rw[if_pos rfl]
   exact heap_alloc_new w _
  ·intro b hb
   right
   have:w.heap.size=b:=by simpa [aE]using hb
   rw[← this,hw]
   exact Al _
 ·have:=Rel.loc (g:={ g with w:=w.alloc (.cells vs e),us:=fun l=>g.us l∨l=i,blk:=fun l=>if l=i then w.heap.size else g.blk l }) i 0 (.inr rfl)
  simpa using this
end Go.Sx
namespace Go.Sx
set_option linter.unusedVariables false
def r9 (op:BinOp) (k:IntKind) (a b:Int) (E:Value→Prop):Prop :=
 match op with
 | .add=>E (.int k (k.wrap (a+b)))
 | .sub=>E (.int k (k.wrap (a - b)))
 | .mul=>E (.int k (k.wrap (a*b)))
 | .quo=>b≠0∧E (.int k (k.wrap (a.tdiv b)))
 | .rem=>b≠0∧E (.int k (a.tmod b))
 | .and=>E (.int k (k.wrap (BitVec.ofInt k.bits a &&& BitVec.ofInt k.bits b).toNat))
 | .or=>E (.int k (k.wrap (BitVec.ofInt k.bits a ||| BitVec.ofInt k.bits b).toNat))
 | .xor=>E (.int k (k.wrap (BitVec.ofInt k.bits a ^^^ BitVec.ofInt k.bits b).toNat))
 | .andNot=>False
 | .shl=>0≤b∧E (.int k (k.wrap (a*2 ^ (min b.toNat k.bits))))
 | .shr=>0≤b∧E (.int k (a.fdiv (2 ^ (min b.toNat k.bits))))
 | .eql=>E (.bool (decide (a=b)))
 | .neq=>E (.bool (!decide (a=b)))
 | .lss=>E (.bool (decide (a<b)))
 | .leq=>E (.bool (decide (a≤b)))
 | .gtr=>E (.bool (decide (b<a)))
 | .geq=>E (.bool (decide (b≤a)))
theorem c3c {P : Program} {op : BinOp} {k k' : IntKind} {a b : Int} {E : Value → Prop} (t : TypeId) (hk : k = k' ∨ op = .shl ∨ op = .shr) (h : r9 op k a b E) :
  ∃ v,E v∧∀ w,(binOp op t (.int k a) (.int k' b)).run P w=.ok v w:=by
 cases op<;>simp only[r9]at h
 case add=>obtain rfl:k=k':=(by simpa using hk);exact⟨_,h,fun w=>by simp[binOp,Op.intArith]⟩
 case sub=>obtain rfl:k=k':=(by simpa using hk);exact⟨_,h,fun w=>by simp[binOp,Op.intArith]⟩
 case mul=>obtain rfl:k=k':=(by simpa using hk);exact⟨_,h,fun w=>by simp[binOp,Op.intArith]⟩
 case quo=>obtain rfl:k=k':=(by simpa using hk);exact⟨_,h.2,fun w=>by simp[binOp,Op.intDiv,h.1]⟩
 case rem=>obtain rfl:k=k':=(by simpa using hk);exact⟨_,h.2,fun w=>by simp[binOp,Op.intDiv,h.1]⟩
 case and=>obtain rfl:k=k':=(by simpa using hk);exact⟨_,h,fun w=>by simp[binOp,Op.intBits]⟩
 case or=>obtain rfl:k=k':=(by simpa using hk);exact⟨_,h,fun w=>by simp[binOp,Op.intBits]⟩
 case xor=>obtain rfl:k=k':=(by simpa using hk);exact⟨_,h,fun w=>by simp[binOp,Op.intBits]⟩
 case shl=>exact⟨_,h.2,fun w=>by simp[binOp,Op.shift,Ar.2 h.1]⟩
 case shr=>exact⟨_,h.2,fun w=>by simp[binOp,Op.shift,Ar.2 h.1]⟩
 case eql=>obtain rfl:k=k':=(by simpa using hk);exact⟨_,h,fun w=>by simp[binOp,Op.intCmp];rfl⟩
 case neq=>obtain rfl:k=k':=(by simpa using hk);exact⟨_,h,fun w=>by simp[binOp,Op.intCmp];rfl⟩
 case lss=>obtain rfl:k=k':=(by simpa using hk);exact⟨_,h,fun w=>by simp[binOp,Op.intCmp]⟩
 case leq=>obtain rfl:k=k':=(by simpa using hk);exact⟨_,h,fun w=>by simp[binOp,Op.intCmp]⟩
 case gtr=>obtain rfl:k=k':=(by simpa using hk);exact⟨_,h,fun w=>by simp[binOp,Op.intCmp]⟩
 case geq=>obtain rfl:k=k':=(by simpa using hk);exact⟨_,h,fun w=>by simp[binOp,Op.intCmp]⟩
def boT (P:Program) (t:TypeId):Bool:=match P.underlying t with|some .bool=>true|_=>false
def pA (P:Program) (op:BinOp) (t:TypeId) (x y:Value) (E:Value→Prop):Prop :=
 match x,y with
 | .string a,.string b=>match op with
  | .add=>(a.size+b.size:Nat)≤9223372036854775807∧E (.string (a++b))
  | .eql=>E (.bool (decide (a=b)))
  | .neq=>E (.bool (!decide (a=b)))
  | _=>False
 | .bool a,.bool b=>boT P t=true∧match op with
  | .eql=>E (.bool (a == b))
  | .neq=>E (.bool (!(a == b)))
  | _=>False
 | _,_=>False
theorem yB (a b:ByteArray):(a.toList == b.toList)=decide (a=b):=by
 have key:a.toList=b.toList↔a=b:=by
  constructor
  ·intro h
   simp only[ByteArray.toList_eq]at h
   cases a;cases b
   simp at h
   simp[h]
  ·intro h;rw[h]
 by_cases h:a=b
 ·simp[h]
 ·simp[h,key]
theorem a6r {P : Program} {op : BinOp} {t : TypeId} {x y : Value} {E : Value → Prop} (h : pA P op t x y E) :
  ∃ v,E v∧∀ w,(binOp op t x y).run P w=.ok v w:=by
 unfold pA at h
 split at h
 ·rename_i a b
  split at h
  ·refine⟨_,h.2,fun w=>?_⟩
   have:¬ (IntKind.i64.max<((a.size+b.size:Nat):Int)):=by
    have:=h.1
    simp[IntKind.max,IntKind.bits,IntKind.signed]
    omega
   simp[binOp,Op.stringOp]
   simpa using this
  ·exact⟨_,h,fun w=>by simp only[binOp,Op.stringOp,yB];rfl⟩
  ·exact⟨_,h,fun w=>by simp only[binOp,Op.stringOp,yB];rfl⟩
  ·exact h.elim
 ·rename_i a b
  obtain⟨hb,h⟩:=h
  have hu:P.underlying t=some .bool:=by
   unfold boT at hb
   split at hb
   ·assumption
   ·contradiction
  have he:∀ w,(Op.equal t (.bool a) (.bool b)).run P w=.ok (a == b) w:=fun w=>run_equalIn_bool' w 9999 t a b hu
  split at h
  ·exact⟨_,h,fun w=>by simp[binOp,he]⟩
  ·exact⟨_,h,fun w=>by simp[binOp,he]⟩
  ·exact h.elim
 ·exact h.elim
theorem yL {P:Program} (op:BinOp) (t:TypeId) (x y:Operand) (a b:Value) (ha:∀ cs,a≠.agg cs) (hi:a≠.nilIface) (w:World):(eqGuard op t x y a b).run P w=.ok () w:=by
 unfold eqGuard
 cases op<;>cases a<;>cases b<;>simp_all
end Go.Sx
namespace Go.Sx
set_option linter.unusedVariables false
inductive LK where
 | b
 | i (k:IntKind)
 | s
 deriving DecidableEq
def LK.fits:LK→Value→Bool
 | .b,.bool _=>true
 | .i k,.int k' _=>k == k'
 | .s,.string _=>true
 | _,_=>false
def lfF (P:Program) (rec:TypeId→Option (List LK)):List Field→Nat→Option (List LK)
 | [],_=>some []
 | f::fs,off=>if f.name = "_" ∨ f.offset≠off then none else (rec f.type).bind fun ks=>if szT P f.type=some ks.length∧0<ks.length then (lfF P rec fs (off+ks.length)).map (ks++·)else none
def lfT (P:Program):Nat→TypeId→Option (List LK)
 | 0,_=>none
 | d+1,t=>match P.underlying t with
  | some .bool=>some [.b]
  | some (.int k)=>some [.i k]
  | some .string=>some [.s]
  | some (.struct fs)=>if P.stoodInHeld t then none else lfF P (lfT P d) fs.toList 0
  | _=>none
def ceq:Value→Value→Bool
 | .bool a,.bool b=>a == b
 | .int _ a,.int _ b=>decide (a=b)
 | .string a,.string b=>decide (a=b)
 | _,_=>false
def fM:List Value→List Value→Bool
 | x::xs,y::ys=>ceq x y&&fM xs ys
 | _,_=>true
def eX:List LK→List Value→Bool
 | [],[]=>true
 | k::ks,v::vs=>k.fits v&&eX ks vs
 | _,_=>false
theorem yF {ks:List LK} {vs:List Value} (h:eX ks vs=true):vs.length=ks.length:=by
 induction ks generalizing vs with
 | nil=>cases vs<;>simp_all[eX]
 | cons k ks ih=>cases vs with
  | nil=>simp[eX]at h
  | cons v vs=>simp only[eX,Af]at h;simp[ih h.2]
theorem a2m {ks ls:List LK} {vs:List Value} (h:eX (ks++ls) vs=true):eX ks (vs.take ks.length)=true∧eX ls (vs.drop ks.length)=true:=by
 induction ks generalizing vs with
 | nil=>simpa [eX]using h
 | cons k ks ih=>cases vs with
  | nil=>simp[eX]at h
  | cons v vs =>
   simp only[List.cons_append,eX,Af]at h
   have:=ih h.2
   exact⟨by simp only[Ag,An,eX,Af];exact⟨h.1,this.1⟩,by simp only[Ag,Ao];exact this.2⟩
theorem b3p {xs ys:List Value} (n:Nat) (hl:xs.length=ys.length):fM xs ys=(fM (xs.take n) (ys.take n)&&fM (xs.drop n) (ys.drop n)):=by
 induction n generalizing xs ys with
 | zero=>simp only[List.take_zero,List.drop_zero,fM,Bool.true_and]
 | succ n ih =>
  cases xs with
  | nil=>cases ys with
   | nil=>rfl
   | cons y ys=>simp at hl
  | cons x xs=>cases ys with
   | nil=>simp at hl
   | cons y ys=>simp only[An,Ao,fM];rw[ih (by simpa using hl),Bool.and_assoc]
def a1u (P:Program) (t:TypeId) (cs:List Value) (v:Value):Prop :=
 (agT P t=some true∧v=.agg cs.toArray)∨(agT P t=some false∧cs=[v])
theorem c9r {P:Program} {d:Nat} {t:TypeId} {ks:List LK} (h:lfT P d t=some ks):∃ b,agT P t=some b∧(b=false→ks.length=1):=by
 cases d with
 | zero=>unfold lfT at h;contradiction
 | succ d =>
  unfold lfT at h
  split at h<;>first|contradiction|(rename_i hu;simp only[agT,hu];refine⟨_,rfl,?_⟩;first|(intro;simp_all;done)|(cases h;simp))
theorem a4i {P : Program} {t : TypeId} {xs : List Value} {off n : Nat} {b : Bool} (hb : agT P t = some b) (hs : szT P t = some n) (h1 : b = false → n = 1) (hl : off + n ≤ xs.length) (w : World) :
  ∃ v,(part t xs.toArray off).run P w=.ok v w∧a1u P t ((xs.drop off).take n) v:=by
 cases b with
 | true =>
  refine⟨.agg (xs.toArray.extract off (off+n)),?_,.inl ⟨hb,?_⟩⟩
  ·simp[part,Sem.run_bind,pK hb,eB hs]
  ·simp[List.extract_toArray,List.take_drop]
 | false =>
  have hn:=h1 rfl
  subst hn
  have hlt:off<xs.length:=by omega
  refine⟨xs[off],?_,.inr ⟨hb,?_⟩⟩
  ·simp[part,Sem.run_bind,pK hb,hlt]
  ·rw[List.drop_eq_getElem_cons hlt]
   rfl
theorem b2i {P : Program} : ∀ (d m : Nat) (t : TypeId) (ks : List LK) (xs ys : List Value) (x y : Value), lfT P d t = some ks → eX ks xs = true → eX ks ys = true → a1u P t xs x → a1u P t ys y →
  ∀ w,(Op.equalIn (d+m) t x y).run P w=.ok (fM xs ys) w:=by
 intro d
 induction d with
 | zero=>intro m t ks xs ys x y h;unfold lfT at h;contradiction
 | succ d ih =>
  intro m t ks xs ys x y h hx hy vx vy w
  rw[show d+1+m=(d+m)+1 by omega]
  have single:∀ k:LK,ks=[k]→agT P t=some false→∃ v u,xs=[v]∧ys=[u]∧x=v∧y=u∧k.fits v=true∧k.fits u=true:=by
   intro k hk ha
   subst hk
   rcases vx with⟨hv,_⟩|⟨_,rfl⟩
   ·rw[ha]at hv;simp at hv
   rcases vy with⟨hv,_⟩|⟨_,rfl⟩
   ·rw[ha]at hv;simp at hv
   simp only[eX,Bool.and_true]at hx hy
   exact⟨x,y,rfl,rfl,rfl,rfl,hx,hy⟩
  unfold lfT at h
  split at h
  ·rename_i hu
   obtain⟨v,u,rfl,rfl,rfl,rfl,h1,h2⟩:=single .b (by simpa using h.symm) (by simp[agT,hu])
   cases x<;>simp[LK.fits]at h1
   cases y<;>simp[LK.fits]at h2
   rw[run_equalIn_bool' w _ t _ _ hu]
   simp[fM,ceq]
  ·rename_i k hu
   obtain⟨v,u,rfl,rfl,rfl,rfl,h1,h2⟩:=single (.i k) (by simpa using h.symm) (by simp[agT,hu])
   cases x<;>simp[LK.fits]at h1
   cases y<;>simp[LK.fits]at h2
   subst h1
   subst h2
   rw[run_equalIn_int w _ t _ _ _ _ hu]
   simp[fM,ceq]
   rfl
  ·rename_i hu
   obtain⟨v,u,rfl,rfl,rfl,rfl,h1,h2⟩:=single .s (by simpa using h.symm) (by simp[agT,hu])
   cases x<;>simp[LK.fits]at h1
   cases y<;>simp[LK.fits]at h2
   rw[run_equalIn_string w _ t _ _ hu,yB]
   simp[fM,ceq]
  ·rename_i fs hu
   have ha:agT P t=some true:=by simp[agT,hu]
   obtain rfl:x=.agg xs.toArray:=by
    rcases vx with⟨_,h⟩|⟨hv,_⟩
    ·exact h
    ·rw[ha]at hv;simp at hv
   obtain rfl:y=.agg ys.toArray:=by
    rcases vy with⟨_,h⟩|⟨hv,_⟩
    ·exact h
    ·rw[ha]at hv;simp at hv
   split at h
   ·contradiction
   ·rename_i hp
    have hfo:P.fieldsOf t=fs:=by simp[Program.fieldsOf,hu]
    rw[run_equalIn_struct w (d+m) t _ _ (by rw[hfo];exact hu) (by simpa using hp),hfo]
    have key : ∀ (fl : List Field) (off : Nat) (ls : List LK) , lfF P (lfT P d) fl off = some ls → eX ls (xs.drop off) = true → eX ls (ys.drop off) = true →
      (Op.eqFields (d+m) xs.toArray ys.toArray fl).run P w=.ok (fM (xs.drop off) (ys.drop off)) w:=by
     intro fl
     induction fl with
     | nil =>
      intro off ls hl h1 h2
      simp only[lfF,Ae.injEq]at hl
      subst hl
      have e1:=yF h1
      have:xs.drop off=[]:=Ah e1
      simp[Op.eqFields,this,fM]
     | cons f fl ihf =>
      intro off ls hl h1 h2
      simp only[lfF]at hl
      split at hl
      ·contradiction
      ·rename_i hn
       have hn1:f.name ≠ "_" := fun e=>hn (.inl e)
       have hn2:f.offset=off:=by
        by_cases e:f.offset=off
        ·exact e
        ·exact absurd (.inr e) hn
       cases hk:lfT P d f.type with
       | none=>simp[hk]at hl
       | some kf =>
        simp only[hk,Aj]at hl
        split at hl
        ·rename_i hsz
         cases hr:lfF P (lfT P d) fl (off+kf.length)with
         | none=>simp[hr]at hl
         | some lr =>
          simp only[hr,Ak,Ae.injEq]at hl
          subst hl
          obtain⟨a1,a2⟩:=a2m h1
          obtain⟨b1,b2⟩:=a2m h2
          have lx:=yF h1
          have ly:=yF h2
          obtain⟨b,hb,hb1⟩:=c9r hk
          have hpos:=hsz.2
          have hx':off+kf.length≤xs.length:=by simp at lx;omega
          have hy':off+kf.length≤ys.length:=by simp at ly;omega
          subst hn2
          obtain⟨u,u1,u2⟩:=a4i (P:=P) hb hsz.1 hb1 hx' w
          obtain⟨v,v1,v2⟩:=a4i (P:=P) hb hsz.1 hb1 hy' w
          have he:=ih m f.type kf _ _ u v hk a1 b1 u2 v2 w
          have hrest:=ihf (f.offset+kf.length) lr hr (by rw[← Ai];exact a2) (by rw[← Ai];exact b2)
          have hc:fM (xs.drop f.offset) (ys.drop f.offset)=(fM ((xs.drop f.offset).take kf.length) ((ys.drop f.offset).take kf.length)&&fM (xs.drop (f.offset+kf.length)) (ys.drop (f.offset+kf.length))):=by
           rw[b3p kf.length (by rw[lx,ly]),Ai,Ai]
          simp only[Op.eqFields,ne_eq,hn1,not_false_eq_true,if_true,Sem.run_bind,u1,v1,he,Result.andThen_ok,hc]
          cases hq:fM ((xs.drop f.offset).take kf.length) ((ys.drop f.offset).take kf.length)
          ·simp
          ·simpa using hrest
        ·contradiction
    have:=key fs.toList 0 ks h (by simpa using hx) (by simpa using hy)
    simpa using this
  ·contradiction
end Go.Sx
namespace Go.Sx
set_option linter.unusedVariables false
def oU (pl:Nat→Option (Nat × Nat)):List AV→List (Nat × AV)→Option (List AV)
 | cs,[]=>some cs
 | cs,(i,x)::r=>match pl i with
  | some (off,s)=>if x.solid&&x.cells.length == s&&decide (off+s≤cs.length)then oU pl (cs.take off++x.cells++cs.drop (off+s)) r else none
  | none=>none
theorem b3k (vs : Array Value) (us : Array Value) (off : Nat) (h : off + us.size ≤ vs.size) :
  us.zipIdx.foldl (fun cs (c,j)=>cs.setIfInBounds (off+j) c) vs=(vs.toList.take off++us.toList++vs.toList.drop (off+us.toList.length)).toArray:=by
 have key : ∀ (l : List Value) (k : Nat) (vs : Array Value), off + k + l.length ≤ vs.size →
   (l.zipIdx k).foldl (fun cs (x:Value × Nat)=>cs.setIfInBounds (off+x.2) x.1) vs=(vs.toList.take (off+k)++l++vs.toList.drop (off+k+l.length)).toArray:=by
  intro l
  induction l with
  | nil=>intro k vs h;simp
  | cons x l ih =>
   intro k vs h
   simp only[List.zipIdx_cons,List.foldl_cons]
   simp only[Ag]at h
   rw[ih (k+1) _ (by simp;omega)]
   apply Array.ext'
   simp only[Ag,Array.toList_setIfInBounds]
   have e1:(vs.toList.set (off+k) x).take (off+(k+1))=vs.toList.take (off+k)++[x]:=by
    rw[← Nat.add_assoc,List.take_succ_eq_append_getElem (by simp;omega),List.take_set,List.set_eq_of_length_le (by simp;omega)]
    simp
   have e2:(vs.toList.set (off+k) x).drop (off+(k+1)+l.length)=vs.toList.drop (off+k+(l.length+1)):=by
    rw[List.drop_set_of_lt (by omega)]
    congr 1;omega
   rw[e1,e2]
   simp
 have:=key us.toList 0 vs (by simpa using h)
 rw[← Array.foldl_toList,Array.toList_zipIdx]
 simpa using this
def uZ (g:Gh) (ps:List (Nat × AV)) (qs:List (Nat × Value)):Prop:=qs.length=ps.length∧∀ i (h1:i<ps.length) (h2:i<qs.length),qs[i].1=ps[i].1∧Rel g ps[i].2 qs[i].2
theorem y6 {g : Gh} {pl pl' : Nat → Option (Nat × Nat)} (hpl : ∀ i x, pl i = some x → pl' i = some x) : ∀ (ps : List (Nat × AV)) (qs : List (Nat × Value)) (cs cs' : List AV) (vs : Array Value), uZ g ps qs →
  vs.size=cs.length→(∀ i (h1:i<cs.length) (h2:i<vs.size),Rel g cs[i] vs[i])→(∀ i (h2:i<vs.size),vs[i].oneCell'=true)→oU pl cs ps=some cs' →
  ∃ vs',Instr.fill pl' vs qs=some vs'∧vs'.size=cs'.length∧(∀ i (h1:i<cs'.length) (h2:i<vs'.size),Rel g cs'[i] vs'[i])∧(∀ i (h2:i<vs'.size),vs'[i].oneCell'=true)∧cs'.length=cs.length:=by
 intro ps
 induction ps with
 | nil =>
  intro qs cs cs' vs hp hs hr ho hf
  obtain rfl:qs=[]:=Ah hp.1
  simp only[oU,Ae.injEq]at hf
  subst hf
  exact⟨vs,rfl,hs,hr,ho,rfl⟩
 | cons p ps ih =>
  intro qs cs cs' vs hp hs hr ho hf
  obtain⟨i,x⟩:=p
  cases qs with
  | nil=>simp[uZ]at hp
  | cons q qs =>
   obtain⟨j,v⟩:=q
   obtain⟨hpl1,hp0⟩:=hp
   have hq0:=hp0 0 (by simp) (by simp)
   simp only[List.getElem_cons_zero]at hq0
   obtain⟨rfl,hxv⟩:=hq0
   have hp':uZ g ps qs:=⟨by simpa using hpl1,fun i h1 h2=>hp0 (i+1) (by simpa using h1) (by simpa using h2)⟩
   simp only[oU]at hf
   split at hf
   ·rename_i off s hpl2
    split at hf
    ·rename_i hc
     simp only[Af,beq_iff_eq,decide_eq_true_eq]at hc
     obtain⟨⟨hsol,hlen⟩,hle⟩:=hc
     obtain⟨c1,c2,c3⟩:=hxv.cells hsol
     subst hlen
     have hle':off+v.cells.size≤vs.size:=by omega
     have hle2:off+v.cells.toList.length≤vs.toList.length:=by simpa using hle'
     have hsplice:=b3k vs v.cells off hle'
     have h3:=ih qs _ cs' ((vs.toList.take off++v.cells.toList++vs.toList.drop (off+v.cells.toList.length)).toArray) hp'
      (by rw[Ac,dB _ _ _ hle2,dB _ _ _ hle];simpa using hs)
      (fun k h1 h2=>by
       have k1:k<cs.length:=by rw[dB _ _ _ hle]at h1;exact h1
       have k2:k<vs.toList.length:=by simp;omega
       simp only[Ab]
       rw[iS _ _ _ _ hle h1 k1,iS _ _ _ _ hle2 (by rw[dB _ _ _ hle2];exact k2) k2]
       have e1:v.cells.toList.length=x.cells.length:=by simp[c1]
       by_cases hc:off≤k∧k<off+x.cells.length
       ·rw[dif_pos hc,dif_pos (by omega)]
        simp only[Aa]
        exact c2 (k - off) (by omega) (by omega)
       ·rw[dif_neg hc,dif_neg (by omega)]
        simp only[Aa]
        exact hr k k1 (by omega))
      (fun k h2=>by
       simp only[Ac]at h2
       rw[dB _ _ _ hle2]at h2
       simp only[Ab]
       rw[iS _ _ _ _ hle2 (by rw[dB _ _ _ hle2];exact h2) h2]
       split
       ·simp;exact c3 _ _
       ·simp;exact ho _ _)
      hf
     obtain⟨vs',f1,f2,f3,f4,f5⟩:=h3
     refine⟨vs',?_,f2,f3,f4,by rw[f5,dB _ _ _ hle]⟩
     have hplx:=hpl _ _ hpl2
     have n1:¬ (v.cells.size≠x.cells.length):=by simp[c1]
     have n2:¬ (off+v.cells.size>vs.size):=by omega
     simp only[Instr.fill,hplx,n1,n2,decide_false,Bool.or_self,Bool.false_eq_true,if_false]
     rw[hsplice]
     exact f1
    ·contradiction
   ·contradiction
def zeT (P:Program) (t:TypeId):Option (List AV) :=
 ((P.info? t).bind (·.zero)).bind fun v=>if v.cells.all (·.oneCell')then some (v.cells.toList.map .lit)else none
theorem pV {P : Program} {t : TypeId} {cs : List AV} (h : zeT P t = some cs) : ∃ v, (∀ w, (zeroValue t).run P w = .ok v w) ∧ v.cells.size = cs.length ∧ (∀ g i (h1 : i < cs.length) (h2 : i < v.cells.size), Rel g cs[i] v.cells[i]) ∧
  (∀ i (h2:i<v.cells.size),v.cells[i].oneCell'=true)∧(P.info? t).bind (·.zero)=some v:=by
 unfold zeT at h
 cases hi:P.info? t with
 | none=>simp[hi]at h
 | some i =>
  cases hz:i.zero with
  | none=>simp[hi,hz]at h
  | some v =>
   simp only[hi,Aj,hz]at h
   split at h
   ·rename_i ha
    simp only[Ae.injEq]at h
    subst h
    exact⟨v,fun w=>by simp[zeroValue,typeInfo,hi,hz],by simp,fun g i h1 h2=>by simp;exact .lit _,fun i h2=>by simpa using Array.all_eq_true.1 ha i h2,by simp[hz]⟩
   ·contradiction
def plT (P:Program) (t:TypeId):Option (List (Nat × Nat)) :=
 match P.underlying t with
 | some (.struct fs)=>fs.toList.mapM fun f=>(szT P f.type).map fun s=>(f.offset,s)
 | some (.array n e)=>(szT P e).map fun s=>(As n).map fun i=>(i*s,s)
 | _=>none
def qV (P:Program) (t:TypeId) (ps:List (Nat × AV)) (E:Eff→Prop):Prop :=
 match zeT P t,plT P t with
 | some z,some pl=>match oU (fun i=>pl[i]?) z ps with
  | some cs=>E ⟨.agg cs,[],[]⟩
  | none=>False
 | _,_=>False
theorem c0u {P:Program} (f:Field→Option (Nat × Nat)) (m:Field→Sem (Nat × Nat)) (hf:∀ x y,f x=some y→∀ w,(m x).run P w=.ok y w):∀ (l:List Field) (r:List (Nat × Nat)),l.mapM f=some r→∀ w,(l.mapM m).run P w=.ok r w:=by
 intro l
 induction l with
 | nil=>intro r h w;simp at h;subst h;simp
 | cons x l ih =>
  intro r h w
  simp only[List.mapM_cons]at h ⊢
  cases hx:f x with
  | none=>simp[hx]at h
  | some y =>
   cases hl:l.mapM f with
   | none=>simp[hx,hl]at h
   | some r' =>
    simp only[hx,hl,Option.pure_def,Option.bind_eq_bind,Aj,Ae.injEq]at h
    subst h
    simp[Sem.run_bind,hf x y hx,ih r' hl]
theorem b7w {P : Program} {t : TypeId} {ps : List (Nat × AV)} {E : Eff → Prop} (h : qV P t ps E) :
  ∃ x,E ⟨x,[],[]⟩∧∀ g (qs:Array (Nat × Value)),uZ g ps qs.toList→∃ v,(Instr.build t qs).run P g.w=.ok v g.w∧Rel g x v:=by
 unfold qV at h
 split at h
 ·rename_i z pl hz hp
  split at h
  ·rename_i cs hf
   refine⟨_,h,fun g qs hq=>?_⟩
   obtain⟨v,hv1,hv2,hv3,hv4,_⟩:=pV hz
   unfold plT at hp
   split at hp
   ·rename_i fs hu
    have hm:=c0u (P:=P) (fun f=>(szT P f.type).map fun s=>(f.offset,s)) (fun f=>do pure (f.offset,← sizeOf f.type)) (fun x y hxy w=>by
     cases hs:szT P x.type with
     | none=>simp[hs]at hxy
     | some s=>simp only[hs,Ak,Ae.injEq]at hxy;subst hxy;simp[Sem.run_bind,eB hs]) _ _ hp g.w
    obtain⟨vs',f1,f2,f3,f4,f5⟩:=y6 (g:=g) (pl':=fun i=>pl.toArray[i]?) (fun i x hx=>by simpa using hx) ps qs.toList z cs v.cells hq hv2 (hv3 g) hv4 hf
    refine⟨.agg vs',?_,.agg _ _ f2 f4 f3⟩
    simp only[Instr.build,Sem.run_bind,hv1,Result.andThen_ok,run_underlying hu]
    have hm':(Array.mapM (fun f=>do pure (f.offset,← sizeOf f.type):Field→Sem (Nat × Nat)) fs).run P g.w=.ok pl.toArray g.w:=by
     rw[Array.mapM_eq_mapM_toList,Sem.run_map,hm]
     rfl
    rw[hm']
    simp only[Result.andThen_ok]
    rw[f1]
    simp
   ·rename_i n e hu
    cases hs:szT P e with
    | none=>simp[hs]at hp
    | some s =>
     simp only[hs,Ak,Ae.injEq]at hp
     subst hp
     obtain⟨vs',f1,f2,f3,f4,f5⟩:=y6 (g:=g) (pl':=fun i=>some (i*s,s)) (fun i x hx=>by
      simp only[List.getElem?_map]at hx
      cases hr:(As n)[i]? with
      | none=>simp[hr]at hx
      | some j =>
       have:j=i:=by
        have:=List.getElem?_eq_some_iff.1 hr
        obtain⟨h1,h2⟩:=this
        simpa using h2.symm
       subst this
       simpa [hr]using hx) ps qs.toList z cs v.cells hq hv2 (hv3 g) hv4 hf
     refine⟨.agg vs',?_,.agg _ _ f2 f4 f3⟩
     simp only[Instr.build,Sem.run_bind,hv1,Result.andThen_ok,run_underlying hu,eB hs]
     rw[f1]
     simp
   ·contradiction
  ·exact h.elim
 ·exact h.elim
end Go.Sx
