import Derived.Deep.Slices
import Derived.OpenShut
import Derived.ReadAgain
import Derived.Deep.DeepHandedRow
import Derived.Test.YtjlfgmhmalbiiaaGreatDoorRows
import Derived.JoinedOf
import Derived.Test.YtjlfgmhmalbiiaaGreatDoorV40
set_option linter.all false
set_option maxHeartbeats 40000000
namespace Go.Proofs.Vx
open Go Go.Sx Go.Proofs Go.ChangeShapes Go.WideShapes Go.Deep
theorem st_u4:Tryz.prog.underlying 4=some .bool:=by kernel_rfl
theorem st_u9:Tryz.prog.underlying 9=some .string:=by kernel_rfl
theorem c7f:Tryz.prog.underlying 22=some (.slice 26):=by kernel_rfl
theorem c7e:Tryz.prog.underlying 27=some (.array 1 26):=by kernel_rfl
theorem c7p:Tryz.prog.cellsOf 26=8:=by kernel_rfl
theorem c7o:Tryz.prog.cellsOf 27=8:=by kernel_rfl
theorem c7k:i8 Tryz.prog 26=some [(24,0),(24,2),(24,4),(24,6)]:=by kernel_rfl
theorem tU {P:Program} {t:TypeId} {ks:List (TypeId × Nat)} (h:i8 P t=some ks):∃ fs,P.underlying t=some (.struct fs)∧fs.toList.map (fun f=>(f.type,f.offset))=ks:=by
 unfold i8 at h
 split at h
 ·rename_i fs hs
  split at h
  ·exact⟨fs,hs,Option.some.inj h⟩
  ·contradiction
 ·contradiction
theorem b0u {l:List Field} {a b c d:Nat} (h:l.map (fun f=>(f.type,f.offset))=[(a,b),(c,d)]):∃ f0 f1,l=[f0,f1]∧f0.type=a∧f0.offset=b∧f1.type=c∧f1.offset=d:=by
 rcases l with _|⟨f0,_|⟨f1,_|⟨f2,l⟩⟩⟩<;>simp at h
 exact⟨f0,f1,rfl,h.1.1,h.1.2,h.2.1,h.2.2⟩
theorem b0t {l:List Field} {a b c d a' b' c' d':Nat} (h:l.map (fun f=>(f.type,f.offset))=[(a,b),(c,d),(a',b'),(c',d')]):∃ f0 f1 f2 f3,l=[f0,f1,f2,f3]∧(f0.type=a∧f0.offset=b)∧(f1.type=c∧f1.offset=d)∧(f2.type=a'∧f2.offset=b')∧(f3.type=c'∧f3.offset=d'):=by
 rcases l with _|⟨f0,_|⟨f1,_|⟨f2,_|⟨f3,_|⟨f4,l⟩⟩⟩⟩⟩<;>simp at h
 exact⟨f0,f1,f2,f3,rfl,h.1,h.2.1,h.2.2.1,h.2.2.2⟩
structure TyOk (P:Program):Prop where
 u4:P.underlying 4=some .bool
 u9:P.underlying 9=some .string
 u22:P.underlying 22=some (.slice 26)
 u27:P.underlying 27=some (.array 1 26)
 n4:P.cellsOf 4=1
 n9:P.cellsOf 9=1
 n24:P.cellsOf 24=2
 n26:P.cellsOf 26=8
 n27:P.cellsOf 27=8
 s24:∃ f0 f1:Field,P.underlying 24=some (.struct #[f0,f1])∧f0.type=4∧f0.offset=0∧f1.type=9∧f1.offset=1
 s26:∃ f0 f1 f2 f3:Field,P.underlying 26=some (.struct #[f0,f1,f2,f3])∧(f0.type=24∧f0.offset=0)∧(f1.type=24∧f1.offset=2)∧(f2.type=24∧f2.offset=4)∧(f3.type=24∧f3.offset=6)
theorem lW:TyOk Tryz.prog:=by
 refine⟨st_u4,st_u9,c7f,c7e,b0c,b0b,a0t,c7p,c7o,?_,?_⟩
 ·obtain⟨fs,hu,hk⟩:=tU a8q
  obtain⟨f0,f1,hf,r⟩:=b0u hk
  exact⟨f0,f1,by rw[hu,← Array.toArray_toList (xs:=fs),hf],r⟩
 ·obtain⟨fs,hu,hk⟩:=tU c7k
  obtain⟨f0,f1,f2,f3,hf,r⟩:=b0t hk
  exact⟨f0,f1,f2,f3,by rw[hu,← Array.toArray_toList (xs:=fs),hf],r⟩
section
variable {P:Program} {H:Type} {enc:TypeId × Value→H} {w:World} {base:Nat} {spare:Nat→Bool} {held:Bool}
def dI (b:Bool) (s:ByteArray):DataW H:=.agg [.lit (.bool b),.lit (.string s.data.toList)]
def dR (r:RP):DataW H:=.agg [dI r.n1 r.m1,dI r.n2 r.m2,dI r.n3 r.m3,dI r.n4 r.m4]
def cR (r:RP):List Value:=[.bool r.n1,.string r.m1,.bool r.n2,.string r.m2,.bool r.n3,.string r.m3,.bool r.n4,.string r.m4]
def wfR (r:RP):Prop:=r.m1.size≤maxLen∧r.m2.size≤maxLen∧r.m3.size≤maxLen∧r.m4.size≤maxLen
theorem xD (T:TyOk P) {fuel:Nat} {cs:List Value} {x:DataW H × List MemPlace} (h:DataW.trod enc P w base spare held fuel 24 cs=some x):∃ b s,cs=[.bool b,.string s]∧x=(dI b s,[])∧s.size≤maxLen:=by
 obtain⟨f0,f1,hu,t0,o0,t1,o1⟩:=T.s24
 obtain⟨xs,n,_,hx,hl,hxl,hf⟩:=DataW.trod_struct hu h
 rw[T.n24]at hl
 match xs,hxl,cs,hl with
 | [y0,y1],_,[v0,v1],_ =>
  have g0:=hf 0 f0 rfl
  have g1:=hf 1 f1 rfl
  simp[t0,o0,t1,o1,T.n4,T.n9]at g0 g1
  obtain⟨b,e0,e1⟩:=DataW.trod_bool T.u4 g0
  obtain⟨s,e2,e3,e4⟩:=DataW.trod_string T.u9 g1
  simp only[List.cons.injEq,and_true]at e0 e2
  subst e0 e2 e1 e3
  exact⟨b,s,rfl,by rw[hx];rfl,e4⟩
def S4 (P:Program) (t:TypeId):Prop:=∃ f0 f1 f2 f3:Field,P.underlying t=some (.struct #[f0,f1,f2,f3])∧(f0.type=24∧f0.offset=0)∧(f1.type=24∧f1.offset=2)∧(f2.type=24∧f2.offset=4)∧(f3.type=24∧f3.offset=6)
theorem b0q (T:TyOk P) {t:TypeId} (st:S4 P t) (ct:P.cellsOf t=8) {fuel:Nat} {cs:List Value} {x:DataW H × List MemPlace} (h:DataW.trod enc P w base spare held fuel t cs=some x):∃ r,wfR r∧cs=cR r∧x=(dR r,[]):=by
 obtain⟨f0,f1,f2,f3,hu,⟨t0,o0⟩,⟨t1,o1⟩,⟨t2,o2⟩,⟨t3,o3⟩⟩:=st
 obtain⟨xs,n,_,hx,hl,hxl,hf⟩:=DataW.trod_struct hu h
 rw[ct]at hl
 match xs,hxl,cs,hl with
 | [y0,y1,y2,y3],_,[v0,v1,v2,v3,v4,v5,v6,v7],_ =>
  have g0:=hf 0 f0 rfl
  have g1:=hf 1 f1 rfl
  have g2:=hf 2 f2 rfl
  have g3:=hf 3 f3 rfl
  simp[t0,o0,t1,o1,t2,o2,t3,o3,T.n24]at g0 g1 g2 g3
  obtain⟨b0,s0,a0,c0,d0⟩:=xD T g0
  obtain⟨b1,s1,a1,c1,d1⟩:=xD T g1
  obtain⟨b2,s2,a2,c2,d2⟩:=xD T g2
  obtain⟨b3,s3,a3,c3,d3⟩:=xD T g3
  simp only[List.cons.injEq,and_true]at a0 a1 a2 a3
  obtain⟨rfl,rfl⟩:=a0
  obtain⟨rfl,rfl⟩:=a1
  obtain⟨rfl,rfl⟩:=a2
  obtain⟨rfl,rfl⟩:=a3
  subst c0 c1 c2 c3
  exact⟨⟨b0,s0,b1,s1,b2,s2,b3,s3⟩,⟨d0,d1,d2,d3⟩,rfl,by rw[hx];rfl⟩
theorem a9u (r:RP) (j:Nat) (h:j<8):(eRP r)[j]'h=.lit ((cR r)[j]'h):=by
 match j,h with
 | 0,_=>rfl
 | 1,_=>rfl
 | 2,_=>rfl
 | 3,_=>rfl
 | 4,_=>rfl
 | 5,_=>rfl
 | 6,_=>rfl
 | 7,_=>rfl
theorem a9t (r:RP) (j:Nat) (h:j<8):((cR r)[j]'h).oneCell'=true:=by
 match j,h with
 | 0,_=>rfl
 | 1,_=>rfl
 | 2,_=>rfl
 | 3,_=>rfl
 | 4,_=>rfl
 | 5,_=>rfl
 | 6,_=>rfl
 | 7,_=>rfl
end
def g00 (W:World):Gh:=⟨W,fun b=>b<W.heap.size,fun _=>False,fun _=>0,fun _=>⟨none,0,0,0⟩,fun _=>0⟩
theorem c8z (W:World):GOk (bG Tryz.prog (g00 W) (upd aF [])) (g00 W) (upd aF []):=⟨rfl,Tp.rfl,rfl,Nat.le_refl _,fun _ _ _=>rfl,fun b hb=>hb,fun b hb=>.inl hb,fun b hb=>hb,fun l=>trivial,fun l b hb=>by simp[upd,aF,aE]at hb,fun l l' b hb=>by simp[upd,aF,aE]at hb⟩
theorem vI {f : Nat} {args : List AV} {vals : List Value} {W : World} (h : CallOK Tryz.prog f args [] (.lit (.bool true)) []) (hr : RelL (g00 W) args vals) :
  Calls Tryz.prog f vals.toArray W fun e w'=>e=.returned (.bool true)∧w'.os=W.os∧w'.output=W.output∧W.heap.size≤w'.heap.size∧∀ b,b<W.heap.size→w'.heap[b]?=W.heap[b]?:=by
 refine (h (g00 W) vals (fun l=>by simp[g00]) (c8z W) hr).mono ?_
 rintro e w' ⟨v,g',rfl,rfl,_,_,hg,hv⟩
 cases hv
 exact⟨rfl,hg.os,hg.output,hg.size,fun b hb=>hg.old b hb (by rintro⟨l,hl⟩;simp[upd,aF,aE]at hl)⟩
end Go.Proofs.Vx
namespace Go.Proofs.Vx
open Go Go.Sx Go.Proofs Go.ChangeShapes Go.WideShapes Go.Deep
section
variable {P:Program} {H:Type} {enc:TypeId × Value→H}
theorem b0k (g:Gh) (r:RP):Rel g (.agg (eRP r)) (.agg (cR r).toArray):=by
 refine .agg _ _ rfl (fun i h2=>?_) fun i h1 h2=>?_
 ·have:i<8:=h2
  exact a9t r i this
 ·have:i<8:=h1
  rw[a9u r i this]
  exact .lit _
theorem u7 {f : Func} {s : ChangeSpec} {apart fresh handsOn again : Bool} {W W' : World} {args : Array Value} {v : Value} {ds : List (DataW H)} {before : List MemPlace}
  (hvs:s.vars=[]) (hW:DataW.Whole enc P f.params.toList s.vars apart W args.toList ds [] before) (hos:W'.os=W.os) (hou:W'.output=W.output) (hold:∀ b,b<W.heap.size→W'.heap[b]?=W.heap[b]?)
  (hres:∀ (b:Nat) (sp:Nat→Bool) (hd:Bool),DataW.TrodAll enc P W' b sp hd f.resultTypes.toList (v.resultList f.resultTypes.size) (s.fn H ds).results [])
  (hargs:∀ sp:Nat→Bool,(∀ b,b<W.heap.size→sp b=true)→DataW.TrodAll enc P W' 0 sp true f.params.toList args.toList (s.fn H ds).args before) (hv0:(s.fn H ds).vars=[])
  (hok:∀ (j:Nat) (t:TypeId) (r:Value),f.resultTypes[j]?=some t→(v.resultList f.resultTypes.size)[j]?=some r→Value.okWide P W' .any 0 t r) :
  s.post enc P f apart fresh handsOn again W args v W':=by
 have hkept:W.keptBut W' (·∈before):=by
  refine⟨hos,hou,fun i hi=>?_⟩
  rw[hold i hi]
  split
  ·rename_i h1 h2
   rw[h1]at h2
   simp only[Option.some.injEq,Obj.cells.injEq]at h2
   obtain⟨rfl,rfl,rfl⟩:=h2
   exact⟨rfl,rfl,rfl,fun _ _=>rfl⟩
  ·rename_i h1 h2
   rw[h1]at h2
   simp only[Option.some.injEq,Obj.map.injEq]at h2
   obtain⟨rfl,rfl⟩:=h2
   exact .inr ⟨rfl,rfl⟩
  ·rfl
 have hvars:∀ sp:Nat→Bool,DataW.TrodVars enc P W' sp s.vars (s.fn H (ds++[])).vars []:=fun sp=>by rw[List.append_nil,hv0,hvs];rfl
 have hres':=hres
 have hargs':=hargs
 rw[← List.append_nil ds]at hres' hargs'
 refine⟨ds,[],before,[],before,[],hW,hres' _ _ _,hargs' _ (fun b hb=>by simpa using hb),hvars _,World.keptBut_mono (fun p hp=>⟨hp,Or.inr (Or.inl hp)⟩) hkept,fun _=>?_⟩
 obtain⟨_,_,_,_,_,hz,hn⟩:=id hW
 refine⟨hok,_,_,([]++before)++[],⟨[]++before,[],trodAll_append (hargs' _ (fun _ _=>rfl)) (hres' _ _ _),hvars _,rfl,?_,?_⟩,?_⟩
 ·intro b off hp
  have hp':MemPlace.cell b off∈before:=by simpa using hp
  have hb:b<W.heap.size:=hW.lt _ hp'
  have:=hz b off hp'
  unfold World.frozen? at this ⊢
  rw[hold b hb]
  exact this
 ·intro ha
  simpa using hn ha
 ·intro p hp _
  simpa using hp
end
end Go.Proofs.Vx
namespace Go.Proofs.Vx
open Go Go.Sx Go.Proofs Go.ChangeShapes Go.WideShapes Go.Deep
section
variable {P:Program} {H:Type} {enc:TypeId × Value→H}
theorem c7j:i8 Tryz.prog 51=some [(24,0),(24,2),(24,4),(24,6)]:=by kernel_rfl
theorem c7n:Tryz.prog.cellsOf 51=8:=by kernel_rfl
theorem c7g:S4 Tryz.prog 51:=by
 obtain⟨fs,hu,hk⟩:=tU c7j
 obtain⟨f0,f1,f2,f3,hf,r⟩:=b0t hk
 exact⟨f0,f1,f2,f3,by rw[hu,← Array.toArray_toList (xs:=fs),hf],r⟩
theorem b0p (T : TyOk P) {t : TypeId} (st : S4 P t) (ct : P.cellsOf t = 8) {W : World} {b0 : Nat} {v : Value} {d : DataW H} {p : List MemPlace} (hval : Value.okWide P W .any b0 t v) (h : DataW.Trod enc P W 0 (fun _ => true) true t v d p) :
  ∃ r:RP,wfR r∧v=.agg (cR r).toArray∧d=dR r∧p=[]:=by
 obtain⟨fuel,h⟩:=h
 obtain⟨f0,f1,f2,f3,hu,_⟩:=id st
 unfold Value.okWide at hval
 rw[hu]at hval
 obtain⟨cs,rfl,hs,_⟩:=hval
 obtain⟨r,hw,hcs,hd⟩:=b0q T st ct h
 injection hd with e1 e2
 refine⟨r,hw,?_,e1,e2⟩
 rw[← hcs]
 simp[Value.cells]
end
end Go.Proofs.Vx
namespace Go.Proofs.Vx
open Go Go.Sx Go.Proofs Go.ChangeShapes Go.WideShapes Go.Deep
structure RelC (g:Gh) (es:List AV) (cs:List Value):Prop where
 len:cs.length=es.length
 rel:∀ i (h1:i<es.length) (h2:i<cs.length),Rel g es[i] cs[i]
 one:∀ i (h2:i<cs.length),cs[i].oneCell'=true
theorem RelC.app {g:Gh} {es es':List AV} {cs cs':List Value} (h:RelC g es cs) (k:RelC g es' cs'):RelC g (es++es') (cs++cs'):=by
 refine⟨by rw[List.length_append,List.length_append,h.len,k.len],fun i h1 h2=>?_,fun i h2=>?_⟩
 ·by_cases q:i<cs.length
  ·rw[List.getElem_append_left q,List.getElem_append_left (by rw[← h.len];exact q)]
   exact h.rel i _ _
  ·have hq:es.length≤i:=by have:=h.len;omega
   have hq2:cs.length≤i:=by omega
   rw[List.length_append]at h1 h2
   rw[List.getElem_append_right hq,List.getElem_append_right hq2]
   have:=k.rel (i - es.length) (by omega) (by have:=h.len;omega)
   simpa only[h.len]using this
 ·by_cases q:i<cs.length
  ·rw[List.getElem_append_left q];exact h.one i _
  ·rw[List.getElem_append_right (by omega)];exact k.one _ _
theorem pH {g:Gh} {a:AV} {v:Value} (h:Rel g a v) (ho:v.oneCell'=true):RelC g [a] [v]:=by
 refine⟨rfl,fun i h1 h2=>?_,fun i h2=>?_⟩
 ·match i,h1 with
  | 0,_=>exact h
 ·match i,h2 with
  | 0,_=>exact ho
theorem b4h (g:Gh) (r:RP):RelC g (eRP r) (cR r):=⟨rfl,fun i h1 h2=>by rw[a9u r i h1];exact .lit _,fun i h=>a9t r i h⟩
theorem RelC.agg {g:Gh} {es:List AV} {cs:Array Value} (h:RelC g es cs.toList):Rel g (.agg es) (.agg cs):=by
 refine .agg _ _ h.len (fun i h2=>?_) fun i h1 h2=>?_
 ·have:=h.one i h2;simpa using this
 ·have:=h.rel i h1 h2;simpa using this
section
variable {P:Program} {H:Type} {enc:TypeId × Value→H}
theorem slR {W : World} {α : Type} [Inhabited α] {t e k : Nat} (ht : P.underlying t = some (.slice e)) (ce : P.cellsOf e = k) (hk : 0 < k) (E : α → List AV) (Q : Nat → α → Prop) (M : DataW H → Nat)
  (hQ:∀ {m n a},m≤n→Q m a→Q n a) (hM:∀ (es sp:List (DataW H)),∀ d∈es,M d≤M (.slice es sp))
  (el:∀ (fuel:Nat) (cs:List Value) (x:DataW H × List MemPlace),DataW.trod enc P W 0 (fun _=>true) true fuel e cs=some x→∃ a,RelC (g00 W) (E a) cs∧(E a).length=k∧Q (M x.1) a)
  {fuel:Nat} {cs:List Value} {x:DataW H × List MemPlace} (h:DataW.trod enc P W 0 (fun _=>true) true fuel t cs=some x) :
  ∃ l:List α,RelC (g00 W) [.sl (l.map E)] cs∧∀ a∈l,Q (M x.1) a:=by
 rcases open_slice ht h with⟨rfl,rfl⟩|⟨a,len,cap,m,n,D,Pl,rfl,_,hl,hm,hmm,rfl,hel⟩
 ·exact⟨[],pH .slnil rfl,by simp⟩
 ·simp only[if_true]at hmm
  subst hmm
  by_cases h0:m=0
  ·subst h0
   have:len=0:=by omega
   subst this
   exact⟨[],pH .slnil rfl,by simp⟩
  ·have each:∀ i,i<m→∃ a':α,(∃ cs',W.cells? 0 (a.add (i*k)) k=some cs'∧RelC (g00 W) (E a') cs'∧(E a').length=k)∧Q (M (D i)) a':=fun i hi=>by
    obtain⟨cs',h1,h2⟩:=hel i hi
    obtain⟨a',h3,h4,h5⟩:=el n cs' _ h2
    rw[ce]at h1
    exact⟨a',⟨cs',h1,h3,h4⟩,h5⟩
   obtain⟨R,hR⟩:=choose_lt each
   obtain⟨b,off,spot⟩:=a
   have hsp:spot=none∧∃ c e' fr,W.heap[b]?=some (.cells c e' fr):=by
    obtain⟨⟨cs0,hc0,hr0,hk0⟩,_⟩:=hR 0 (by omega)
    obtain⟨_,hlen,hcc⟩:=World.cells?_some hc0
    have h1:=hcc 0 hk
    rw[Nat.zero_mul,add_add]at h1
    have h2:(⟨b,off,spot⟩:Addr).add (0+0)=⟨b,off,spot⟩:=rfl
    rw[h2,List.getElem?_eq_getElem (by omega)]at h1
    unfold World.cell? at h1
    simp only at h1
    cases hb:W.heap[b]? with
    | none=>rw[hb]at h1;simp at h1
    | some o =>
     rw[hb]at h1
     cases o with
     | cells c e' fr =>
      refine⟨?_,c,e',fr,rfl⟩
      cases spot with
      | none=>rfl
      | some s=>simp at h1
     | _=>simp at h1
   obtain⟨rfl,c,e',fr,hb⟩:=hsp
   have hc:∀ i,i<m→∀ j (hj:j<k) (hj2:j<(E (R i)).length),∃ h2:off+i*k+j<c.size,Rel (g00 W) ((E (R i))[j]'hj2) c[off+i*k+j]∧c[off+i*k+j].oneCell'=true:=by
    intro i hi j hj hj2
    obtain⟨⟨cs',hc',hr',hk'⟩,_⟩:=hR i hi
    obtain⟨_,hlen,hcc⟩:=World.cells?_some hc'
    have h1:=hcc j hj
    rw[add_add,add_plain,List.getElem?_eq_getElem (by omega)]at h1
    unfold World.cell? at h1
    rw[hb]at h1
    simp only[Option.isSome_none,Bool.false_eq_true,if_false,← Nat.add_assoc]at h1
    obtain⟨h2,h3⟩:=Array.getElem?_eq_some_iff.1 h1
    refine⟨h2,?_⟩
    rw[h3]
    exact⟨hr'.rel j hj2 (by omega),hr'.one j (by omega)⟩
   have hkE:∀ i,i<m→(E (R i)).length=k:=fun i hi=>by obtain⟨⟨_,_,_,h⟩,_⟩:=hR i hi;exact h
   refine⟨(List.range len).map R,pH ?_ rfl,fun a ha=>?_⟩
   ·have hlen:(((List.range len).map R).map E).length=len:=by simp
    have hget:∀ i (hi:i<(((List.range len).map R).map E).length),(((List.range len).map R).map E)[i]=E (R i):=fun i hi=>by simp
    have key := Rel.sl (g := g00 W) (((List.range len).map R).map E) b off m k c e' fr (show b < W.heap.size from (Array.getElem?_eq_some_iff.1 hb).1) hb (by rw [hlen]; exact hl) (fun i hi => by rw [hget i hi]; exact hkE i (by rw [hlen] at hi; omega)) (fun hp => by
      rw[hlen]at hp ⊢
      obtain⟨h2,_⟩:=hc (len - 1) (by omega) (k - 1) (by omega) (by rw[hkE _ (by omega)];omega)
      have e1:(len - 1)*k+k=len*k:=by
       have:len=(len - 1)+1:=by omega
       conv=>rhs;rw[this,Nat.add_mul,Nat.one_mul]
      omega) (fun j h1 h2=>by
      rw[hlen]at h2
      have hj:j / k<len:=Nat.div_lt_of_lt_mul (by rw[Nat.mul_comm];exact h2)
      have hm2:=Nat.mod_lt j hk
      obtain⟨h3,_,h4⟩:=hc (j / k) (by omega) (j % k) hm2 (by rw[hkE _ (by omega)];exact hm2)
      have e1:off+j / k*k+j % k=off+j:=by rw[Nat.add_assoc,Nat.div_add_mod']
      simp only[e1]at h4
      exact h4) (fun i h1 j h2 h3=>by
      have h1':i<len:=by rw[hlen]at h1;exact h1
      have h2':j<(E (R i)).length:=by rw[hget i h1]at h2;exact h2
      have hjk:j<k:=by rw[hkE i (by omega)]at h2';exact h2'
      obtain⟨h4,h5,_⟩:=hc i (by omega) j hjk h2'
      simp only[hget i h1]
      exact h5)
    rw[hlen]at key
    exact key
   ·obtain⟨i,hi,rfl⟩:=List.mem_map.1 ha
    have hi:=List.mem_range.1 hi
    exact hQ (hM _ _ _ (List.mem_map.2 ⟨i,List.mem_range.2 hi,rfl⟩)) (hR i (by omega)).2
theorem vJ (K : Kids P (· < P.types.size)) (full : ∀ t e, t < P.types.size → P.underlying t = some (.slice e) → 0 < P.cellsOf e) {W W' : World} {sp : Nat → Bool} (hold : ∀ b, b < W.heap.size → W'.heap[b]? = W.heap[b]?) (hsp : ∀ b, b < W.heap.size → sp b = true) :
  ∀ {ts:List TypeId} {vs:List Value} {ds:List (DataW H)} {p:List MemPlace},(∀ t∈ts,t<P.types.size)→(∀ q∈p,q.block<W.heap.size)→DataW.TrodAll enc P W 0 (fun _=>true) true ts vs ds p→DataW.TrodAll enc P W' 0 sp true ts vs ds p:=by
 intro ts
 induction ts with
 | nil =>
  intro vs ds p _ _ h
  cases vs<;>cases ds<;>first|exact h|cases h
 | cons t ts ih =>
  intro vs ds p hT hlt h
  match vs,ds,h with
  | v::vs,d::ds,⟨p1,q1,h1,h2,e⟩ =>
   subst e
   have hlt1:∀ x∈p1,x.block<W.heap.size:=fun x hx=>hlt x (List.mem_append_left _ hx)
   obtain⟨n,hn⟩:=DataW.Trod.respare (spare':=sp) K full (hT t (by simp)) h1 fun x hx=>hsp _ (hlt1 x hx)
   refine⟨p1,q1,⟨n,DataW.trod_carry n _ _ _ hn fun x hx=>?_⟩,ih (fun u hu=>hT u (by simp[hu])) (fun x hx=>hlt x (List.mem_append_right _ hx)) h2,rfl⟩
   have hb:=hold _ (hlt1 x hx)
   cases x with
   | cell b off =>
    show W'.cell? ⟨b,off,none⟩=W.cell? ⟨b,off,none⟩
    unfold World.cell?
    rw[show W'.heap[b]?=W.heap[b]? from hb]
   | map b=>exact hb
end
end Go.Proofs.Vx
namespace Go.Proofs.Vx
open Go Go.Sx Go.Proofs Tryz
attribute [local irreducible] fnT CallOK CallFr AW aJ callV aL aI aH aM gcaseP hid
abbrev b1k:=List (RP × List RP)
def eRS (l:b1k):List (List AV):=l.map fun s=>eRP s.1++[.sl (eRPs s.2)]
theorem c9i {K:Nat→Prop} (l:b1k):(∀ e∈eRS l,∀ c∈e,In K c)=True:=eq_true fun e he c hc=>by
 obtain⟨s,_,rfl⟩:=List.mem_map.1 he
 rcases List.mem_append.1 hc with h|h
 ·unfold eRP at h
  simp only[zM,or_false]at h
  rcases h with rfl|rfl|rfl|rfl|rfl|rfl|rfl|rfl<;>exact .lit _
 ·obtain rfl:=List.mem_singleton.1 h
  exact .sl _ (of_eq_true (a8b _))
attribute [go_sem] c9i
end Go.Proofs.Vx
namespace Go.Proofs.Vx
open Go Go.Sx Go.Proofs Go.ChangeShapes Go.WideShapes Go.Deep Go.Proofs.YtjlfgmhmalbiiaaGreatDoor
theorem xS:Kids Tryz.prog (· < Tryz.prog.types.size):=kids_rows (by kernel_rfl) (by kernel_rfl)
theorem xT:∀ t e,t<Tryz.prog.types.size→Tryz.prog.underlying t=some (.slice e)→0<Tryz.prog.cellsOf e:=slices_full_of _ (by kernel_rfl)
instance:Inhabited RP:=⟨⟨false,⟨#[]⟩,false,⟨#[]⟩,false,⟨#[]⟩,false,⟨#[]⟩⟩⟩
section
variable {H:Type} {enc:TypeId × Value→H}
theorem c9u (r:RP):RB (Rows.uptoBulk (dR r:DataW H)) r:=by
 have e:∀ s:ByteArray,s.data.toList.length=s.size:=fun s=>rfl
 refine⟨?_,?_,?_,?_⟩<;>simp only[dR,dI,Rows.uptoBulk,Rows.uptoBulkAll,e]<;>omega
end
end Go.Proofs.Vx
namespace Go.Proofs.Vx
open Go Go.Sx Go.Proofs Go.ChangeShapes Go.WideShapes Go.Deep Go.Proofs.YtjlfgmhmalbiiaaGreatDoor
theorem c7d:Tryz.prog.underlying 62=some (.slice 79):=by kernel_rfl
theorem a1s:Tryz.prog.underlying 3=some (.int .i64):=by kernel_rfl
theorem c7i:i8 Tryz.prog 64=some [(3,0),(62,1)]:=by kernel_rfl
theorem c7h:i8 Tryz.prog 79=some [(26,0),(3,8),(3,9)]:=by kernel_rfl
theorem b0i:Tryz.prog.cellsOf 3=1:=by kernel_rfl
theorem c7m:Tryz.prog.cellsOf 62=1:=by kernel_rfl
theorem c7l:Tryz.prog.cellsOf 64=2:=by kernel_rfl
theorem a8y:Tryz.prog.cellsOf 79=10:=by kernel_rfl
instance:Inhabited RN:=⟨⟨default,0,0⟩⟩
section
variable {H:Type} {enc:TypeId × Value→H}
theorem el79 (T : TyOk Tryz.prog) {W : World} (fuel : Nat) (cs : List Value) (x : DataW H × List MemPlace) (h : DataW.trod enc Tryz.prog W 0 (fun _ => true) true fuel 79 cs = some x) :
  ∃ n:RN,RelC (g00 W) (eRN n) cs∧(eRN n).length=10∧True:=by
 obtain⟨fs,hu,hk⟩:=tU c7h
 have hf:∃ f0 f1 f2,fs.toList=[f0,f1,f2]∧(f0.type=26∧f0.offset=0)∧(f1.type=3∧f1.offset=8)∧(f2.type=3∧f2.offset=9):=by
  rcases hq:fs.toList with _|⟨f0,_|⟨f1,_|⟨f2,_|⟨f3,l⟩⟩⟩⟩<;>rw[hq]at hk<;>simp at hk
  exact⟨f0,f1,f2,rfl,hk.1,hk.2.1,hk.2.2⟩
 obtain⟨f0,f1,f2,hf,⟨t0,o0⟩,⟨t1,o1⟩,⟨t2,o2⟩⟩:=hf
 rw[← Array.toArray_toList (xs:=fs),hf]at hu
 obtain⟨xs,n,_,hx,hl,hxl,hfl⟩:=DataW.trod_struct hu h
 rw[a8y]at hl
 match xs,hxl with
 | [y0,y1,y2],_ =>
  have g0:=hfl 0 f0 rfl
  have g1:=hfl 1 f1 rfl
  have g2:=hfl 2 f2 rfl
  simp only[t0,o0,T.n26,t1,o1,t2,o2,b0i,List.drop_zero,List.getElem?_cons_zero,List.getElem?_cons_succ]at g0 g1 g2
  obtain⟨r,_,hc0,rfl⟩:=b0q T T.s26 T.n26 g0
  obtain⟨a,ha,_⟩:=DataW.trod_int a1s g1
  obtain⟨b,hb,_⟩:=DataW.trod_int a1s g2
  refine⟨(r,a,b),?_,rfl,trivial⟩
  have e:cs=cs.take 8++((cs.drop 8).take 1++(cs.drop 9).take 1):=by
   have e1:(cs.drop 9).take 1=cs.drop 9:=List.take_of_length_le (by rw[List.length_drop];omega)
   have e2:(cs.drop 8).take 1++cs.drop 9=cs.drop 8:=by
    have:=List.take_append_drop 1 (cs.drop 8)
    rwa [List.drop_drop]at this
   rw[e1,e2,List.take_append_drop]
  rw[e,hc0,ha,hb]
  exact (b4h _ r).app ((pH (.lit _) rfl).app (pH (.lit _) rfl))
set_option maxRecDepth 20000 in
theorem a1c (T : TyOk Tryz.prog) {W : World} {b0 : Nat} {v : Value} {d : DataW H} {p : List MemPlace} (hval : Value.okWide Tryz.prog W .any b0 64 v) (h : DataW.Trod enc Tryz.prog W 0 (fun _ => true) true 64 v d p) :
  ∃ (k:Int) (N:List RN),Rel (g00 W) (.agg (bF k N)) v:=by
 obtain⟨fuel,h⟩:=h
 obtain⟨fs,hu,hk⟩:=tU c7i
 obtain⟨f0,f1,hf,t0,o0,t1,o1⟩:=b0u hk
 rw[← Array.toArray_toList (xs:=fs),hf]at hu
 unfold Value.okWide at hval
 rw[hu]at hval
 obtain⟨cs,rfl,hs,_⟩:=hval
 obtain⟨xs,n,_,hx,hl,hxl,hfl⟩:=DataW.trod_struct hu h
 rw[c7l]at hl
 match xs,hxl with
 | [y0,y1],_ =>
  have g0:=hfl 0 f0 rfl
  have g1:=hfl 1 f1 rfl
  simp only[t0,o0,t1,o1,b0i,c7m,List.drop_zero,List.getElem?_cons_zero,List.getElem?_cons_succ]at g0 g1
  obtain⟨k,hk,_⟩:=DataW.trod_int a1s g0
  obtain⟨l,hlr,_⟩:=slR (α:=RN) c7d a8y (by decide) eRN (fun _ _=>True) (fun _=>0) (fun _ h=>h) (fun _ _ _ _=>Nat.le_refl _) (fun fuel cs x h=>el79 T fuel cs x h) g1
  refine⟨k,l,RelC.agg ?_⟩
  have e:(Value.agg cs).cells.toList=((Value.agg cs).cells.toList.take 1)++((Value.agg cs).cells.toList.drop 1).take 1:=by
   rw[List.take_of_length_le (l:=List.drop 1 _) (by rw[List.length_drop];omega),List.take_append_drop]
  have ec:(Value.agg cs).cells.toList=cs.toList:=rfl
  rw[ec]at e g0 g1 hk
  rw[e,hk]
  exact (pH (.lit _) rfl).app hlr
set_option maxRecDepth 20000 in
theorem a1d (T : TyOk Tryz.prog) {W : World} {b0 : Nat} {v : Value} {d : DataW H} {p : List MemPlace} (hval : Value.okWide Tryz.prog W .any b0 51 v) (h : DataW.Trod enc Tryz.prog W 0 (fun _ => true) true 51 v d p) :
  ∃ r:RP,Rel (g00 W) (.agg (eRP r)) v:=by
 obtain⟨r,_,rfl,_,_⟩:=b0p T c7g c7n hval h
 exact⟨r,b0k _ r⟩
end
end Go.Proofs.Vx
namespace Go.Proofs.Vx
open Go Go.Sx Go.Proofs Tryz
attribute [local irreducible] fnT CallOK CallFr AW aJ callV aL aI aH aM gcaseP hid
theorem c5u (L:List aD) (i:Nat) (h:i<L.length):(cL L).getD i []=[.sl (eS L[i])]:=by
 unfold cL
 rw[List.getD_eq_getElem?_getD,List.getElem?_map,List.getElem?_eq_getElem h];rfl
theorem b3s {L:List aD} {x:Pt} (h:∀ j (h:j<L.length),eY L[j] x=-1):jN L x=false:=by
 rw[← Bool.not_eq_true]
 intro hm
 obtain⟨c,hc,hd⟩:=List.any_eq_true.1 hm
 obtain⟨j,hj,rfl⟩:=List.getElem_of_mem hc
 exact of_decide_eq_true hd (h j hj)
theorem b5v {L:List aD} {x:Pt} {i:Nat} (h:i<L.length) (hx:eY L[i] x≠-1):jN L x=true:=List.any_eq_true.2 ⟨_,List.getElem_mem h,decide_eq_true hx⟩
theorem c3t {N:List TN} {T:BT}:∀ {k:Int},Rep N T k→∀ j∈T.ids,∃ n,N[j]?=some n∧-1≤n.2.1∧-1≤n.2.2:=by
 induction T with
 | lf b=>intro k _ j hj;simp[BT.ids]at hj
 | nd i p l r hl hr =>
  rintro k ⟨_,n,n1,_,n3,n4⟩ j hj
  simp only[BT.ids,List.mem_cons,List.mem_append]at hj
  have key:∀ {T:BT} {k:Int},Rep N T k→-1≤k:=fun h=>by rcases a1a h with q|q<;>omega
  rcases hj with rfl|hj|hj
  ·exact⟨n,n1,key n3,key n4⟩
  ·exact hl n3 j hj
  ·exact hr n4 j hj
theorem TrB.ge {N:List TN} {k:Int} {T:BT} (h:TrB N k T):-1≤k∧∀ n∈N,-1≤n.2.1∧-1≤n.2.2:=by
 refine⟨by rcases a1a h.rep with q|q<;>omega,fun n hn=>?_⟩
 obtain⟨j,hj,rfl⟩:=List.getElem_of_mem hn
 obtain⟨m,hm,h1⟩:=c3t h.rep j (h.perm.mem_iff.2 (List.mem_range.2 hj))
 rw[List.getElem?_eq_getElem hj]at hm
 obtain rfl:=Option.some.inj hm
 exact h1
theorem c54t {N:List TN} {k:Int} {T:BT} (h:TrB N k T):CallOK prog 54 [.agg (eTr k N)] [] (.agg (eTr (i5 k) (N.map fL))) []:=c54 k N h.n h.ge.1 h.ge.2
theorem c30t {L:List aD} (hL:∀ c∈L,SmC 20 c) {x:Pt} (hx:BPt 268435456 x) {i:Nat} (h:i<L.length):CallOK prog 30 [.agg [.sl (eS L[i])],.agg (eP x)] [] (.lit (.int .i64 (eY L[i] x))) []:=by
 have hs:=hL _ (List.getElem_mem h)
 have:=c30 L[i] x (Nat.le_trans hs.n (by decide)) (fun s hs'=>(hs.p s hs').mono (by decide)) (hx.mono (by decide))
 rw[b6r]at this
 exact this
theorem TrB.sm {N:List TN} {k:Int} {T:BT} (h:TrB N k T) (hc:T.chk aK=true):∀ c∈T.cells aK,SmC 20 c:=fun c hm=>by
 have:=BT.cells_sm vY h.nz (fun p hp=>(h.pl p hp).1) hc c hm
 exact⟨this.toCellOK,Nat.le_trans this.n (by have:=h.ht;omega),this.p⟩
set_option maxRecDepth 20000 in
theorem c53 (L:List aD) (x:Pt) (hn:L.length≤268435456) (hL:∀ c∈L,SmC 20 c) (hx:BPt 268435456 x):CallOK prog 53 [.sl (cL L),.fp (eP x)] [] (.lit (.bool (jN L x))) []:=by
 refine zs func53 18 [.tmp 3] results53 ?_
 simp only[aC,Nat.reduceAdd]
 have hml:maxLen=9223372036854775807:=rfl
 have hl:(cL L).length=L.length:=qO L
 replace hL:=Hid.mk hL
 repeat'(first|refine zk ?_|(refine zu ?_ ?_<;>intro hc)|(refine zv ?_ ?_<;>intro hg)|omega|simp -dsimp (disch:=try exact zo)only[go_sem,hl]|contradiction|rfl)
 refine AW.loop (fun z:{i:Nat // i≤L.length∧Hid (∀ j (h:j<L.length),j<i→eY L[j] x=-1)}=>⟨[(4,.lit (.int .i64 z.1)),(0,.sl (cL L)),(1,.fp (eP x))],[],60⟩) (fun z=>L.length - z.1) ⟨0,Nat.zero_le _,Hid.mk (fun j _ h=>absurd h (Nat.not_lt_zero _))⟩ zw ?_
 rintro⟨i,hi,hI⟩
 dsimp only
 by_cases hlt:i<L.length
 ·have es1:=c5u L i hlt
  have ci:=c30t hL.out hx hlt
  have hI1:=Hid.mk (show eY L[i] x=-1→∀ j (h:j<L.length),j<i+1→eY L[j] x=-1 from fun hv j h h2=>by
   by_cases q:j=i
   ·subst q;exact hv
   ·exact hI.out j h (by omega))
  have hI2:=Hid.mk (show eY L[i] x≠-1→jN L x=true from fun hv=>b5v hlt hv)
  clear hI hL hx
  generalize eY L[i] x=v at *
  generalize L[i]=c at *
  by_cases hv:v=-1
  ·have k1:(v=-1)=True:=eq_true hv
   replace hI1:=Hid.mk (hI1.out hv)
   clear hI2 hv
   generalize jN L x=b at *
   repeat'(first|refine zk ?_|(refine zu ?_ ?_<;>intro hc)|(refine zq ci ?_)|(refine zv ?_ ?_<;>intro hg)|omega|simp -dsimp (disch:=try exact zo)only[go_sem,hl,es1,k1,ZT]|contradiction|rfl)
   all_goals exact AW.stop ⟨⟨i+1,by omega,hI1⟩,zw,by dsimp only;omega⟩
  ·have k1:(v=-1)=False:=eq_false hv
   rw[hI2.out hv]
   clear hI1 hI2 hv
   exact z1
 ·have hil:i=L.length:=by omega
  subst hil
  rw[b3s fun j h=>hI.out j h h]
  clear hI hL hx
  exact z1
set_option maxRecDepth 20000 in
theorem c9q (k:Int) (N:List RN) (x:RP) (cf:CallOK prog 40 [.agg (bF k N)] [] (.lit (.bool false)) []):CallOK prog 11 [.agg (bF k N),.agg (eRP x)] [] (.lit (.bool true)) []:=by
 refine zs func11 61 [.tmp 4] results11 ?_
 simp only[aC,Nat.reduceAdd]
 have zh0:=c36
 exact z1
set_option maxRecDepth 20000 in
theorem c9p (k:Int) (N:List TN) (x:RP) (cf:CallOK prog 40 [.agg (eTr k N)] [] (.lit (.bool true)) []) (hx:b8 x=true):CallOK prog 11 [.agg (eTr k N),.agg (eRP x)] [] (.lit (.bool true)) []:=by
 refine zs func11 61 [.tmp 4] results11 ?_
 simp only[aC,Nat.reduceAdd]
 have cg:=c41 x
 rw[if_pos hx]at cg
 clear hx
 simp only[eRP]at cg
 have zh0:=c36
 exact z1
set_option maxRecDepth 20000 in
theorem c11ok (k:Int) (N:List TN) (T:BT) (h:TrB N k T) (hc:T.chk aK=true) (x:RP) (cf:CallOK prog 40 [.agg (eTr k N)] [] (.lit (.bool true)) []) (hx:¬ b8 x=true):CallOK prog 11 [.agg (eTr k N),.agg (eRP x)] [] (.lit (.bool true)) []:=by
 refine zs func11 61 [.tmp 4] results11 ?_
 simp only[aC,Nat.reduceAdd]
 have hml:maxLen=9223372036854775807:=rfl
 have cg:=c41 x
 rw[if_neg hx]at cg
 have cx:=c29x x hx
 have hb:=(xB hx).mono (l:=268435456) (by decide)
 have ct:=c54t h
 have c1:=c42 k N T h (ptR x) hb
 have c2:=c42 _ _ _ h.turn (ptR x) hb
 have ce:=c48 (ptR x) hb
 have l1:=c52 k N T h
 have l2:=c52 _ _ _ h.turn
 have ln:∀ {N:List TN} {k:Int} {T:BT},TrB N k T→(T.cells aK).length≤268435456:=fun {N k T} h=>by
  have h1:=BT.tl_turn T
  have h2:=h.len
  have h3:=h.n
  rw[BT.cells_len];omega
 have m1:=c53 (T.cells aK) (ptR x) (ln h) (h.sm hc) hb
 have m2:=c53 (T.turn.cells aK) (ptR x) (ln h.turn) (h.turn.sm (a6j hc)) hb
 have hw:=(a0c x).w
 obtain⟨hl1,hl2⟩:=c4v h hc hw
 have hE:=(tA hw).2.2
 have hwr:IntKind.i64.wrap (0 - cO T (ptR x))=- cO T (ptR x):=by
  rw[m8]
  split
  ·decide
  ·split<;>decide
 clear h hc hb hx hw ln
 generalize jN (T.cells aK) (ptR x)=A at *
 generalize jN (T.turn.cells aK) (ptR x)=B at *
 generalize T.cells aK=L1 at *
 generalize T.turn.cells aK=L2 at *
 generalize cO T (ptR x)=v at *
 generalize cO T.turn (ptR x)=u at *
 generalize bN (ptR x)=e at *
 generalize ptR x=p at *
 generalize N.map fL=N2 at *
 generalize i5 k=k2 at *
 simp only[eRP]at cg
 simp only[eP,e4]at cx c1 c2 ce m1 m2
 have hon:∃ b:Bool,(v=0)=(b=true)∧(A&&(B||decide (e=0)))=b:=⟨_,propext (by rw[hl1];cases A<;>cases B<;>simp),rfl⟩
 obtain⟨on,ho,hab⟩:=hon
 repeat'(first|refine tK 6 rfl ?_|refine zk ?_|(refine zu ?_ ?_<;>intro hc)|(refine zf c36 ?_)|(refine zq cf ?_)|(refine zf cg ?_)|(refine zf cx ?_)|(refine zv ?_ ?_<;>intro hg)|omega|simp -dsimp (disch:=try exact zo)only[go_sem]|contradiction|rfl)
 all_goals refine Hold.out ?_
 all_goals refine AW.weak (u5 9 (t:=[(2,.loc 8 0),(3,.fp (eP p))]) (o:=[(8,.blk (eTr k N))]) (by
  intro p hp
  simp only[zM,or_false]at hp
  rcases hp with rfl|rfl<;>first|exact .inl rfl|exact .inr rfl) (by
  intro p hp
  simp only[zM,or_false]at hp
  rcases hp with rfl<;>exact⟨by simp,rfl⟩)) ?_
 clear cf cg cx hl1
 have key:(e<1)=True∨((e<1)=False∧u=-v):=by
  rcases hl2 with q|q
  ·exact .inl (eq_true q)
  ·by_cases q1:e<1
   ·exact .inl (eq_true q1)
   ·exact .inr ⟨eq_false q1,q⟩
 clear hl2 hE
 have e0:(e=0)=True∨(e=0)=False:=by by_cases q:e=0;exact .inl (eq_true q);exact .inr (eq_false q)
 cases A
 ·have:on=false:=by rw[← hab];rfl
  subst this
  have k1:(v=0)=False:=by rw[ho];simp
  have k3:True:=trivial
  clear hab ho e0
  rcases key with k2|⟨k2,rfl⟩
  all_goals exact z1
 ·cases B
  ·rcases e0 with k3|k3
   ·have:on=true:=by rw[← hab];simp[k3]
    subst this
    have k1:(v=0)=True:=by rw[ho];simp
    clear hab ho
    rcases key with k2|⟨k2,rfl⟩
    all_goals exact z1
   ·have:on=false:=by rw[← hab];simp[k3]
    subst this
    have k1:(v=0)=False:=by rw[ho];simp
    clear hab ho
    rcases key with k2|⟨k2,rfl⟩
    all_goals exact z1
  ·have:on=true:=by rw[← hab];rfl
   subst this
   have k1:(v=0)=True:=by rw[ho];simp
   have k3:True:=trivial
   clear hab ho e0
   rcases key with k2|⟨k2,rfl⟩
   all_goals exact z1
theorem c9m (k:Int) (N:List RN) (x:RP):CallOK prog 11 [.agg (bF k N),.agg (eRP x)] [] (.lit (.bool true)) []:=by
 rcases yT k N with cf|⟨N',T,h,hc,he,cf⟩
 ·exact c9q k N x cf
 ·rw[show bF k N=eTr k N' by rw[bF,he]]
  by_cases hx:b8 x=true
  ·exact c9p k N' x cf hx
  ·exact c11ok k N' T h hc x cf hx
end Go.Proofs.Vx
namespace Go.Proofs.YtjlfgmhmalbiiaaGreatDoor
open Go Go.Proofs
theorem zand {a b:Bool} (h:a=true) (k:b=true):(a&&b)=true:=by rw[h,k];rfl
set_option maxRecDepth 100000 in
theorem fa11:joinedFacts Tryz.prog 11 Tryz.f11 Rows.bspRegularitySpec Rows.bspRegularityRow=true:=by
 unfold joinedFacts
 repeat' with_reducible refine zand ?_ ?_
 all_goals decide +kernel
end Go.Proofs.YtjlfgmhmalbiiaaGreatDoor
