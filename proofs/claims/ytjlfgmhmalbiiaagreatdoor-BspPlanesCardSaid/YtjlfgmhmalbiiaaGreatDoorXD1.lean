import Derived.Deep.Slices
import Derived.OpenShut
import Derived.ReadAgain
import Derived.Deep.DeepHandedRow
import Derived.Test.YtjlfgmhmalbiiaaGreatDoorRows
import Derived.Test.YtjlfgmhmalbiiaaGreatDoorX39
set_option linter.all false
open Array renaming toArray_toList → Aa, getElem?_eq_some_iff → Af
open List renaming getElem_append_right → Ab, getElem_append_left → Ac, take_append_drop → Ad, length_append → Ae, getElem?_eq_getElem → Ag, getElem?_cons_zero → Ah, getElem?_cons_succ → Ai, range → Aj, take_of_length_le → Ak, mem_map → Al, length_drop → Am, append_nil → Ao, mem_range → Ap, drop_zero → Aq, cons → At
open Nat renaming add_assoc → Ar, le_refl → As
open Option renaming some → An
namespace Go.Proofs.Vx
open Go Go.Sx Go.Proofs Go.ChangeShapes Go.WideShapes Go.Deep
theorem st_u4:Tryz.prog.underlying 4=some .bool:=by kernel_rfl
theorem st_u9:Tryz.prog.underlying 9=some .string:=by kernel_rfl
theorem c9z:Tryz.prog.underlying 22=some (.slice 26):=by kernel_rfl
theorem c9y:Tryz.prog.underlying 27=some (.array 1 26):=by kernel_rfl
theorem d0g:Tryz.prog.cellsOf 26=8:=by kernel_rfl
theorem d0f:Tryz.prog.cellsOf 27=8:=by kernel_rfl
theorem d0c:jZ Tryz.prog 26=some [(24,0),(24,2),(24,4),(24,6)]:=by kernel_rfl
theorem x9 {P:Program} {t:TypeId} {ks:List (TypeId × Nat)} (h:jZ P t=some ks):∃ fs,P.underlying t=some (.struct fs)∧fs.toList.map (fun f=>(f.type,f.offset))=ks:=by
 unfold jZ at h
 split at h
 ·rename_i fs hs
  split at h
  ·exact⟨fs,hs,An.inj h⟩
  ·contradiction
 ·contradiction
theorem b2k {l:List Field} {a b c d:Nat} (h:l.map (fun f=>(f.type,f.offset))=[(a,b),(c,d)]):∃ f0 f1,l=[f0,f1]∧f0.type=a∧f0.offset=b∧f1.type=c∧f1.offset=d:=by
 rcases l with _|⟨f0,_|⟨f1,_|⟨f2,l⟩⟩⟩<;>simp at h
 exact⟨f0,f1,rfl,h.1.1,h.1.2,h.2.1,h.2.2⟩
theorem list4 {l:List Field} {a b c d a' b' c' d':Nat} (h:l.map (fun f=>(f.type,f.offset))=[(a,b),(c,d),(a',b'),(c',d')]):∃ f0 f1 f2 f3,l=[f0,f1,f2,f3]∧(f0.type=a∧f0.offset=b)∧(f1.type=c∧f1.offset=d)∧(f2.type=a'∧f2.offset=b')∧(f3.type=c'∧f3.offset=d'):=by
 rcases l with _|⟨f0,_|⟨f1,_|⟨f2,_|⟨f3,_|⟨f4,l⟩⟩⟩⟩⟩<;>simp at h
 exact⟨f0,f1,f2,f3,rfl,h.1,h.2.1,h.2.2.1,h.2.2.2⟩
structure TyOk (P:Program):Prop where
 u4:P.underlying 4=some .bool
 u9:P.underlying 9=some .string
 u22:P.underlying 22=some (.slice 26)
 u27:P.underlying 27=some (.array 1 26)
 n4:P.cellsOf 4=1
 n9:P.cellsOf 9=1
 n24:P.cellsOf 24=2
 n26:P.cellsOf 26=8
 n27:P.cellsOf 27=8
 s24:∃ f0 f1:Field,P.underlying 24=some (.struct #[f0,f1])∧f0.type=4∧f0.offset=0∧f1.type=9∧f1.offset=1
 s26:∃ f0 f1 f2 f3:Field,P.underlying 26=some (.struct #[f0,f1,f2,f3])∧(f0.type=24∧f0.offset=0)∧(f1.type=24∧f1.offset=2)∧(f2.type=24∧f2.offset=4)∧(f3.type=24∧f3.offset=6)
theorem tyOk:TyOk Tryz.prog:=by
 refine⟨st_u4,st_u9,c9z,c9y,b1y,b1x,a1q,d0g,d0f,?_,?_⟩
 ·obtain⟨fs,hu,hk⟩:=x9 b0q
  obtain⟨f0,f1,hf,r⟩:=b2k hk
  exact⟨f0,f1,by rw[hu,← Aa (xs:=fs),hf],r⟩
 ·obtain⟨fs,hu,hk⟩:=x9 d0c
  obtain⟨f0,f1,f2,f3,hf,r⟩:=list4 hk
  exact⟨f0,f1,f2,f3,by rw[hu,← Aa (xs:=fs),hf],r⟩
section
variable {P:Program} {H:Type} {enc:TypeId × Value→H} {w:World} {base:Nat} {spare:Nat→Bool} {held:Bool}
def dI (b:Bool) (s:ByteArray):DataW H:=.agg [.lit (.bool b),.lit (.string s.data.toList)]
def dR (r:RP):DataW H:=.agg [dI r.n1 r.m1,dI r.n2 r.m2,dI r.n3 r.m3,dI r.n4 r.m4]
def cR (r:RP):List Value:=[.bool r.n1,.string r.m1,.bool r.n2,.string r.m2,.bool r.n3,.string r.m3,.bool r.n4,.string r.m4]
def wfR (r:RP):Prop:=r.m1.size≤maxLen∧r.m2.size≤maxLen∧r.m3.size≤maxLen∧r.m4.size≤maxLen
theorem xZ (T:TyOk P) {fuel:Nat} {cs:List Value} {x:DataW H × List MemPlace} (h:DataW.trod enc P w base spare held fuel 24 cs=some x):∃ b s,cs=[.bool b,.string s]∧x=(dI b s,[])∧s.size≤maxLen:=by
 obtain⟨f0,f1,hu,t0,o0,t1,o1⟩:=T.s24
 obtain⟨xs,n,_,hx,hl,hxl,hf⟩:=DataW.trod_struct hu h
 rw[T.n24]at hl
 match xs,hxl,cs,hl with
 | [y0,y1],_,[v0,v1],_ =>
  have g0:=hf 0 f0 rfl
  have g1:=hf 1 f1 rfl
  simp[t0,o0,t1,o1,T.n4,T.n9]at g0 g1
  obtain⟨b,e0,e1⟩:=DataW.trod_bool T.u4 g0
  obtain⟨s,e2,e3,e4⟩:=DataW.trod_string T.u9 g1
  simp only[At.injEq,and_true]at e0 e2
  subst e0 e2 e1 e3
  exact⟨b,s,rfl,by rw[hx];rfl,e4⟩
def S4 (P:Program) (t:TypeId):Prop:=∃ f0 f1 f2 f3:Field,P.underlying t=some (.struct #[f0,f1,f2,f3])∧(f0.type=24∧f0.offset=0)∧(f1.type=24∧f1.offset=2)∧(f2.type=24∧f2.offset=4)∧(f3.type=24∧f3.offset=6)
theorem open4 (T:TyOk P) {t:TypeId} (st:S4 P t) (ct:P.cellsOf t=8) {fuel:Nat} {cs:List Value} {x:DataW H × List MemPlace} (h:DataW.trod enc P w base spare held fuel t cs=some x):∃ r,wfR r∧cs=cR r∧x=(dR r,[]):=by
 obtain⟨f0,f1,f2,f3,hu,⟨t0,o0⟩,⟨t1,o1⟩,⟨t2,o2⟩,⟨t3,o3⟩⟩:=st
 obtain⟨xs,n,_,hx,hl,hxl,hf⟩:=DataW.trod_struct hu h
 rw[ct]at hl
 match xs,hxl,cs,hl with
 | [y0,y1,y2,y3],_,[v0,v1,v2,v3,v4,v5,v6,v7],_ =>
  have g0:=hf 0 f0 rfl
  have g1:=hf 1 f1 rfl
  have g2:=hf 2 f2 rfl
  have g3:=hf 3 f3 rfl
  simp[t0,o0,t1,o1,t2,o2,t3,o3,T.n24]at g0 g1 g2 g3
  obtain⟨b0,s0,a0,c0,d0⟩:=xZ T g0
  obtain⟨b1,s1,a1,c1,d1⟩:=xZ T g1
  obtain⟨b2,s2,a2,c2,d2⟩:=xZ T g2
  obtain⟨b3,s3,a3,c3,d3⟩:=xZ T g3
  simp only[At.injEq,and_true]at a0 a1 a2 a3
  obtain⟨rfl,rfl⟩:=a0
  obtain⟨rfl,rfl⟩:=a1
  obtain⟨rfl,rfl⟩:=a2
  obtain⟨rfl,rfl⟩:=a3
  subst c0 c1 c2 c3
  exact⟨⟨b0,s0,b1,s1,b2,s2,b3,s3⟩,⟨d0,d1,d2,d3⟩,rfl,by rw[hx];rfl⟩
theorem d2g (r:RP) (j:Nat) (h:j<8):(eRP r)[j]'h=.lit ((cR r)[j]'h):=by
 match j,h with
 | 0,_=>rfl
 | 1,_=>rfl
 | 2,_=>rfl
 | 3,_=>rfl
 | 4,_=>rfl
 | 5,_=>rfl
 | 6,_=>rfl
 | 7,_=>rfl
theorem d2f (r:RP) (j:Nat) (h:j<8):((cR r)[j]'h).oneCell'=true:=by
 match j,h with
 | 0,_=>rfl
 | 1,_=>rfl
 | 2,_=>rfl
 | 3,_=>rfl
 | 4,_=>rfl
 | 5,_=>rfl
 | 6,_=>rfl
 | 7,_=>rfl
end
def g00 (W:World):Gh:=⟨W,fun b=>b<W.heap.size,fun _=>False,fun _=>0,fun _=>⟨none,0,0,0⟩,fun _=>0⟩
theorem d1s (W:World):GOk (bK Tryz.prog (g00 W) (upd aG [])) (g00 W) (upd aG []):=⟨rfl,Tp.rfl,rfl,As _,fun _ _ _=>rfl,fun b hb=>hb,fun b hb=>.inl hb,fun b hb=>hb,fun l=>trivial,fun l b hb=>by simp[upd,aG,aF]at hb,fun l l' b hb=>by simp[upd,aG,aF]at hb⟩
theorem a5h {f : Nat} {args : List AV} {vals : List Value} {W : World} (h : CallOK Tryz.prog f args [] (.lit (.bool true)) []) (hr : RelL (g00 W) args vals) :
  Calls Tryz.prog f vals.toArray W fun e w'=>e=.returned (.bool true)∧w'.os=W.os∧w'.output=W.output∧W.heap.size≤w'.heap.size∧∀ b,b<W.heap.size→w'.heap[b]?=W.heap[b]?:=by
 refine (h (g00 W) vals (fun l=>by simp[g00]) (d1s W) hr).mono ?_
 rintro e w' ⟨v,g',rfl,rfl,_,_,hg,hv⟩
 cases hv
 exact⟨rfl,hg.os,hg.output,hg.size,fun b hb=>hg.old b hb (by rintro⟨l,hl⟩;simp[upd,aG,aF]at hl)⟩
end Go.Proofs.Vx
namespace Go.Proofs.Vx
open Go Go.Sx Go.Proofs Go.ChangeShapes Go.WideShapes Go.Deep
section
variable {P:Program} {H:Type} {enc:TypeId × Value→H}
theorem a4o {f : Func} {s : ChangeSpec} {apart fresh handsOn again : Bool} {W W' : World} {args : Array Value} {v : Value} {ds : List (DataW H)} {before : List MemPlace}
  (hvs:s.vars=[]) (hW:DataW.Whole enc P f.params.toList s.vars apart W args.toList ds [] before) (hos:W'.os=W.os) (hou:W'.output=W.output) (hold:∀ b,b<W.heap.size→W'.heap[b]?=W.heap[b]?)
  (hres:∀ (b:Nat) (sp:Nat→Bool) (hd:Bool),DataW.TrodAll enc P W' b sp hd f.resultTypes.toList (v.resultList f.resultTypes.size) (s.fn H ds).results [])
  (hargs:∀ sp:Nat→Bool,(∀ b,b<W.heap.size→sp b=true)→DataW.TrodAll enc P W' 0 sp true f.params.toList args.toList (s.fn H ds).args before) (hv0:(s.fn H ds).vars=[])
  (hok:∀ (j:Nat) (t:TypeId) (r:Value),f.resultTypes[j]?=some t→(v.resultList f.resultTypes.size)[j]?=some r→Value.okWide P W' .any 0 t r) :
  s.post enc P f apart fresh handsOn again W args v W':=by
 have hkept:W.keptBut W' (·∈before):=by
  refine⟨hos,hou,fun i hi=>?_⟩
  rw[hold i hi]
  split
  ·rename_i h1 h2
   rw[h1]at h2
   simp only[An.injEq,Obj.cells.injEq]at h2
   obtain⟨rfl,rfl,rfl⟩:=h2
   exact⟨rfl,rfl,rfl,fun _ _=>rfl⟩
  ·rename_i h1 h2
   rw[h1]at h2
   simp only[An.injEq,Obj.map.injEq]at h2
   obtain⟨rfl,rfl⟩:=h2
   exact .inr ⟨rfl,rfl⟩
  ·rfl
 have hvars:∀ sp:Nat→Bool,DataW.TrodVars enc P W' sp s.vars (s.fn H (ds++[])).vars []:=fun sp=>by rw[Ao,hv0,hvs];rfl
 have hres':=hres
 have hargs':=hargs
 rw[← Ao ds]at hres' hargs'
 refine⟨ds,[],before,[],before,[],hW,hres' _ _ _,hargs' _ (fun b hb=>by simpa using hb),hvars _,World.keptBut_mono (fun p hp=>⟨hp,Or.inr (Or.inl hp)⟩) hkept,fun _=>?_⟩
 obtain⟨_,_,_,_,_,hz,hn⟩:=id hW
 refine⟨hok,_,_,([]++before)++[],⟨[]++before,[],trodAll_append (hargs' _ (fun _ _=>rfl)) (hres' _ _ _),hvars _,rfl,?_,?_⟩,?_⟩
 ·intro b off hp
  have hp':MemPlace.cell b off∈before:=by simpa using hp
  have hb:b<W.heap.size:=hW.lt _ hp'
  have:=hz b off hp'
  unfold World.frozen? at this ⊢
  rw[hold b hb]
  exact this
 ·intro ha
  simpa using hn ha
 ·intro p hp _
  simpa using hp
end
end Go.Proofs.Vx
namespace Go.Proofs.Vx
open Go Go.Sx Go.Proofs Go.ChangeShapes Go.WideShapes Go.Deep
section
variable {P:Program} {H:Type} {enc:TypeId × Value→H}
end
end Go.Proofs.Vx
namespace Go.Proofs.Vx
open Go Go.Sx Go.Proofs Go.ChangeShapes Go.WideShapes Go.Deep
structure RelC (g:Gh) (es:List AV) (cs:List Value):Prop where
 len:cs.length=es.length
 rel:∀ i (h1:i<es.length) (h2:i<cs.length),Rel g es[i] cs[i]
 one:∀ i (h2:i<cs.length),cs[i].oneCell'=true
theorem RelC.app {g:Gh} {es es':List AV} {cs cs':List Value} (h:RelC g es cs) (k:RelC g es' cs'):RelC g (es++es') (cs++cs'):=by
 refine⟨by rw[Ae,Ae,h.len,k.len],fun i h1 h2=>?_,fun i h2=>?_⟩
 ·by_cases q:i<cs.length
  ·rw[Ac q,Ac (by rw[← h.len];exact q)]
   exact h.rel i _ _
  ·have hq:es.length≤i:=by have:=h.len;omega
   have hq2:cs.length≤i:=by omega
   rw[Ae]at h1 h2
   rw[Ab hq,Ab hq2]
   have:=k.rel (i - es.length) (by omega) (by have:=h.len;omega)
   simpa only[h.len]using this
 ·by_cases q:i<cs.length
  ·rw[Ac q];exact h.one i _
  ·rw[Ab (by omega)];exact k.one _ _
theorem pY {g:Gh} {a:AV} {v:Value} (h:Rel g a v) (ho:v.oneCell'=true):RelC g [a] [v]:=by
 refine⟨rfl,fun i h1 h2=>?_,fun i h2=>?_⟩
 ·match i,h1 with
  | 0,_=>exact h
 ·match i,h2 with
  | 0,_=>exact ho
theorem b6e (g:Gh) (r:RP):RelC g (eRP r) (cR r):=⟨rfl,fun i h1 h2=>by rw[d2g r i h1];exact .lit _,fun i h=>d2f r i h⟩
theorem RelC.agg {g:Gh} {es:List AV} {cs:Array Value} (h:RelC g es cs.toList):Rel g (.agg es) (.agg cs):=by
 refine .agg _ _ h.len (fun i h2=>?_) fun i h1 h2=>?_
 ·have:=h.one i h2;simpa using this
 ·have:=h.rel i h1 h2;simpa using this
section
variable {P:Program} {H:Type} {enc:TypeId × Value→H}
theorem slR {W : World} {α : Type} [Inhabited α] {t e k : Nat} (ht : P.underlying t = some (.slice e)) (ce : P.cellsOf e = k) (hk : 0 < k) (E : α → List AV) (Q : Nat → α → Prop) (M : DataW H → Nat)
  (hQ:∀ {m n a},m≤n→Q m a→Q n a) (hM:∀ (es sp:List (DataW H)),∀ d∈es,M d≤M (.slice es sp))
  (el:∀ (fuel:Nat) (cs:List Value) (x:DataW H × List MemPlace),DataW.trod enc P W 0 (fun _=>true) true fuel e cs=some x→∃ a,RelC (g00 W) (E a) cs∧(E a).length=k∧Q (M x.1) a)
  {fuel:Nat} {cs:List Value} {x:DataW H × List MemPlace} (h:DataW.trod enc P W 0 (fun _=>true) true fuel t cs=some x) :
  ∃ l:List α,RelC (g00 W) [.sl (l.map E)] cs∧∀ a∈l,Q (M x.1) a:=by
 rcases open_slice ht h with⟨rfl,rfl⟩|⟨a,len,cap,m,n,D,Pl,rfl,_,hl,hm,hmm,rfl,hel⟩
 ·exact⟨[],pY .slnil rfl,by simp⟩
 ·simp only[if_true]at hmm
  subst hmm
  by_cases h0:m=0
  ·subst h0
   have:len=0:=by omega
   subst this
   exact⟨[],pY .slnil rfl,by simp⟩
  ·have each:∀ i,i<m→∃ a':α,(∃ cs',W.cells? 0 (a.add (i*k)) k=some cs'∧RelC (g00 W) (E a') cs'∧(E a').length=k)∧Q (M (D i)) a':=fun i hi=>by
    obtain⟨cs',h1,h2⟩:=hel i hi
    obtain⟨a',h3,h4,h5⟩:=el n cs' _ h2
    rw[ce]at h1
    exact⟨a',⟨cs',h1,h3,h4⟩,h5⟩
   obtain⟨R,hR⟩:=choose_lt each
   obtain⟨b,off,spot⟩:=a
   have hsp:spot=none∧∃ c e' fr,W.heap[b]?=some (.cells c e' fr):=by
    obtain⟨⟨cs0,hc0,hr0,hk0⟩,_⟩:=hR 0 (by omega)
    obtain⟨_,hlen,hcc⟩:=World.cells?_some hc0
    have h1:=hcc 0 hk
    rw[Nat.zero_mul,add_add]at h1
    have h2:(⟨b,off,spot⟩:Addr).add (0+0)=⟨b,off,spot⟩:=rfl
    rw[h2,Ag (by omega)]at h1
    unfold World.cell? at h1
    simp only at h1
    cases hb:W.heap[b]? with
    | none=>rw[hb]at h1;simp at h1
    | some o =>
     rw[hb]at h1
     cases o with
     | cells c e' fr =>
      refine⟨?_,c,e',fr,rfl⟩
      cases spot with
      | none=>rfl
      | some s=>simp at h1
     | _=>simp at h1
   obtain⟨rfl,c,e',fr,hb⟩:=hsp
   have hc:∀ i,i<m→∀ j (hj:j<k) (hj2:j<(E (R i)).length),∃ h2:off+i*k+j<c.size,Rel (g00 W) ((E (R i))[j]'hj2) c[off+i*k+j]∧c[off+i*k+j].oneCell'=true:=by
    intro i hi j hj hj2
    obtain⟨⟨cs',hc',hr',hk'⟩,_⟩:=hR i hi
    obtain⟨_,hlen,hcc⟩:=World.cells?_some hc'
    have h1:=hcc j hj
    rw[add_add,add_plain,Ag (by omega)]at h1
    unfold World.cell? at h1
    rw[hb]at h1
    simp only[Option.isSome_none,Bool.false_eq_true,if_false,← Ar]at h1
    obtain⟨h2,h3⟩:=Af.1 h1
    refine⟨h2,?_⟩
    rw[h3]
    exact⟨hr'.rel j hj2 (by omega),hr'.one j (by omega)⟩
   have hkE:∀ i,i<m→(E (R i)).length=k:=fun i hi=>by obtain⟨⟨_,_,_,h⟩,_⟩:=hR i hi;exact h
   refine⟨(Aj len).map R,pY ?_ rfl,fun a ha=>?_⟩
   ·have hlen:(((Aj len).map R).map E).length=len:=by simp
    have hget:∀ i (hi:i<(((Aj len).map R).map E).length),(((Aj len).map R).map E)[i]=E (R i):=fun i hi=>by simp
    have key := Rel.sl (g := g00 W) (((Aj len).map R).map E) b off m k c e' fr (show b < W.heap.size from (Af.1 hb).1) hb (by rw [hlen]; exact hl) (fun i hi => by rw [hget i hi]; exact hkE i (by rw [hlen] at hi; omega)) (fun hp => by
      rw[hlen]at hp ⊢
      obtain⟨h2,_⟩:=hc (len - 1) (by omega) (k - 1) (by omega) (by rw[hkE _ (by omega)];omega)
      have e1:(len - 1)*k+k=len*k:=by
       have:len=(len - 1)+1:=by omega
       conv=>rhs;rw[this,Nat.add_mul,Nat.one_mul]
      omega) (fun j h1 h2=>by
      rw[hlen]at h2
      have hj:j / k<len:=Nat.div_lt_of_lt_mul (by rw[Nat.mul_comm];exact h2)
      have hm2:=Nat.mod_lt j hk
      obtain⟨h3,_,h4⟩:=hc (j / k) (by omega) (j % k) hm2 (by rw[hkE _ (by omega)];exact hm2)
      have e1:off+j / k*k+j % k=off+j:=by rw[Ar,Nat.div_add_mod']
      simp only[e1]at h4
      exact h4) (fun i h1 j h2 h3=>by
      have h1':i<len:=by rw[hlen]at h1;exact h1
      have h2':j<(E (R i)).length:=by rw[hget i h1]at h2;exact h2
      have hjk:j<k:=by rw[hkE i (by omega)]at h2';exact h2'
      obtain⟨h4,h5,_⟩:=hc i (by omega) j hjk h2'
      simp only[hget i h1]
      exact h5)
    rw[hlen]at key
    exact key
   ·obtain⟨i,hi,rfl⟩:=Al.1 ha
    have hi:=Ap.1 hi
    exact hQ (hM _ _ _ (Al.2 ⟨i,Ap.2 hi,rfl⟩)) (hR i (by omega)).2
theorem a5i (K : Kids P (· < P.types.size)) (full : ∀ t e, t < P.types.size → P.underlying t = some (.slice e) → 0 < P.cellsOf e) {W W' : World} {sp : Nat → Bool} (hold : ∀ b, b < W.heap.size → W'.heap[b]? = W.heap[b]?) (hsp : ∀ b, b < W.heap.size → sp b = true) :
  ∀ {ts:List TypeId} {vs:List Value} {ds:List (DataW H)} {p:List MemPlace},(∀ t∈ts,t<P.types.size)→(∀ q∈p,q.block<W.heap.size)→DataW.TrodAll enc P W 0 (fun _=>true) true ts vs ds p→DataW.TrodAll enc P W' 0 sp true ts vs ds p:=by
 intro ts
 induction ts with
 | nil =>
  intro vs ds p _ _ h
  cases vs<;>cases ds<;>first|exact h|cases h
 | cons t ts ih =>
  intro vs ds p hT hlt h
  match vs,ds,h with
  | v::vs,d::ds,⟨p1,q1,h1,h2,e⟩ =>
   subst e
   have hlt1:∀ x∈p1,x.block<W.heap.size:=fun x hx=>hlt x (List.mem_append_left _ hx)
   obtain⟨n,hn⟩:=DataW.Trod.respare (spare':=sp) K full (hT t (by simp)) h1 fun x hx=>hsp _ (hlt1 x hx)
   refine⟨p1,q1,⟨n,DataW.trod_carry n _ _ _ hn fun x hx=>?_⟩,ih (fun u hu=>hT u (by simp[hu])) (fun x hx=>hlt x (List.mem_append_right _ hx)) h2,rfl⟩
   have hb:=hold _ (hlt1 x hx)
   cases x with
   | cell b off =>
    show W'.cell? ⟨b,off,none⟩=W.cell? ⟨b,off,none⟩
    unfold World.cell?
    rw[show W'.heap[b]?=W.heap[b]? from hb]
   | map b=>exact hb
end
end Go.Proofs.Vx
namespace Go.Proofs.Vx
open Go Go.Sx Go.Proofs Tryz
attribute [local irreducible] fnT CallOK CallFr AW aK callV aL aJ aI aM gcaseP hid
abbrev b3g:=List (RP × List RP)
def eRS (l:b3g):List (List AV):=l.map fun s=>eRP s.1++[.sl (eRPs s.2)]
theorem d1y {K:Nat→Prop} (l:b3g):(∀ e∈eRS l,∀ c∈e,In K c)=True:=eq_true fun e he c hc=>by
 obtain⟨s,_,rfl⟩:=Al.1 he
 rcases List.mem_append.1 hc with h|h
 ·unfold eRP at h
  simp only[zM,or_false]at h
  rcases h with rfl|rfl|rfl|rfl|rfl|rfl|rfl|rfl<;>exact .lit _
 ·obtain rfl:=List.mem_singleton.1 h
  exact .sl _ (of_eq_true (b0b _))
attribute [go_sem] d1y
end Go.Proofs.Vx
namespace Go.Proofs.Vx
open Go Go.Sx Go.Proofs Go.ChangeShapes Go.WideShapes Go.Deep Go.Proofs.YtjlfgmhmalbiiaaGreatDoor
theorem b2l:Kids Tryz.prog (· < Tryz.prog.types.size):=kids_rows (by kernel_rfl) (by kernel_rfl)
theorem b2q:∀ t e,t<Tryz.prog.types.size→Tryz.prog.underlying t=some (.slice e)→0<Tryz.prog.cellsOf e:=slices_full_of _ (by kernel_rfl)
instance:Inhabited RP:=⟨⟨false,⟨#[]⟩,false,⟨#[]⟩,false,⟨#[]⟩,false,⟨#[]⟩⟩⟩
section
variable {H:Type} {enc:TypeId × Value→H}
end
end Go.Proofs.Vx
namespace Go.Proofs.Vx
open Go Go.Sx Go.Proofs Go.ChangeShapes Go.WideShapes Go.Deep Go.Proofs.YtjlfgmhmalbiiaaGreatDoor
theorem c9x:Tryz.prog.underlying 62=some (.slice 79):=by kernel_rfl
theorem a2q:Tryz.prog.underlying 3=some (.int .i64):=by kernel_rfl
theorem d0b:jZ Tryz.prog 64=some [(3,0),(62,1)]:=by kernel_rfl
theorem d0a:jZ Tryz.prog 79=some [(26,0),(3,8),(3,9)]:=by kernel_rfl
theorem b2e:Tryz.prog.cellsOf 3=1:=by kernel_rfl
theorem d0e:Tryz.prog.cellsOf 62=1:=by kernel_rfl
theorem d0d:Tryz.prog.cellsOf 64=2:=by kernel_rfl
theorem b1a:Tryz.prog.cellsOf 79=10:=by kernel_rfl
instance:Inhabited RN:=⟨⟨default,0,0⟩⟩
section
variable {H:Type} {enc:TypeId × Value→H}
theorem el79 (T : TyOk Tryz.prog) {W : World} (fuel : Nat) (cs : List Value) (x : DataW H × List MemPlace) (h : DataW.trod enc Tryz.prog W 0 (fun _ => true) true fuel 79 cs = some x) :
  ∃ n:RN,RelC (g00 W) (eRN n) cs∧(eRN n).length=10∧True:=by
 obtain⟨fs,hu,hk⟩:=x9 d0a
 have hf:∃ f0 f1 f2,fs.toList=[f0,f1,f2]∧(f0.type=26∧f0.offset=0)∧(f1.type=3∧f1.offset=8)∧(f2.type=3∧f2.offset=9):=by
  rcases hq:fs.toList with _|⟨f0,_|⟨f1,_|⟨f2,_|⟨f3,l⟩⟩⟩⟩<;>rw[hq]at hk<;>simp at hk
  exact⟨f0,f1,f2,rfl,hk.1,hk.2.1,hk.2.2⟩
 obtain⟨f0,f1,f2,hf,⟨t0,o0⟩,⟨t1,o1⟩,⟨t2,o2⟩⟩:=hf
 rw[← Aa (xs:=fs),hf]at hu
 obtain⟨xs,n,_,hx,hl,hxl,hfl⟩:=DataW.trod_struct hu h
 rw[b1a]at hl
 match xs,hxl with
 | [y0,y1,y2],_ =>
  have g0:=hfl 0 f0 rfl
  have g1:=hfl 1 f1 rfl
  have g2:=hfl 2 f2 rfl
  simp only[t0,o0,T.n26,t1,o1,t2,o2,b2e,Aq,Ah,Ai]at g0 g1 g2
  obtain⟨r,_,hc0,rfl⟩:=open4 T T.s26 T.n26 g0
  obtain⟨a,ha,_⟩:=DataW.trod_int a2q g1
  obtain⟨b,hb,_⟩:=DataW.trod_int a2q g2
  refine⟨(r,a,b),?_,rfl,trivial⟩
  have e:cs=cs.take 8++((cs.drop 8).take 1++(cs.drop 9).take 1):=by
   have e1:(cs.drop 9).take 1=cs.drop 9:=Ak (by rw[Am];omega)
   have e2:(cs.drop 8).take 1++cs.drop 9=cs.drop 8:=by
    have:=Ad 1 (cs.drop 8)
    rwa [List.drop_drop]at this
   rw[e1,e2,Ad]
  rw[e,hc0,ha,hb]
  exact (b6e _ r).app ((pY (.lit _) rfl).app (pY (.lit _) rfl))
set_option maxRecDepth 20000 in
theorem b1h (T : TyOk Tryz.prog) {W : World} {b0 : Nat} {v : Value} {d : DataW H} {p : List MemPlace} (hval : Value.okWide Tryz.prog W .any b0 64 v) (h : DataW.Trod enc Tryz.prog W 0 (fun _ => true) true 64 v d p) :
  ∃ (k:Int) (N:List RN),Rel (g00 W) (.agg (bV k N)) v:=by
 obtain⟨fuel,h⟩:=h
 obtain⟨fs,hu,hk⟩:=x9 d0b
 obtain⟨f0,f1,hf,t0,o0,t1,o1⟩:=b2k hk
 rw[← Aa (xs:=fs),hf]at hu
 unfold Value.okWide at hval
 rw[hu]at hval
 obtain⟨cs,rfl,hs,_⟩:=hval
 obtain⟨xs,n,_,hx,hl,hxl,hfl⟩:=DataW.trod_struct hu h
 rw[d0d]at hl
 match xs,hxl with
 | [y0,y1],_ =>
  have g0:=hfl 0 f0 rfl
  have g1:=hfl 1 f1 rfl
  simp only[t0,o0,t1,o1,b2e,d0e,Aq,Ah,Ai]at g0 g1
  obtain⟨k,hk,_⟩:=DataW.trod_int a2q g0
  obtain⟨l,hlr,_⟩:=slR (α:=RN) c9x b1a (by decide) eRN (fun _ _=>True) (fun _=>0) (fun _ h=>h) (fun _ _ _ _=>As _) (fun fuel cs x h=>el79 T fuel cs x h) g1
  refine⟨k,l,RelC.agg ?_⟩
  have e:(Value.agg cs).cells.toList=((Value.agg cs).cells.toList.take 1)++((Value.agg cs).cells.toList.drop 1).take 1:=by
   rw[Ak (l:=List.drop 1 _) (by rw[Am];omega),Ad]
  have ec:(Value.agg cs).cells.toList=cs.toList:=rfl
  rw[ec]at e g0 g1 hk
  rw[e,hk]
  exact (pY (.lit _) rfl).app hlr
end
end Go.Proofs.Vx
