import Derived.ReadAgain
import Derived.Deep.DeepHandedRow
import Derived.Test.YtjlfgmhmalbiiaaGreatDoorRows
import Derived.JoinedOf
import Derived.Test.YtjlfgmhmalbiiaaGreatDoorU37
import Derived.Test.YtjlfgmhmalbiiaaGreatDoorU38
set_option linter.all false
namespace Go.Proofs.Vx
open Go Go.Sx Go.Proofs Go.ChangeShapes Go.WideShapes Go.Deep
structure RelC (g:Gh) (es:List AV) (cs:List Value):Prop where
 len:cs.length=es.length
 rel:∀ i (h1:i<es.length) (h2:i<cs.length),Rel g es[i] cs[i]
 one:∀ i (h2:i<cs.length),cs[i].oneCell'=true
theorem RelC.app {g:Gh} {es es':List AV} {cs cs':List Value} (h:RelC g es cs) (k:RelC g es' cs'):RelC g (es++es') (cs++cs'):=by
 refine ⟨by rw[List.length_append,List.length_append,h.len,k.len],fun i h1 h2=>?_,fun i h2=>?_⟩
 ·by_cases q:i<cs.length
  ·rw[List.getElem_append_left q,List.getElem_append_left (by rw[← h.len];exact q)]
   exact h.rel i _ _
  ·have hq:es.length≤i:=by have:=h.len;omega
   have hq2:cs.length≤i:=by omega
   rw[List.length_append]at h1 h2
   rw[List.getElem_append_right hq,List.getElem_append_right hq2]
   have:=k.rel (i - es.length) (by omega) (by have:=h.len;omega)
   simpa only[h.len]using this
 ·by_cases q:i<cs.length
  ·rw[List.getElem_append_left q];exact h.one i _
  ·rw[List.getElem_append_right (by omega)];exact k.one _ _
theorem RelC.one1 {g:Gh} {a:AV} {v:Value} (h:Rel g a v) (ho:v.oneCell'=true):RelC g [a] [v]:=by
 refine ⟨rfl,fun i h1 h2=>?_,fun i h2=>?_⟩
 ·match i,h1 with
  | 0,_=>exact h
 ·match i,h2 with
  | 0,_=>exact ho
theorem RelC.plane (g:Gh) (r:RP):RelC g (eRP r) (cR r):=⟨rfl,fun i h1 h2=>by rw[cR_get r i h1];exact .lit _,fun i h=>cR_one r i h⟩
theorem RelC.agg {g:Gh} {es:List AV} {cs:Array Value} (h:RelC g es cs.toList):Rel g (.agg es) (.agg cs):=by
 refine .agg _ _ h.len (fun i h2=>?_) fun i h1 h2=>?_
 ·have:=h.one i h2;simpa using this
 ·have:=h.rel i h1 h2;simpa using this
section
variable {P:Program} {H:Type} {enc:TypeId × Value→H}
theorem slR {W : World} {α : Type} [Inhabited α] {t e k : Nat} (ht : P.underlying t = some (.slice e)) (ce : P.cellsOf e = k) (hk : 0 < k) (E : α → List AV) (Q : Nat → α → Prop) (M : DataW H → Nat)
  (hQ:∀ {m n a},m≤n→Q m a→Q n a) (hM:∀ (es sp:List (DataW H)),∀ d∈es,M d≤M (.slice es sp))
  (el:∀ (fuel:Nat) (cs:List Value) (x:DataW H × List MemPlace),DataW.trod enc P W 0 (fun _=>true) true fuel e cs=some x→∃ a,RelC (g00 W) (E a) cs∧(E a).length=k∧Q (M x.1) a)
  {fuel:Nat} {cs:List Value} {x:DataW H × List MemPlace} (h:DataW.trod enc P W 0 (fun _=>true) true fuel t cs=some x) :
  ∃ l:List α,RelC (g00 W) [.sl (l.map E)] cs∧∀ a∈l,Q (M x.1) a:=by
 rcases open_slice ht h with ⟨rfl,rfl⟩|⟨a,len,cap,m,n,D,Pl,rfl,_,hl,hm,hmm,rfl,hel⟩
 ·exact ⟨[],RelC.one1 .slnil rfl,by simp⟩
 ·simp only[if_true]at hmm
  subst hmm
  by_cases h0:m=0
  ·subst h0
   have:len=0:=by omega
   subst this
   exact ⟨[],RelC.one1 .slnil rfl,by simp⟩
  ·have each:∀ i,i<m→∃ a':α,(∃ cs',W.cells? 0 (a.add (i*k)) k=some cs'∧RelC (g00 W) (E a') cs'∧(E a').length=k)∧Q (M (D i)) a':=fun i hi=>by
    obtain ⟨cs',h1,h2⟩:=hel i hi
    obtain ⟨a',h3,h4,h5⟩:=el n cs' _ h2
    rw[ce]at h1
    exact ⟨a',⟨cs',h1,h3,h4⟩,h5⟩
   obtain ⟨R,hR⟩:=choose_lt each
   obtain ⟨b,off,spot⟩:=a
   have hsp:spot=none∧∃ c e' fr,W.heap[b]?=some (.cells c e' fr):=by
    obtain ⟨⟨cs0,hc0,hr0,hk0⟩,_⟩:=hR 0 (by omega)
    obtain ⟨_,hlen,hcc⟩:=World.cells?_some hc0
    have h1:=hcc 0 hk
    rw[Nat.zero_mul,add_add]at h1
    have h2:(⟨b,off,spot⟩:Addr).add (0+0)=⟨b,off,spot⟩:=rfl
    rw[h2,List.getElem?_eq_getElem (by omega)]at h1
    unfold World.cell? at h1
    simp only at h1
    cases hb:W.heap[b]? with
    | none=>rw[hb]at h1;simp at h1
    | some o =>
     rw[hb]at h1
     cases o with
     | cells c e' fr =>
      refine ⟨?_,c,e',fr,rfl⟩
      cases spot with
      | none=>rfl
      | some s=>simp at h1
     | _=>simp at h1
   obtain ⟨rfl,c,e',fr,hb⟩:=hsp
   have hc:∀ i,i<m→∀ j (hj:j<k) (hj2:j<(E (R i)).length),∃ h2:off+i*k+j<c.size,Rel (g00 W) ((E (R i))[j]'hj2) c[off+i*k+j]∧c[off+i*k+j].oneCell'=true:=by
    intro i hi j hj hj2
    obtain ⟨⟨cs',hc',hr',hk'⟩,_⟩:=hR i hi
    obtain ⟨_,hlen,hcc⟩:=World.cells?_some hc'
    have h1:=hcc j hj
    rw[add_add,add_plain,List.getElem?_eq_getElem (by omega)]at h1
    unfold World.cell? at h1
    rw[hb]at h1
    simp only[Option.isSome_none,Bool.false_eq_true,if_false,← Nat.add_assoc]at h1
    obtain ⟨h2,h3⟩:=Array.getElem?_eq_some_iff.1 h1
    refine ⟨h2,?_⟩
    rw[h3]
    exact ⟨hr'.rel j hj2 (by omega),hr'.one j (by omega)⟩
   have hkE:∀ i,i<m→(E (R i)).length=k:=fun i hi=>by obtain ⟨⟨_,_,_,h⟩,_⟩:=hR i hi;exact h
   refine ⟨(List.range len).map R,RelC.one1 ?_ rfl,fun a ha=>?_⟩
   ·have hlen:(((List.range len).map R).map E).length=len:=by simp
    have hget:∀ i (hi:i<(((List.range len).map R).map E).length),(((List.range len).map R).map E)[i]=E (R i):=fun i hi=>by simp
    have key := Rel.sl (g := g00 W) (((List.range len).map R).map E) b off m k c e' fr (show b < W.heap.size from (Array.getElem?_eq_some_iff.1 hb).1) hb (by rw [hlen]; exact hl) (fun i hi => by rw [hget i hi]; exact hkE i (by rw [hlen] at hi; omega)) (fun hp => by
      rw[hlen]at hp ⊢
      obtain ⟨h2,_⟩:=hc (len - 1) (by omega) (k - 1) (by omega) (by rw[hkE _ (by omega)];omega)
      have e1:(len - 1)*k+k=len*k:=by
       have:len=(len - 1)+1:=by omega
       conv=>rhs;rw[this,Nat.add_mul,Nat.one_mul]
      omega) (fun j h1 h2=>by
      rw[hlen]at h2
      have hj:j / k<len:=Nat.div_lt_of_lt_mul (by rw[Nat.mul_comm];exact h2)
      have hm2:=Nat.mod_lt j hk
      obtain ⟨h3,_,h4⟩:=hc (j / k) (by omega) (j % k) hm2 (by rw[hkE _ (by omega)];exact hm2)
      have e1:off+j / k*k+j % k=off+j:=by rw[Nat.add_assoc,Nat.div_add_mod']
      simp only[e1]at h4
      exact h4) (fun i h1 j h2 h3=>by
      have h1':i<len:=by rw[hlen]at h1;exact h1
      have h2':j<(E (R i)).length:=by rw[hget i h1]at h2;exact h2
      have hjk:j<k:=by rw[hkE i (by omega)]at h2';exact h2'
      obtain ⟨h4,h5,_⟩:=hc i (by omega) j hjk h2'
      simp only[hget i h1]
      exact h5)
    rw[hlen]at key
    exact key
   ·obtain ⟨i,hi,rfl⟩:=List.mem_map.1 ha
    have hi:=List.mem_range.1 hi
    exact hQ (hM _ _ _ (List.mem_map.2 ⟨i,List.mem_range.2 hi,rfl⟩)) (hR i (by omega)).2
theorem args_again (K : Kids P (· < P.types.size)) (full : ∀ t e, t < P.types.size → P.underlying t = some (.slice e) → 0 < P.cellsOf e) {W W' : World} {sp : Nat → Bool} (hold : ∀ b, b < W.heap.size → W'.heap[b]? = W.heap[b]?) (hsp : ∀ b, b < W.heap.size → sp b = true) :
  ∀ {ts:List TypeId} {vs:List Value} {ds:List (DataW H)} {p:List MemPlace},(∀ t∈ts,t<P.types.size)→(∀ q∈p,q.block<W.heap.size)→DataW.TrodAll enc P W 0 (fun _=>true) true ts vs ds p→DataW.TrodAll enc P W' 0 sp true ts vs ds p:=by
 intro ts
 induction ts with
 | nil =>
  intro vs ds p _ _ h
  cases vs<;>cases ds<;>first|exact h|cases h
 | cons t ts ih =>
  intro vs ds p hT hlt h
  match vs,ds,h with
  | v::vs,d::ds,⟨p1,q1,h1,h2,e⟩ =>
   subst e
   have hlt1:∀ x∈p1,x.block<W.heap.size:=fun x hx=>hlt x (List.mem_append_left _ hx)
   obtain ⟨n,hn⟩:=DataW.Trod.respare (spare':=sp) K full (hT t (by simp)) h1 fun x hx=>hsp _ (hlt1 x hx)
   refine ⟨p1,q1,⟨n,DataW.trod_carry n _ _ _ hn fun x hx=>?_⟩,ih (fun u hu=>hT u (by simp[hu])) (fun x hx=>hlt x (List.mem_append_right _ hx)) h2,rfl⟩
   have hb:=hold _ (hlt1 x hx)
   cases x with
   | cell b off =>
    show W'.cell? ⟨b,off,none⟩=W.cell? ⟨b,off,none⟩
    unfold World.cell?
    rw[show W'.heap[b]?=W.heap[b]? from hb]
   | map b=>exact hb
end
end Go.Proofs.Vx
namespace Go.Proofs.Vx
open Go Go.Sx Go.Proofs Go.ChangeShapes Go.WideShapes Go.Deep Go.Proofs.YtjlfgmhmalbiiaaGreatDoor
theorem st_u31:Tryz.prog.underlying 31=some (.slice 58):=by kernel_rfl
theorem st_u45:Tryz.prog.underlying 45=some (.slice 51):=by kernel_rfl
theorem st_f33:fldT Tryz.prog 33=some [(31,0)]:=by kernel_rfl
theorem st_f58:fldT Tryz.prog 58=some [(26,0),(45,8)]:=by kernel_rfl
theorem st_c31:Tryz.prog.cellsOf 31=1:=by kernel_rfl
theorem st_c33:Tryz.prog.cellsOf 33=1:=by kernel_rfl
theorem st_c45:Tryz.prog.cellsOf 45=1:=by kernel_rfl
theorem st_c58:Tryz.prog.cellsOf 58=9:=by kernel_rfl
theorem kidsT:Kids Tryz.prog (· < Tryz.prog.types.size):=kids_rows (by kernel_rfl) (by kernel_rfl)
theorem fullT:∀ t e,t<Tryz.prog.types.size→Tryz.prog.underlying t=some (.slice e)→0<Tryz.prog.cellsOf e:=slices_full_of _ (by kernel_rfl)
instance:Inhabited RP:=⟨⟨false,⟨#[]⟩,false,⟨#[]⟩,false,⟨#[]⟩,false,⟨#[]⟩⟩⟩
section
variable {H:Type} {enc:TypeId × Value→H}
theorem bulk_in (l:List (DataW H)):∀ d∈l,Rows.uptoBulk d≤Rows.uptoBulkAll l:=by
 induction l with
 | nil=>intro d h;simp at h
 | cons a l ih =>
  intro d h
  simp only[Rows.uptoBulkAll]
  rcases List.mem_cons.1 h with rfl|h
  ·omega
  ·have:=ih d h;omega
theorem bulk_sl (es sp:List (DataW H)):∀ d∈es,Rows.uptoBulk d≤Rows.uptoBulk (DataW.slice es sp):=fun d h=>by
 have:=bulk_in es d h
 simp only[Rows.uptoBulk]
 omega
theorem bulk_R (r:RP):RB (Rows.uptoBulk (dR r:DataW H)) r:=by
 have e:∀ s:ByteArray,s.data.toList.length=s.size:=fun s=>rfl
 refine ⟨?_,?_,?_,?_⟩<;>simp only[dR,dI,Rows.uptoBulk,Rows.uptoBulkAll,e]<;>omega
theorem el51 (T:TyOk Tryz.prog) {W:World} (fuel:Nat) (cs:List Value) (x:DataW H × List MemPlace) (h:DataW.trod enc Tryz.prog W 0 (fun _=>true) true fuel 51 cs=some x):∃ r:RP,RelC (g00 W) (eRP r) cs∧(eRP r).length=8∧True:=by
 obtain ⟨r,_,rfl,rfl⟩:=open4 T st_s51 st_c51 h
 exact ⟨r,RelC.plane _ r,rfl,trivial⟩
theorem el58 (T : TyOk Tryz.prog) {W : World} (fuel : Nat) (cs : List Value) (x : DataW H × List MemPlace) (h : DataW.trod enc Tryz.prog W 0 (fun _ => true) true fuel 58 cs = some x) :
  ∃ s:RP × List RP,RelC (g00 W) (eRP s.1++[.sl (eRPs s.2)]) cs∧(eRP s.1++[AV.sl (eRPs s.2)]).length=9∧RB (Rows.uptoBulk x.1) s.1:=by
 obtain ⟨fs,hu,hk⟩:=fld_of st_f58
 obtain ⟨f0,f1,hf,t0,o0,t1,o1⟩:=list2 hk
 rw[← Array.toArray_toList (xs:=fs),hf]at hu
 obtain ⟨xs,n,_,hx,hl,hxl,hfl⟩:=DataW.trod_struct hu h
 rw[st_c58]at hl
 match xs,hxl with
 | [y0,y1],_ =>
  have g0:=hfl 0 f0 rfl
  have g1:=hfl 1 f1 rfl
  simp only[t0,o0,T.c26,t1,o1,st_c45,List.drop_zero,List.getElem?_cons_zero,List.getElem?_cons_succ]at g0 g1
  obtain ⟨r,_,hc0,rfl⟩:=open4 T T.s26 T.c26 g0
  obtain ⟨vs,hvs,_⟩:=slR (α:=RP) st_u45 st_c51 (by decide) eRP (fun _ _=>True) (fun _=>0) (fun _ h=>h) (fun _ _ _ _=>Nat.le_refl _) (fun fuel cs x h=>el51 T fuel cs x h) g1
  refine ⟨(r,vs),?_,rfl,?_⟩
  ·have e:cs=cs.take 8++(cs.drop 8).take 1:=by
    rw[List.take_of_length_le (l:=cs.drop 8) (by rw[List.length_drop];omega),List.take_append_drop]
   rw[e,hc0]
   exact (RelC.plane _ r).app hvs
  ·rw[hx]
   refine (bulk_R (H:=H) r).mono ?_
   simp only[List.map_cons,Rows.uptoBulk,Rows.uptoBulkAll]
   omega
set_option maxRecDepth 20000 in
theorem open33 (T : TyOk Tryz.prog) {W : World} {b0 : Nat} {v : Value} {d : DataW H} {p : List MemPlace} (hval : Value.okWide Tryz.prog W .any b0 33 v) (h : DataW.Trod enc Tryz.prog W 0 (fun _ => true) true 33 v d p) :
  ∃ l:RCell,Rel (g00 W) (.agg [.sl (eRS l)]) v∧∀ s∈l,RB (Rows.uptoBulk d) s.1:=by
 obtain ⟨fuel,h⟩:=h
 obtain ⟨fs,hu,hk⟩:=fld_of st_f33
 have hf:∃ f0,fs.toList=[f0]∧f0.type=31∧f0.offset=0:=by
  rcases hq:fs.toList with _|⟨f0,_|⟨f1,l⟩⟩<;>rw[hq]at hk<;>simp at hk
  exact ⟨f0,rfl,hk.1,hk.2⟩
 obtain ⟨f0,hf,t0,o0⟩:=hf
 rw[← Array.toArray_toList (xs:=fs),hf]at hu
 unfold Value.okWide at hval
 rw[hu]at hval
 obtain ⟨cs,rfl,hs,_⟩:=hval
 obtain ⟨xs,n,_,hx,hl,hxl,hfl⟩:=DataW.trod_struct hu h
 rw[st_c33]at hl
 match xs,hxl with
 | [y0],_ =>
  have g0:=hfl 0 f0 rfl
  simp only[t0,o0,st_c31,List.drop_zero,List.getElem?_cons_zero]at g0
  rw[List.take_of_length_le (by omega)]at g0
  obtain ⟨l,hlr,hB⟩:=slR (α:=RP × List RP) st_u31 st_c58 (by decide) (fun s=>eRP s.1++[.sl (eRPs s.2)]) (fun n s=>RB n s.1) Rows.uptoBulk (fun h k=>RB.mono k h) bulk_sl (fun fuel cs x h=>el58 T fuel cs x h) g0
  refine ⟨l,RelC.agg hlr,fun s hs=>(hB s hs).mono ?_⟩
  injection hx with e1 e2
  rw[e1]
  simp only[List.map_cons,Rows.uptoBulk,Rows.uptoBulkAll]
  omega
end
end Go.Proofs.Vx
namespace Go.Proofs.YtjlfgmhmalbiiaaGreatDoor
open Go Go.Proofs
theorem zand {a b:Bool} (h:a=true) (k:b=true):(a&&b)=true:=by rw[h,k];rfl
set_option maxRecDepth 100000 in
set_option maxHeartbeats 40000000 in
theorem fa12:joinedFacts Tryz.prog 12 Tryz.f12 (Rows.OpenSpec.upto Rows.cellValiditySpec).bare Rows.cellValidityUptoRow=true:=by
 unfold joinedFacts
 repeat' with_reducible refine zand ?_ ?_
 all_goals decide +kernel
end Go.Proofs.YtjlfgmhmalbiiaaGreatDoor
