import Derived.Laws.StructEq
import Derived.Test.YtjlfgmhmalbiiaaGreatDoorU00
set_option linter.all false
namespace Go.Sx
set_option linter.unusedVariables false
def binI (op:BinOp) (k:IntKind) (a b:Int) (E:Value→Prop):Prop :=
 match op with
 | .add=>E (.int k (k.wrap (a+b)))
 | .sub=>E (.int k (k.wrap (a - b)))
 | .mul=>E (.int k (k.wrap (a*b)))
 | .quo=>b≠0∧E (.int k (k.wrap (a.tdiv b)))
 | .rem=>b≠0∧E (.int k (a.tmod b))
 | .and=>E (.int k (k.wrap (BitVec.ofInt k.bits a &&& BitVec.ofInt k.bits b).toNat))
 | .or=>E (.int k (k.wrap (BitVec.ofInt k.bits a ||| BitVec.ofInt k.bits b).toNat))
 | .xor=>E (.int k (k.wrap (BitVec.ofInt k.bits a ^^^ BitVec.ofInt k.bits b).toNat))
 | .andNot=>False
 | .shl=>0≤b∧E (.int k (k.wrap (a*2 ^ (min b.toNat k.bits))))
 | .shr=>0≤b∧E (.int k (a.fdiv (2 ^ (min b.toNat k.bits))))
 | .eql=>E (.bool (decide (a=b)))
 | .neq=>E (.bool (!decide (a=b)))
 | .lss=>E (.bool (decide (a<b)))
 | .leq=>E (.bool (decide (a≤b)))
 | .gtr=>E (.bool (decide (b<a)))
 | .geq=>E (.bool (decide (b≤a)))
theorem binI_run {P : Program} {op : BinOp} {k k' : IntKind} {a b : Int} {E : Value → Prop} (t : TypeId) (hk : k = k' ∨ op = .shl ∨ op = .shr) (h : binI op k a b E) :
  ∃ v,E v∧∀ w,(binOp op t (.int k a) (.int k' b)).run P w=.ok v w:=by
 cases op<;>simp only[binI]at h
 case add => obtain rfl : k = k' := by simpa using hk
             exact ⟨_,h,fun w=>by simp[binOp,Op.intArith]⟩
 case sub => obtain rfl : k = k' := by simpa using hk
             exact ⟨_,h,fun w=>by simp[binOp,Op.intArith]⟩
 case mul => obtain rfl : k = k' := by simpa using hk
             exact ⟨_,h,fun w=>by simp[binOp,Op.intArith]⟩
 case quo => obtain rfl : k = k' := by simpa using hk
             exact ⟨_,h.2,fun w=>by simp[binOp,Op.intDiv,h.1]⟩
 case rem => obtain rfl : k = k' := by simpa using hk
             exact ⟨_,h.2,fun w=>by simp[binOp,Op.intDiv,h.1]⟩
 case and => obtain rfl : k = k' := by simpa using hk
             exact ⟨_,h,fun w=>by simp[binOp,Op.intBits]⟩
 case or => obtain rfl : k = k' := by simpa using hk
            exact ⟨_,h,fun w=>by simp[binOp,Op.intBits]⟩
 case xor => obtain rfl : k = k' := by simpa using hk
             exact ⟨_,h,fun w=>by simp[binOp,Op.intBits]⟩
 case shl=>exact ⟨_,h.2,fun w=>by simp[binOp,Op.shift,Int.not_lt.2 h.1]⟩
 case shr=>exact ⟨_,h.2,fun w=>by simp[binOp,Op.shift,Int.not_lt.2 h.1]⟩
 case eql => obtain rfl : k = k' := by simpa using hk
             exact ⟨_,h,fun w=>by simp[binOp,Op.intCmp];rfl⟩
 case neq => obtain rfl : k = k' := by simpa using hk
             exact ⟨_,h,fun w=>by simp[binOp,Op.intCmp];rfl⟩
 case lss => obtain rfl : k = k' := by simpa using hk
             exact ⟨_,h,fun w=>by simp[binOp,Op.intCmp]⟩
 case leq => obtain rfl : k = k' := by simpa using hk
             exact ⟨_,h,fun w=>by simp[binOp,Op.intCmp]⟩
 case gtr => obtain rfl : k = k' := by simpa using hk
             exact ⟨_,h,fun w=>by simp[binOp,Op.intCmp]⟩
 case geq => obtain rfl : k = k' := by simpa using hk
             exact ⟨_,h,fun w=>by simp[binOp,Op.intCmp]⟩
def boT (P:Program) (t:TypeId):Bool:=match P.underlying t with|some .bool=>true|_=>false
def binS (P:Program) (op:BinOp) (t:TypeId) (x y:Value) (E:Value→Prop):Prop :=
 match x,y with
 | .string a,.string b=>match op with
  | .add=>(a.size+b.size:Nat)≤9223372036854775807∧E (.string (a++b))
  | .eql=>E (.bool (decide (a=b)))
  | .neq=>E (.bool (!decide (a=b)))
  | _=>False
 | .bool a,.bool b=>boT P t=true∧match op with
  | .eql=>E (.bool (a == b))
  | .neq=>E (.bool (!(a == b)))
  | _=>False
 | _,_=>False
theorem byteArray_toList_eq (a b:ByteArray):(a.toList == b.toList)=decide (a=b):=by
 have key:a.toList=b.toList↔a=b:=by
  constructor
  ·intro h
   simp only[ByteArray.toList_eq]at h
   cases a;cases b
   simp at h
   simp[h]
  ·intro h;rw[h]
 by_cases h:a=b
 ·simp[h]
 ·simp[h,key]
theorem binS_run {P : Program} {op : BinOp} {t : TypeId} {x y : Value} {E : Value → Prop} (h : binS P op t x y E) :
  ∃ v,E v∧∀ w,(binOp op t x y).run P w=.ok v w:=by
 unfold binS at h
 split at h
 ·rename_i a b
  split at h
  ·refine ⟨_,h.2,fun w=>?_⟩
   have:¬ (IntKind.i64.max<((a.size+b.size:Nat):Int)):=by
    have:=h.1
    simp[IntKind.max,IntKind.bits,IntKind.signed]
    omega
   simp[binOp,Op.stringOp]
   simpa using this
  ·exact ⟨_,h,fun w=>by simp only[binOp,Op.stringOp,byteArray_toList_eq];rfl⟩
  ·exact ⟨_,h,fun w=>by simp only[binOp,Op.stringOp,byteArray_toList_eq];rfl⟩
  ·exact h.elim
 ·rename_i a b
  obtain ⟨hb,h⟩:=h
  have hu:P.underlying t=some .bool:=by
   unfold boT at hb
   split at hb
   ·assumption
   ·contradiction
  have he:∀ w,(Op.equal t (.bool a) (.bool b)).run P w=.ok (a == b) w:=fun w=>run_equalIn_bool' w 9999 t a b hu
  split at h
  ·exact ⟨_,h,fun w=>by simp[binOp,he]⟩
  ·exact ⟨_,h,fun w=>by simp[binOp,he]⟩
  ·exact h.elim
 ·exact h.elim
theorem eqGuard_lit {P:Program} (op:BinOp) (t:TypeId) (x y:Operand) (a b:Value) (ha:∀ cs,a≠.agg cs) (hi:a≠.nilIface) (w:World):(eqGuard op t x y a b).run P w=.ok () w:=by
 unfold eqGuard
 cases op<;>cases a<;>cases b<;>simp_all
end Go.Sx
namespace Go.Sx
set_option linter.unusedVariables false
inductive LK where
 | b
 | i (k:IntKind)
 | s
 deriving DecidableEq
def LK.fits:LK→Value→Bool
 | .b,.bool _=>true
 | .i k,.int k' _=>k == k'
 | .s,.string _=>true
 | _,_=>false
def lfF (P:Program) (rec:TypeId→Option (List LK)):List Field→Nat→Option (List LK)
 | [],_=>some []
 | f::fs,off=>if f.name = "_" ∨ f.offset≠off then none else (rec f.type).bind fun ks=>if szT P f.type=some ks.length∧0<ks.length then (lfF P rec fs (off+ks.length)).map (ks++·)else none
def lfT (P:Program):Nat→TypeId→Option (List LK)
 | 0,_=>none
 | d+1,t=>match P.underlying t with
  | some .bool=>some [.b]
  | some (.int k)=>some [.i k]
  | some .string=>some [.s]
  | some (.struct fs)=>if P.stoodInHeld t then none else lfF P (lfT P d) fs.toList 0
  | _=>none
def ceq:Value→Value→Bool
 | .bool a,.bool b=>a == b
 | .int _ a,.int _ b=>decide (a=b)
 | .string a,.string b=>decide (a=b)
 | _,_=>false
def ceqs:List Value→List Value→Bool
 | x::xs,y::ys=>ceq x y&&ceqs xs ys
 | _,_=>true
def fitsL:List LK→List Value→Bool
 | [],[]=>true
 | k::ks,v::vs=>k.fits v&&fitsL ks vs
 | _,_=>false
theorem fitsL_length {ks:List LK} {vs:List Value} (h:fitsL ks vs=true):vs.length=ks.length:=by
 induction ks generalizing vs with
 | nil=>cases vs<;>simp_all[fitsL]
 | cons k ks ih=>cases vs with
  | nil=>simp[fitsL]at h
  | cons v vs=>simp only[fitsL,Bool.and_eq_true]at h;simp[ih h.2]
theorem fitsL_append {ks ls:List LK} {vs:List Value} (h:fitsL (ks++ls) vs=true):fitsL ks (vs.take ks.length)=true∧fitsL ls (vs.drop ks.length)=true:=by
 induction ks generalizing vs with
 | nil=>simpa [fitsL]using h
 | cons k ks ih=>cases vs with
  | nil=>simp[fitsL]at h
  | cons v vs =>
   simp only[List.cons_append,fitsL,Bool.and_eq_true]at h
   have:=ih h.2
   exact ⟨by simp only[List.length_cons,List.take_succ_cons,fitsL,Bool.and_eq_true];exact ⟨h.1,this.1⟩,by simp only[List.length_cons,List.drop_succ_cons];exact this.2⟩
theorem ceqs_append {xs ys:List Value} (n:Nat) (hl:xs.length=ys.length):ceqs xs ys=(ceqs (xs.take n) (ys.take n)&&ceqs (xs.drop n) (ys.drop n)):=by
 induction n generalizing xs ys with
 | zero=>simp only[List.take_zero,List.drop_zero,ceqs,Bool.true_and]
 | succ n ih =>
  cases xs with
  | nil=>cases ys with
   | nil=>rfl
   | cons y ys=>simp at hl
  | cons x xs=>cases ys with
   | nil=>simp at hl
   | cons y ys=>simp only[List.take_succ_cons,List.drop_succ_cons,ceqs];rw[ih (by simpa using hl),Bool.and_assoc]
def valAt (P:Program) (t:TypeId) (cs:List Value) (v:Value):Prop :=
 (agT P t=some true∧v=.agg cs.toArray)∨(agT P t=some false∧cs=[v])
theorem lfT_ag {P:Program} {d:Nat} {t:TypeId} {ks:List LK} (h:lfT P d t=some ks):∃ b,agT P t=some b∧(b=false→ks.length=1):=by
 cases d with
 | zero=>unfold lfT at h;contradiction
 | succ d =>
  unfold lfT at h
  split at h<;>first|contradiction|(rename_i hu;simp only[agT,hu];refine ⟨_,rfl,?_⟩;first|(intro;simp_all;done)|(cases h;simp))
theorem run_part' {P : Program} {t : TypeId} {xs : List Value} {off n : Nat} {b : Bool} (hb : agT P t = some b) (hs : szT P t = some n) (h1 : b = false → n = 1) (hl : off + n ≤ xs.length) (w : World) :
  ∃ v,(part t xs.toArray off).run P w=.ok v w∧valAt P t ((xs.drop off).take n) v:=by
 cases b with
 | true =>
  refine ⟨.agg (xs.toArray.extract off (off+n)),?_,.inl ⟨hb,?_⟩⟩
  ·simp[part,Sem.run_bind,run_isAgg hb,run_sizeOf' hs]
  ·simp[List.extract_toArray,List.take_drop]
 | false =>
  have hn:=h1 rfl
  subst hn
  have hlt:off<xs.length:=by omega
  refine ⟨xs[off],?_,.inr ⟨hb,?_⟩⟩
  ·simp[part,Sem.run_bind,run_isAgg hb,hlt]
  ·rw[List.drop_eq_getElem_cons hlt]
   rfl
theorem run_equalIn_leaf {P : Program} : ∀ (d m : Nat) (t : TypeId) (ks : List LK) (xs ys : List Value) (x y : Value), lfT P d t = some ks → fitsL ks xs = true → fitsL ks ys = true → valAt P t xs x → valAt P t ys y →
  ∀ w,(Op.equalIn (d+m) t x y).run P w=.ok (ceqs xs ys) w:=by
 intro d
 induction d with
 | zero=>intro m t ks xs ys x y h;unfold lfT at h;contradiction
 | succ d ih =>
  intro m t ks xs ys x y h hx hy vx vy w
  rw[show d+1+m=(d+m)+1 by omega]
  have single:∀ k:LK,ks=[k]→agT P t=some false→∃ v u,xs=[v]∧ys=[u]∧x=v∧y=u∧k.fits v=true∧k.fits u=true:=by
   intro k hk ha
   subst hk
   rcases vx with ⟨hv,_⟩|⟨_,rfl⟩
   ·rw[ha]at hv;simp at hv
   rcases vy with ⟨hv,_⟩|⟨_,rfl⟩
   ·rw[ha]at hv;simp at hv
   simp only[fitsL,Bool.and_true]at hx hy
   exact ⟨x,y,rfl,rfl,rfl,rfl,hx,hy⟩
  unfold lfT at h
  split at h
  ·rename_i hu
   obtain ⟨v,u,rfl,rfl,rfl,rfl,h1,h2⟩:=single .b (by simpa using h.symm) (by simp[agT,hu])
   cases x<;>simp[LK.fits]at h1
   cases y<;>simp[LK.fits]at h2
   rw[run_equalIn_bool' w _ t _ _ hu]
   simp[ceqs,ceq]
  ·rename_i k hu
   obtain ⟨v,u,rfl,rfl,rfl,rfl,h1,h2⟩:=single (.i k) (by simpa using h.symm) (by simp[agT,hu])
   cases x<;>simp[LK.fits]at h1
   cases y<;>simp[LK.fits]at h2
   subst h1
   subst h2
   rw[run_equalIn_int w _ t _ _ _ _ hu]
   simp[ceqs,ceq]
   rfl
  ·rename_i hu
   obtain ⟨v,u,rfl,rfl,rfl,rfl,h1,h2⟩:=single .s (by simpa using h.symm) (by simp[agT,hu])
   cases x<;>simp[LK.fits]at h1
   cases y<;>simp[LK.fits]at h2
   rw[run_equalIn_string w _ t _ _ hu,byteArray_toList_eq]
   simp[ceqs,ceq]
  ·rename_i fs hu
   have ha:agT P t=some true:=by simp[agT,hu]
   obtain rfl:x=.agg xs.toArray:=by
    rcases vx with ⟨_,h⟩|⟨hv,_⟩
    ·exact h
    ·rw[ha]at hv;simp at hv
   obtain rfl:y=.agg ys.toArray:=by
    rcases vy with ⟨_,h⟩|⟨hv,_⟩
    ·exact h
    ·rw[ha]at hv;simp at hv
   split at h
   ·contradiction
   ·rename_i hp
    have hfo:P.fieldsOf t=fs:=by simp[Program.fieldsOf,hu]
    rw[run_equalIn_struct w (d+m) t _ _ (by rw[hfo];exact hu) (by simpa using hp),hfo]
    have key : ∀ (fl : List Field) (off : Nat) (ls : List LK) , lfF P (lfT P d) fl off = some ls → fitsL ls (xs.drop off) = true → fitsL ls (ys.drop off) = true →
      (Op.eqFields (d+m) xs.toArray ys.toArray fl).run P w=.ok (ceqs (xs.drop off) (ys.drop off)) w:=by
     intro fl
     induction fl with
     | nil =>
      intro off ls hl h1 h2
      simp only[lfF,Option.some.injEq]at hl
      subst hl
      have e1:=fitsL_length h1
      have:xs.drop off=[]:=List.eq_nil_of_length_eq_zero e1
      simp[Op.eqFields,this,ceqs]
     | cons f fl ihf =>
      intro off ls hl h1 h2
      simp only[lfF]at hl
      split at hl
      ·contradiction
      ·rename_i hn
       have hn1:f.name ≠ "_" := fun e=>hn (.inl e)
       have hn2:f.offset=off:=by
        by_cases e:f.offset=off
        ·exact e
        ·exact absurd (.inr e) hn
       cases hk:lfT P d f.type with
       | none=>simp[hk]at hl
       | some kf =>
        simp only[hk,Option.bind_some]at hl
        split at hl
        ·rename_i hsz
         cases hr:lfF P (lfT P d) fl (off+kf.length)with
         | none=>simp[hr]at hl
         | some lr =>
          simp only[hr,Option.map_some,Option.some.injEq]at hl
          subst hl
          obtain ⟨a1,a2⟩:=fitsL_append h1
          obtain ⟨b1,b2⟩:=fitsL_append h2
          have lx:=fitsL_length h1
          have ly:=fitsL_length h2
          obtain ⟨b,hb,hb1⟩:=lfT_ag hk
          have hpos:=hsz.2
          have hx':off+kf.length≤xs.length:=by simp at lx;omega
          have hy':off+kf.length≤ys.length:=by simp at ly;omega
          subst hn2
          obtain ⟨u,u1,u2⟩:=run_part' (P:=P) hb hsz.1 hb1 hx' w
          obtain ⟨v,v1,v2⟩:=run_part' (P:=P) hb hsz.1 hb1 hy' w
          have he:=ih m f.type kf _ _ u v hk a1 b1 u2 v2 w
          have hrest:=ihf (f.offset+kf.length) lr hr (by rw[← List.drop_drop];exact a2) (by rw[← List.drop_drop];exact b2)
          have hc:ceqs (xs.drop f.offset) (ys.drop f.offset)=(ceqs ((xs.drop f.offset).take kf.length) ((ys.drop f.offset).take kf.length)&&ceqs (xs.drop (f.offset+kf.length)) (ys.drop (f.offset+kf.length))):=by
           rw[ceqs_append kf.length (by rw[lx,ly]),List.drop_drop,List.drop_drop]
          simp only[Op.eqFields,ne_eq,hn1,not_false_eq_true,if_true,Sem.run_bind,u1,v1,he,Result.andThen_ok,hc]
          cases hq:ceqs ((xs.drop f.offset).take kf.length) ((ys.drop f.offset).take kf.length)
          ·simp
          ·simpa using hrest
        ·contradiction
    have:=key fs.toList 0 ks h (by simpa using hx) (by simpa using hy)
    simpa using this
  ·contradiction
end Go.Sx
namespace Go.Sx
set_option linter.unusedVariables false
def fillA (pl:Nat→Option (Nat × Nat)):List AV→List (Nat × AV)→Option (List AV)
 | cs,[]=>some cs
 | cs,(i,x)::r=>match pl i with
  | some (off,s)=>if x.solid&&x.cells.length == s&&decide (off+s≤cs.length)then fillA pl (cs.take off++x.cells++cs.drop (off+s)) r else none
  | none=>none
theorem fill_splice (vs : Array Value) (us : Array Value) (off : Nat) (h : off + us.size ≤ vs.size) :
  us.zipIdx.foldl (fun cs (c,j)=>cs.setIfInBounds (off+j) c) vs=(vs.toList.take off++us.toList++vs.toList.drop (off+us.toList.length)).toArray:=by
 have key : ∀ (l : List Value) (k : Nat) (vs : Array Value), off + k + l.length ≤ vs.size →
   (l.zipIdx k).foldl (fun cs (x:Value × Nat)=>cs.setIfInBounds (off+x.2) x.1) vs=(vs.toList.take (off+k)++l++vs.toList.drop (off+k+l.length)).toArray:=by
  intro l
  induction l with
  | nil=>intro k vs h;simp
  | cons x l ih =>
   intro k vs h
   simp only[List.zipIdx_cons,List.foldl_cons]
   simp only[List.length_cons]at h
   rw[ih (k+1) _ (by simp;omega)]
   apply Array.ext'
   simp only[List.length_cons,Array.toList_setIfInBounds]
   have e1:(vs.toList.set (off+k) x).take (off+(k+1))=vs.toList.take (off+k)++[x]:=by
    rw[← Nat.add_assoc,List.take_succ_eq_append_getElem (by simp;omega),List.take_set,List.set_eq_of_length_le (by simp;omega)]
    simp
   have e2:(vs.toList.set (off+k) x).drop (off+(k+1)+l.length)=vs.toList.drop (off+k+(l.length+1)):=by
    rw[List.drop_set_of_lt (by omega)]
    congr 1;omega
   rw[e1,e2]
   simp
 have:=key us.toList 0 vs (by simpa using h)
 rw[← Array.foldl_toList,Array.toList_zipIdx]
 simpa using this
def RelP (g:Gh) (ps:List (Nat × AV)) (qs:List (Nat × Value)):Prop:=qs.length=ps.length∧∀ i (h1:i<ps.length) (h2:i<qs.length),qs[i].1=ps[i].1∧Rel g ps[i].2 qs[i].2
theorem fillA_run {g : Gh} {pl pl' : Nat → Option (Nat × Nat)} (hpl : ∀ i x, pl i = some x → pl' i = some x) : ∀ (ps : List (Nat × AV)) (qs : List (Nat × Value)) (cs cs' : List AV) (vs : Array Value), RelP g ps qs →
  vs.size=cs.length→(∀ i (h1:i<cs.length) (h2:i<vs.size),Rel g cs[i] vs[i])→(∀ i (h2:i<vs.size),vs[i].oneCell'=true)→fillA pl cs ps=some cs' →
  ∃ vs',Instr.fill pl' vs qs=some vs'∧vs'.size=cs'.length∧(∀ i (h1:i<cs'.length) (h2:i<vs'.size),Rel g cs'[i] vs'[i])∧(∀ i (h2:i<vs'.size),vs'[i].oneCell'=true)∧cs'.length=cs.length:=by
 intro ps
 induction ps with
 | nil =>
  intro qs cs cs' vs hp hs hr ho hf
  obtain rfl:qs=[]:=List.eq_nil_of_length_eq_zero hp.1
  simp only[fillA,Option.some.injEq]at hf
  subst hf
  exact ⟨vs,rfl,hs,hr,ho,rfl⟩
 | cons p ps ih =>
  intro qs cs cs' vs hp hs hr ho hf
  obtain ⟨i,x⟩:=p
  cases qs with
  | nil=>simp[RelP]at hp
  | cons q qs =>
   obtain ⟨j,v⟩:=q
   obtain ⟨hpl1,hp0⟩:=hp
   have hq0:=hp0 0 (by simp) (by simp)
   simp only[List.getElem_cons_zero]at hq0
   obtain ⟨rfl,hxv⟩:=hq0
   have hp':RelP g ps qs:=⟨by simpa using hpl1,fun i h1 h2=>hp0 (i+1) (by simpa using h1) (by simpa using h2)⟩
   simp only[fillA]at hf
   split at hf
   ·rename_i off s hpl2
    split at hf
    ·rename_i hc
     simp only[Bool.and_eq_true,beq_iff_eq,decide_eq_true_eq]at hc
     obtain ⟨⟨hsol,hlen⟩,hle⟩:=hc
     obtain ⟨c1,c2,c3⟩:=hxv.cells hsol
     subst hlen
     have hle':off+v.cells.size≤vs.size:=by omega
     have hle2:off+v.cells.toList.length≤vs.toList.length:=by simpa using hle'
     have hsplice:=fill_splice vs v.cells off hle'
     have h3:=ih qs _ cs' ((vs.toList.take off++v.cells.toList++vs.toList.drop (off+v.cells.toList.length)).toArray) hp'
      (by rw[List.size_toArray,length_splice _ _ _ hle2,length_splice _ _ _ hle];simpa using hs)
      (fun k h1 h2=>by
       have k1:k<cs.length:=by rw[length_splice _ _ _ hle]at h1;exact h1
       have k2:k<vs.toList.length:=by simp;omega
       simp only[List.getElem_toArray]
       rw[getElem_splice _ _ _ _ hle h1 k1,getElem_splice _ _ _ _ hle2 (by rw[length_splice _ _ _ hle2];exact k2) k2]
       have e1:v.cells.toList.length=x.cells.length:=by simp[c1]
       by_cases hc:off≤k∧k<off+x.cells.length
       ·rw[dif_pos hc,dif_pos (by omega)]
        simp only[Array.getElem_toList]
        exact c2 (k - off) (by omega) (by omega)
       ·rw[dif_neg hc,dif_neg (by omega)]
        simp only[Array.getElem_toList]
        exact hr k k1 (by omega))
      (fun k h2=>by
       simp only[List.size_toArray]at h2
       rw[length_splice _ _ _ hle2]at h2
       simp only[List.getElem_toArray]
       rw[getElem_splice _ _ _ _ hle2 (by rw[length_splice _ _ _ hle2];exact h2) h2]
       split
       ·simp;exact c3 _ _
       ·simp;exact ho _ _)
      hf
     obtain ⟨vs',f1,f2,f3,f4,f5⟩:=h3
     refine ⟨vs',?_,f2,f3,f4,by rw[f5,length_splice _ _ _ hle]⟩
     have hplx:=hpl _ _ hpl2
     have n1:¬ (v.cells.size≠x.cells.length):=by simp[c1]
     have n2:¬ (off+v.cells.size>vs.size):=by omega
     simp only[Instr.fill,hplx,n1,n2,decide_false,Bool.or_self,Bool.false_eq_true,if_false]
     rw[hsplice]
     exact f1
    ·contradiction
   ·contradiction
def zeT (P:Program) (t:TypeId):Option (List AV) :=
 ((P.info? t).bind (·.zero)).bind fun v=>if v.cells.all (·.oneCell')then some (v.cells.toList.map .lit)else none
theorem zeT_run {P : Program} {t : TypeId} {cs : List AV} (h : zeT P t = some cs) : ∃ v, (∀ w, (zeroValue t).run P w = .ok v w) ∧ v.cells.size = cs.length ∧ (∀ g i (h1 : i < cs.length) (h2 : i < v.cells.size), Rel g cs[i] v.cells[i]) ∧
  (∀ i (h2:i<v.cells.size),v.cells[i].oneCell'=true)∧(P.info? t).bind (·.zero)=some v:=by
 unfold zeT at h
 cases hi:P.info? t with
 | none=>simp[hi]at h
 | some i =>
  cases hz:i.zero with
  | none=>simp[hi,hz]at h
  | some v =>
   simp only[hi,Option.bind_some,hz]at h
   split at h
   ·rename_i ha
    simp only[Option.some.injEq]at h
    subst h
    exact ⟨v,fun w=>by simp[zeroValue,typeInfo,hi,hz],by simp,fun g i h1 h2=>by simp;exact .lit _,fun i h2=>by simpa using Array.all_eq_true.1 ha i h2,by simp[hz]⟩
   ·contradiction
def plT (P:Program) (t:TypeId):Option (List (Nat × Nat)) :=
 match P.underlying t with
 | some (.struct fs)=>fs.toList.mapM fun f=>(szT P f.type).map fun s=>(f.offset,s)
 | some (.array n e)=>(szT P e).map fun s=>(List.range n).map fun i=>(i*s,s)
 | _=>none
def buildV (P:Program) (t:TypeId) (ps:List (Nat × AV)) (E:Eff→Prop):Prop :=
 match zeT P t,plT P t with
 | some z,some pl=>match fillA (fun i=>pl[i]?) z ps with
  | some cs=>E ⟨.agg cs,[],[]⟩
  | none=>False
 | _,_=>False
theorem mapM_run {P:Program} (f:Field→Option (Nat × Nat)) (m:Field→Sem (Nat × Nat)) (hf:∀ x y,f x=some y→∀ w,(m x).run P w=.ok y w):∀ (l:List Field) (r:List (Nat × Nat)),l.mapM f=some r→∀ w,(l.mapM m).run P w=.ok r w:=by
 intro l
 induction l with
 | nil=>intro r h w;simp at h;subst h;simp
 | cons x l ih =>
  intro r h w
  simp only[List.mapM_cons]at h ⊢
  cases hx:f x with
  | none=>simp[hx]at h
  | some y =>
   cases hl:l.mapM f with
   | none=>simp[hx,hl]at h
   | some r' =>
    simp only[hx,hl,Option.pure_def,Option.bind_eq_bind,Option.bind_some,Option.some.injEq]at h
    subst h
    simp[Sem.run_bind,hf x y hx,ih r' hl]
theorem build_run {P : Program} {t : TypeId} {ps : List (Nat × AV)} {E : Eff → Prop} (h : buildV P t ps E) :
  ∃ x,E ⟨x,[],[]⟩∧∀ g (qs:Array (Nat × Value)),RelP g ps qs.toList→∃ v,(Instr.build t qs).run P g.w=.ok v g.w∧Rel g x v:=by
 unfold buildV at h
 split at h
 ·rename_i z pl hz hp
  split at h
  ·rename_i cs hf
   refine ⟨_,h,fun g qs hq=>?_⟩
   obtain ⟨v,hv1,hv2,hv3,hv4,_⟩:=zeT_run hz
   unfold plT at hp
   split at hp
   ·rename_i fs hu
    have hm:=mapM_run (P:=P) (fun f=>(szT P f.type).map fun s=>(f.offset,s)) (fun f=>do pure (f.offset,← sizeOf f.type)) (fun x y hxy w=>by
     cases hs:szT P x.type with
     | none=>simp[hs]at hxy
     | some s=>simp only[hs,Option.map_some,Option.some.injEq]at hxy;subst hxy;simp[Sem.run_bind,run_sizeOf' hs]) _ _ hp g.w
    obtain ⟨vs',f1,f2,f3,f4,f5⟩:=fillA_run (g:=g) (pl':=fun i=>pl.toArray[i]?) (fun i x hx=>by simpa using hx) ps qs.toList z cs v.cells hq hv2 (hv3 g) hv4 hf
    refine ⟨.agg vs',?_,.agg _ _ f2 f4 f3⟩
    simp only[Instr.build,Sem.run_bind,hv1,Result.andThen_ok,run_underlying hu]
    have hm':(Array.mapM (fun f=>do pure (f.offset,← sizeOf f.type):Field→Sem (Nat × Nat)) fs).run P g.w=.ok pl.toArray g.w:=by
     rw[Array.mapM_eq_mapM_toList,Sem.run_map,hm]
     rfl
    rw[hm']
    simp only[Result.andThen_ok]
    rw[f1]
    simp
   ·rename_i n e hu
    cases hs:szT P e with
    | none=>simp[hs]at hp
    | some s =>
     simp only[hs,Option.map_some,Option.some.injEq]at hp
     subst hp
     obtain ⟨vs',f1,f2,f3,f4,f5⟩:=fillA_run (g:=g) (pl':=fun i=>some (i*s,s)) (fun i x hx=>by
      simp only[List.getElem?_map]at hx
      cases hr:(List.range n)[i]? with
      | none=>simp[hr]at hx
      | some j =>
       have:j=i:=by
        have:=List.getElem?_eq_some_iff.1 hr
        obtain ⟨h1,h2⟩:=this
        simpa using h2.symm
       subst this
       simpa [hr]using hx) ps qs.toList z cs v.cells hq hv2 (hv3 g) hv4 hf
     refine ⟨.agg vs',?_,.agg _ _ f2 f4 f3⟩
     simp only[Instr.build,Sem.run_bind,hv1,Result.andThen_ok,run_underlying hu,run_sizeOf' hs]
     rw[f1]
     simp
   ·contradiction
  ·exact h.elim
 ·exact h.elim
end Go.Sx
namespace Go.Sx
set_option linter.unusedVariables false
def fdT (P:Program) (t:TypeId) (i:Nat):Option (Nat × Nat × Bool) :=
 match P.underlying t with
 | some (.struct fs)=>(fs[i]?).bind fun f=>(szT P f.type).bind fun s=>(agT P f.type).map fun b=>(f.offset,s,b)
 | _=>none
def arT (P:Program) (t:TypeId):Option (Nat × Nat × Bool) :=
 match P.underlying t with
 | some (.array n e)=>(szT P e).bind fun s=>(agT P e).map fun b=>(n,s,b)
 | _=>none
def slT (P:Program) (t:TypeId):Option (TypeId × Nat) :=
 match P.underlying t with
 | some (.slice e)=>(szT P e).map fun s=>(e,s)
 | _=>none
def strT (P:Program) (t:TypeId):Bool:=match P.underlying t with|some .string=>true|_=>false
theorem fdT_spec {P : Program} {t : TypeId} {i o s : Nat} {b : Bool} (h : fdT P t i = some (o, s, b)) :
  ∃ fs f,P.underlying t=some (.struct fs)∧fs[i]?=some f∧f.offset=o∧szT P f.type=some s∧agT P f.type=some b:=by
 unfold fdT at h
 split at h
 ·rename_i fs hu
  cases hf:fs[i]? with
  | none=>simp[hf]at h
  | some f =>
   cases hs:szT P f.type with
   | none=>simp[hf,hs]at h
   | some s' =>
    cases hb:agT P f.type with
    | none=>simp[hf,hs,hb]at h
    | some b' =>
     simp only[hf,Option.bind_some,hs,hb,Option.map_some,Option.some.injEq,Prod.mk.injEq]at h
     obtain ⟨rfl,rfl,rfl⟩:=h
     exact ⟨fs,f,hu,hf,rfl,hs,hb⟩
 ·contradiction
theorem arT_spec {P:Program} {t:TypeId} {n s:Nat} {b:Bool} (h:arT P t=some (n,s,b)):∃ e,P.underlying t=some (.array n e)∧szT P e=some s∧agT P e=some b:=by
 unfold arT at h
 split at h
 ·rename_i m e hu
  cases hs:szT P e with
  | none=>simp[hs]at h
  | some s' =>
   cases hb:agT P e with
   | none=>simp[hs,hb]at h
   | some b' =>
    simp only[hs,Option.bind_some,hb,Option.map_some,Option.some.injEq,Prod.mk.injEq]at h
    obtain ⟨rfl,rfl,rfl⟩:=h
    exact ⟨e,hu,hs,hb⟩
 ·contradiction
theorem slT_spec {P:Program} {t e:TypeId} {s:Nat} (h:slT P t=some (e,s)):P.underlying t=some (.slice e)∧szT P e=some s:=by
 unfold slT at h
 split at h
 ·rename_i e' hu
  cases hs:szT P e' with
  | none=>simp[hs]at h
  | some s' =>
   simp only[hs,Option.map_some,Option.some.injEq,Prod.mk.injEq]at h
   obtain ⟨rfl,rfl⟩:=h
   exact ⟨hu,hs⟩
 ·contradiction
theorem strT_spec {P:Program} {t:TypeId} (h:strT P t=true):P.underlying t=some .string:=by
 unfold strT at h
 split at h
 ·assumption
 ·contradiction
def fieldAddrV (fo:Nat) (x:AV) (E:AV→Prop):Prop :=
 match x with
 | .fp cs=>fo≤cs.length∧E (.fp (cs.drop fo))
 | .loc l o=>E (.loc l (o+fo))
 | .vp l i j m=>E (.vp l i (j+fo) m)
 | _=>False
theorem fieldAddr_run {P : Program} {t : TypeId} {i o s : Nat} {b : Bool} {x : AV} {E : AV → Prop} (hf : fdT P t i = some (o, s, b)) (hs : 0 < s) (h : fieldAddrV o x E) :
  ∃ y,E y∧∀ g v,Rel g x v→(∀ l p q m,x=.vp l p q m→m=g.len l)→∃ u,(Instr.fieldAt t v i).run P g.w=.ok u g.w∧Rel g y u:=by
 obtain ⟨fs,f,hu,hfi,rfl,hfs,hfb⟩:=fdT_spec hf
 have hrun:∀ w b p,(Instr.fieldAt t (.pointer (some ⟨b,p,none⟩)) i).run P w=.ok (.pointer (some ⟨b,p+f.offset,none⟩)) w:=by
  intro w b p
  have hn:¬ s=0:=by omega
  simp[Instr.fieldAt,Sem.run_bind,run_underlying hu,hfi,Instr.sureAddr,fieldPlace,run_sizeOf' hfs,hn,add_addr]
 unfold fieldAddrV at h
 split at h
 ·rename_i cs
  refine ⟨_,h.2,fun g v hr _=>?_⟩
  obtain ⟨b,p,rfl,hfz,hseg⟩:=seg_of_fp hr
  exact ⟨_,hrun _ _ _,fp_of_seg hfz (hseg.drop _ h.1)⟩
 ·rename_i l p
  refine ⟨_,h,fun g v hr _=>?_⟩
  cases hr with
  | loc _ _ hu=>exact ⟨_,hrun _ _ _,.loc l _ hu⟩
 ·rename_i l p q m
  refine ⟨_,h,fun g v hr hm=>?_⟩
  cases hr with
  | vp _ _ _ _ _ hu hm' hc hv =>
   obtain ⟨b,hb,rfl⟩:=hv (hm l p q m rfl)
   refine ⟨_,hrun _ _ _,.vp l p (q+f.offset) m _ hu hm' rfl (fun e=>⟨b,hb,by rw[Nat.add_assoc]⟩)⟩
 ·exact h.elim
def asSl:AV→Option (List (List AV))
 | .sl es=>some es
 | .lit (.slice none 0 0)=>some []
 | _=>none
theorem asSl_spec {g:Gh} {x:AV} {es:List (List AV)} {v:Value} (h:asSl x=some es) (hr:Rel g x v):Rel g (.sl es) v:=by
 unfold asSl at h
 split at h
 ·simp only[Option.some.injEq]at h;subst h;exact hr
 ·simp only[Option.some.injEq]at h
  subst h
  cases hr with
  | lit v=>exact .slnil
 ·contradiction
theorem seg_of_sl {g : Gh} {es : List (List AV)} {v : Value} (h : Rel g (.sl es) v) {i : Nat} (hi : i < es.length) :
  ∃ b o cap,v=.slice (some ⟨b,o,none⟩) es.length cap∧es.length≤cap∧g.fz b∧Seg g b (o+i*es[i].length) es[i]∧∀ j (hj:j<es.length),es[j].length=es[i].length:=by
 cases h with
 | slnil=>simp at hi
 | sl _ b o cap k vs e fr hf hb hc hk hs ho h =>
  have hk0:=hk i hi
  have hik:i*k+k≤es.length*k:=by
   have:(i+1)*k≤es.length*k:=Nat.mul_le_mul_right _ hi
   rw[Nat.add_mul]at this;omega
  have hs':=hs (by omega)
  refine ⟨b,o,cap,rfl,hc,hf,⟨vs,e,fr,hb,by rw[hk0];omega,fun j hj hjl=>?_,fun j hj hj2=>?_⟩,fun j hj=>by rw[hk j hj,hk0]⟩
  ·have:=ho (i*k+j) (by rw[hk0]at hj;omega) (by rw[hk0]at hjl;omega)
   simpa only[hk0,Nat.add_assoc]using this
  ·have:=h i hi j hj (by rw[hk0]at hj2;omega)
   simpa only[hk0]using this
def indexAddrV (P:Program) (t:TypeId) (x ix:AV) (ob:Nat→AV) (E:Eff→Prop):Prop :=
 match ix with
 | .lit (.int _ z) =>
  match arT P t with
  | some (n,s,_)=>0≤z∧z<(n:Int) ∧
   match x with
   | .fp cs=>z.toNat*s≤cs.length∧E ⟨.fp (cs.drop (z.toNat*s)),[],[]⟩
   | .loc l o=>E ⟨.loc l (o+z.toNat*s),[],[]⟩
   | .vp l i j m=>(match ob l with|.vec _ es=>m=es.length|_=>False)∧E ⟨.vp l i (j+z.toNat*s) m,[],[l]⟩
   | _=>False
  | none=>match slT P t with
   | some (_,s)=>match x with
    | .ref l o n m=>match ob l with
     | .vec k es=>k=s∧m=es.length∧o+n≤m∧0≤z∧z<(n:Int)∧E ⟨.vp l (o+z.toNat) 0 m,[],[l]⟩
     | _=>False
    | .bs l o k n=>k=s∧0≤z∧z<(n:Int)∧E ⟨.loc l (o+z.toNat*s),[],[]⟩
    | x=>match asSl x with
     | some es=>0≤z∧z<(es.length:Int)∧(es.getD z.toNat []).length=s∧E ⟨.fp (es.getD z.toNat []),[],[]⟩
     | none=>False
   | none=>False
 | _=>False
theorem indexAddr_run {c : Cx} {t : TypeId} {x ix : AV} {ob : Nat → AV} {E : Eff → Prop} (h : indexAddrV c.P t x ix ob E) :
  ∃ e,E e∧e.ob=[]∧∀ ob',(∀ l∈e.rd,ob' l=ob l)→∀ g v u,GOk c g ob'→Rel g x v→Rel g ix u→∃ r,(Instr.indexAt t v u).run c.P g.w=.ok r g.w∧Rel g e.val r:=by
 unfold indexAddrV at h
 split at h
 ·rename_i kk z
  split at h
  ·rename_i n s b har
   obtain ⟨e,hu,hs,hb⟩:=arT_spec har
   obtain ⟨h0,hz,h⟩:=h
   have hrun:∀ w b p,(Instr.indexAt t (.pointer (some ⟨b,p,none⟩)) (.int kk z)).run c.P w=.ok (.pointer (some ⟨b,p+z.toNat*s,none⟩)) w:=by
    intro w b p
    simp[Instr.indexAt,Sem.run_bind,asIntOf,run_underlying hu,Instr.sureAddr,h0,hz,run_sizeOf' hs,add_addr]
   split at h
   ·rename_i cs
    refine ⟨_,h.2,rfl,fun ob' ho g v u hg hr hr2=>?_⟩
    cases hr2
    obtain ⟨b,p,rfl,hfz,hseg⟩:=seg_of_fp hr
    exact ⟨_,hrun _ _ _,fp_of_seg hfz (hseg.drop _ h.1)⟩
   ·rename_i l o
    refine ⟨_,h,rfl,fun ob' ho g v u hg hr hr2=>?_⟩
    cases hr2
    cases hr with
    | loc _ _ hu=>exact ⟨_,hrun _ _ _,.loc l _ hu⟩
   ·rename_i l i j m
    obtain ⟨hm,h⟩:=h
    refine ⟨_,h,rfl,fun ob' ho g v u hg hr hr2=>?_⟩
    cases hr2
    have hm':m=g.len l:=by
     have hok:=hg.obj l
     rw[ho l (by simp)]at hok
     split at hm
     ·rename_i k es hob
      rw[hob]at hok
      rw[hok.2.2.1,hm]
     ·exact hm.elim
    cases hr with
    | vp _ _ _ _ _ hu hm2 hc hv =>
     obtain ⟨b,hb,rfl⟩:=hv hm'
     refine ⟨_,hrun _ _ _,.vp l i _ m _ hu hm2 rfl (fun e=>⟨b,hb,by rw[Nat.add_assoc]⟩)⟩
   ·exact h.elim
  ·split at h
   ·rename_i e s hsl
    obtain ⟨hu,hs⟩:=slT_spec hsl
    have hrun:∀ w b p n cap,0≤z→z<((n:Nat):Int)→(Instr.indexAt t (.slice (some ⟨b,p,none⟩) n cap) (.int kk z)).run c.P w=.ok (.pointer (some ⟨b,p+z.toNat*s,none⟩)) w:=by
     intro w b p n cap h0 hz
     simp[Instr.indexAt,Sem.run_bind,asIntOf,run_underlying hu,h0,hz,run_sizeOf' hs,add_addr]
    split at h
    ·rename_i l o n m
     split at h
     ·rename_i k es hob
      obtain ⟨rfl,hm,hon,h0,hz,h⟩:=h
      refine ⟨_,h,rfl,fun ob' ho g v u hg hr hr2=>?_⟩
      cases hr2
      have hok:=hg.obj l
      rw[ho l (by simp),hob]at hok
      obtain ⟨hus,hk,hln,hk0,hke,h5|⟨b,vs,h6,h7,h8,h9,h10,h11,h12⟩⟩:=hok
      ·obtain ⟨_,rfl,_⟩:=h5
       simp at hm
       omega
      ·cases hr with
       | ref _ _ _ _ _ hu' hm2 hc hv =>
        have hv:=hv (by omega)
        simp only[Des.slice,h6,Option.map_some]at hv
        subst hv
        refine ⟨_,hrun _ _ _ _ _ h0 hz,.vp l _ 0 m _ hus hm2 rfl (fun e=>⟨b,h6,by rw[hk,Nat.add_mul];simp⟩)⟩
     ·exact h.elim
    ·rename_i l o k n
     obtain ⟨rfl,h0,hz,h⟩:=h
     refine ⟨_,h,rfl,fun ob' ho g v u hg hr hr2=>?_⟩
     cases hr2
     cases hr with
     | bs _ _ _ _ cap hu' hc=>exact ⟨_,hrun _ _ _ _ _ h0 hz,.loc l _ hu'⟩
    ·split at h
     ·rename_i es hes
      obtain ⟨h0,hz,hlen,h⟩:=h
      refine ⟨_,h,rfl,fun ob' ho g v u hg hr hr2=>?_⟩
      cases hr2
      have hi:z.toNat<es.length:=by omega
      have hgd:es.getD z.toNat []=es[z.toNat]:=by simp[List.getD,List.getElem?_eq_getElem hi]
      rw[hgd]at hlen ⊢
      obtain ⟨b,o,cap,rfl,hcap,hfz,hseg,_⟩:=seg_of_sl (asSl_spec hes hr) hi
      refine ⟨_,hrun _ _ _ _ _ h0 hz,fp_of_seg hfz ?_⟩
      rw[hlen]at hseg
      exact hseg
     ·exact h.elim
   ·exact h.elim
 ·exact h.elim
end Go.Sx
