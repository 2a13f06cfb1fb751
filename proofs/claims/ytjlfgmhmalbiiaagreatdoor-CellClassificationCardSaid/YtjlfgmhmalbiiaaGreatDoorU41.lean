import Derived.Deep.Slices
import Derived.OpenShut
import Derived.Test.YtjlfgmhmalbiiaaGreatDoorRows
import Derived.JoinedOf
import Derived.Test.YtjlfgmhmalbiiaaGreatDoorU31
set_option linter.all false
namespace Go.Proofs.Vx
open Go Go.Sx Go.Proofs Go.ChangeShapes Go.WideShapes Go.Deep
theorem st_u4:Tryz.prog.underlying 4=some .bool:=by kernel_rfl
theorem st_u9:Tryz.prog.underlying 9=some .string:=by kernel_rfl
theorem st_u22:Tryz.prog.underlying 22=some (.slice 26):=by kernel_rfl
theorem st_u27:Tryz.prog.underlying 27=some (.array 1 26):=by kernel_rfl
theorem st_c26:Tryz.prog.cellsOf 26=8:=by kernel_rfl
theorem st_c27:Tryz.prog.cellsOf 27=8:=by kernel_rfl
theorem st_f26:fldT Tryz.prog 26=some [(24,0),(24,2),(24,4),(24,6)]:=by kernel_rfl
theorem fld_of {P:Program} {t:TypeId} {ks:List (TypeId × Nat)} (h:fldT P t=some ks):∃ fs,P.underlying t=some (.struct fs)∧fs.toList.map (fun f=>(f.type,f.offset))=ks:=by
 unfold fldT at h
 split at h
 ·rename_i fs hs
  split at h
  ·exact ⟨fs,hs,Option.some.inj h⟩
  ·contradiction
 ·contradiction
theorem list2 {l:List Field} {a b c d:Nat} (h:l.map (fun f=>(f.type,f.offset))=[(a,b),(c,d)]):∃ f0 f1,l=[f0,f1]∧f0.type=a∧f0.offset=b∧f1.type=c∧f1.offset=d:=by
 rcases l with _|⟨f0,_|⟨f1,_|⟨f2,l⟩⟩⟩<;>simp at h
 exact ⟨f0,f1,rfl,h.1.1,h.1.2,h.2.1,h.2.2⟩
theorem list4 {l:List Field} {a b c d a' b' c' d':Nat} (h:l.map (fun f=>(f.type,f.offset))=[(a,b),(c,d),(a',b'),(c',d')]):∃ f0 f1 f2 f3,l=[f0,f1,f2,f3]∧(f0.type=a∧f0.offset=b)∧(f1.type=c∧f1.offset=d)∧(f2.type=a'∧f2.offset=b')∧(f3.type=c'∧f3.offset=d'):=by
 rcases l with _|⟨f0,_|⟨f1,_|⟨f2,_|⟨f3,_|⟨f4,l⟩⟩⟩⟩⟩<;>simp at h
 exact ⟨f0,f1,f2,f3,rfl,h.1,h.2.1,h.2.2.1,h.2.2.2⟩
structure TyOk (P:Program):Prop where
 u4:P.underlying 4=some .bool
 u9:P.underlying 9=some .string
 u22:P.underlying 22=some (.slice 26)
 u27:P.underlying 27=some (.array 1 26)
 c4:P.cellsOf 4=1
 c9:P.cellsOf 9=1
 c24:P.cellsOf 24=2
 c26:P.cellsOf 26=8
 c27:P.cellsOf 27=8
 s24:∃ f0 f1:Field,P.underlying 24=some (.struct #[f0,f1])∧f0.type=4∧f0.offset=0∧f1.type=9∧f1.offset=1
 s26:∃ f0 f1 f2 f3:Field,P.underlying 26=some (.struct #[f0,f1,f2,f3])∧(f0.type=24∧f0.offset=0)∧(f1.type=24∧f1.offset=2)∧(f2.type=24∧f2.offset=4)∧(f3.type=24∧f3.offset=6)
theorem tyOk:TyOk Tryz.prog:=by
 refine ⟨st_u4,st_u9,st_u22,st_u27,yco_4,yco_9,yco_24,st_c26,st_c27,?_,?_⟩
 ·obtain ⟨fs,hu,hk⟩:=fld_of yfl_24
  obtain ⟨f0,f1,hf,r⟩:=list2 hk
  exact ⟨f0,f1,by rw[hu,← Array.toArray_toList (xs:=fs),hf],r⟩
 ·obtain ⟨fs,hu,hk⟩:=fld_of st_f26
  obtain ⟨f0,f1,f2,f3,hf,r⟩:=list4 hk
  exact ⟨f0,f1,f2,f3,by rw[hu,← Array.toArray_toList (xs:=fs),hf],r⟩
section
variable {P:Program} {H:Type} {enc:TypeId × Value→H} {w:World} {base:Nat} {spare:Nat→Bool} {held:Bool}
def dI (b:Bool) (s:ByteArray):DataW H:=.agg [.lit (.bool b),.lit (.string s.data.toList)]
def dR (r:RP):DataW H:=.agg [dI r.n1 r.m1,dI r.n2 r.m2,dI r.n3 r.m3,dI r.n4 r.m4]
def cR (r:RP):List Value:=[.bool r.n1,.string r.m1,.bool r.n2,.string r.m2,.bool r.n3,.string r.m3,.bool r.n4,.string r.m4]
def wfR (r:RP):Prop:=r.m1.size≤maxLen∧r.m2.size≤maxLen∧r.m3.size≤maxLen∧r.m4.size≤maxLen
theorem open24 (T:TyOk P) {fuel:Nat} {cs:List Value} {x:DataW H × List MemPlace} (h:DataW.trod enc P w base spare held fuel 24 cs=some x):∃ b s,cs=[.bool b,.string s]∧x=(dI b s,[])∧s.size≤maxLen:=by
 obtain ⟨f0,f1,hu,t0,o0,t1,o1⟩:=T.s24
 obtain ⟨xs,n,_,hx,hl,hxl,hf⟩:=DataW.trod_struct hu h
 rw[T.c24]at hl
 match xs,hxl,cs,hl with
 | [y0,y1],_,[v0,v1],_ =>
  have g0:=hf 0 f0 rfl
  have g1:=hf 1 f1 rfl
  simp[t0,o0,t1,o1,T.c4,T.c9]at g0 g1
  obtain ⟨b,e0,e1⟩:=DataW.trod_bool T.u4 g0
  obtain ⟨s,e2,e3,e4⟩:=DataW.trod_string T.u9 g1
  simp only[List.cons.injEq,and_true]at e0 e2
  subst e0 e2 e1 e3
  exact ⟨b,s,rfl,by rw[hx];rfl,e4⟩
theorem shut24 (T:TyOk P) (b:Bool) (s:ByteArray) (hs:s.size≤maxLen):DataW.trod enc P w base spare held 2 24 [.bool b,.string s]=some (dI b s,[]):=by
 obtain ⟨f0,f1,hu,t0,o0,t1,o1⟩:=T.s24
 have g0:DataW.trod enc P w base spare held 1 4 [.bool b]=some (.lit (.bool b),[]):=by simp[DataW.trod,T.u4]
 have g1:DataW.trod enc P w base spare held 1 9 [.string s]=some (.lit (.string s.data.toList),[]):=by simp[DataW.trod,T.u9,hs]
 exact trod_struct2_mk (y0:=(.lit (.bool b),[])) (y1:=(.lit (.string s.data.toList),[])) hu (by rw[T.c24];rfl) (by simpa [t0,o0,T.c4]using g0) (by simpa [t1,o1,T.c9]using g1)
def S4 (P:Program) (t:TypeId):Prop:=∃ f0 f1 f2 f3:Field,P.underlying t=some (.struct #[f0,f1,f2,f3])∧(f0.type=24∧f0.offset=0)∧(f1.type=24∧f1.offset=2)∧(f2.type=24∧f2.offset=4)∧(f3.type=24∧f3.offset=6)
theorem open4 (T:TyOk P) {t:TypeId} (st:S4 P t) (ct:P.cellsOf t=8) {fuel:Nat} {cs:List Value} {x:DataW H × List MemPlace} (h:DataW.trod enc P w base spare held fuel t cs=some x):∃ r,wfR r∧cs=cR r∧x=(dR r,[]):=by
 obtain ⟨f0,f1,f2,f3,hu,⟨t0,o0⟩,⟨t1,o1⟩,⟨t2,o2⟩,⟨t3,o3⟩⟩:=st
 obtain ⟨xs,n,_,hx,hl,hxl,hf⟩:=DataW.trod_struct hu h
 rw[ct]at hl
 match xs,hxl,cs,hl with
 | [y0,y1,y2,y3],_,[v0,v1,v2,v3,v4,v5,v6,v7],_ =>
  have g0:=hf 0 f0 rfl
  have g1:=hf 1 f1 rfl
  have g2:=hf 2 f2 rfl
  have g3:=hf 3 f3 rfl
  simp[t0,o0,t1,o1,t2,o2,t3,o3,T.c24]at g0 g1 g2 g3
  obtain ⟨b0,s0,a0,c0,d0⟩:=open24 T g0
  obtain ⟨b1,s1,a1,c1,d1⟩:=open24 T g1
  obtain ⟨b2,s2,a2,c2,d2⟩:=open24 T g2
  obtain ⟨b3,s3,a3,c3,d3⟩:=open24 T g3
  simp only[List.cons.injEq,and_true]at a0 a1 a2 a3
  obtain ⟨rfl,rfl⟩:=a0
  obtain ⟨rfl,rfl⟩:=a1
  obtain ⟨rfl,rfl⟩:=a2
  obtain ⟨rfl,rfl⟩:=a3
  subst c0 c1 c2 c3
  exact ⟨⟨b0,s0,b1,s1,b2,s2,b3,s3⟩,⟨d0,d1,d2,d3⟩,rfl,by rw[hx];rfl⟩
theorem shut4 (T:TyOk P) {t:TypeId} (st:S4 P t) (ct:P.cellsOf t=8) (r:RP) (h:wfR r):DataW.trod enc P w base spare held 3 t (cR r)=some (dR r,[]):=by
 obtain ⟨f0,f1,f2,f3,hu,⟨t0,o0⟩,⟨t1,o1⟩,⟨t2,o2⟩,⟨t3,o3⟩⟩:=st
 obtain ⟨h1,h2,h3,h4⟩:=h
 rw[DataW.trod_step]
 unfold DataW.trodStep
 simp only[hu]
 rw[if_pos (by rw[ct];rfl)]
 simp[t0,o0,t1,o1,t2,o2,t3,o3,T.c24,cR,shut24 T _ _ h1,shut24 T _ _ h2,shut24 T _ _ h3,shut24 T _ _ h4,dR]
theorem open26 (T:TyOk P) {fuel:Nat} {cs:List Value} {x:DataW H × List MemPlace} (h:DataW.trod enc P w base spare held fuel 26 cs=some x):∃ r,wfR r∧cs=cR r∧x=(dR r,[]):=open4 T T.s26 T.c26 h
theorem shut26 (T:TyOk P) (r:RP) (h:wfR r):DataW.trod enc P w base spare held 3 26 (cR r)=some (dR r,[]):=shut4 T T.s26 T.c26 r h
theorem cR_len (r:RP):(cR r).length=8:=rfl
theorem cR_get (r:RP) (j:Nat) (h:j<8):(eRP r)[j]'h=.lit ((cR r)[j]'h):=by
 match j,h with
 | 0,_=>rfl
 | 1,_=>rfl
 | 2,_=>rfl
 | 3,_=>rfl
 | 4,_=>rfl
 | 5,_=>rfl
 | 6,_=>rfl
 | 7,_=>rfl
theorem cR_one (r:RP) (j:Nat) (h:j<8):((cR r)[j]'h).oneCell'=true:=by
 match j,h with
 | 0,_=>rfl
 | 1,_=>rfl
 | 2,_=>rfl
 | 3,_=>rfl
 | 4,_=>rfl
 | 5,_=>rfl
 | 6,_=>rfl
 | 7,_=>rfl
end
def g00 (W:World):Gh:=⟨W,fun b=>b<W.heap.size,fun _=>False,fun _=>0,fun _=>⟨none,0,0,0⟩,fun _=>0⟩
theorem g00_ok (W:World):GOk (cxOf Tryz.prog (g00 W) (upd anyf [])) (g00 W) (upd anyf []):=⟨rfl,Tp.rfl,rfl,Nat.le_refl _,fun _ _ _=>rfl,fun b hb=>hb,fun b hb=>.inl hb,fun b hb=>hb,fun l=>trivial,fun l b hb=>by simp[upd,anyf,blkOf]at hb,fun l l' b hb=>by simp[upd,anyf,blkOf]at hb⟩
theorem calls_true {f : Nat} {args : List AV} {vals : List Value} {W : World} (h : CallOK Tryz.prog f args [] (.lit (.bool true)) []) (hr : RelL (g00 W) args vals) :
  Calls Tryz.prog f vals.toArray W fun e w'=>e=.returned (.bool true)∧w'.os=W.os∧w'.output=W.output∧W.heap.size≤w'.heap.size∧∀ b,b<W.heap.size→w'.heap[b]?=W.heap[b]?:=by
 refine (h (g00 W) vals (fun l=>by simp[g00]) (g00_ok W) hr).mono ?_
 rintro e w' ⟨v,g',rfl,rfl,_,_,hg,hv⟩
 cases hv
 exact ⟨rfl,hg.os,hg.output,hg.size,fun b hb=>hg.old b hb (by rintro ⟨l,hl⟩;simp[upd,anyf,blkOf]at hl)⟩
end Go.Proofs.Vx
namespace Go.Proofs.Vx
open Go Go.Sx Go.Proofs Go.ChangeShapes Go.WideShapes Go.Deep
section
variable {P:Program} {H:Type} {enc:TypeId × Value→H}
structure Lies (W:World) (b off len cap:Nat) (R:Nat→RP):Prop where
 le:len≤cap
 ml:cap≤maxLen
 wf:∀ i,i<cap→wfR (R i)
 blk:∃ cs e fr,W.heap[b]?=some (.cells cs e fr)
 cell:∀ i,i<cap→∀ j (hj:j<8),W.cell? ⟨b,off+i*8+j,none⟩=some ((cR (R i))[j]'hj)
theorem Lies.lt {W:World} {b off len cap:Nat} {R:Nat→RP} (h:Lies W b off len cap R):b<W.heap.size:=by
 obtain ⟨cs,e,fr,h⟩:=h.blk
 exact (Array.getElem?_eq_some_iff.1 h).1
theorem Lies.mono {W W':World} {b off len cap:Nat} {R:Nat→RP} (h:Lies W b off len cap R) (hk:∀ b,b<W.heap.size→W'.heap[b]?=W.heap[b]?):Lies W' b off len cap R:=by
 refine ⟨h.le,h.ml,h.wf,?_,fun i hi j hj=>?_⟩
 ·rw[hk b h.lt];exact h.blk
 ·have:=h.cell i hi j hj
  unfold World.cell? at this ⊢
  rw[hk b h.lt]
  exact this
def dSl (len cap:Nat) (R:Nat→RP):DataW H:=.slice ((List.range len).map fun i=>dR (R i)) ((List.range (cap - len)).map fun j=>dR (R (len+j)))
theorem flatMap_nil {β:Type} (n:Nat):((List.range n).flatMap fun _=>([]:List β))=[]:=by simp
theorem open22 (T : TyOk P) {W : World} {b0 : Nat} {v : Value} {d : DataW H} {p : List MemPlace} (hval : Value.okWide P W .any b0 22 v) (h : DataW.Trod enc P W 0 (fun _ => true) true 22 v d p) :
  (v=.slice none 0 0∧d=.nil∧p=[])∨∃ (b off len cap:Nat) (R:Nat→RP),v=.slice (some ⟨b,off,none⟩) len cap∧Lies W b off len cap R∧d=dSl len cap R∧p=MemPlace.row ⟨b,off,none⟩ (cap*8):=by
 obtain ⟨fuel,h⟩:=h
 have hv:Cell.ok P W .any b0 22 v:=by
  unfold Value.okWide at hval
  rw[T.u22]at hval
  unfold Cell.okWide at hval
  rw[T.u22]at hval
  exact hval
 unfold Cell.ok at hv
 rw[T.u22]at hv
 rcases open_slice T.u22 h with ⟨hc,hx⟩|⟨a,len,cap,m,n,D,Pl,hc,_,hl,hm,hmm,hx,hel⟩
 ·left
  cases v with
  | slice a len cap =>
   simp only[Value.cells,List.cons.injEq,and_true]at hc
   injection hx with h1 h2
   exact ⟨hc,h1,h2⟩
  | _=>simp at hv
 ·right
  cases v with
  | slice a' len' cap' =>
   simp only[Value.cells,List.cons.injEq,and_true,Value.slice.injEq]at hc
   obtain ⟨rfl,rfl,rfl⟩:=hc
   obtain ⟨hl1,hl2,hhas⟩:=hv
   obtain ⟨_,hsp,row,cells,hsh,_⟩:=hhas
   obtain ⟨b,off,spot⟩:=a
   simp only at hsp
   subst hsp
   simp only[if_true]at hmm
   subst hmm
   have each:∀ i,i<m→∃ r:RP,wfR r∧W.cells? 0 ((⟨b,off,none⟩:Addr).add (i*8)) 8=some (cR r)∧D i=dR r∧Pl i=[]:=by
    intro i hi
    obtain ⟨cs',h1,h2⟩:=hel i hi
    rw[T.c26]at h1
    obtain ⟨r,hw,rfl,hd⟩:=open26 T h2
    injection hd with e1 e2
    exact ⟨r,hw,h1,e1,e2⟩
   haveI:Inhabited RP:=⟨⟨false,⟨#[]⟩,false,⟨#[]⟩,false,⟨#[]⟩,false,⟨#[]⟩⟩⟩
   obtain ⟨R,hR⟩:=choose_lt each
   refine ⟨b,off,len',m,R,rfl,⟨hl,hm,fun i hi=>(hR i hi).1,?_,fun i hi j hj=>?_⟩,?_,?_⟩
   ·unfold World.shape? at hsh
    split at hsh
    ·rename_i c el _ hcell;exact ⟨_,_,_,hcell⟩
    ·contradiction
   ·obtain ⟨_,_,hcc⟩:=World.cells?_some (hR i hi).2.1
    have:=hcc j hj
    rw[add_add,add_plain]at this
    rw[Nat.add_assoc,this,List.getElem?_eq_getElem (by rw[cR_len];exact hj)]
    rfl
   ·injection hx with e1 e2
    rw[e1]
    unfold dSl
    congr 1
    ·exact List.map_congr_left fun i hi=>(hR i (by have:=List.mem_range.1 hi;omega)).2.2.1
    ·exact List.map_congr_left fun j hj=>(hR (len'+j) (by have:=List.mem_range.1 hj;omega)).2.2.1
   ·injection hx with e1 e2
    rw[e2,T.c26,flatMap_congr_range (g:=fun _=>[]) (fun i hi=>(hR i hi).2.2.2),flatMap_nil,List.append_nil]
  | _=>simp at hv
theorem back22 (T : TyOk P) {W : World} {b off len cap : Nat} {R : Nat → RP} {sp : Nat → Bool} (h : Lies W b off len cap R) (hsp : sp b = true) :
  DataW.Trod enc P W 0 sp true 22 (.slice (some ⟨b,off,none⟩) len cap) (dSl len cap R) (MemPlace.row ⟨b,off,none⟩ (cap*8)):=by
 have:=shut_slice_whole (enc:=enc) (w:=W) (held:=true) (base:=0) (spare:=sp) (a:=⟨b,off,none⟩) T.u22 (Nat.zero_le _) h.le h.ml hsp (fun i=>dR (R i)) (fun _=>[]) (fun i hi=>by
  refine ⟨cR (R i),3,?_,shut26 T (R i) (h.wf i hi)⟩
  rw[T.c26,add_plain]
  refine cells?_of (Nat.zero_le _) (cR_len _) fun j hj=>?_
  rw[h.cell i hi j hj,List.getElem?_eq_getElem (by rw[cR_len];exact hj)]
  rfl)
 rw[T.c26,flatMap_nil,List.append_nil]at this
 exact this
theorem nil22 (T:TyOk P) {W:World} {sp:Nat→Bool}:DataW.Trod enc P W 0 sp true 22 (.slice none 0 0) .nil []:=⟨1,by simp[DataW.trod,T.u22,Value.cells]⟩
theorem rel22 {W:World} {b off len cap:Nat} {R:Nat→RP} (h:Lies W b off len cap R):Rel (g00 W) (.sl (eRPs ((List.range len).map R))) (.slice (some ⟨b,off,none⟩) len cap):=by
 obtain ⟨cs,e,fr,hb⟩:=h.blk
 have hc:∀ i,i<cap→∀ j (hj:j<8),∃ h2:off+i*8+j<cs.size,cs[off+i*8+j]=(cR (R i))[j]'hj:=by
  intro i hi j hj
  have:=h.cell i hi j hj
  unfold World.cell? at this
  rw[hb]at this
  simp only[Option.isSome_none,Bool.false_eq_true,if_false]at this
  exact Array.getElem?_eq_some_iff.1 this
 have hlen:(eRPs ((List.range len).map R)).length=len:=by simp
 have hget:∀ i (hi:i<(eRPs ((List.range len).map R)).length),(eRPs ((List.range len).map R))[i]=eRP (R i):=fun i hi=>by simp
 have key := Rel.sl (g := g00 W) (eRPs ((List.range len).map R)) b off cap 8 cs e fr (show b < W.heap.size from h.lt) hb (by rw [hlen]; exact h.le) (fun i hi => by rw [hget i hi]; rfl) (fun hp => by
   rw[hlen]at hp ⊢
   have hle:=h.le
   obtain ⟨h2,_⟩:=hc (len - 1) (by omega) 7 (by omega)
   omega) (fun j h1 h2=>by
   rw[hlen]at h2
   have hle:=h.le
   obtain ⟨h3,h4⟩:=hc (j / 8) (by omega) (j % 8) (by omega)
   have e1:off+j / 8*8+j % 8=off+j:=by omega
   simp only[e1]at h4
   rw[h4]
   exact cR_one _ _ _) (fun i h1 j h2 h3=>by
   have hle:=h.le
   have h1':i<len:=by rw[hlen]at h1;exact h1
   have h2':j<8:=by rw[hget i h1]at h2;exact h2
   obtain ⟨h4,h5⟩:=hc i (by omega) j h2'
   rw[h5]
   have e1:(eRPs ((List.range len).map R))[i][j]=.lit ((cR (R i))[j]'h2'):=by
    rw[← cR_get (R i) j h2']
    simp only[hget i h1]
   rw[e1]
   exact .lit _)
 rw[hlen]at key
 exact key
theorem rel27 (g:Gh) (r:RP):Rel g (.agg (eRP r)) (.agg (cR r).toArray):=by
 refine .agg _ _ rfl (fun i h2=>?_) fun i h1 h2=>?_
 ·have:i<8:=h2
  exact cR_one r i this
 ·have:i<8:=h1
  rw[cR_get r i this]
  exact .lit _
theorem post_grown {f : Func} {s : ChangeSpec} {apart fresh handsOn again : Bool} {W W' : World} {args : Array Value} {v : Value} {ds : List (DataW H)} {before : List MemPlace}
  (hvs:s.vars=[]) (hW:DataW.Whole enc P f.params.toList s.vars apart W args.toList ds [] before) (hos:W'.os=W.os) (hou:W'.output=W.output) (hold:∀ b,b<W.heap.size→W'.heap[b]?=W.heap[b]?)
  (hres:∀ (b:Nat) (sp:Nat→Bool) (hd:Bool),DataW.TrodAll enc P W' b sp hd f.resultTypes.toList (v.resultList f.resultTypes.size) (s.fn H ds).results [])
  (hargs:∀ sp:Nat→Bool,(∀ b,b<W.heap.size→sp b=true)→DataW.TrodAll enc P W' 0 sp true f.params.toList args.toList (s.fn H ds).args before) (hv0:(s.fn H ds).vars=[])
  (hok:∀ (j:Nat) (t:TypeId) (r:Value),f.resultTypes[j]?=some t→(v.resultList f.resultTypes.size)[j]?=some r→Value.okWide P W' .any 0 t r) :
  s.post enc P f apart fresh handsOn again W args v W':=by
 have hkept:W.keptBut W' (·∈before):=by
  refine ⟨hos,hou,fun i hi=>?_⟩
  rw[hold i hi]
  split
  ·rename_i h1 h2
   rw[h1]at h2
   simp only[Option.some.injEq,Obj.cells.injEq]at h2
   obtain ⟨rfl,rfl,rfl⟩:=h2
   exact ⟨rfl,rfl,rfl,fun _ _=>rfl⟩
  ·rename_i h1 h2
   rw[h1]at h2
   simp only[Option.some.injEq,Obj.map.injEq]at h2
   obtain ⟨rfl,rfl⟩:=h2
   exact .inr ⟨rfl,rfl⟩
  ·rfl
 have hvars:∀ sp:Nat→Bool,DataW.TrodVars enc P W' sp s.vars (s.fn H (ds++[])).vars []:=fun sp=>by rw[List.append_nil,hv0,hvs];rfl
 have hres':=hres
 have hargs':=hargs
 rw[← List.append_nil ds]at hres' hargs'
 refine ⟨ds,[],before,[],before,[],hW,hres' _ _ _,hargs' _ (fun b hb=>by simpa using hb),hvars _,World.keptBut_mono (fun p hp=>⟨hp,Or.inr (Or.inl hp)⟩) hkept,fun _=>?_⟩
 obtain ⟨_,_,_,_,_,hz,hn⟩:=id hW
 refine ⟨hok,_,_,([]++before)++[],⟨[]++before,[],trodAll_append (hargs' _ (fun _ _=>rfl)) (hres' _ _ _),hvars _,rfl,?_,?_⟩,?_⟩
 ·intro b off hp
  have hp':MemPlace.cell b off∈before:=by simpa using hp
  have hb:b<W.heap.size:=hW.lt _ hp'
  have:=hz b off hp'
  unfold World.frozen? at this ⊢
  rw[hold b hb]
  exact this
 ·intro ha
  simpa using hn ha
 ·intro p hp _
  simpa using hp
end
end Go.Proofs.Vx
namespace Go.Proofs.Vx
open Go Go.Sx Go.Proofs Go.ChangeShapes Go.WideShapes Go.Deep
section
variable {P:Program} {H:Type} {enc:TypeId × Value→H}
theorem st_f51:fldT Tryz.prog 51=some [(24,0),(24,2),(24,4),(24,6)]:=by kernel_rfl
theorem st_c51:Tryz.prog.cellsOf 51=8:=by kernel_rfl
theorem st_s51:S4 Tryz.prog 51:=by
 obtain ⟨fs,hu,hk⟩:=fld_of st_f51
 obtain ⟨f0,f1,f2,f3,hf,r⟩:=list4 hk
 exact ⟨f0,f1,f2,f3,by rw[hu,← Array.toArray_toList (xs:=fs),hf],r⟩
theorem openS (T : TyOk P) {t : TypeId} (st : S4 P t) (ct : P.cellsOf t = 8) {W : World} {b0 : Nat} {v : Value} {d : DataW H} {p : List MemPlace} (hval : Value.okWide P W .any b0 t v) (h : DataW.Trod enc P W 0 (fun _ => true) true t v d p) :
  ∃ r:RP,wfR r∧v=.agg (cR r).toArray∧d=dR r∧p=[]:=by
 obtain ⟨fuel,h⟩:=h
 obtain ⟨f0,f1,f2,f3,hu,_⟩:=id st
 unfold Value.okWide at hval
 rw[hu]at hval
 obtain ⟨cs,rfl,hs,_⟩:=hval
 obtain ⟨r,hw,hcs,hd⟩:=open4 T st ct h
 injection hd with e1 e2
 refine ⟨r,hw,?_,e1,e2⟩
 rw[← hcs]
 simp[Value.cells]
theorem backS (T:TyOk P) {t:TypeId} (st:S4 P t) (ct:P.cellsOf t=8) {W:World} {sp:Nat→Bool} {r:RP} (h:wfR r):DataW.Trod enc P W 0 sp true t (.agg (cR r).toArray) (dR r) []:=by
 refine ⟨3,?_⟩
 have:=shut4 (enc:=enc) (w:=W) (base:=0) (spare:=sp) (held:=true) T st ct r h
 simpa [Value.cells]using this
end
end Go.Proofs.Vx
namespace Go.Proofs.YtjlfgmhmalbiiaaGreatDoor
open Go Go.Proofs
theorem zand {a b:Bool} (h:a=true) (k:b=true):(a&&b)=true:=by rw[h,k];rfl
set_option maxRecDepth 100000 in
set_option maxHeartbeats 40000000 in
theorem fa5:joinedFacts Tryz.prog 5 Tryz.f5 Rows.cellClassificationSpec Rows.cellClassificationRow=true:=by
 unfold joinedFacts
 repeat' with_reducible refine zand ?_ ?_
 all_goals decide +kernel
end Go.Proofs.YtjlfgmhmalbiiaaGreatDoor
