import Derived.Deep.Slices
import Derived.OpenShut
import Derived.ReadAgain
import Derived.Deep.DeepHandedRow
import Derived.Test.YtjlfgmhmalbiiaaGreatDoorRows
import Derived.JoinedOf
import Derived.Test.YtjlfgmhmalbiiaaGreatDoorW41
set_option linter.all false
set_option maxHeartbeats 40000000
open Array renaming toArray_toList → Aa, getElem?_eq_some_iff → Ag
open List renaming getElem_append_right → Ab, getElem?_eq_getElem → Ac, getElem_append_left → Ad, take_append_drop → Ae, length_append → Af, getElem_mem → Ah, getElem?_cons_zero → Ai, getElem?_cons_succ → Aj, range → Al, take_of_length_le → Am, countP_le_length → An, mem_map → Ap, length_take → Aq, length_drop → Ar, append_nil → At, mem_range → Au, drop_zero → Av, cons → Ay
open Nat renaming le_trans → Ak, reduceAdd → Ao, add_assoc → Aw, le_refl → Ax
open Option renaming some → As
namespace Go.Proofs.Vx
open Go Go.Sx Go.Proofs Tryz
attribute [local irreducible] fnT CallOK CallFr AW aI callV aL aJ aH aK gcaseP hid
theorem c6u (L:List aC) (i:Nat) (h:i<L.length):(cL L).getD i []=[.sl (eS L[i])]:=by
 unfold cL
 rw[List.getD_eq_getElem?_getD,List.getElem?_map,Ac h];rfl
theorem c30t {L:List aC} (hL:∀ c∈L,SmC 20 c) {x:Pt} (hx:BPt 268435456 x) {i:Nat} (h:i<L.length):CallOK prog 30 [.agg [.sl (eS L[i])],.agg (eP x)] [] (.lit (.int .i64 (cJ L[i] x))) []:=by
 have hs:=hL _ (Ah h)
 have:=c30 L[i] x (Ak hs.n (by decide)) (fun s hs'=>(hs.p s hs').mono (by decide)) (hx.mono (by decide))
 rw[a5b]at this
 exact this
theorem TrB.sm {N:List TN} {k:Int} {T:BT} (h:TrB N k T) (hc:T.chk aN=true):∀ c∈T.cells aN,SmC 20 c:=fun c hm=>by
 have:=BT.cells_sm wF h.nz (fun p hp=>(h.pl p hp).1) hc c hm
 exact⟨this.toCellOK,Ak this.n (by have:=h.ht;omega),this.p⟩
end Go.Proofs.Vx
namespace Go.Proofs.Vx
open Go Go.Sx Go.Proofs Tryz
attribute [local irreducible] fnT CallOK CallFr AW aI callV aL aJ aH aK gcaseP hid
def eU (l:List aC) (x:Pt) (q:Int→Bool):Nat:=l.countP fun c=>q (cJ c x)
theorem a6o {L:List aC} {x:Pt} {q:Int→Bool} {i:Nat} (h:i<L.length):eU (L.take (i+1)) x q=eU (L.take i) x q+if q (cJ L[i] x)=true then 1 else 0:=by
 unfold eU
 rw[List.take_succ_eq_append_getElem h,List.countP_append,List.countP_singleton]
theorem c5p (L:List aC) (x:Pt):(eU L x (fun v=>decide (v≠-1))=0)=(rM L x=false):=by
 unfold eU rM
 rw[List.countP_eq_zero,eq_iff_iff,List.any_eq_false]
abbrev qI (v:Int):Bool:=decide (v=1)
abbrev qM (v:Int):Bool:=decide (v≠-1)
set_option maxRecDepth 20000 in
theorem d0o (k:Int) (N:List RN) (x:RP) (cf:CallOK prog 40 [.agg (b5 k N)] [] (.lit (.bool false)) []):CallOK prog 17 [.agg (b5 k N),.agg (eRP x)] [] (.lit (.bool true)) []:=by
 refine zs func17 71 [.tmp 4] results17 ?_
 simp only[aD,Ao]
 have zh0:=c36
 exact z1
set_option maxRecDepth 20000 in
theorem d0n (k:Int) (N:List TN) (x:RP) (cf:CallOK prog 40 [.agg (eTr k N)] [] (.lit (.bool true)) []) (hx:gR x=true):CallOK prog 17 [.agg (eTr k N),.agg (eRP x)] [] (.lit (.bool true)) []:=by
 refine zs func17 71 [.tmp 4] results17 ?_
 simp only[aD,Ao]
 have cg:=c41 x
 rw[if_pos hx]at cg
 clear hx
 simp only[eRP]at cg
 have zh0:=c36
 exact z1
set_option maxRecDepth 20000 in
theorem c17ok (k:Int) (N:List TN) (T:BT) (h:TrB N k T) (hc:T.chk aN=true) (x:RP) (cf:CallOK prog 40 [.agg (eTr k N)] [] (.lit (.bool true)) []) (hx:¬ gR x=true):CallOK prog 17 [.agg (eTr k N),.agg (eRP x)] [] (.lit (.bool true)) []:=by
 refine zs func17 71 [.tmp 4] results17 ?_
 simp only[aD,Ao]
 have hml:maxLen=9223372036854775807:=rfl
 have cg:=c41 x
 rw[if_neg hx]at cg
 have cx:=c29x x hx
 have hb:=(c9d hx).mono (l:=268435456) (by decide)
 have c1:=c42 k N T h (ptR x) hb
 have l1:=c52 k N T h
 have hsm:=Hid.mk (h.sm hc)
 have hH:=Hid.mk (c6s c3z (fun p hp=>(h.pl p hp).2):∀ d∈T.cells aN,jC d)
 have hl:(cL (T.cells aN)).length=(T.cells aN).length:=xP _
 have hn15:(T.cells aN).length≤15:=by
  have h1:=BT.tl_turn T
  have h2:=h.len
  have h3:=h.n
  rw[BT.cells_len];omega
 have hlaw:=b6y h hc (c4z x).w
 rw[← c5p]at hlaw
 change eU _ _ qI≤1∧(eU _ _ qM=0↔_)∧(eU _ _ qI=0∨_)at hlaw
 replace hlaw:=Hid.mk hlaw
 clear h hc hx
 generalize T.cells aN=L at *
 generalize iP T (ptR x)=v at *
 generalize ptR x=p at *
 simp only[eRP]at cg
 simp only[eP,e4]at cx c1
 have z1:eU [] p qI=0:=rfl
 have z2:eU [] p qM=0:=rfl
 repeat'(first|refine zk ?_|(refine zu ?_ ?_<;>intro hc)|(refine zf c36 ?_)|(refine zq cf ?_)|(refine zf cg ?_)|(refine zf cx ?_)|(refine zq l1 ?_)|(refine zv ?_ ?_<;>intro hg)|omega|simp -dsimp (disch:=try exact zo)only[go_sem,hl]|contradiction|rfl)
 refine AW.loop (fun z:{i:Nat // i≤L.length}=>⟨[(8,.lit (.int .i64 z.1)),(6,.lit (.int .i64 (eU (L.take z.1) p qI:Nat))),(7,.lit (.int .i64 (eU (L.take z.1) p qM:Nat))),(2,.loc 8 0),(3,.loc 9 0),(5,.sl (cL L))],[(8,.blk (eTr k N)),(9,.blk (eP p))],60⟩) (fun z=>L.length - z.1) ⟨0,Nat.zero_le _⟩ (aQ (by refine⟨?_,?_,?_,?_⟩<;>simp -dsimp (disch:=try exact zo)only[go_sem,z1,z2,List.take_zero,Int.natCast_zero,ZC])) ?_
 rintro⟨i,hi⟩
 dsimp only
 by_cases hlt:i<L.length
 ·have es1:=c6u L i hlt
  have ci:=c30t hsm.out hb hlt
  have hs:=hsm.out _ (Ah hlt)
  have ck:=c55 L[i] hs.toCellOK (hH.out _ (Ah hlt)) (hs.bd.mono (by decide) (by decide) (by decide))
  have e1:=a6o (q:=qI) (x:=p) hlt
  have e2:=a6o (q:=qM) (x:=p) hlt
  have le1:eU (L.take i) p qI≤15:=Ak An (by rw[Aq];omega)
  have le2:eU (L.take i) p qM≤15:=Ak An (by rw[Aq];omega)
  clear hs hsm hH hlaw cf cg cx c1 l1 hb
  have hst:∃ a b a' b':Nat,eU (L.take i) p qI=a∧eU (L.take i) p qM=b∧eU (L.take (i+1)) p qI=a'∧eU (L.take (i+1)) p qM=b':=⟨_,_,_,_,rfl,rfl,rfl,rfl⟩
  obtain⟨a,b,a',b',ha,hb,ha',hb'⟩:=hst
  rw[ha,hb]
  rw[ha']at e1
  rw[hb']at e2
  rw[ha]at e1 le1
  rw[hb]at e2 le2
  simp only[qI,qM,decide_eq_true_eq]at e1 e2
  generalize cJ L[i] p=w at *
  generalize L[i]=c at *
  simp only[eP,e4]at ci
  by_cases w1:w=1
  ·subst w1
   have k1:True:=trivial
   have k2:True:=trivial
   simp only[if_true]at e1
   rw[if_pos (by decide)]at e2
   subst e1 e2
   repeat'(first|refine zk ?_|(refine zu ?_ ?_<;>intro hc)|(refine zq ck ?_)|(refine zq ci ?_)|(refine zv ?_ ?_<;>intro hg)|omega|simp -dsimp (disch:=try exact zo)only[go_sem,hl,es1,k1,k2,ZT]|contradiction|rfl)
   all_goals exact AW.stop ⟨⟨i+1,by omega⟩,by dsimp only;rw[ha',hb'];exact zw,by dsimp only;omega⟩
  ·have k1:(w=1)=False:=eq_false w1
   rw[if_neg w1]at e1
   by_cases w2:w=-1
   ·have k2:(w=-1)=True:=eq_true w2
    rw[if_neg (fun h=>h w2)]at e2
    subst e1 e2
    clear w1 w2
    repeat'(first|refine zk ?_|(refine zu ?_ ?_<;>intro hc)|(refine zq ck ?_)|(refine zq ci ?_)|(refine zv ?_ ?_<;>intro hg)|omega|simp -dsimp (disch:=try exact zo)only[go_sem,hl,es1,k1,k2,ZT]|contradiction|rfl)
    all_goals exact AW.stop ⟨⟨i+1,by omega⟩,by dsimp only;rw[ha',hb'];exact zw,by dsimp only;omega⟩
   ·have k2:(w=-1)=False:=eq_false w2
    rw[if_pos w2]at e2
    subst e1 e2
    clear w1 w2
    repeat'(first|refine zk ?_|(refine zu ?_ ?_<;>intro hc)|(refine zq ck ?_)|(refine zq ci ?_)|(refine zv ?_ ?_<;>intro hg)|omega|simp -dsimp (disch:=try exact zo)only[go_sem,hl,es1,k1,k2,ZT]|contradiction|rfl)
    all_goals exact AW.stop ⟨⟨i+1,by omega⟩,by dsimp only;rw[ha',hb'];exact zw,by dsimp only;omega⟩
 ·have hil:i=L.length:=by omega
  subst hil
  rw[List.take_length]
  obtain⟨h1,h2,h3⟩:=hlaw.out
  clear hlaw hsm hH hb cf cg cx l1
  generalize eU L p qI=a at *
  generalize eU L p qM=b at *
  have k1:((a:Int)≤1)=True:=eq_true (by omega)
  rcases h3 with h3|h3
  ·have k2:((a:Int)=0)=True:=eq_true (by omega)
   have k4:True:=trivial
   by_cases hv:v=-1
   ·have k3:(v=-1)=True:=eq_true hv
    have h2:=h2.2 hv
    subst h2
    repeat'(first|refine zk ?_|(refine zu ?_ ?_<;>intro hc)|(refine zq c1 ?_)|(refine zv ?_ ?_<;>intro hg)|omega|simp -dsimp (disch:=try exact zo)only[go_sem,hl,k1,k2,k3,k4]|contradiction|rfl)
   ·have k3:(v=-1)=False:=eq_false hv
    have k4:((b:Int)=0)=False:=eq_false (fun h=>hv (h2.1 (by omega)))
    repeat'(first|refine zk ?_|(refine zu ?_ ?_<;>intro hc)|(refine zq c1 ?_)|(refine zv ?_ ?_<;>intro hg)|omega|simp -dsimp (disch:=try exact zo)only[go_sem,hl,k1,k2,k3,k4]|contradiction|rfl)
  ·subst h3
   have k3:True:=trivial
   have k4:((b:Int)=0)=False:=eq_false (fun h=>absurd (h2.1 (by omega)) (by decide))
   by_cases ha:a=0
   ·have k2:((a:Int)=0)=True:=eq_true (by omega)
    repeat'(first|refine zk ?_|(refine zu ?_ ?_<;>intro hc)|(refine zq c1 ?_)|(refine zv ?_ ?_<;>intro hg)|omega|simp -dsimp (disch:=try exact zo)only[go_sem,hl,k1,k2,k3,k4]|contradiction|rfl)
   ·have k2:((a:Int)=0)=False:=eq_false (by omega)
    repeat'(first|refine zk ?_|(refine zu ?_ ?_<;>intro hc)|(refine zq c1 ?_)|(refine zv ?_ ?_<;>intro hg)|omega|simp -dsimp (disch:=try exact zo)only[go_sem,hl,k1,k2,k3,k4]|contradiction|rfl)
theorem d0l (k:Int) (N:List RN) (x:RP):CallOK prog 17 [.agg (b5 k N),.agg (eRP x)] [] (.lit (.bool true)) []:=by
 rcases b4t k N with cf|⟨N',T,h,hc,he,cf⟩
 ·exact d0o k N x cf
 ·rw[show b5 k N=eTr k N' by rw[b5,he]]
  by_cases hx:gR x=true
  ·exact d0n k N' x cf hx
  ·exact c17ok k N' T h hc x cf hx
end Go.Proofs.Vx
namespace Go.Proofs.Vx
open Go Go.Sx Go.Proofs Go.ChangeShapes Go.WideShapes Go.Deep
theorem st_u4:Tryz.prog.underlying 4=some .bool:=by kernel_rfl
theorem st_u9:Tryz.prog.underlying 9=some .string:=by kernel_rfl
theorem c8d:Tryz.prog.underlying 22=some (.slice 26):=by kernel_rfl
theorem c8c:Tryz.prog.underlying 27=some (.array 1 26):=by kernel_rfl
theorem c8n:Tryz.prog.cellsOf 26=8:=by kernel_rfl
theorem c8m:Tryz.prog.cellsOf 27=8:=by kernel_rfl
theorem c8i:g9 Tryz.prog 26=some [(24,0),(24,2),(24,4),(24,6)]:=by kernel_rfl
theorem uE {P:Program} {t:TypeId} {ks:List (TypeId × Nat)} (h:g9 P t=some ks):∃ fs,P.underlying t=some (.struct fs)∧fs.toList.map (fun f=>(f.type,f.offset))=ks:=by
 unfold g9 at h
 split at h
 ·rename_i fs hs
  split at h
  ·exact⟨fs,hs,As.inj h⟩
  ·contradiction
 ·contradiction
theorem b1i {l:List Field} {a b c d:Nat} (h:l.map (fun f=>(f.type,f.offset))=[(a,b),(c,d)]):∃ f0 f1,l=[f0,f1]∧f0.type=a∧f0.offset=b∧f1.type=c∧f1.offset=d:=by
 rcases l with _|⟨f0,_|⟨f1,_|⟨f2,l⟩⟩⟩<;>simp at h
 exact⟨f0,f1,rfl,h.1.1,h.1.2,h.2.1,h.2.2⟩
theorem b1h {l:List Field} {a b c d a' b' c' d':Nat} (h:l.map (fun f=>(f.type,f.offset))=[(a,b),(c,d),(a',b'),(c',d')]):∃ f0 f1 f2 f3,l=[f0,f1,f2,f3]∧(f0.type=a∧f0.offset=b)∧(f1.type=c∧f1.offset=d)∧(f2.type=a'∧f2.offset=b')∧(f3.type=c'∧f3.offset=d'):=by
 rcases l with _|⟨f0,_|⟨f1,_|⟨f2,_|⟨f3,_|⟨f4,l⟩⟩⟩⟩⟩<;>simp at h
 exact⟨f0,f1,f2,f3,rfl,h.1,h.2.1,h.2.2.1,h.2.2.2⟩
structure TyOk (P:Program):Prop where
 u4:P.underlying 4=some .bool
 u9:P.underlying 9=some .string
 u22:P.underlying 22=some (.slice 26)
 u27:P.underlying 27=some (.array 1 26)
 n4:P.cellsOf 4=1
 n9:P.cellsOf 9=1
 n24:P.cellsOf 24=2
 n26:P.cellsOf 26=8
 n27:P.cellsOf 27=8
 s24:∃ f0 f1:Field,P.underlying 24=some (.struct #[f0,f1])∧f0.type=4∧f0.offset=0∧f1.type=9∧f1.offset=1
 s26:∃ f0 f1 f2 f3:Field,P.underlying 26=some (.struct #[f0,f1,f2,f3])∧(f0.type=24∧f0.offset=0)∧(f1.type=24∧f1.offset=2)∧(f2.type=24∧f2.offset=4)∧(f3.type=24∧f3.offset=6)
theorem tyOk:TyOk Tryz.prog:=by
 refine⟨st_u4,st_u9,c8d,c8c,b0t,b0s,tW,c8n,c8m,?_,?_⟩
 ·obtain⟨fs,hu,hk⟩:=uE a9c
  obtain⟨f0,f1,hf,r⟩:=b1i hk
  exact⟨f0,f1,by rw[hu,← Aa (xs:=fs),hf],r⟩
 ·obtain⟨fs,hu,hk⟩:=uE c8i
  obtain⟨f0,f1,f2,f3,hf,r⟩:=b1h hk
  exact⟨f0,f1,f2,f3,by rw[hu,← Aa (xs:=fs),hf],r⟩
section
variable {P:Program} {H:Type} {enc:TypeId × Value→H} {w:World} {base:Nat} {spare:Nat→Bool} {held:Bool}
def dI (b:Bool) (s:ByteArray):DataW H:=.agg [.lit (.bool b),.lit (.string s.data.toList)]
def dR (r:RP):DataW H:=.agg [dI r.n1 r.m1,dI r.n2 r.m2,dI r.n3 r.m3,dI r.n4 r.m4]
def cR (r:RP):List Value:=[.bool r.n1,.string r.m1,.bool r.n2,.string r.m2,.bool r.n3,.string r.m3,.bool r.n4,.string r.m4]
def wfR (r:RP):Prop:=r.m1.size≤maxLen∧r.m2.size≤maxLen∧r.m3.size≤maxLen∧r.m4.size≤maxLen
theorem xI (T:TyOk P) {fuel:Nat} {cs:List Value} {x:DataW H × List MemPlace} (h:DataW.trod enc P w base spare held fuel 24 cs=some x):∃ b s,cs=[.bool b,.string s]∧x=(dI b s,[])∧s.size≤maxLen:=by
 obtain⟨f0,f1,hu,t0,o0,t1,o1⟩:=T.s24
 obtain⟨xs,n,_,hx,hl,hxl,hf⟩:=DataW.trod_struct hu h
 rw[T.n24]at hl
 match xs,hxl,cs,hl with
 | [y0,y1],_,[v0,v1],_ =>
  have g0:=hf 0 f0 rfl
  have g1:=hf 1 f1 rfl
  simp[t0,o0,t1,o1,T.n4,T.n9]at g0 g1
  obtain⟨b,e0,e1⟩:=DataW.trod_bool T.u4 g0
  obtain⟨s,e2,e3,e4⟩:=DataW.trod_string T.u9 g1
  simp only[Ay.injEq,and_true]at e0 e2
  subst e0 e2 e1 e3
  exact⟨b,s,rfl,by rw[hx];rfl,e4⟩
def S4 (P:Program) (t:TypeId):Prop:=∃ f0 f1 f2 f3:Field,P.underlying t=some (.struct #[f0,f1,f2,f3])∧(f0.type=24∧f0.offset=0)∧(f1.type=24∧f1.offset=2)∧(f2.type=24∧f2.offset=4)∧(f3.type=24∧f3.offset=6)
theorem b1f (T:TyOk P) {t:TypeId} (st:S4 P t) (ct:P.cellsOf t=8) {fuel:Nat} {cs:List Value} {x:DataW H × List MemPlace} (h:DataW.trod enc P w base spare held fuel t cs=some x):∃ r,wfR r∧cs=cR r∧x=(dR r,[]):=by
 obtain⟨f0,f1,f2,f3,hu,⟨t0,o0⟩,⟨t1,o1⟩,⟨t2,o2⟩,⟨t3,o3⟩⟩:=st
 obtain⟨xs,n,_,hx,hl,hxl,hf⟩:=DataW.trod_struct hu h
 rw[ct]at hl
 match xs,hxl,cs,hl with
 | [y0,y1,y2,y3],_,[v0,v1,v2,v3,v4,v5,v6,v7],_ =>
  have g0:=hf 0 f0 rfl
  have g1:=hf 1 f1 rfl
  have g2:=hf 2 f2 rfl
  have g3:=hf 3 f3 rfl
  simp[t0,o0,t1,o1,t2,o2,t3,o3,T.n24]at g0 g1 g2 g3
  obtain⟨b0,s0,a0,c0,d0⟩:=xI T g0
  obtain⟨b1,s1,a1,c1,d1⟩:=xI T g1
  obtain⟨b2,s2,a2,c2,d2⟩:=xI T g2
  obtain⟨b3,s3,a3,c3,d3⟩:=xI T g3
  simp only[Ay.injEq,and_true]at a0 a1 a2 a3
  obtain⟨rfl,rfl⟩:=a0
  obtain⟨rfl,rfl⟩:=a1
  obtain⟨rfl,rfl⟩:=a2
  obtain⟨rfl,rfl⟩:=a3
  subst c0 c1 c2 c3
  exact⟨⟨b0,s0,b1,s1,b2,s2,b3,s3⟩,⟨d0,d1,d2,d3⟩,rfl,by rw[hx];rfl⟩
theorem b0k (r:RP) (j:Nat) (h:j<8):(eRP r)[j]'h=.lit ((cR r)[j]'h):=by
 match j,h with
 | 0,_=>rfl
 | 1,_=>rfl
 | 2,_=>rfl
 | 3,_=>rfl
 | 4,_=>rfl
 | 5,_=>rfl
 | 6,_=>rfl
 | 7,_=>rfl
theorem b0j (r:RP) (j:Nat) (h:j<8):((cR r)[j]'h).oneCell'=true:=by
 match j,h with
 | 0,_=>rfl
 | 1,_=>rfl
 | 2,_=>rfl
 | 3,_=>rfl
 | 4,_=>rfl
 | 5,_=>rfl
 | 6,_=>rfl
 | 7,_=>rfl
end
def g00 (W:World):Gh:=⟨W,fun b=>b<W.heap.size,fun _=>False,fun _=>0,fun _=>⟨none,0,0,0⟩,fun _=>0⟩
theorem d0a (W:World):GOk (bG Tryz.prog (g00 W) (upd aF [])) (g00 W) (upd aF []):=⟨rfl,Tp.rfl,rfl,Ax _,fun _ _ _=>rfl,fun b hb=>hb,fun b hb=>.inl hb,fun b hb=>hb,fun l=>trivial,fun l b hb=>by simp[upd,aF,aE]at hb,fun l l' b hb=>by simp[upd,aF,aE]at hb⟩
theorem b4w {f : Nat} {args : List AV} {vals : List Value} {W : World} (h : CallOK Tryz.prog f args [] (.lit (.bool true)) []) (hr : RelL (g00 W) args vals) :
  Calls Tryz.prog f vals.toArray W fun e w'=>e=.returned (.bool true)∧w'.os=W.os∧w'.output=W.output∧W.heap.size≤w'.heap.size∧∀ b,b<W.heap.size→w'.heap[b]?=W.heap[b]?:=by
 refine (h (g00 W) vals (fun l=>by simp[g00]) (d0a W) hr).mono ?_
 rintro e w' ⟨v,g',rfl,rfl,_,_,hg,hv⟩
 cases hv
 exact⟨rfl,hg.os,hg.output,hg.size,fun b hb=>hg.old b hb (by rintro⟨l,hl⟩;simp[upd,aF,aE]at hl)⟩
end Go.Proofs.Vx
namespace Go.Proofs.Vx
open Go Go.Sx Go.Proofs Go.ChangeShapes Go.WideShapes Go.Deep
section
variable {P:Program} {H:Type} {enc:TypeId × Value→H}
theorem rel27 (g:Gh) (r:RP):Rel g (.agg (eRP r)) (.agg (cR r).toArray):=by
 refine .agg _ _ rfl (fun i h2=>?_) fun i h1 h2=>?_
 ·have:i<8:=h2
  exact b0j r i this
 ·have:i<8:=h1
  rw[b0k r i this]
  exact .lit _
theorem b4h {f : Func} {s : ChangeSpec} {apart fresh handsOn again : Bool} {W W' : World} {args : Array Value} {v : Value} {ds : List (DataW H)} {before : List MemPlace}
  (hvs:s.vars=[]) (hW:DataW.Whole enc P f.params.toList s.vars apart W args.toList ds [] before) (hos:W'.os=W.os) (hou:W'.output=W.output) (hold:∀ b,b<W.heap.size→W'.heap[b]?=W.heap[b]?)
  (hres:∀ (b:Nat) (sp:Nat→Bool) (hd:Bool),DataW.TrodAll enc P W' b sp hd f.resultTypes.toList (v.resultList f.resultTypes.size) (s.fn H ds).results [])
  (hargs:∀ sp:Nat→Bool,(∀ b,b<W.heap.size→sp b=true)→DataW.TrodAll enc P W' 0 sp true f.params.toList args.toList (s.fn H ds).args before) (hv0:(s.fn H ds).vars=[])
  (hok:∀ (j:Nat) (t:TypeId) (r:Value),f.resultTypes[j]?=some t→(v.resultList f.resultTypes.size)[j]?=some r→Value.okWide P W' .any 0 t r) :
  s.post enc P f apart fresh handsOn again W args v W':=by
 have hkept:W.keptBut W' (·∈before):=by
  refine⟨hos,hou,fun i hi=>?_⟩
  rw[hold i hi]
  split
  ·rename_i h1 h2
   rw[h1]at h2
   simp only[As.injEq,Obj.cells.injEq]at h2
   obtain⟨rfl,rfl,rfl⟩:=h2
   exact⟨rfl,rfl,rfl,fun _ _=>rfl⟩
  ·rename_i h1 h2
   rw[h1]at h2
   simp only[As.injEq,Obj.map.injEq]at h2
   obtain⟨rfl,rfl⟩:=h2
   exact .inr ⟨rfl,rfl⟩
  ·rfl
 have hvars:∀ sp:Nat→Bool,DataW.TrodVars enc P W' sp s.vars (s.fn H (ds++[])).vars []:=fun sp=>by rw[At,hv0,hvs];rfl
 have hres':=hres
 have hargs':=hargs
 rw[← At ds]at hres' hargs'
 refine⟨ds,[],before,[],before,[],hW,hres' _ _ _,hargs' _ (fun b hb=>by simpa using hb),hvars _,World.keptBut_mono (fun p hp=>⟨hp,Or.inr (Or.inl hp)⟩) hkept,fun _=>?_⟩
 obtain⟨_,_,_,_,_,hz,hn⟩:=id hW
 refine⟨hok,_,_,([]++before)++[],⟨[]++before,[],trodAll_append (hargs' _ (fun _ _=>rfl)) (hres' _ _ _),hvars _,rfl,?_,?_⟩,?_⟩
 ·intro b off hp
  have hp':MemPlace.cell b off∈before:=by simpa using hp
  have hb:b<W.heap.size:=hW.lt _ hp'
  have:=hz b off hp'
  unfold World.frozen? at this ⊢
  rw[hold b hb]
  exact this
 ·intro ha
  simpa using hn ha
 ·intro p hp _
  simpa using hp
end
end Go.Proofs.Vx
namespace Go.Proofs.Vx
open Go Go.Sx Go.Proofs Go.ChangeShapes Go.WideShapes Go.Deep
section
variable {P:Program} {H:Type} {enc:TypeId × Value→H}
theorem c8h:g9 Tryz.prog 51=some [(24,0),(24,2),(24,4),(24,6)]:=by kernel_rfl
theorem c8l:Tryz.prog.cellsOf 51=8:=by kernel_rfl
theorem c8e:S4 Tryz.prog 51:=by
 obtain⟨fs,hu,hk⟩:=uE c8h
 obtain⟨f0,f1,f2,f3,hf,r⟩:=b1h hk
 exact⟨f0,f1,f2,f3,by rw[hu,← Aa (xs:=fs),hf],r⟩
theorem openS (T : TyOk P) {t : TypeId} (st : S4 P t) (ct : P.cellsOf t = 8) {W : World} {b0 : Nat} {v : Value} {d : DataW H} {p : List MemPlace} (hval : Value.okWide P W .any b0 t v) (h : DataW.Trod enc P W 0 (fun _ => true) true t v d p) :
  ∃ r:RP,wfR r∧v=.agg (cR r).toArray∧d=dR r∧p=[]:=by
 obtain⟨fuel,h⟩:=h
 obtain⟨f0,f1,f2,f3,hu,_⟩:=id st
 unfold Value.okWide at hval
 rw[hu]at hval
 obtain⟨cs,rfl,hs,_⟩:=hval
 obtain⟨r,hw,hcs,hd⟩:=b1f T st ct h
 injection hd with e1 e2
 refine⟨r,hw,?_,e1,e2⟩
 rw[← hcs]
 simp[Value.cells]
end
end Go.Proofs.Vx
namespace Go.Proofs.Vx
open Go Go.Sx Go.Proofs Go.ChangeShapes Go.WideShapes Go.Deep
structure RelC (g:Gh) (es:List AV) (cs:List Value):Prop where
 len:cs.length=es.length
 rel:∀ i (h1:i<es.length) (h2:i<cs.length),Rel g es[i] cs[i]
 one:∀ i (h2:i<cs.length),cs[i].oneCell'=true
theorem RelC.app {g:Gh} {es es':List AV} {cs cs':List Value} (h:RelC g es cs) (k:RelC g es' cs'):RelC g (es++es') (cs++cs'):=by
 refine⟨by rw[Af,Af,h.len,k.len],fun i h1 h2=>?_,fun i h2=>?_⟩
 ·by_cases q:i<cs.length
  ·rw[Ad q,Ad (by rw[← h.len];exact q)]
   exact h.rel i _ _
  ·have hq:es.length≤i:=by have:=h.len;omega
   have hq2:cs.length≤i:=by omega
   rw[Af]at h1 h2
   rw[Ab hq,Ab hq2]
   have:=k.rel (i - es.length) (by omega) (by have:=h.len;omega)
   simpa only[h.len]using this
 ·by_cases q:i<cs.length
  ·rw[Ad q];exact h.one i _
  ·rw[Ab (by omega)];exact k.one _ _
theorem pO {g:Gh} {a:AV} {v:Value} (h:Rel g a v) (ho:v.oneCell'=true):RelC g [a] [v]:=by
 refine⟨rfl,fun i h1 h2=>?_,fun i h2=>?_⟩
 ·match i,h1 with
  | 0,_=>exact h
 ·match i,h2 with
  | 0,_=>exact ho
theorem b5b (g:Gh) (r:RP):RelC g (eRP r) (cR r):=⟨rfl,fun i h1 h2=>by rw[b0k r i h1];exact .lit _,fun i h=>b0j r i h⟩
theorem RelC.agg {g:Gh} {es:List AV} {cs:Array Value} (h:RelC g es cs.toList):Rel g (.agg es) (.agg cs):=by
 refine .agg _ _ h.len (fun i h2=>?_) fun i h1 h2=>?_
 ·have:=h.one i h2;simpa using this
 ·have:=h.rel i h1 h2;simpa using this
section
variable {P:Program} {H:Type} {enc:TypeId × Value→H}
theorem slR {W : World} {α : Type} [Inhabited α] {t e k : Nat} (ht : P.underlying t = some (.slice e)) (ce : P.cellsOf e = k) (hk : 0 < k) (E : α → List AV) (Q : Nat → α → Prop) (M : DataW H → Nat)
  (hQ:∀ {m n a},m≤n→Q m a→Q n a) (hM:∀ (es sp:List (DataW H)),∀ d∈es,M d≤M (.slice es sp))
  (el:∀ (fuel:Nat) (cs:List Value) (x:DataW H × List MemPlace),DataW.trod enc P W 0 (fun _=>true) true fuel e cs=some x→∃ a,RelC (g00 W) (E a) cs∧(E a).length=k∧Q (M x.1) a)
  {fuel:Nat} {cs:List Value} {x:DataW H × List MemPlace} (h:DataW.trod enc P W 0 (fun _=>true) true fuel t cs=some x) :
  ∃ l:List α,RelC (g00 W) [.sl (l.map E)] cs∧∀ a∈l,Q (M x.1) a:=by
 rcases open_slice ht h with⟨rfl,rfl⟩|⟨a,len,cap,m,n,D,Pl,rfl,_,hl,hm,hmm,rfl,hel⟩
 ·exact⟨[],pO .slnil rfl,by simp⟩
 ·simp only[if_true]at hmm
  subst hmm
  by_cases h0:m=0
  ·subst h0
   have:len=0:=by omega
   subst this
   exact⟨[],pO .slnil rfl,by simp⟩
  ·have each:∀ i,i<m→∃ a':α,(∃ cs',W.cells? 0 (a.add (i*k)) k=some cs'∧RelC (g00 W) (E a') cs'∧(E a').length=k)∧Q (M (D i)) a':=fun i hi=>by
    obtain⟨cs',h1,h2⟩:=hel i hi
    obtain⟨a',h3,h4,h5⟩:=el n cs' _ h2
    rw[ce]at h1
    exact⟨a',⟨cs',h1,h3,h4⟩,h5⟩
   obtain⟨R,hR⟩:=choose_lt each
   obtain⟨b,off,spot⟩:=a
   have hsp:spot=none∧∃ c e' fr,W.heap[b]?=some (.cells c e' fr):=by
    obtain⟨⟨cs0,hc0,hr0,hk0⟩,_⟩:=hR 0 (by omega)
    obtain⟨_,hlen,hcc⟩:=World.cells?_some hc0
    have h1:=hcc 0 hk
    rw[Nat.zero_mul,add_add]at h1
    have h2:(⟨b,off,spot⟩:Addr).add (0+0)=⟨b,off,spot⟩:=rfl
    rw[h2,Ac (by omega)]at h1
    unfold World.cell? at h1
    simp only at h1
    cases hb:W.heap[b]? with
    | none=>rw[hb]at h1;simp at h1
    | some o =>
     rw[hb]at h1
     cases o with
     | cells c e' fr =>
      refine⟨?_,c,e',fr,rfl⟩
      cases spot with
      | none=>rfl
      | some s=>simp at h1
     | _=>simp at h1
   obtain⟨rfl,c,e',fr,hb⟩:=hsp
   have hc:∀ i,i<m→∀ j (hj:j<k) (hj2:j<(E (R i)).length),∃ h2:off+i*k+j<c.size,Rel (g00 W) ((E (R i))[j]'hj2) c[off+i*k+j]∧c[off+i*k+j].oneCell'=true:=by
    intro i hi j hj hj2
    obtain⟨⟨cs',hc',hr',hk'⟩,_⟩:=hR i hi
    obtain⟨_,hlen,hcc⟩:=World.cells?_some hc'
    have h1:=hcc j hj
    rw[add_add,add_plain,Ac (by omega)]at h1
    unfold World.cell? at h1
    rw[hb]at h1
    simp only[Option.isSome_none,Bool.false_eq_true,if_false,← Aw]at h1
    obtain⟨h2,h3⟩:=Ag.1 h1
    refine⟨h2,?_⟩
    rw[h3]
    exact⟨hr'.rel j hj2 (by omega),hr'.one j (by omega)⟩
   have hkE:∀ i,i<m→(E (R i)).length=k:=fun i hi=>by obtain⟨⟨_,_,_,h⟩,_⟩:=hR i hi;exact h
   refine⟨(Al len).map R,pO ?_ rfl,fun a ha=>?_⟩
   ·have hlen:(((Al len).map R).map E).length=len:=by simp
    have hget:∀ i (hi:i<(((Al len).map R).map E).length),(((Al len).map R).map E)[i]=E (R i):=fun i hi=>by simp
    have key := Rel.sl (g := g00 W) (((Al len).map R).map E) b off m k c e' fr (show b < W.heap.size from (Ag.1 hb).1) hb (by rw [hlen]; exact hl) (fun i hi => by rw [hget i hi]; exact hkE i (by rw [hlen] at hi; omega)) (fun hp => by
      rw[hlen]at hp ⊢
      obtain⟨h2,_⟩:=hc (len - 1) (by omega) (k - 1) (by omega) (by rw[hkE _ (by omega)];omega)
      have e1:(len - 1)*k+k=len*k:=by
       have:len=(len - 1)+1:=by omega
       conv=>rhs;rw[this,Nat.add_mul,Nat.one_mul]
      omega) (fun j h1 h2=>by
      rw[hlen]at h2
      have hj:j / k<len:=Nat.div_lt_of_lt_mul (by rw[Nat.mul_comm];exact h2)
      have hm2:=Nat.mod_lt j hk
      obtain⟨h3,_,h4⟩:=hc (j / k) (by omega) (j % k) hm2 (by rw[hkE _ (by omega)];exact hm2)
      have e1:off+j / k*k+j % k=off+j:=by rw[Aw,Nat.div_add_mod']
      simp only[e1]at h4
      exact h4) (fun i h1 j h2 h3=>by
      have h1':i<len:=by rw[hlen]at h1;exact h1
      have h2':j<(E (R i)).length:=by rw[hget i h1]at h2;exact h2
      have hjk:j<k:=by rw[hkE i (by omega)]at h2';exact h2'
      obtain⟨h4,h5,_⟩:=hc i (by omega) j hjk h2'
      simp only[hget i h1]
      exact h5)
    rw[hlen]at key
    exact key
   ·obtain⟨i,hi,rfl⟩:=Ap.1 ha
    have hi:=Au.1 hi
    exact hQ (hM _ _ _ (Ap.2 ⟨i,Au.2 hi,rfl⟩)) (hR i (by omega)).2
theorem b4y (K : Kids P (· < P.types.size)) (full : ∀ t e, t < P.types.size → P.underlying t = some (.slice e) → 0 < P.cellsOf e) {W W' : World} {sp : Nat → Bool} (hold : ∀ b, b < W.heap.size → W'.heap[b]? = W.heap[b]?) (hsp : ∀ b, b < W.heap.size → sp b = true) :
  ∀ {ts:List TypeId} {vs:List Value} {ds:List (DataW H)} {p:List MemPlace},(∀ t∈ts,t<P.types.size)→(∀ q∈p,q.block<W.heap.size)→DataW.TrodAll enc P W 0 (fun _=>true) true ts vs ds p→DataW.TrodAll enc P W' 0 sp true ts vs ds p:=by
 intro ts
 induction ts with
 | nil =>
  intro vs ds p _ _ h
  cases vs<;>cases ds<;>first|exact h|cases h
 | cons t ts ih =>
  intro vs ds p hT hlt h
  match vs,ds,h with
  | v::vs,d::ds,⟨p1,q1,h1,h2,e⟩ =>
   subst e
   have hlt1:∀ x∈p1,x.block<W.heap.size:=fun x hx=>hlt x (List.mem_append_left _ hx)
   obtain⟨n,hn⟩:=DataW.Trod.respare (spare':=sp) K full (hT t (by simp)) h1 fun x hx=>hsp _ (hlt1 x hx)
   refine⟨p1,q1,⟨n,DataW.trod_carry n _ _ _ hn fun x hx=>?_⟩,ih (fun u hu=>hT u (by simp[hu])) (fun x hx=>hlt x (List.mem_append_right _ hx)) h2,rfl⟩
   have hb:=hold _ (hlt1 x hx)
   cases x with
   | cell b off =>
    show W'.cell? ⟨b,off,none⟩=W.cell? ⟨b,off,none⟩
    unfold World.cell?
    rw[show W'.heap[b]?=W.heap[b]? from hb]
   | map b=>exact hb
end
end Go.Proofs.Vx
namespace Go.Proofs.Vx
open Go Go.Sx Go.Proofs Tryz
attribute [local irreducible] fnT CallOK CallFr AW aI callV aL aJ aH aK gcaseP hid
abbrev b2e:=List (RP × List RP)
def eRS (l:b2e):List (List AV):=l.map fun s=>eRP s.1++[.sl (eRPs s.2)]
theorem d0h {K:Nat→Prop} (l:b2e):(∀ e∈eRS l,∀ c∈e,In K c)=True:=eq_true fun e he c hc=>by
 obtain⟨s,_,rfl⟩:=Ap.1 he
 rcases List.mem_append.1 hc with h|h
 ·unfold eRP at h
  simp only[zM,or_false]at h
  rcases h with rfl|rfl|rfl|rfl|rfl|rfl|rfl|rfl<;>exact .lit _
 ·obtain rfl:=List.mem_singleton.1 h
  exact .sl _ (of_eq_true (a8m _))
attribute [go_sem] d0h
end Go.Proofs.Vx
namespace Go.Proofs.Vx
open Go Go.Sx Go.Proofs Go.ChangeShapes Go.WideShapes Go.Deep Go.Proofs.YtjlfgmhmalbiiaaGreatDoor
theorem kidsT:Kids Tryz.prog (· < Tryz.prog.types.size):=kids_rows (by kernel_rfl) (by kernel_rfl)
theorem fullT:∀ t e,t<Tryz.prog.types.size→Tryz.prog.underlying t=some (.slice e)→0<Tryz.prog.cellsOf e:=slices_full_of _ (by kernel_rfl)
instance:Inhabited RP:=⟨⟨false,⟨#[]⟩,false,⟨#[]⟩,false,⟨#[]⟩,false,⟨#[]⟩⟩⟩
section
variable {H:Type} {enc:TypeId × Value→H}
end
end Go.Proofs.Vx
namespace Go.Proofs.Vx
open Go Go.Sx Go.Proofs Go.ChangeShapes Go.WideShapes Go.Deep Go.Proofs.YtjlfgmhmalbiiaaGreatDoor
theorem c8b:Tryz.prog.underlying 62=some (.slice 79):=by kernel_rfl
theorem a1v:Tryz.prog.underlying 3=some (.int .i64):=by kernel_rfl
theorem c8g:g9 Tryz.prog 64=some [(3,0),(62,1)]:=by kernel_rfl
theorem c8f:g9 Tryz.prog 79=some [(26,0),(3,8),(3,9)]:=by kernel_rfl
theorem b0z:Tryz.prog.cellsOf 3=1:=by kernel_rfl
theorem c8k:Tryz.prog.cellsOf 62=1:=by kernel_rfl
theorem c8j:Tryz.prog.cellsOf 64=2:=by kernel_rfl
theorem a9k:Tryz.prog.cellsOf 79=10:=by kernel_rfl
instance:Inhabited RN:=⟨⟨default,0,0⟩⟩
section
variable {H:Type} {enc:TypeId × Value→H}
theorem el79 (T : TyOk Tryz.prog) {W : World} (fuel : Nat) (cs : List Value) (x : DataW H × List MemPlace) (h : DataW.trod enc Tryz.prog W 0 (fun _ => true) true fuel 79 cs = some x) :
  ∃ n:RN,RelC (g00 W) (eRN n) cs∧(eRN n).length=10∧True:=by
 obtain⟨fs,hu,hk⟩:=uE c8f
 have hf:∃ f0 f1 f2,fs.toList=[f0,f1,f2]∧(f0.type=26∧f0.offset=0)∧(f1.type=3∧f1.offset=8)∧(f2.type=3∧f2.offset=9):=by
  rcases hq:fs.toList with _|⟨f0,_|⟨f1,_|⟨f2,_|⟨f3,l⟩⟩⟩⟩<;>rw[hq]at hk<;>simp at hk
  exact⟨f0,f1,f2,rfl,hk.1,hk.2.1,hk.2.2⟩
 obtain⟨f0,f1,f2,hf,⟨t0,o0⟩,⟨t1,o1⟩,⟨t2,o2⟩⟩:=hf
 rw[← Aa (xs:=fs),hf]at hu
 obtain⟨xs,n,_,hx,hl,hxl,hfl⟩:=DataW.trod_struct hu h
 rw[a9k]at hl
 match xs,hxl with
 | [y0,y1,y2],_ =>
  have g0:=hfl 0 f0 rfl
  have g1:=hfl 1 f1 rfl
  have g2:=hfl 2 f2 rfl
  simp only[t0,o0,T.n26,t1,o1,t2,o2,b0z,Av,Ai,Aj]at g0 g1 g2
  obtain⟨r,_,hc0,rfl⟩:=b1f T T.s26 T.n26 g0
  obtain⟨a,ha,_⟩:=DataW.trod_int a1v g1
  obtain⟨b,hb,_⟩:=DataW.trod_int a1v g2
  refine⟨(r,a,b),?_,rfl,trivial⟩
  have e:cs=cs.take 8++((cs.drop 8).take 1++(cs.drop 9).take 1):=by
   have e1:(cs.drop 9).take 1=cs.drop 9:=Am (by rw[Ar];omega)
   have e2:(cs.drop 8).take 1++cs.drop 9=cs.drop 8:=by
    have:=Ae 1 (cs.drop 8)
    rwa [List.drop_drop]at this
   rw[e1,e2,Ae]
  rw[e,hc0,ha,hb]
  exact (b5b _ r).app ((pO (.lit _) rfl).app (pO (.lit _) rfl))
set_option maxRecDepth 20000 in
theorem c9g (T : TyOk Tryz.prog) {W : World} {b0 : Nat} {v : Value} {d : DataW H} {p : List MemPlace} (hval : Value.okWide Tryz.prog W .any b0 64 v) (h : DataW.Trod enc Tryz.prog W 0 (fun _ => true) true 64 v d p) :
  ∃ (k:Int) (N:List RN),Rel (g00 W) (.agg (b5 k N)) v:=by
 obtain⟨fuel,h⟩:=h
 obtain⟨fs,hu,hk⟩:=uE c8g
 obtain⟨f0,f1,hf,t0,o0,t1,o1⟩:=b1i hk
 rw[← Aa (xs:=fs),hf]at hu
 unfold Value.okWide at hval
 rw[hu]at hval
 obtain⟨cs,rfl,hs,_⟩:=hval
 obtain⟨xs,n,_,hx,hl,hxl,hfl⟩:=DataW.trod_struct hu h
 rw[c8j]at hl
 match xs,hxl with
 | [y0,y1],_ =>
  have g0:=hfl 0 f0 rfl
  have g1:=hfl 1 f1 rfl
  simp only[t0,o0,t1,o1,b0z,c8k,Av,Ai,Aj]at g0 g1
  obtain⟨k,hk,_⟩:=DataW.trod_int a1v g0
  obtain⟨l,hlr,_⟩:=slR (α:=RN) c8b a9k (by decide) eRN (fun _ _=>True) (fun _=>0) (fun _ h=>h) (fun _ _ _ _=>Ax _) (fun fuel cs x h=>el79 T fuel cs x h) g1
  refine⟨k,l,RelC.agg ?_⟩
  have e:(Value.agg cs).cells.toList=((Value.agg cs).cells.toList.take 1)++((Value.agg cs).cells.toList.drop 1).take 1:=by
   rw[Am (l:=List.drop 1 _) (by rw[Ar];omega),Ae]
  have ec:(Value.agg cs).cells.toList=cs.toList:=rfl
  rw[ec]at e g0 g1 hk
  rw[e,hk]
  exact (pO (.lit _) rfl).app hlr
set_option maxRecDepth 20000 in
theorem c9h (T : TyOk Tryz.prog) {W : World} {b0 : Nat} {v : Value} {d : DataW H} {p : List MemPlace} (hval : Value.okWide Tryz.prog W .any b0 51 v) (h : DataW.Trod enc Tryz.prog W 0 (fun _ => true) true 51 v d p) :
  ∃ r:RP,Rel (g00 W) (.agg (eRP r)) v:=by
 obtain⟨r,_,rfl,_,_⟩:=openS T c8e c8l hval h
 exact⟨r,rel27 _ r⟩
end
end Go.Proofs.Vx
namespace Go.Proofs.YtjlfgmhmalbiiaaGreatDoor
open Go Go.Proofs
theorem zand {a b:Bool} (h:a=true) (k:b=true):(a&&b)=true:=by rw[h,k];rfl
set_option maxRecDepth 100000 in
theorem fa17:joinedFacts Tryz.prog 17 Tryz.f17 Rows.bspCellsSpec Rows.bspCellsRow=true:=by
 unfold joinedFacts
 repeat' with_reducible refine zand ?_ ?_
 all_goals decide +kernel
end Go.Proofs.YtjlfgmhmalbiiaaGreatDoor
