import Derived.Test.YtjlfgmhmalbiiaaGreatDoorW25
set_option linter.all false
set_option maxHeartbeats 40000000
open Array renaming toList → A5
open Bool renaming and_eq_true → Aj, false_or → Ar, or_false → As, true_or → Au, or_true → Av
open Int renaming mul_ne_zero → Ah, one_mul → Al, mul_assoc → Ao, mul_ediv_cancel_left → Ap, mul_comm → A6
open List renaming take_succ_eq_append_getElem → Aa, any_eq_true → Ab, all_eq_true → Ac, mem_map_of_mem → Ad, mem_flatMap → Ae, getElem_mem → Af, length_map → Ag, take_length → Ai, filterMap_cons → Am, length_append → An, length_filterMap_le → Aq, length_cons → At, mem_append → Aw, mem_of_mem_take → Ax, flatMap_append → Ay, toList_toArray → Az, mem_map → A4, foldl_cons → A8, take_zero → A9, mem_cons → Ba, map_cons → Bb
open Nat renaming zero_le → Ak, reduceAdd → A3, le_trans → A7
open Rat renaming le_of_lt → Bc
namespace Go.Sx
open Geo (H V Sd)
set_option linter.unusedVariables false
def gW (m:List Pt) (x:Pt):List Pt:=if x∈m then m else m++[x]
def ddP (l:List Pt):List Pt:=l.foldl gW []
theorem b0g (l m:List Pt) (hm:m.Nodup):(l.foldl gW m).Nodup∧∀ x,x∈l.foldl gW m↔x∈m∨x∈l:=by
 induction l generalizing m with
 | nil=>exact⟨hm,fun x=>by simp⟩
 | cons a l ih =>
  have h1:(gW m a).Nodup∧∀ x,x∈gW m a↔x∈m∨x=a:=by
   unfold gW
   split
   ·rename_i h;exact⟨hm,fun x=>⟨.inl,fun hh=>hh.elim id fun e=>e▸h⟩⟩
   ·rename_i h
    refine⟨?_,fun x=>by simp⟩
    rw[List.nodup_append]
    exact⟨hm,by simp,fun p hp q hq e=>by simp at hq;exact h (hq▸e▸hp)⟩
  obtain⟨i1,i2⟩:=ih _ h1.1
  refine⟨i1,fun x=>?_⟩
  rw[A8,i2,h1.2,Ba,or_assoc]
theorem c2q (l:List Pt):(ddP l).Nodup:=(b0g l [] (by simp)).1
theorem a1p {l:List Pt} {x:Pt}:x∈ddP l↔x∈l:=((b0g l [] (by simp)).2 x).trans (by simp)
theorem a1q (l:List Pt):(ddP l).length≤l.length:=by
 have key:∀ (l m:List Pt),(l.foldl gW m).length≤m.length+l.length:=by
  intro l
  induction l with
  | nil=>intro m;simp
  | cons a l ih =>
   intro m
   have:=ih (gW m a)
   have h2:(gW m a).length≤m.length+1:=by unfold gW;split<;>simp
   simp only[A8,At];omega
 simpa [ddP]using key l []
def bB (l:aC):List Pt:=l.flatMap (·.2)
def bX (l:aC):List Pt:=gY (ddP (bB l))
theorem nX {l:aC} {x:Pt}:x∈bX l↔∃ s∈l,x∈s.2:=by
 unfold bX bB
 rw[a4h,a1p,Ae]
theorem a4m {α:Type} [DecidableEq α]:∀ {l m:List α},l.Nodup→(∀ x∈l,x∈m)→l.length≤m.length
 | [],_,_,_=>Ak _
 | a::l,m,hn,h=>by
  have ha:a∈m:=h a (by simp)
  obtain⟨h1,h2⟩:=List.nodup_cons.1 hn
  have:=a4m (m:=m.erase a) h2 fun x hx=>(List.mem_erase_of_ne (fun e=>h1 (by rw[← e];exact hx))).2 (h x (by simp[hx]))
  rw[List.length_erase_of_mem ha]at this
  have hp:=List.length_pos_of_mem ha
  simp only[At]
  omega
def OkC (l:aC):Prop:=l=[]∨CellOK l
def beh (b:Pl) (l:aC):aC:=(aP b l).1
structure InnP (l:aC) (x:V):Prop where
 ne:l≠[]
 inn:Geo.Inn (sds l) x
theorem CellOK.ne {l:aC} (h:CellOK l):l≠[]:=fun e=>by have:=h.cell.four;subst e;simp[sds]at this
theorem OkC.can {l:aC} (h:OkC l):CanC l:=h.elim (fun e=>by subst e;exact⟨fun s hs=>by simp at hs⟩) (·.toCanC)
theorem a4g (b:Pl):aP b []=([],[]):=rfl
theorem b0o {b:Pl} {l:aC} (h:OkC l):OkC (beh b l):=by
 rcases h with rfl|h
 ·exact .inl rfl
 ·exact (zF h).1
theorem zA {b:Pl} {l:aC} (h:CellOK l) (hf:aY b l=false):∀ s∈sds l,∀ v∈s.vs,(tH b).at v≤0:=by
 intro s hs v hv
 obtain⟨s0,hs0,rfl⟩:=A4.1 hs
 obtain⟨v0,hv0,rfl⟩:=A4.1 hv
 have h1:¬ 0<(tH b).at (tv v0):=fun hh=>by
  have h2:=(kA b (h.w hs0 v0 hv0)).1 hh
  have:aY b l=true:=Ab.2 ⟨s0,hs0,Ab.2 ⟨v0,hv0,decide_eq_true (lL.2 h2)⟩⟩
  rw[hf]at this;contradiction
 grind
theorem xB {b:Pl} {l:aC} (h:OkC l) (hn:(tH b).n≠⟨0,0,0⟩) (x:V):InnP (beh b l) x↔InnP l x∧(tH b).at x<0:=by
 rcases h with rfl|h
 ·exact⟨fun hh=>absurd rfl hh.ne,fun hh=>absurd rfl hh.1.ne⟩
 ·unfold beh aP
  by_cases hf:aY b l=false
  ·rw[if_pos hf]
   refine⟨fun hh=>⟨hh,?_⟩,fun hh=>hh.1⟩
   exact Geo.vW hh.inn hn fun y hy=>h.cell.hull (zA h hf) fun t ht=>Bc (hy t ht)
  ·rw[if_neg hf]
   by_cases hb:aZ b l=false
   ·rw[if_pos hb]
    refine⟨fun hh=>absurd rfl hh.ne,fun hh=>?_⟩
    have hb':aY (aW b) l=false:=by rw[kT];exact hb
    have:=h.cell.hull (zA h hb') (x:=x) fun t ht=>Bc (hh.1.inn t ht)
    rw[a1c,Geo.m8]at this
    have h2:=hh.2
    grind
   ·rw[if_neg hb]
    have hf':aY b l=true:=by simpa using hf
    have hb':aZ b l=true:=by simpa using hb
    have S:=gA h hf' hb'
    have key:=S.inn_iff (a1r h S).1 (x:=x)
    rw[← a1w h.toCanC]at key
    exact⟨fun hh=>⟨⟨h.ne,(key.1 hh.inn).1⟩,(key.1 hh.inn).2⟩,fun hh=>⟨(zU h S).ne,key.2 ⟨hh.1.inn,hh.2⟩⟩⟩
theorem b0p {b:Pl} {l:aC} (h:OkC l) (hne:beh b l≠[]) (x:V):Geo.Cl (sds (beh b l)) x↔Geo.Cl (sds l) x∧(tH b).at x≤0:=by
 rcases h with rfl|h
 ·exact absurd rfl hne
 ·unfold beh aP at hne ⊢
  by_cases hf:aY b l=false
  ·rw[if_pos hf]
   exact⟨fun hh=>⟨hh,h.cell.hull (zA h hf) hh⟩,fun hh=>hh.1⟩
  ·rw[if_neg hf]at hne ⊢
   by_cases hb:aZ b l=false
   ·rw[if_pos hb]at hne;exact absurd rfl hne
   ·rw[if_neg hb]
    have hf':aY b l=true:=by simpa using hf
    have hb':aZ b l=true:=by simpa using hb
    have S:=gA h hf' hb'
    have key:=S.cl_iff (a1r h S).1 (x:=x)
    rw[← a1w h.toCanC]at key
    exact key
theorem b7i {b:Pl} {l:aC} (h:OkC l) (hn:(tH b).n≠⟨0,0,0⟩):(aP b l).2=beh (aW b) l:=by
 rcases h with rfl|h
 ·rfl
 ·unfold beh
  rw[b4a (c2v h hn)]
end Go.Sx
namespace Go.Proofs.Vx
open Go Go.Sx Go.Proofs Tryz
attribute [local irreducible] fnT CallOK CallFr AW aI callV aL aJ aH aK gcaseP hid
theorem b8q:fdT prog 33 0=some (0,1,false)∧mpT prog 110=some (51,4)∧zvT prog 4=some (.bool false):=by and_intros<;>kernel_rfl
attribute [go_sem] b8q
theorem c7p:fnT prog 84=true:=by kernel_rfl
theorem b3o (l:aC) (i:Nat) (h:i<l.length) (j:Nat):(∀ p∈bB (l.take i)++l[i].2.take j,∃ s∈l,p∈s.2)∧(bB (l.take i)++l[i].2.take j).length≤(bB l).length:=by
 refine⟨fun p hp=>?_,?_⟩
 ·rcases Aw.1 hp with hp|hp
  ·obtain⟨s,hs,hp⟩:=Ae.1 hp
   exact⟨s,Ax hs,hp⟩
  ·exact⟨l[i],Af h,Ax hp⟩
 ·have e:bB l=bB (l.take i)++(l[i].2++bB (l.drop (i+1))):=by
   unfold bB
   conv=>lhs;rw[← List.take_append_drop i l,List.drop_eq_getElem_cons h]
   rw[Ay,List.flatMap_cons]
  rw[e]
  simp only[An,List.length_take]
  omega
theorem b2x (l:aC) (i:Nat) (h:i<l.length):bB (l.take i)++l[i].2=bB (l.take (i+1)):=by
 unfold bB
 rw[Aa h,Ay]
 simp
theorem c6o (l:List Pt) (x:Pt):ddP (l++[x])=gW (ddP l) x:=by unfold ddP;rw[List.foldl_append];rfl
theorem b1n {K:Nat→Prop} (f:Nat):In K (.clo f []):=.clo f [] (by simp)
theorem xM {K:Nat→Prop} (vs:List Pt):InC K (.vec 8 (vs.map eP)):=fun e he c hc=>(oF vs e he c hc).inn
theorem c27f (l:aC) (hn:l.length≤1048576) (hv:∀ s∈l,s.2.length≤268435456∧∀ v∈s.2,CanP v∧BPt 1073741824 v) (hm:(bB l).length≤268435456):CallFr prog 27 [.agg [.sl (eS l)]] 8 (((bX l).map eP)):=by
 refine CallFr.flat func27 rfl 39 rfl rfl (oF _) [.tmp 2] (congrArg A5 results27) ?_
 simp only[aD,A3]
 have hml:maxLen=9223372036854775807:=rfl
 have hl:(eS l).length=l.length:=Ag _
 have hd0:ddP []=[]:=rfl
 have hm0:mPB []=[]:=rfl
 have hc0:bB []=[]:=rfl
 repeat'(first|refine zg ?_|(refine zc ?_ ?_<;>intro hc<;>try simp only[NM]at hc)|refine zr ?_|refine⟨by omega,?_⟩|(refine zb ?_ ?_<;>intro hg<;>(try rw[hg])<;>try simp only[NM]at hg)|omega|simp -dsimp (disch:=try exact zo)only[go_sem,hl]|contradiction|rfl)
 refine AW.loop (fun z:{i:Nat // i≤l.length}=>⟨[(13,.lit (.int .i64 z.1)),(12,.lit (.int .i64 l.length)),(4,.ref 17 0 (ddP (bB (l.take z.1))).length (ddP (bB (l.take z.1))).length),(11,.sl (eS l)),(3,.mp 10)],[(17,.vec 8 ((ddP (bB (l.take z.1))).map eP)),(10,.mpo (mPB (ddP (bB (l.take z.1)))))],60⟩) (fun z=>l.length - z.1) ⟨0,Ak _⟩ (Weak.trans (Weak.nil 4 8 (by decide) rfl) (aQ (by refine⟨?_,?_,?_,?_⟩<;>simp -dsimp (disch:=try exact zo)only[go_sem,A9,hc0,hd0,hm0,ZC]))) ?_
 rintro⟨i,hi⟩
 dsimp only
 by_cases hlt:i<l.length
 ·have es1:=oE l i hlt
  have hS1:=b2x l i hlt
  have hsub:=b3o l i hlt
  generalize hq:l[i]=sd at *
  obtain⟨sp,svs⟩:=sd
  dsimp only at es1 hS1 hsub
  have hvn:svs.length≤268435456:=(hv _ (hq▸Af hlt)).1
  simp only[eG]at es1
  repeat'(first|refine zg ?_|(refine zc ?_ ?_<;>intro hc<;>first|simp only[NM]at hc|omega|skip)|refine zr ?_|refine⟨by omega,?_⟩|(refine zb ?_ ?_<;>intro hg<;>(try rw[hg])<;>try simp only[NM]at hg)|omega|simp -dsimp (disch:=try exact zo)only[go_sem,hl,es1,ZT,zl]|contradiction|rfl)
  refine AW.loop (fun z:{j:Nat // j≤svs.length}=>⟨[(20,.lit (.int .i64 z.1)),(19,.lit (.int .i64 svs.length)),(18,.sl (svs.map eP)),(13,.lit (.int .i64 i)),(12,.lit (.int .i64 l.length)),(4,.ref 17 0 (ddP (bB (l.take i)++svs.take z.1)).length (ddP (bB (l.take i)++svs.take z.1)).length),(11,.sl (eS l)),(3,.mp 10)],[(17,.vec 8 ((ddP (bB (l.take i)++svs.take z.1)).map eP)),(10,.mpo (mPB (ddP (bB (l.take i)++svs.take z.1))))],80⟩) (fun z=>svs.length - z.1) ⟨0,Ak _⟩ (aQ (by refine⟨?_,?_,?_,?_⟩<;>simp -dsimp (disch:=try exact zo)only[go_sem,A9,List.append_nil,ZC])) ?_
  rintro⟨j,hj⟩
  dsimp only
  by_cases hjt:j<svs.length
  ·have ea:=cZ svs j hjt
   have hst0:ddP (bB (l.take i)++svs.take (j+1))=gW (ddP (bB (l.take i)++svs.take j)) svs[j]:=by
    rw[Aa hjt,← List.append_assoc,c6o]
   obtain⟨hs1,hs2⟩:=hsub j
   have ha0:svs[j]∈svs:=Af hjt
   have hsl:(sp,svs)∈l:=hq▸Af hlt
   have ha:BPt 1073741824 svs[j]:=((hv _ hsl).2 _ ha0).2
   have hRn:=c2q (bB (l.take i)++svs.take j)
   have hRl0:=a1q (bB (l.take i)++svs.take j)
   have hRb:∀ p∈ddP (bB (l.take i)++svs.take j),BPt 1073741824 p:=fun p hp=>by
    obtain⟨s,hs,hps⟩:=hs1 p (a1p.1 hp)
    exact ((hv s hs).2 p hps).2
   generalize ddP (bB (l.take i)++svs.take j)=R at *
   generalize svs[j]=a at *
   have hRl:(R.map eP).length=R.length:=Ag _
   have hkey:=uN a ha
   have hko:=c9t hRn hRb
   have hfind:=c0y R a
   simp only[eP,e4]at ea
   clear hsub hs1 hv
   by_cases q:a∈R
   ·have hlk:(bY (mPB R) (pv a)).getD (.bool false)=.bool true:=by rw[hfind,if_pos q];rfl
    have hst:ddP (bB (l.take i)++svs.take (j+1))=R:=by rw[hst0];unfold gW;rw[if_pos q]
    have hput:True:=trivial
    have hRm:True:=trivial
    clear hst0 hfind
    simp only[pv]at hkey hlk
    repeat'(first|refine zg ?_|(refine zc ?_ ?_<;>intro hc<;>first|simp only[NM]at hc|omega|skip)|refine zr ?_|refine⟨by omega,?_⟩|(refine zb ?_ ?_<;>intro hg<;>(try rw[hg])<;>try simp only[NM]at hg)|omega|simp -dsimp (disch:=try exact zo)only[go_sem,hl,es1,ea,hlk,rP,hkey,hko,hput,ZT,zl,hRl,Az,hRm]|rfl)
    all_goals exact AW.stop ⟨⟨j+1,by omega⟩,(aQ (by refine⟨?_,?_,?_,?_⟩<;>simp -dsimp (disch:=try exact zo)only[go_sem,hst,ZC])),by dsimp only;omega⟩
   ·have hlk:(bY (mPB R) (pv a)).getD (.bool false)=.bool false:=by rw[hfind,if_neg q];rfl
    have hst:ddP (bB (l.take i)++svs.take (j+1))=R++[a]:=by rw[hst0];unfold gW;rw[if_neg q]
    have hput:=c5s R a q
    have hRm:(R++[a]).map eP=R.map eP++[eP a]:=by simp
    clear hst0 hfind
    simp only[pv]at hkey hlk hput
    repeat'(first|refine zg ?_|(refine zc ?_ ?_<;>intro hc<;>first|simp only[NM]at hc|omega|skip)|refine zr ?_|refine⟨by omega,?_⟩|(refine zb ?_ ?_<;>intro hg<;>(try rw[hg])<;>try simp only[NM]at hg)|omega|simp -dsimp (disch:=try exact zo)only[go_sem,hl,es1,ea,hlk,rP,hkey,hko,hput,ZT,zl,hRl,Az,hRm]|rfl)
    all_goals exact AW.stop ⟨⟨j+1,by omega⟩,(aQ (by refine⟨?_,?_,?_,?_⟩<;>first|(simp -dsimp (disch:=try exact zo)only[go_sem,hst,hRm,An,ZC];done)|(simp -dsimp (disch:=try exact zo)only[go_sem,hst,ZC];done))),by dsimp only;omega⟩
  ·have hjl:j=svs.length:=by omega
   subst hjl
   rw[Ai]
   clear hv
   repeat'(first|refine zg ?_|(refine zc ?_ ?_<;>intro hc<;>first|simp only[NM]at hc|omega|skip)|refine zr ?_|refine⟨by omega,?_⟩|(refine zb ?_ ?_<;>intro hg<;>(try rw[hg])<;>try simp only[NM]at hg)|omega|simp -dsimp (disch:=try exact zo)only[go_sem,hl,zl]|contradiction|rfl)
   all_goals exact AW.stop ⟨⟨i+1,by omega⟩,(aQ (by refine⟨?_,?_,?_,?_⟩<;>simp -dsimp (disch:=try exact zo)only[go_sem,hS1,ZC])),by dsimp only;omega⟩
 ·have hil:i=l.length:=by omega
  subst hil
  rw[Ai]
  have hvR:∀ p∈ddP (bB l),CanP p∧BPt 1073741824 p:=fun p hp=>by
   obtain⟨s,hs,hps⟩:=Ae.1 (a1p.1 hp)
   exact (hv s hs).2 p hps
  have hRl:=a1q (bB l)
  unfold bX
  generalize ddP (bB l)=R at *
  have hSl:=nY R
  clear hv
  repeat'(first|refine zg ?_|(refine zc ?_ ?_<;>intro hc<;>try simp only[NM]at hc)|(refine AW.ret (qF ?_);simp -dsimp (disch:=try exact zo)only[go_sem,hl,zl,hSl]<;>try (exact⟨_,rfl,rfl⟩))|(refine mH 17 _ _ _ c7p (pG (c84 R hvR (by omega)) (xM _) (xM _) (.tup _ (by simp)) (by simp[jO,b1n]) 17) rfl (by simp[xT,b1n]) (xM _) (xM _) (.tup _ (by simp)) rfl ?_)|refine⟨by omega,?_⟩|(refine zb ?_ ?_<;>intro hg<;>(try rw[hg])<;>try simp only[NM]at hg)|omega|simp -dsimp (disch:=try exact zo)only[go_sem,hl,zl,hSl]|contradiction)
theorem c27 (l:aC) (hn:l.length≤1048576) (hv:∀ s∈l,s.2.length≤268435456∧∀ v∈s.2,CanP v∧BPt 1073741824 v) (hm:(bB l).length≤268435456):CallOK prog 27 [.agg [.sl (eS l)]] [] (.sl ((bX l).map eP)) []:=(c27f l hn hv hm).ok
end Go.Proofs.Vx
namespace Go.Sx
open Geo (H V Sd)
set_option linter.unusedVariables false
def wpt (x y z:Int):Pt:=⟨1000*x,1000*y,1000*z,1⟩
def aN:aC:=[
 (⟨-1,0,0,1000⟩,[wpt (-1) (-1) 1,wpt (-1) 1 1,wpt (-1) 1 (-1),wpt (-1) (-1) (-1)]),
 (⟨1,0,0,1000⟩,[wpt 1 (-1) (-1),wpt 1 1 (-1),wpt 1 1 1,wpt 1 (-1) 1]),
 (⟨0,-1,0,1000⟩,[wpt 1 (-1) (-1),wpt 1 (-1) 1,wpt (-1) (-1) 1,wpt (-1) (-1) (-1)]),
 (⟨0,1,0,1000⟩,[wpt (-1) 1 (-1),wpt (-1) 1 1,wpt 1 1 1,wpt 1 1 (-1)]),
 (⟨0,0,-1,1000⟩,[wpt (-1) 1 (-1),wpt 1 1 (-1),wpt 1 (-1) (-1),wpt (-1) (-1) (-1)]),
 (⟨0,0,1,1000⟩,[wpt (-1) (-1) 1,wpt 1 (-1) 1,wpt 1 1 1,wpt (-1) 1 1])]
def canB (p:Pt):Bool:=decide (0<p.w)&&decide (g4 p.x p.y p.z p.w=1)
theorem eD {p:Pt} (h:canB p=true):CanP p:=by
 simp only[canB,Aj,decide_eq_true_eq]at h
 exact⟨h.1,h.2⟩
def pvB (s:Sd):Bool:=decide (3≤s.vs.length)&&decide s.vs.Nodup&&(Geo.edges s.vs).all fun e=>s.vs.all fun x=>decide (x=e.1)||decide (x=e.2)||decide (0<Geo.ori s.h.n e.1 e.2 x)
theorem c9c {s:Sd} (h:pvB s=true):Geo.PV s.h.n s.vs:=by
 simp only[pvB,Aj,decide_eq_true_eq,Ac,Bool.or_eq_true]at h
 exact⟨h.1.1,h.1.2,fun e he x hx h1 h2=>(h.2 e he x hx).elim (fun h=>h.elim (fun h=>absurd h h1) fun h=>absurd h h2) id⟩
def apB (xs:List V) (h g:H):Bool:=xs.any fun x=>decide (h.at x=0)&&decide (g.at x≠0)
theorem d0t {xs:List V} {h g:H} (k:apB xs h g=true):¬ Geo.Prp h g:=by
 simp only[apB,Ab,Aj,decide_eq_true_eq]at k
 obtain⟨x,_,h1,h2⟩:=k
 rintro⟨c,hc,e⟩
 have:=e x
 grind
def b1t (c:List Sd):Bool:=c.all pvB&&(c.all fun s=>s.vs.all fun v=>decide (s.h.at v=0))&&(c.all fun s=>c.all fun t=>t.vs.all fun v=>decide (s.h.at v≤0)) &&
 (Geo.E c).isPerm ((Geo.E c).map Geo.sw)&&decide (Geo.E c).Nodup&&decide (4≤c.length)&&decide (c.Pairwise fun s t=>apB (c.flatMap (·.vs)) s.h t.h=true)
theorem a6p {c:List Sd} (h:b1t c=true):Geo.Cell c:=by
 simp only[b1t,Aj,decide_eq_true_eq,Ac,List.isPerm_iff]at h
 obtain⟨⟨⟨⟨⟨⟨h1,h2⟩,h3⟩,h4⟩,h5⟩,h6⟩,h7⟩:=h
 exact⟨fun s hs=>c9c (h1 s hs),h2,h3,h4,h5,h6,h7.imp fun h=>d0t h⟩
theorem jD:CellOK aN:=by
 refine⟨⟨fun s hs v hv=>?_⟩,a6p (by decide +kernel)⟩
 have:(aN.all fun s=>s.2.all canB)=true:=by decide +kernel
 exact eD (Ac.1 (Ac.1 this s hs) v hv)
end Go.Sx
namespace Go.Sx
open Geo (H V Sd)
set_option linter.unusedVariables false
def kG (l:aC) (x:Pt):Bool:=l.any fun s=>decide (0<aB s.1 x)
def onB (l:aC) (x:Pt):Bool:=l.any fun s=>decide (aB s.1 x=0)
def cJ (l:aC) (x:Pt):Int:=if l=[]∨kG l x=true then -1 else if onB l x=true then 0 else 1
theorem a1a (a b c:Rat):tv (mkP a b c)=⟨a,b,c⟩:=by
 have ha:(a.den:Int)≠0:=by have:=a.den_nz;omega
 have hb:(b.den:Int)≠0:=by have:=b.den_nz;omega
 have hc:(c.den:Int)≠0:=by have:=c.den_nz;omega
 have hD:1*(a.den:Int)*(b.den:Int)*(c.den:Int)≠0:=Ah (Ah (by simpa using ha) hb) hc
 have key:∀ (q:Rat) (k:Int),k≠0→((q.num*k:Int):Rat) / (((q.den:Int)*k:Int):Rat)=q:=by
  intro q k hk
  have h:=Rat.divInt_mul_right (n:=q.num) (d:=(q.den:Int)) hk
  rw[← Rat.divInt_eq_div,h,Rat.num_divInt_den]
 unfold mkP
 rw[a0z hD]
 have e1:1*(a.den:Int)*(b.den:Int)*(c.den:Int) / (a.den:Int)=(b.den:Int)*(c.den:Int):=by
  rw[Al,Ao];exact Ap _ ha
 have e2:1*(a.den:Int)*(b.den:Int)*(c.den:Int) / (b.den:Int)=(a.den:Int)*(c.den:Int):=by
  rw[Al,A6 (a.den:Int),Ao];exact Ap _ hb
 have e3:1*(a.den:Int)*(b.den:Int)*(c.den:Int) / (c.den:Int)=(a.den:Int)*(b.den:Int):=by
  rw[Al];exact Int.mul_ediv_cancel _ hc
 rw[e1,e2,e3]
 apply V.ext
 ·rw[show 1*(a.den:Int)*(b.den:Int)*(c.den:Int)=(a.den:Int)*((b.den:Int)*(c.den:Int)) by rw[Al,Ao]]
  exact key a _ (Ah hb hc)
 ·rw[show 1*(a.den:Int)*(b.den:Int)*(c.den:Int)=(b.den:Int)*((a.den:Int)*(c.den:Int)) by rw[Al,A6 (a.den:Int),Ao]]
  exact key b _ (Ah ha hc)
 ·rw[show 1*(a.den:Int)*(b.den:Int)*(c.den:Int)=(c.den:Int)*((a.den:Int)*(b.den:Int)) by rw[Al,A6 (c.den:Int)]]
  exact key c _ (Ah ha hb)
theorem a0m (a b c:Rat):CanP (mkP a b c):=vU _ _ _ _
theorem c2t {l:aC} (h:CellOK l) {x:Pt} (hx:x∈bX l):cJ l x=0:=by
 obtain⟨s,hs,hxs⟩:=nX.1 hx
 have hw:=h.w hs x hxs
 have zs:aB s.1 x=0:=mW.2 ((jN s.1 hw).1 (h.cell.pl (sd s) (Ad hs) (tv x) (Ad hxs)))
 unfold cJ
 have hon:onB l x=true:=Ab.2 ⟨s,hs,decide_eq_true zs⟩
 rw[if_neg,if_pos hon]
 rintro (e|e)
 ·exact h.ne e
 ·obtain⟨t,ht,e⟩:=Ab.1 e
  have h1:=a0d (b:=t.1) (p:=x)
  have h2:=of_decide_eq_true e
  have h3:0<abv t.1 x:=lL.1 h2
  have h4:=(kA t.1 hw).2 h3
  have:=h.cell.le (sd t) (Ad ht) (sd s) (Ad hs) (tv x) (Ad hxs)
  simp only[sd]at this
  grind
end Go.Sx
namespace Go.Sx
open Geo (H V Sd)
set_option linter.unusedVariables false
structure Bd (S M K:Nat) (l:aC):Prop where
 n:l.length≤S
 m:∀ s∈l,s.2.length≤M
 k:∀ s∈l,∀ v∈s.2,BPt K v
 p:∀ s∈l,BPl (K+1048576) s.1
theorem Bd.mono {S M K S' M' K':Nat} {l:aC} (h:Bd S M K l) (h1:S≤S') (h2:M≤M') (h3:K≤K'):Bd S' M' K' l :=
 ⟨A7 h.n h1,fun s hs=>A7 (h.m s hs) h2,fun s hs v hv=>(h.k s hs v hv).mono h3,fun s hs=>(h.p s hs).mono (Nat.add_le_add_right h3 _)⟩
theorem pL (h:Int) (b:Pl) (vs:List Pt):(bC h b vs).length≤2*vs.length:=by
 rw[← vT];exact u6 h b vs vs.length
theorem zJ {h:Int} {b:Pl} {vs:List Pt} {k K:Nat} (hb:BPl k b) (hv:∀ v∈vs,BPt K v):∀ v∈bC h b vs,BPt (k+2*K+4) v:=by
 intro v hvm
 unfold bC at hvm
 obtain⟨e,he,hvm⟩:=Ae.1 hvm
 unfold pc at hvm
 rcases Aw.1 hvm with hvm|hvm
 ·split at hvm
  ·obtain rfl:v=e.1:=by simpa using hvm
   exact (hv _ (Geo.bD he)).mono (by omega)
  ·simp at hvm
 ·split at hvm
  ·obtain rfl:v=_:=by simpa using hvm
   exact c5q hb (hv _ (Geo.bD he)) (hv _ (Geo.bL he))
  ·simp at hvm
theorem a2d {b:Pl} {l:aC} {S M K k:Nat} (h:Bd S M K l) (hb:BPl k b):Bd S (2*M) (k+2*K+4) (bh b l):=by
 refine⟨A7 (Aq _ _) h.n,fun s hs=>?_,fun s hs v hv=>?_,fun s hs=>?_⟩
 all_goals
  obtain⟨t,ht,e⟩:=List.mem_filterMap.1 hs
  by_cases hq:bF (-1) b t.2 t.2.length=true
  rotate_left
  ·rw[if_neg hq]at e;contradiction
  rw[if_pos hq]at e
  obtain rfl:=Option.some.inj e
 ·have:=pL (-1) b t.2
  have:=h.m t ht
  show (bC (-1) b t.2).length≤_
  omega
 ·exact zJ hb (h.k t ht) v hv
 ·exact (h.p t ht).mono (by omega)
theorem c6t {b:Pl} {l:aC} {K:Nat} (h:∀ s∈l,∀ v∈s.2,BPt K v):∀ v∈b6 b l,BPt K v:=by
 have hI:MInv K (cU b l):=by
  have f1:∀ (es:List (Pt × Pt)) (s:MS),MInv K s→(∀ e∈es,BPt K e.1∧BPt K e.2)→MInv K (bR b s es):=by
   intro es
   induction es with
   | nil=>intro s h _;exact h
   | cons e es ih=>intro s h he;exact ih _ (h.step (he _ (by simp))) fun q hq=>he q (by simp[hq])
  rw[a6g]
  refine f1 _ _ ⟨by simp,by simp,wR K⟩ fun e he=>?_
  obtain⟨s,hs,he⟩:=Ae.1 he
  exact⟨h s hs _ (Geo.bD he),h s hs _ (Geo.bL he)⟩
 intro v hv
 unfold b6 at hv
 have key:∀ n x,BPt K x→∀ v∈aV (nxP (cU b l).1) n x,BPt K v:=by
  intro n
  induction n with
  | zero=>intro x _ v hv;simp[aV]at hv
  | succ n ih =>
   intro x hx v hv
   rcases Ba.1 hv with rfl|hv
   ·exact hx
   ·exact ih _ (a8h hI.bt) v hv
 exact key _ _ hI.fb v hv
theorem a6u {b:Pl} {l:aC} {S M K k:Nat} (hc:CellOK l) (hS:Geo.Spl (sds l) (tH b)) (h:Bd S M K l) (hb:BPl k b) (hSM:S≤2*M):Bd (S+1) (2*M) (k+2*K+4) (iK b l):=by
 have h1:=a2d h hb
 have h2:=(tS hc hS).2.2.1
 refine⟨?_,fun s hs=>?_,fun s hs v hv=>?_,fun s hs=>?_⟩
 ·unfold iK;rw[An];have:=h1.n;simp only[At,List.length_nil];omega
 all_goals rcases Aw.1 hs with hs|hs
 ·exact h1.m s hs
 ·obtain rfl:s=_:=by simpa using hs
  have:=h1.n
  show (b6 b (bh b l)).length≤_
  omega
 ·exact h1.k s hs v hv
 ·obtain rfl:s=_:=by simpa using hs
  exact c6t h1.k v hv
 ·exact h1.p s hs
 ·obtain rfl:s=_:=by simpa using hs
  exact hb.mono (by omega)
theorem Bd.nil {S M K:Nat}:Bd S M K []:=⟨Ak _,by simp,by simp,by simp⟩
theorem a5j {b:Pl} {l:aC} {S M K k:Nat} (hc:OkC l) (h:Bd S M K l) (hb:BPl k b) (hSM:S≤2*M):Bd (S+1) (2*M) (k+2*K+4) (aP b l).1∧Bd (S+1) (2*M) (k+2*K+4) (aP b l).2:=by
 rcases hc with rfl|hc
 ·exact⟨Bd.nil,Bd.nil⟩
 ·have hm:=h.mono (S':=S+1) (M':=2*M) (K':=k+2*K+4) (by omega) (by omega) (by omega)
  unfold aP
  by_cases hf:aY b l=false
  ·rw[if_pos hf];exact⟨hm,Bd.nil⟩
  ·rw[if_neg hf]
   by_cases hbb:aZ b l=false
   ·rw[if_pos hbb];exact⟨Bd.nil,hm⟩
   ·rw[if_neg hbb]
    have hf':aY b l=true:=by simpa using hf
    have hb':aZ b l=true:=by simpa using hbb
    exact⟨a6u hc (gA hc hf' hb') h hb hSM,a6u hc (gA hc (by rw[kT];exact hb') (by rw[mK];exact hf')) h hb.neg hSM⟩
theorem a5f:∀ s∈aN,BPl 2 s.1:=fun s hs=>by
 have:(aN.all fun s=>decide ((Zm s.1.a).size≤2∧(Zm s.1.b).size≤2∧(Zm s.1.c).size≤2∧(Zm s.1.d).size≤2))=true:=by simp only[cO];decide
 have h:=of_decide_eq_true (Ac.1 this s hs)
 exact⟨⟨h.1,h.2.1,h.2.2.1,h.2.2.2⟩⟩
theorem zD:Bd 6 4 2 aN:=by
 refine⟨by decide,by decide,fun s hs v hv=>?_,fun s hs=>?_⟩
 ·have:(aN.all fun s=>s.2.all fun v=>decide ((Zm v.x).size≤2∧(Zm v.y).size≤2∧(Zm v.z).size≤2∧(Zm v.w).size≤2))=true:=by simp only[cO];decide
  have h:=of_decide_eq_true (Ac.1 (Ac.1 this s hs) v hv)
  exact⟨⟨h.1,h.2.1,h.2.2.1,h.2.2.2⟩⟩
 ·exact (a5f s hs).mono (by decide)
end Go.Sx
namespace Go.Sx
set_option linter.unusedVariables false
theorem CallOK.wk {P:Program} {f:Nat} {args:List AV} {pre post:List (Nat × AV)} {r r':AV} (h:CallOK P f args pre r post) (hr:∀ g v,Rel g r v→Rel g r' v):CallOK P f args pre r' post:=by
 intro g vals h1 h2 h3
 refine (h g vals h1 h2 h3).mono ?_
 rintro e w' ⟨v,g',k1,k2,k3,k4,k5,k6⟩
 exact⟨v,g',k1,k2,k3,k4,k5,hr _ _ k6⟩
theorem c4u {g:Gh} {v:Value} (h:Rel g (.lit (.slice none 0 0)) v):Rel g (.sl []) v:=by cases h;exact .slnil
theorem vS {g:Gh} {v:Value} (h:Rel g (.agg [.lit (.slice none 0 0)]) v):Rel g (.agg [.sl []]) v:=by
 cases h with
 | agg _ vs hs h1 h =>
  refine .agg _ _ hs h1 fun i h2 h3=>?_
  have hi:i=0:=by simpa using h2
  subst hi
  exact c4u (h 0 (by simp) h3)
theorem wI {g:Gh} {a b a' b':AV} {v:Value} (ha:∀ v,Rel g a v→Rel g a' v) (hb:∀ v,Rel g b v→Rel g b' v) (h:Rel g (.tup [a,b]) v):Rel g (.tup [a',b']) v:=by
 cases h with
 | tup _ vs hs h =>
  refine .tup _ _ hs fun i h2 h3=>?_
  match i,h2 with
  | 0,_=>exact ha _ (h 0 (by simp) h3)
  | 1,_=>exact hb _ (h 1 (by simp) h3)
def cH (h:Int) (b:Pl) (l:aC):aC:=l.filterMap fun s=>if bF h b s.2 s.2.length then some (s.1,bC h b s.2)else none
theorem a8b (b:Pl) (l:aC):cH (-1) b l=bh b l:=rfl
theorem c1k {b:Pl} {l:aC} (h:CanC l):cH 1 b l=bh (aW b) l:=by
 unfold cH bh
 induction l with
 | nil=>rfl
 | cons s l ih =>
  rw[Am,Am,b5q,b6j (h.w (s:=s) (by simp)),ih ⟨fun t ht=>h.can t (by simp[ht])⟩]
theorem a4s (h:Int) (b:Pl) (l:aC) (i:Nat) (hi:i<l.length):cH h b (l.take (i+1))=cH h b (l.take i)++(if bF h b l[i].2 l[i].2.length then [(l[i].1,bC h b l[i].2)]else []):=by
 unfold cH
 rw[Aa hi,List.filterMap_append]
 congr 1
 simp only[Am,List.filterMap_nil]
 split<;>simp_all
theorem wL (h:Int) (b:Pl) (l:aC):(cH h b l).length≤l.length:=Aq _ _
theorem wZ {h:Int} (hh:h≠0) {b:Pl} {vs:List Pt} (hs:bF h b vs vs.length=true):bC h b vs≠[]:=by
 unfold bF at hs
 rw[Ai]at hs
 obtain⟨v,hv,e⟩:=Ab.1 hs
 have e:=of_decide_eq_true e
 rw[← Geo.jE vs]at hv
 obtain⟨ed,he,rfl⟩:=A4.1 hv
 intro hn
 have:ed.1∈bC h b vs:=Ae.2 ⟨ed,he,List.mem_append_left _ (by rw[if_pos (by omega)];simp)⟩
 rw[hn]at this
 simp at this
theorem pI (l:aC) (f:Pt→Bool):(bX l).any f=l.any fun s=>s.2.any f:=by
 apply Bool.eq_iff_iff.2
 simp only[Ab]
 constructor
 ·rintro⟨v,hv,h⟩
  obtain⟨s,hs,hv⟩:=nX.1 hv
  exact⟨s,hs,v,hv,h⟩
 ·rintro⟨s,hs,v,hv,h⟩
  exact⟨v,nX.2 ⟨s,hs,hv⟩,h⟩
def cM (f:Pt→Bool) (vs:List Pt) (i:Nat):Bool:=(vs.take i).any f
theorem wA (f:Pt→Bool) (vs:List Pt):cM f vs 0=false:=rfl
theorem mQ (f:Pt→Bool) (vs:List Pt) (i:Nat) (hi:i<vs.length):cM f vs (i+1)=(cM f vs i||f vs[i]):=by
 unfold cM
 rw[Aa hi,List.any_append]
 simp
theorem mS (f:Pt→Bool) (vs:List Pt):cM f vs vs.length=vs.any f:=by unfold cM;rw[Ai]
theorem u5 (l:aC):(bX l).length≤(bB l).length:=by unfold bX;rw[nY];exact a1q _
end Go.Sx
namespace Go.Proofs.Vx
open Go Go.Sx Go.Proofs Tryz
attribute [local irreducible] fnT CallOK CallFr AW aI callV aL aJ aH aK gcaseP hid
theorem b8p:agT prog 33=some true∧plT prog 33=some [(0,1)]∧szT prog 33=some 1∧zeT prog 31=some [.lit (.slice none 0 0)]∧zeT prog 33=some [.lit (.slice none 0 0)]:=by and_intros<;>kernel_rfl
attribute [go_sem] b8p
theorem b1a {A V : Nat} (hAV : A ≠ V) {l m : aC} {arg : AV} (ha : ∀ σ, rnA σ arg = arg) (hk : ∀ K, g6 K arg) (h : CallOK prog 69 [.loc 0 0, arg] [(0, .blk [.ref 1 0 l.length l.length]), (1, .vec 9 (eS l))] (.tup []) [(0, .blk [.ref 1 0 m.length m.length]), (1, .vec 9 (eS m))]) :
  CallOK prog 69 [.loc A 0,arg] [(A,.blk [.ref V 0 l.length l.length]),(V,.vec 9 (eS l))] (.tup []) [(A,.blk [.ref V 0 m.length m.length]),(V,.vec 9 (eS m))]:=by
 have key:=CallOK.renG (fun i=>if i=0 then A else V) (fun j=>if j=A then 0 else 1) h (by
  intro p hp
  simp only[zM,or_false]at hp
  rcases hp with rfl|rfl
  ·simp
  ·simp[hAV.symm]) (by
  intro p hp
  simp only[zM,or_false]at hp
  rcases hp with rfl|rfl
  ·intro c hc
   simp only[zM,or_false]at hc
   subst hc
   simp[g6,fK]
  ·intro e he c hc
   exact of_eq_true (lS _) e he c hc) (by
  intro p hp
  simp only[zM,or_false]at hp
  rcases hp with rfl|rfl
  ·refine⟨by simp,fun c hc=>?_⟩
   simp only[zM,or_false]at hc
   subst hc
   simp[g6,fK]
  ·exact⟨by simp,fun e he c hc=>of_eq_true (lS _) e he c hc⟩) (.tup _ (by simp)) (by
  intro x hx
  simp only[zM,or_false]at hx
  rcases hx with rfl|rfl
  ·simp[g6,fK]
  ·exact hk _)
 have e1:[AV.loc 0 0,arg].map (rnA (fun i=>if i=0 then A else V))=[AV.loc A 0,arg]:=by
  rw[Bb,Bb,List.map_nil,ha];rfl
 have e2:∀ m:aC,rnL (fun i=>if i=0 then A else V) [(0,AV.blk [.ref 1 0 m.length m.length]),(1,AV.vec 9 (eS m))]=[(A,AV.blk [.ref V 0 m.length m.length]),(V,AV.vec 9 (eS m))]:=fun m=>rfl
 rw[e1,e2,e2]at key
 exact key
theorem xZ {A V : Nat} (hAV : A ≠ V) (l : aC) (hn : l.length ≤ 1048576) (p : Pl) (vs : List Pt) (h0 : vs ≠ []) (hvn : vs.length ≤ 268435456) :
  CallOK prog 69 [.loc A 0,.agg (eG p vs)] [(A,.blk [.ref V 0 l.length l.length]),(V,.vec 9 (eS l))] (.tup []) [(A,.blk [.ref V 0 (l++[(p,vs)]).length (l++[(p,vs)]).length]),(V,.vec 9 (eS (l++[(p,vs)])))] :=
 b1a hAV (fun _=>rfl) (fun _=>(gJ p vs).in) (c69a l hn p vs h0 hvn)
theorem xY {A V : Nat} (hAV : A ≠ V) (l : aC) (hn : l.length ≤ 1048576) :
  CallOK prog 69 [.loc A 0,.agg eG0] [(A,.blk [.ref V 0 l.length l.length]),(V,.vec 9 (eS l))] (.tup []) [(A,.blk [.ref V 0 l.length l.length]),(V,.vec 9 (eS l))] :=
 b1a hAV (fun _=>rfl) (fun _=>.agg _ (by intro c hc;simp only[zM,or_false]at hc;rcases hc with rfl|rfl|rfl|rfl|rfl|rfl|rfl|rfl|rfl<;>exact .lit _)) (c69b l hn)
theorem b0e (l m:aC):eS (l++m)=eS l++eS m:=List.map_append
theorem c21a (l : aC) (b : Pl) (hb : BPl 1073741824 b) (hn : l.length ≤ 1048576) (hv : ∀ s ∈ l, s.2.length ≤ 268435456 ∧ ∀ v ∈ s.2, CanP v ∧ BPt 1073741824 v) (hm : (bB l).length ≤ 268435456) (hf : aY b l = false) :
  CallOK prog 21 [.agg [.sl (eS l)],.agg (eH b)] [] (.tup [.agg [.sl (eS l)],.agg [.lit (.slice none 0 0)]]) []:=by
 refine fV func21 rfl 84 rfl rfl (by simp -dsimp (disch:=try exact zo)only[go_sem]) [.cell 4 33,.cell 5 33] (congrArg A5 results21) ?_
 simp only[aD,A3]
 have hml:maxLen=9223372036854775807:=rfl
 have hl:(eS l).length=l.length:=Ag _
 repeat'(first|refine zk ?_|(refine zu ?_ ?_<;>intro hc)|(refine zq (c27 l hn hv hm) ?_)|(refine zv ?_ ?_<;>intro hg)|omega|simp -dsimp (disch:=try exact zo)only[go_sem,hl,zl]|contradiction|rfl)
 have hV:=u5 l
 have hfA:(bX l).any (fun v=>decide (0<aB b v))=aY b l:=pI l _
 have hbA:(bX l).any (fun v=>decide (aB b v<0))=aZ b l:=pI l _
 have hvb:∀ v∈bX l,BPt 1073741824 v:=fun v hvm=>by
  obtain⟨s,hs,hvm⟩:=nX.1 hvm
  exact ((hv s hs).2 v hvm).2
 generalize bX l=vs at *
 have hvl:(vs.map eP).length=vs.length:=Ag _
 refine AW.loop (fun z:{i:Nat // i≤vs.length}=>⟨[(21,.lit (.int .i64 z.1)),(20,.lit (.int .i64 vs.length)),(19,.sl (vs.map eP)),(6,.lit (.bool (cM (fun v=>decide (aB b v<0)) vs z.1))),(7,.lit (.bool (cM (fun v=>decide (0<aB b v)) vs z.1))),(2,.loc 8 0),(3,.loc 9 0),(4,.loc 10 0),(5,.loc 11 0)],[(8,.blk [.sl (eS l)]),(9,.blk (eH b)),(10,.blk [.lit (.slice none 0 0)]),(11,.blk [.lit (.slice none 0 0)])],60⟩) (fun z=>vs.length - z.1) ⟨0,Ak _⟩ (aQ (by refine⟨?_,?_,?_,?_⟩<;>simp -dsimp (disch:=try exact zo)only[go_sem,wA,ZC])) ?_
 rintro⟨i,hi⟩
 dsimp only
 by_cases hlt:i<vs.length
 ·clear hfA hbA
  have ea:=cZ vs i hlt
  have hsb:=mQ (fun v=>decide (aB b v<0)) vs i hlt
  have hsf:=mQ (fun v=>decide (0<aB b v)) vs i hlt
  have ha:=hvb _ (Af hlt)
  clear hv hvb
  generalize vs[i]=a at *
  simp only[eP,e4]at ea
  generalize cM (fun v=>decide (aB b v<0)) vs i=bb at *
  generalize cM (fun v=>decide (0<aB b v)) vs i=ff at *
  by_cases q1:aB b a<0<;>by_cases q2:0<aB b a
  ·omega
  all_goals
   have k1:=(show (aB b a<0)=_∧(0<aB b a)=_ from⟨(by first|exact eq_true q1|exact eq_false q1),(by first|exact eq_true q2|exact eq_false q2)⟩)
   clear q1 q2
   obtain⟨k1,k2⟩:=k1
   simp only[k1,k2,decide_true,decide_false]at hsb hsf
   cases bb<;>cases ff<;>(try simp only[Au,Ar,Av,As]at hsb)<;>(try simp only[Au,Ar,Av,As]at hsf)
  all_goals
   repeat'(first|refine zk ?_|(refine zu ?_ ?_<;>intro hc)|(refine zf (c34 b a hb ha) ?_)|(refine zv ?_ ?_<;>intro hg)|omega|simp -dsimp (disch:=try exact zo)only[go_sem,hl,hvl,ea,k1,k2,zl,ZT]|contradiction|rfl)
  all_goals exact AW.stop ⟨⟨i+1,by omega⟩,zw,by dsimp only;omega⟩
 ·have hil:i=vs.length:=by omega
  subst hil
  rw[mS,mS,hfA,hbA]
  rw[hf]
  exact z1
theorem c21b (l : aC) (b : Pl) (hb : BPl 1073741824 b) (hn : l.length ≤ 1048576) (hv : ∀ s ∈ l, s.2.length ≤ 268435456 ∧ ∀ v ∈ s.2, CanP v ∧ BPt 1073741824 v) (hm : (bB l).length ≤ 268435456) (hf : aY b l = true) (hbh : aZ b l = false) :
  CallOK prog 21 [.agg [.sl (eS l)],.agg (eH b)] [] (.tup [.agg [.lit (.slice none 0 0)],.agg [.sl (eS l)]]) []:=by
 refine fV func21 rfl 84 rfl rfl (by simp -dsimp (disch:=try exact zo)only[go_sem]) [.cell 4 33,.cell 5 33] (congrArg A5 results21) ?_
 simp only[aD,A3]
 have hml:maxLen=9223372036854775807:=rfl
 have hl:(eS l).length=l.length:=Ag _
 repeat'(first|refine zk ?_|(refine zu ?_ ?_<;>intro hc)|(refine zq (c27 l hn hv hm) ?_)|(refine zv ?_ ?_<;>intro hg)|omega|simp -dsimp (disch:=try exact zo)only[go_sem,hl,zl]|contradiction|rfl)
 have hV:=u5 l
 have hfA:(bX l).any (fun v=>decide (0<aB b v))=aY b l:=pI l _
 have hbA:(bX l).any (fun v=>decide (aB b v<0))=aZ b l:=pI l _
 have hvb:∀ v∈bX l,BPt 1073741824 v:=fun v hvm=>by
  obtain⟨s,hs,hvm⟩:=nX.1 hvm
  exact ((hv s hs).2 v hvm).2
 generalize bX l=vs at *
 have hvl:(vs.map eP).length=vs.length:=Ag _
 refine AW.loop (fun z:{i:Nat // i≤vs.length}=>⟨[(21,.lit (.int .i64 z.1)),(20,.lit (.int .i64 vs.length)),(19,.sl (vs.map eP)),(6,.lit (.bool (cM (fun v=>decide (aB b v<0)) vs z.1))),(7,.lit (.bool (cM (fun v=>decide (0<aB b v)) vs z.1))),(2,.loc 8 0),(3,.loc 9 0),(4,.loc 10 0),(5,.loc 11 0)],[(8,.blk [.sl (eS l)]),(9,.blk (eH b)),(10,.blk [.lit (.slice none 0 0)]),(11,.blk [.lit (.slice none 0 0)])],60⟩) (fun z=>vs.length - z.1) ⟨0,Ak _⟩ (aQ (by refine⟨?_,?_,?_,?_⟩<;>simp -dsimp (disch:=try exact zo)only[go_sem,wA,ZC])) ?_
 rintro⟨i,hi⟩
 dsimp only
 by_cases hlt:i<vs.length
 ·clear hfA hbA
  have ea:=cZ vs i hlt
  have hsb:=mQ (fun v=>decide (aB b v<0)) vs i hlt
  have hsf:=mQ (fun v=>decide (0<aB b v)) vs i hlt
  have ha:=hvb _ (Af hlt)
  clear hv hvb
  generalize vs[i]=a at *
  simp only[eP,e4]at ea
  generalize cM (fun v=>decide (aB b v<0)) vs i=bb at *
  generalize cM (fun v=>decide (0<aB b v)) vs i=ff at *
  by_cases q1:aB b a<0<;>by_cases q2:0<aB b a
  ·omega
  all_goals
   have k1:=(show (aB b a<0)=_∧(0<aB b a)=_ from⟨(by first|exact eq_true q1|exact eq_false q1),(by first|exact eq_true q2|exact eq_false q2)⟩)
   clear q1 q2
   obtain⟨k1,k2⟩:=k1
   simp only[k1,k2,decide_true,decide_false]at hsb hsf
   cases bb<;>cases ff<;>(try simp only[Au,Ar,Av,As]at hsb)<;>(try simp only[Au,Ar,Av,As]at hsf)
  all_goals
   repeat'(first|refine zk ?_|(refine zu ?_ ?_<;>intro hc)|(refine zf (c34 b a hb ha) ?_)|(refine zv ?_ ?_<;>intro hg)|omega|simp -dsimp (disch:=try exact zo)only[go_sem,hl,hvl,ea,k1,k2,zl,ZT]|contradiction|rfl)
  all_goals exact AW.stop ⟨⟨i+1,by omega⟩,zw,by dsimp only;omega⟩
 ·have hil:i=vs.length:=by omega
  subst hil
  rw[mS,mS,hfA,hbA]
  rw[hf,hbh]
  exact z1
end Go.Proofs.Vx
