import Derived.Test.YtjlfgmhmalbiiaaGreatDoorV25
set_option linter.all false
set_option maxHeartbeats 40000000
namespace Go.Sx
open Geo (H V Sd)
set_option linter.unusedVariables false
def gY (m:List Pt) (x:Pt):List Pt:=if x∈m then m else m++[x]
def ddP (l:List Pt):List Pt:=l.foldl gY []
theorem a9q (l m:List Pt) (hm:m.Nodup):(l.foldl gY m).Nodup∧∀ x,x∈l.foldl gY m↔x∈m∨x∈l:=by
 induction l generalizing m with
 | nil=>exact⟨hm,fun x=>by simp⟩
 | cons a l ih =>
  have h1:(gY m a).Nodup∧∀ x,x∈gY m a↔x∈m∨x=a:=by
   unfold gY
   split
   ·rename_i h;exact⟨hm,fun x=>⟨.inl,fun hh=>hh.elim id fun e=>e▸h⟩⟩
   ·rename_i h
    refine⟨?_,fun x=>by simp⟩
    rw[List.nodup_append]
    exact⟨hm,by simp,fun p hp q hq e=>by simp at hq;exact h (hq▸e▸hp)⟩
  obtain⟨i1,i2⟩:=ih _ h1.1
  refine⟨i1,fun x=>?_⟩
  rw[List.foldl_cons,i2,h1.2,List.mem_cons,or_assoc]
theorem c1n (l:List Pt):(ddP l).Nodup:=(a9q l [] (by simp)).1
theorem a1l {l:List Pt} {x:Pt}:x∈ddP l↔x∈l:=((a9q l [] (by simp)).2 x).trans (by simp)
theorem a1m (l:List Pt):(ddP l).length≤l.length:=by
 have key:∀ (l m:List Pt),(l.foldl gY m).length≤m.length+l.length:=by
  intro l
  induction l with
  | nil=>intro m;simp
  | cons a l ih =>
   intro m
   have:=ih (gY m a)
   have h2:(gY m a).length≤m.length+1:=by unfold gY;split<;>simp
   simp only[List.foldl_cons,List.length_cons];omega
 simpa [ddP]using key l []
def bA (l:aD):List Pt:=l.flatMap (·.2)
def eF (l:aD):List Pt:=g7 (ddP (bA l))
theorem sF {l:aD} {x:Pt}:x∈eF l↔∃ s∈l,x∈s.2:=by
 unfold eF bA
 rw[a4e,a1l,List.mem_flatMap]
def OkC (l:aD):Prop:=l=[]∨CellOK l
def beh (b:Pl) (l:aD):aD:=(aO b l).1
structure InnP (l:aD) (x:V):Prop where
 ne:l≠[]
 inn:Geo.Inn (sds l) x
theorem CellOK.ne {l:aD} (h:CellOK l):l≠[]:=fun e=>by have:=h.cell.four;subst e;simp[sds]at this
theorem OkC.can {l:aD} (h:OkC l):CanC l:=h.elim (fun e=>by subst e;exact⟨fun s hs=>by simp at hs⟩) (·.toCanC)
theorem a4d (b:Pl):aO b []=([],[]):=rfl
theorem a1p {b:Pl} {l:aD} (h:OkC l):OkC (beh b l):=by
 rcases h with rfl|h
 ·exact .inl rfl
 ·exact (zD h).1
theorem zA {b:Pl} {l:aD} (h:CellOK l) (hf:aX b l=false):∀ s∈sds l,∀ v∈s.vs,(tH b).at v≤0:=by
 intro s hs v hv
 obtain⟨s0,hs0,rfl⟩:=List.mem_map.1 hs
 obtain⟨v0,hv0,rfl⟩:=List.mem_map.1 hv
 have h1:¬ 0<(tH b).at (tv v0):=fun hh=>by
  have h2:=(kA b (h.w hs0 v0 hv0)).1 hh
  have:aX b l=true:=List.any_eq_true.2 ⟨s0,hs0,List.any_eq_true.2 ⟨v0,hv0,decide_eq_true (mX.2 h2)⟩⟩
  rw[hf]at this;contradiction
 grind
theorem a0o {b:Pl} {l:aD} (h:OkC l) (hn:(tH b).n≠⟨0,0,0⟩) (x:V):InnP (beh b l) x↔InnP l x∧(tH b).at x<0:=by
 rcases h with rfl|h
 ·exact⟨fun hh=>absurd rfl hh.ne,fun hh=>absurd rfl hh.1.ne⟩
 ·unfold beh aO
  by_cases hf:aX b l=false
  ·rw[if_pos hf]
   refine⟨fun hh=>⟨hh,?_⟩,fun hh=>hh.1⟩
   exact Geo.vS hh.inn hn fun y hy=>h.cell.hull (zA h hf) fun t ht=>Rat.le_of_lt (hy t ht)
  ·rw[if_neg hf]
   by_cases hb:aY b l=false
   ·rw[if_pos hb]
    refine⟨fun hh=>absurd rfl hh.ne,fun hh=>?_⟩
    have hb':aX (aT b) l=false:=by rw[kQ];exact hb
    have:=h.cell.hull (zA h hb') (x:=x) fun t ht=>Rat.le_of_lt (hh.1.inn t ht)
    rw[a0x,Geo.mY]at this
    have h2:=hh.2
    grind
   ·rw[if_neg hb]
    have hf':aX b l=true:=by simpa using hf
    have hb':aY b l=true:=by simpa using hb
    have S:=fY h hf' hb'
    have key:=S.inn_iff (a1n h S).1 (x:=x)
    rw[← a1t h.toCanC]at key
    exact⟨fun hh=>⟨⟨h.ne,(key.1 hh.inn).1⟩,(key.1 hh.inn).2⟩,fun hh=>⟨(zS h S).ne,key.2 ⟨hh.1.inn,hh.2⟩⟩⟩
theorem a9y {b:Pl} {l:aD} (h:OkC l) (hne:beh b l≠[]) (x:V):Geo.Cl (sds (beh b l)) x↔Geo.Cl (sds l) x∧(tH b).at x≤0:=by
 rcases h with rfl|h
 ·exact absurd rfl hne
 ·unfold beh aO at hne ⊢
  by_cases hf:aX b l=false
  ·rw[if_pos hf]
   exact⟨fun hh=>⟨hh,h.cell.hull (zA h hf) hh⟩,fun hh=>hh.1⟩
  ·rw[if_neg hf]at hne ⊢
   by_cases hb:aY b l=false
   ·rw[if_pos hb]at hne;exact absurd rfl hne
   ·rw[if_neg hb]
    have hf':aX b l=true:=by simpa using hf
    have hb':aY b l=true:=by simpa using hb
    have S:=fY h hf' hb'
    have key:=S.cl_iff (a1n h S).1 (x:=x)
    rw[← a1t h.toCanC]at key
    exact key
theorem b3b {l:aD} (h:OkC l) (hne:l≠[]):∃ x,InnP l x:=by
 rcases h with rfl|h
 ·exact absurd rfl hne
 ·obtain⟨m,hm⟩:=h.cell.exists_inn
  exact⟨m,hne,hm⟩
theorem y5 {b:Pl} {l:aD} (h:OkC l) (hn:(tH b).n≠⟨0,0,0⟩):(aO b l).2=beh (aT b) l:=by
 rcases h with rfl|h
 ·rfl
 ·unfold beh
  rw[b3j (c1v h hn)]
end Go.Sx
namespace Go.Proofs.Vx
open Go Go.Sx Go.Proofs Tryz
attribute [local irreducible] fnT CallOK CallFr AW aJ callV aL aI aH aM gcaseP hid
theorem b7t:fdT prog 33 0=some (0,1,false)∧mpT prog 110=some (51,4)∧zvT prog 4=some (.bool false):=by and_intros<;>kernel_rfl
attribute [go_sem] b7t
theorem c6p:fnT prog 84=true:=by kernel_rfl
theorem b2u (l:aD) (i:Nat) (h:i<l.length) (j:Nat):(∀ p∈bA (l.take i)++l[i].2.take j,∃ s∈l,p∈s.2)∧(bA (l.take i)++l[i].2.take j).length≤(bA l).length:=by
 refine⟨fun p hp=>?_,?_⟩
 ·rcases List.mem_append.1 hp with hp|hp
  ·obtain⟨s,hs,hp⟩:=List.mem_flatMap.1 hp
   exact⟨s,List.mem_of_mem_take hs,hp⟩
  ·exact⟨l[i],List.getElem_mem h,List.mem_of_mem_take hp⟩
 ·have e:bA l=bA (l.take i)++(l[i].2++bA (l.drop (i+1))):=by
   unfold bA
   conv=>lhs;rw[← List.take_append_drop i l,List.drop_eq_getElem_cons h]
   rw[List.flatMap_append,List.flatMap_cons]
  rw[e]
  simp only[List.length_append,List.length_take]
  omega
theorem b2d (l:aD) (i:Nat) (h:i<l.length):bA (l.take i)++l[i].2=bA (l.take (i+1)):=by
 unfold bA
 rw[List.take_succ_eq_append_getElem h,List.flatMap_append]
 simp
theorem c5p (l:List Pt) (x:Pt):ddP (l++[x])=gY (ddP l) x:=by unfold ddP;rw[List.foldl_append];rfl
theorem b0w {K:Nat→Prop} (f:Nat):In K (.clo f []):=.clo f [] (by simp)
theorem xG {K:Nat→Prop} (vs:List Pt):InC K (.vec 8 (vs.map eP)):=fun e he c hc=>(n7 vs e he c hc).inn
theorem c27f (l:aD) (hn:l.length≤1048576) (hv:∀ s∈l,s.2.length≤268435456∧∀ v∈s.2,CanP v∧BPt 1073741824 v) (hm:(bA l).length≤268435456):CallFr prog 27 [.agg [.sl (eS l)]] 8 (((eF l).map eP)):=by
 refine CallFr.flat func27 rfl 39 rfl rfl (n7 _) [.tmp 2] (congrArg Array.toList results27) ?_
 simp only[aC,Nat.reduceAdd]
 have hml:maxLen=9223372036854775807:=rfl
 have hl:(eS l).length=l.length:=List.length_map _
 have hd0:ddP []=[]:=rfl
 have hm0:mPB []=[]:=rfl
 have hc0:bA []=[]:=rfl
 repeat'(first|refine zg ?_|(refine zc ?_ ?_<;>intro hc<;>try simp only[NM]at hc)|refine zr ?_|refine⟨by omega,?_⟩|(refine zb ?_ ?_<;>intro hg<;>(try rw[hg])<;>try simp only[NM]at hg)|omega|simp -dsimp (disch:=try exact zo)only[go_sem,hl]|contradiction|rfl)
 refine AW.loop (fun z:{i:Nat // i≤l.length}=>⟨[(13,.lit (.int .i64 z.1)),(12,.lit (.int .i64 l.length)),(4,.ref 17 0 (ddP (bA (l.take z.1))).length (ddP (bA (l.take z.1))).length),(11,.sl (eS l)),(3,.mp 10)],[(17,.vec 8 ((ddP (bA (l.take z.1))).map eP)),(10,.mpo (mPB (ddP (bA (l.take z.1)))))],60⟩) (fun z=>l.length - z.1) ⟨0,Nat.zero_le _⟩ (Weak.trans (Weak.nil 4 8 (by decide) rfl) (aR (by refine⟨?_,?_,?_,?_⟩<;>simp -dsimp (disch:=try exact zo)only[go_sem,List.take_zero,hc0,hd0,hm0,ZC]))) ?_
 rintro⟨i,hi⟩
 dsimp only
 by_cases hlt:i<l.length
 ·have es1:=p6 l i hlt
  have hS1:=b2d l i hlt
  have hsub:=b2u l i hlt
  generalize hq:l[i]=sd at *
  obtain⟨sp,svs⟩:=sd
  dsimp only at es1 hS1 hsub
  have hvn:svs.length≤268435456:=(hv _ (hq▸List.getElem_mem hlt)).1
  simp only[eG]at es1
  repeat'(first|refine zg ?_|(refine zc ?_ ?_<;>intro hc<;>first|simp only[NM]at hc|omega|skip)|refine zr ?_|refine⟨by omega,?_⟩|(refine zb ?_ ?_<;>intro hg<;>(try rw[hg])<;>try simp only[NM]at hg)|omega|simp -dsimp (disch:=try exact zo)only[go_sem,hl,es1,ZT,zl]|contradiction|rfl)
  refine AW.loop (fun z:{j:Nat // j≤svs.length}=>⟨[(20,.lit (.int .i64 z.1)),(19,.lit (.int .i64 svs.length)),(18,.sl (svs.map eP)),(13,.lit (.int .i64 i)),(12,.lit (.int .i64 l.length)),(4,.ref 17 0 (ddP (bA (l.take i)++svs.take z.1)).length (ddP (bA (l.take i)++svs.take z.1)).length),(11,.sl (eS l)),(3,.mp 10)],[(17,.vec 8 ((ddP (bA (l.take i)++svs.take z.1)).map eP)),(10,.mpo (mPB (ddP (bA (l.take i)++svs.take z.1))))],80⟩) (fun z=>svs.length - z.1) ⟨0,Nat.zero_le _⟩ (aR (by refine⟨?_,?_,?_,?_⟩<;>simp -dsimp (disch:=try exact zo)only[go_sem,List.take_zero,List.append_nil,ZC])) ?_
  rintro⟨j,hj⟩
  dsimp only
  by_cases hjt:j<svs.length
  ·have ea:=fD svs j hjt
   have hst0:ddP (bA (l.take i)++svs.take (j+1))=gY (ddP (bA (l.take i)++svs.take j)) svs[j]:=by
    rw[List.take_succ_eq_append_getElem hjt,← List.append_assoc,c5p]
   obtain⟨hs1,hs2⟩:=hsub j
   have ha0:svs[j]∈svs:=List.getElem_mem hjt
   have hsl:(sp,svs)∈l:=hq▸List.getElem_mem hlt
   have ha:BPt 1073741824 svs[j]:=((hv _ hsl).2 _ ha0).2
   have hRn:=c1n (bA (l.take i)++svs.take j)
   have hRl0:=a1m (bA (l.take i)++svs.take j)
   have hRb:∀ p∈ddP (bA (l.take i)++svs.take j),BPt 1073741824 p:=fun p hp=>by
    obtain⟨s,hs,hps⟩:=hs1 p (a1l.1 hp)
    exact ((hv s hs).2 p hps).2
   generalize ddP (bA (l.take i)++svs.take j)=R at *
   generalize svs[j]=a at *
   have hRl:(R.map eP).length=R.length:=List.length_map _
   have hkey:=uC a ha
   have hko:=c8r hRn hRb
   have hfind:=b9x R a
   simp only[eP,e4]at ea
   clear hsub hs1 hv
   by_cases q:a∈R
   ·have hlk:(fI (mPB R) (pv a)).getD (.bool false)=.bool true:=by rw[hfind,if_pos q];rfl
    have hst:ddP (bA (l.take i)++svs.take (j+1))=R:=by rw[hst0];unfold gY;rw[if_pos q]
    have hput:True:=trivial
    have hRm:True:=trivial
    clear hst0 hfind
    simp only[pv]at hkey hlk
    repeat'(first|refine zg ?_|(refine zc ?_ ?_<;>intro hc<;>first|simp only[NM]at hc|omega|skip)|refine zr ?_|refine⟨by omega,?_⟩|(refine zb ?_ ?_<;>intro hg<;>(try rw[hg])<;>try simp only[NM]at hg)|omega|simp -dsimp (disch:=try exact zo)only[go_sem,hl,es1,ea,hlk,rK,hkey,hko,hput,ZT,zl,hRl,List.toList_toArray,hRm]|rfl)
    all_goals exact AW.stop ⟨⟨j+1,by omega⟩,(aR (by refine⟨?_,?_,?_,?_⟩<;>simp -dsimp (disch:=try exact zo)only[go_sem,hst,ZC])),by dsimp only;omega⟩
   ·have hlk:(fI (mPB R) (pv a)).getD (.bool false)=.bool false:=by rw[hfind,if_neg q];rfl
    have hst:ddP (bA (l.take i)++svs.take (j+1))=R++[a]:=by rw[hst0];unfold gY;rw[if_neg q]
    have hput:=c4q R a q
    have hRm:(R++[a]).map eP=R.map eP++[eP a]:=by simp
    clear hst0 hfind
    simp only[pv]at hkey hlk hput
    repeat'(first|refine zg ?_|(refine zc ?_ ?_<;>intro hc<;>first|simp only[NM]at hc|omega|skip)|refine zr ?_|refine⟨by omega,?_⟩|(refine zb ?_ ?_<;>intro hg<;>(try rw[hg])<;>try simp only[NM]at hg)|omega|simp -dsimp (disch:=try exact zo)only[go_sem,hl,es1,ea,hlk,rK,hkey,hko,hput,ZT,zl,hRl,List.toList_toArray,hRm]|rfl)
    all_goals exact AW.stop ⟨⟨j+1,by omega⟩,(aR (by refine⟨?_,?_,?_,?_⟩<;>first|(simp -dsimp (disch:=try exact zo)only[go_sem,hst,hRm,List.length_append,ZC];done)|(simp -dsimp (disch:=try exact zo)only[go_sem,hst,ZC];done))),by dsimp only;omega⟩
  ·have hjl:j=svs.length:=by omega
   subst hjl
   rw[List.take_length]
   clear hv
   repeat'(first|refine zg ?_|(refine zc ?_ ?_<;>intro hc<;>first|simp only[NM]at hc|omega|skip)|refine zr ?_|refine⟨by omega,?_⟩|(refine zb ?_ ?_<;>intro hg<;>(try rw[hg])<;>try simp only[NM]at hg)|omega|simp -dsimp (disch:=try exact zo)only[go_sem,hl,zl]|contradiction|rfl)
   all_goals exact AW.stop ⟨⟨i+1,by omega⟩,(aR (by refine⟨?_,?_,?_,?_⟩<;>simp -dsimp (disch:=try exact zo)only[go_sem,hS1,ZC])),by dsimp only;omega⟩
 ·have hil:i=l.length:=by omega
  subst hil
  rw[List.take_length]
  have hvR:∀ p∈ddP (bA l),CanP p∧BPt 1073741824 p:=fun p hp=>by
   obtain⟨s,hs,hps⟩:=List.mem_flatMap.1 (a1l.1 hp)
   exact (hv s hs).2 p hps
  have hRl:=a1m (bA l)
  unfold eF
  generalize ddP (bA l)=R at *
  have hSl:=nS R
  clear hv
  repeat'(first|refine zg ?_|(refine zc ?_ ?_<;>intro hc<;>try simp only[NM]at hc)|(refine AW.ret (qC ?_);simp -dsimp (disch:=try exact zo)only[go_sem,hl,zl,hSl]<;>try (exact⟨_,rfl,rfl⟩))|(refine mH 17 _ _ _ c6p (o9 (c84 R hvR (by omega)) (xG _) (xG _) (.tup _ (by simp)) (by simp[jL,b0w]) 17) rfl (by simp[xN,b0w]) (xG _) (xG _) (.tup _ (by simp)) rfl ?_)|refine⟨by omega,?_⟩|(refine zb ?_ ?_<;>intro hg<;>(try rw[hg])<;>try simp only[NM]at hg)|omega|simp -dsimp (disch:=try exact zo)only[go_sem,hl,zl,hSl]|contradiction)
theorem c27 (l:aD) (hn:l.length≤1048576) (hv:∀ s∈l,s.2.length≤268435456∧∀ v∈s.2,CanP v∧BPt 1073741824 v) (hm:(bA l).length≤268435456):CallOK prog 27 [.agg [.sl (eS l)]] [] (.sl ((eF l).map eP)) []:=(c27f l hn hv hm).ok
end Go.Proofs.Vx
namespace Go.Sx
open Geo (H V Sd)
set_option linter.unusedVariables false
def wpt (x y z:Int):Pt:=⟨1000*x,1000*y,1000*z,1⟩
def aK:aD:=[
 (⟨-1,0,0,1000⟩,[wpt (-1) (-1) 1,wpt (-1) 1 1,wpt (-1) 1 (-1),wpt (-1) (-1) (-1)]),
 (⟨1,0,0,1000⟩,[wpt 1 (-1) (-1),wpt 1 1 (-1),wpt 1 1 1,wpt 1 (-1) 1]),
 (⟨0,-1,0,1000⟩,[wpt 1 (-1) (-1),wpt 1 (-1) 1,wpt (-1) (-1) 1,wpt (-1) (-1) (-1)]),
 (⟨0,1,0,1000⟩,[wpt (-1) 1 (-1),wpt (-1) 1 1,wpt 1 1 1,wpt 1 1 (-1)]),
 (⟨0,0,-1,1000⟩,[wpt (-1) 1 (-1),wpt 1 1 (-1),wpt 1 (-1) (-1),wpt (-1) (-1) (-1)]),
 (⟨0,0,1,1000⟩,[wpt (-1) (-1) 1,wpt 1 (-1) 1,wpt 1 1 1,wpt (-1) 1 1])]
def canB (p:Pt):Bool:=decide (0<p.w)&&decide (g4 p.x p.y p.z p.w=1)
theorem eD {p:Pt} (h:canB p=true):CanP p:=by
 simp only[canB,Bool.and_eq_true,decide_eq_true_eq]at h
 exact⟨h.1,h.2⟩
def pvB (s:Sd):Bool:=decide (3≤s.vs.length)&&decide s.vs.Nodup&&(Geo.edges s.vs).all fun e=>s.vs.all fun x=>decide (x=e.1)||decide (x=e.2)||decide (0<Geo.ori s.h.n e.1 e.2 x)
theorem c8e {s:Sd} (h:pvB s=true):Geo.PV s.h.n s.vs:=by
 simp only[pvB,Bool.and_eq_true,decide_eq_true_eq,List.all_eq_true,Bool.or_eq_true]at h
 exact⟨h.1.1,h.1.2,fun e he x hx h1 h2=>(h.2 e he x hx).elim (fun h=>h.elim (fun h=>absurd h h1) fun h=>absurd h h2) id⟩
def apB (xs:List V) (h g:H):Bool:=xs.any fun x=>decide (h.at x=0)&&decide (g.at x≠0)
theorem c9y {xs:List V} {h g:H} (k:apB xs h g=true):¬ Geo.Prp h g:=by
 simp only[apB,List.any_eq_true,Bool.and_eq_true,decide_eq_true_eq]at k
 obtain⟨x,_,h1,h2⟩:=k
 rintro⟨c,hc,e⟩
 have:=e x
 grind
def b1b (c:List Sd):Bool:=c.all pvB&&(c.all fun s=>s.vs.all fun v=>decide (s.h.at v=0))&&(c.all fun s=>c.all fun t=>t.vs.all fun v=>decide (s.h.at v≤0)) &&
 (Geo.E c).isPerm ((Geo.E c).map Geo.sw)&&decide (Geo.E c).Nodup&&decide (4≤c.length)&&decide (c.Pairwise fun s t=>apB (c.flatMap (·.vs)) s.h t.h=true)
theorem a6k {c:List Sd} (h:b1b c=true):Geo.Cell c:=by
 simp only[b1b,Bool.and_eq_true,decide_eq_true_eq,List.all_eq_true,List.isPerm_iff]at h
 obtain⟨⟨⟨⟨⟨⟨h1,h2⟩,h3⟩,h4⟩,h5⟩,h6⟩,h7⟩:=h
 exact⟨fun s hs=>c8e (h1 s hs),h2,h3,h4,h5,h6,h7.imp fun h=>c9y h⟩
theorem gU:CellOK aK:=by
 refine⟨⟨fun s hs v hv=>?_⟩,a6k (by decide +kernel)⟩
 have:(aK.all fun s=>s.2.all canB)=true:=by decide +kernel
 exact eD (List.all_eq_true.1 (List.all_eq_true.1 this s hs) v hv)
end Go.Sx
namespace Go.Sx
open Geo (H V Sd)
set_option linter.unusedVariables false
def kE (l:aD) (x:Pt):Bool:=l.any fun s=>decide (0<aB s.1 x)
def onB (l:aD) (x:Pt):Bool:=l.any fun s=>decide (aB s.1 x=0)
def eY (l:aD) (x:Pt):Int:=if l=[]∨kE l x=true then -1 else if onB l x=true then 0 else 1
theorem a0v (a b c:Rat):tv (mkP a b c)=⟨a,b,c⟩:=by
 have ha:(a.den:Int)≠0:=by have:=a.den_nz;omega
 have hb:(b.den:Int)≠0:=by have:=b.den_nz;omega
 have hc:(c.den:Int)≠0:=by have:=c.den_nz;omega
 have hD:1*(a.den:Int)*(b.den:Int)*(c.den:Int)≠0:=Int.mul_ne_zero (Int.mul_ne_zero (by simpa using ha) hb) hc
 have key:∀ (q:Rat) (k:Int),k≠0→((q.num*k:Int):Rat) / (((q.den:Int)*k:Int):Rat)=q:=by
  intro q k hk
  have h:=Rat.divInt_mul_right (n:=q.num) (d:=(q.den:Int)) hk
  rw[← Rat.divInt_eq_div,h,Rat.num_divInt_den]
 unfold mkP
 rw[a0u hD]
 have e1:1*(a.den:Int)*(b.den:Int)*(c.den:Int) / (a.den:Int)=(b.den:Int)*(c.den:Int):=by
  rw[Int.one_mul,Int.mul_assoc];exact Int.mul_ediv_cancel_left _ ha
 have e2:1*(a.den:Int)*(b.den:Int)*(c.den:Int) / (b.den:Int)=(a.den:Int)*(c.den:Int):=by
  rw[Int.one_mul,Int.mul_comm (a.den:Int),Int.mul_assoc];exact Int.mul_ediv_cancel_left _ hb
 have e3:1*(a.den:Int)*(b.den:Int)*(c.den:Int) / (c.den:Int)=(a.den:Int)*(b.den:Int):=by
  rw[Int.one_mul];exact Int.mul_ediv_cancel _ hc
 rw[e1,e2,e3]
 apply V.ext
 ·rw[show 1*(a.den:Int)*(b.den:Int)*(c.den:Int)=(a.den:Int)*((b.den:Int)*(c.den:Int)) by rw[Int.one_mul,Int.mul_assoc]]
  exact key a _ (Int.mul_ne_zero hb hc)
 ·rw[show 1*(a.den:Int)*(b.den:Int)*(c.den:Int)=(b.den:Int)*((a.den:Int)*(c.den:Int)) by rw[Int.one_mul,Int.mul_comm (a.den:Int),Int.mul_assoc]]
  exact key b _ (Int.mul_ne_zero ha hc)
 ·rw[show 1*(a.den:Int)*(b.den:Int)*(c.den:Int)=(c.den:Int)*((a.den:Int)*(b.den:Int)) by rw[Int.one_mul,Int.mul_comm (c.den:Int)]]
  exact key c _ (Int.mul_ne_zero ha hb)
theorem a0i (a b c:Rat):CanP (mkP a b c):=vQ _ _ _ _
end Go.Sx
namespace Go.Sx
open Geo (H V Sd)
set_option linter.unusedVariables false
structure Bd (S M K:Nat) (l:aD):Prop where
 n:l.length≤S
 m:∀ s∈l,s.2.length≤M
 k:∀ s∈l,∀ v∈s.2,BPt K v
 p:∀ s∈l,BPl (K+1048576) s.1
theorem Bd.mono {S M K S' M' K':Nat} {l:aD} (h:Bd S M K l) (h1:S≤S') (h2:M≤M') (h3:K≤K'):Bd S' M' K' l :=
 ⟨Nat.le_trans h.n h1,fun s hs=>Nat.le_trans (h.m s hs) h2,fun s hs v hv=>(h.k s hs v hv).mono h3,fun s hs=>(h.p s hs).mono (Nat.add_le_add_right h3 _)⟩
theorem pE (h:Int) (b:Pl) (vs:List Pt):(bB h b vs).length≤2*vs.length:=by
 rw[← vP];exact uR h b vs vs.length
theorem zI {h:Int} {b:Pl} {vs:List Pt} {k K:Nat} (hb:BPl k b) (hv:∀ v∈vs,BPt K v):∀ v∈bB h b vs,BPt (k+2*K+4) v:=by
 intro v hvm
 unfold bB at hvm
 obtain⟨e,he,hvm⟩:=List.mem_flatMap.1 hvm
 unfold pc at hvm
 rcases List.mem_append.1 hvm with hvm|hvm
 ·split at hvm
  ·obtain rfl:v=e.1:=by simpa using hvm
   exact (hv _ (Geo.bH he)).mono (by omega)
  ·simp at hvm
 ·split at hvm
  ·obtain rfl:v=_:=by simpa using hvm
   exact c4o hb (hv _ (Geo.bH he)) (hv _ (Geo.bP he))
  ·simp at hvm
theorem a2b {b:Pl} {l:aD} {S M K k:Nat} (h:Bd S M K l) (hb:BPl k b):Bd S (2*M) (k+2*K+4) (bh b l):=by
 refine⟨Nat.le_trans (List.length_filterMap_le _ _) h.n,fun s hs=>?_,fun s hs v hv=>?_,fun s hs=>?_⟩
 all_goals
  obtain⟨t,ht,e⟩:=List.mem_filterMap.1 hs
  by_cases hq:bE (-1) b t.2 t.2.length=true
  rotate_left
  ·rw[if_neg hq]at e;contradiction
  rw[if_pos hq]at e
  obtain rfl:=Option.some.inj e
 ·have:=pE (-1) b t.2
  have:=h.m t ht
  show (bB (-1) b t.2).length≤_
  omega
 ·exact zI hb (h.k t ht) v hv
 ·exact (h.p t ht).mono (by omega)
theorem c5t {b:Pl} {l:aD} {K:Nat} (h:∀ s∈l,∀ v∈s.2,BPt K v):∀ v∈b7 b l,BPt K v:=by
 have hI:MInv K (cV b l):=by
  have f1:∀ (es:List (Pt × Pt)) (s:MS),MInv K s→(∀ e∈es,BPt K e.1∧BPt K e.2)→MInv K (bV b s es):=by
   intro es
   induction es with
   | nil=>intro s h _;exact h
   | cons e es ih=>intro s h he;exact ih _ (h.step (he _ (by simp))) fun q hq=>he q (by simp[hq])
  rw[a6c]
  refine f1 _ _ ⟨by simp,by simp,wN K⟩ fun e he=>?_
  obtain⟨s,hs,he⟩:=List.mem_flatMap.1 he
  exact⟨h s hs _ (Geo.bH he),h s hs _ (Geo.bP he)⟩
 intro v hv
 unfold b7 at hv
 have key:∀ n x,BPt K x→∀ v∈aW (nxP (cV b l).1) n x,BPt K v:=by
  intro n
  induction n with
  | zero=>intro x _ v hv;simp[aW]at hv
  | succ n ih =>
   intro x hx v hv
   rcases List.mem_cons.1 hv with rfl|hv
   ·exact hx
   ·exact ih _ (a7z hI.bt) v hv
 exact key _ _ hI.fb v hv
theorem a6o {b:Pl} {l:aD} {S M K k:Nat} (hc:CellOK l) (hS:Geo.Spl (sds l) (tH b)) (h:Bd S M K l) (hb:BPl k b) (hSM:S≤2*M):Bd (S+1) (2*M) (k+2*K+4) (g9 b l):=by
 have h1:=a2b h hb
 have h2:=(tG hc hS).2.2.1
 refine⟨?_,fun s hs=>?_,fun s hs v hv=>?_,fun s hs=>?_⟩
 ·unfold g9;rw[List.length_append];have:=h1.n;simp only[List.length_cons,List.length_nil];omega
 all_goals rcases List.mem_append.1 hs with hs|hs
 ·exact h1.m s hs
 ·obtain rfl:s=_:=by simpa using hs
  have:=h1.n
  show (b7 b (bh b l)).length≤_
  omega
 ·exact h1.k s hs v hv
 ·obtain rfl:s=_:=by simpa using hs
  exact c5t h1.k v hv
 ·exact h1.p s hs
 ·obtain rfl:s=_:=by simpa using hs
  exact hb.mono (by omega)
theorem Bd.nil {S M K:Nat}:Bd S M K []:=⟨Nat.zero_le _,by simp,by simp,by simp⟩
theorem zE {b:Pl} {l:aD} {S M K k:Nat} (hc:OkC l) (h:Bd S M K l) (hb:BPl k b) (hSM:S≤2*M):Bd (S+1) (2*M) (k+2*K+4) (aO b l).1∧Bd (S+1) (2*M) (k+2*K+4) (aO b l).2:=by
 rcases hc with rfl|hc
 ·exact⟨Bd.nil,Bd.nil⟩
 ·have hm:=h.mono (S':=S+1) (M':=2*M) (K':=k+2*K+4) (by omega) (by omega) (by omega)
  unfold aO
  by_cases hf:aX b l=false
  ·rw[if_pos hf];exact⟨hm,Bd.nil⟩
  ·rw[if_neg hf]
   by_cases hbb:aY b l=false
   ·rw[if_pos hbb];exact⟨Bd.nil,hm⟩
   ·rw[if_neg hbb]
    have hf':aX b l=true:=by simpa using hf
    have hb':aY b l=true:=by simpa using hbb
    exact⟨a6o hc (fY hc hf' hb') h hb hSM,a6o hc (fY hc (by rw[kQ];exact hb') (by rw[mI];exact hf')) h hb.neg hSM⟩
theorem a5c:∀ s∈aK,BPl 2 s.1:=fun s hs=>by
 have:(aK.all fun s=>decide ((Zm s.1.a).size≤2∧(Zm s.1.b).size≤2∧(Zm s.1.c).size≤2∧(Zm s.1.d).size≤2))=true:=by simp only[cJ];decide
 have h:=of_decide_eq_true (List.all_eq_true.1 this s hs)
 exact⟨⟨h.1,h.2.1,h.2.2.1,h.2.2.2⟩⟩
theorem sN:Bd 6 4 2 aK:=by
 refine⟨by decide,by decide,fun s hs v hv=>?_,fun s hs=>?_⟩
 ·have:(aK.all fun s=>s.2.all fun v=>decide ((Zm v.x).size≤2∧(Zm v.y).size≤2∧(Zm v.z).size≤2∧(Zm v.w).size≤2))=true:=by simp only[cJ];decide
  have h:=of_decide_eq_true (List.all_eq_true.1 (List.all_eq_true.1 this s hs) v hv)
  exact⟨⟨h.1,h.2.1,h.2.2.1,h.2.2.2⟩⟩
 ·exact (a5c s hs).mono (by decide)
end Go.Sx
namespace Go.Sx
set_option linter.unusedVariables false
theorem CallOK.wk {P:Program} {f:Nat} {args:List AV} {pre post:List (Nat × AV)} {r r':AV} (h:CallOK P f args pre r post) (hr:∀ g v,Rel g r v→Rel g r' v):CallOK P f args pre r' post:=by
 intro g vals h1 h2 h3
 refine (h g vals h1 h2 h3).mono ?_
 rintro e w' ⟨v,g',k1,k2,k3,k4,k5,k6⟩
 exact⟨v,g',k1,k2,k3,k4,k5,hr _ _ k6⟩
theorem c3v {g:Gh} {v:Value} (h:Rel g (.lit (.slice none 0 0)) v):Rel g (.sl []) v:=by cases h;exact .slnil
theorem vO {g:Gh} {v:Value} (h:Rel g (.agg [.lit (.slice none 0 0)]) v):Rel g (.agg [.sl []]) v:=by
 cases h with
 | agg _ vs hs h1 h =>
  refine .agg _ _ hs h1 fun i h2 h3=>?_
  have hi:i=0:=by simpa using h2
  subst hi
  exact c3v (h 0 (by simp) h3)
theorem wF {g:Gh} {a b a' b':AV} {v:Value} (ha:∀ v,Rel g a v→Rel g a' v) (hb:∀ v,Rel g b v→Rel g b' v) (h:Rel g (.tup [a,b]) v):Rel g (.tup [a',b']) v:=by
 cases h with
 | tup _ vs hs h =>
  refine .tup _ _ hs fun i h2 h3=>?_
  match i,h2 with
  | 0,_=>exact ha _ (h 0 (by simp) h3)
  | 1,_=>exact hb _ (h 1 (by simp) h3)
def cM (h:Int) (b:Pl) (l:aD):aD:=l.filterMap fun s=>if bE h b s.2 s.2.length then some (s.1,bB h b s.2)else none
theorem a7s (b:Pl) (l:aD):cM (-1) b l=bh b l:=rfl
theorem c0i {b:Pl} {l:aD} (h:CanC l):cM 1 b l=bh (aT b) l:=by
 unfold cM bh
 induction l with
 | nil=>rfl
 | cons s l ih =>
  rw[List.filterMap_cons,List.filterMap_cons,b4u,b5n (h.w (s:=s) (by simp)),ih ⟨fun t ht=>h.can t (by simp[ht])⟩]
theorem a4o (h:Int) (b:Pl) (l:aD) (i:Nat) (hi:i<l.length):cM h b (l.take (i+1))=cM h b (l.take i)++(if bE h b l[i].2 l[i].2.length then [(l[i].1,bB h b l[i].2)]else []):=by
 unfold cM
 rw[List.take_succ_eq_append_getElem hi,List.filterMap_append]
 congr 1
 simp only[List.filterMap_cons,List.filterMap_nil]
 split<;>simp_all
theorem wI (h:Int) (b:Pl) (l:aD):(cM h b l).length≤l.length:=List.length_filterMap_le _ _
theorem wS {h:Int} (hh:h≠0) {b:Pl} {vs:List Pt} (hs:bE h b vs vs.length=true):bB h b vs≠[]:=by
 unfold bE at hs
 rw[List.take_length]at hs
 obtain⟨v,hv,e⟩:=List.any_eq_true.1 hs
 have e:=of_decide_eq_true e
 rw[← Geo.jC vs]at hv
 obtain⟨ed,he,rfl⟩:=List.mem_map.1 hv
 intro hn
 have:ed.1∈bB h b vs:=List.mem_flatMap.2 ⟨ed,he,List.mem_append_left _ (by rw[if_pos (by omega)];simp)⟩
 rw[hn]at this
 simp at this
theorem pB (l:aD) (f:Pt→Bool):(eF l).any f=l.any fun s=>s.2.any f:=by
 apply Bool.eq_iff_iff.2
 simp only[List.any_eq_true]
 constructor
 ·rintro⟨v,hv,h⟩
  obtain⟨s,hs,hv⟩:=sF.1 hv
  exact⟨s,hs,v,hv,h⟩
 ·rintro⟨s,hs,v,hv,h⟩
  exact⟨v,sF.2 ⟨s,hs,hv⟩,h⟩
def cP (f:Pt→Bool) (vs:List Pt) (i:Nat):Bool:=(vs.take i).any f
theorem vW (f:Pt→Bool) (vs:List Pt):cP f vs 0=false:=rfl
theorem mM (f:Pt→Bool) (vs:List Pt) (i:Nat) (hi:i<vs.length):cP f vs (i+1)=(cP f vs i||f vs[i]):=by
 unfold cP
 rw[List.take_succ_eq_append_getElem hi,List.any_append]
 simp
theorem mQ (f:Pt→Bool) (vs:List Pt):cP f vs vs.length=vs.any f:=by unfold cP;rw[List.take_length]
theorem yB (l:aD):(eF l).length≤(bA l).length:=by unfold eF;rw[nS];exact a1m _
end Go.Sx
namespace Go.Proofs.Vx
open Go Go.Sx Go.Proofs Tryz
attribute [local irreducible] fnT CallOK CallFr AW aJ callV aL aI aH aM gcaseP hid
theorem b7s:agT prog 33=some true∧plT prog 33=some [(0,1)]∧szT prog 33=some 1∧zeT prog 31=some [.lit (.slice none 0 0)]∧zeT prog 33=some [.lit (.slice none 0 0)]:=by and_intros<;>kernel_rfl
attribute [go_sem] b7s
theorem b0j {A V : Nat} (hAV : A ≠ V) {l m : aD} {arg : AV} (ha : ∀ σ, rnA σ arg = arg) (hk : ∀ K, iA K arg) (h : CallOK prog 69 [.loc 0 0, arg] [(0, .blk [.ref 1 0 l.length l.length]), (1, .vec 9 (eS l))] (.tup []) [(0, .blk [.ref 1 0 m.length m.length]), (1, .vec 9 (eS m))]) :
  CallOK prog 69 [.loc A 0,arg] [(A,.blk [.ref V 0 l.length l.length]),(V,.vec 9 (eS l))] (.tup []) [(A,.blk [.ref V 0 m.length m.length]),(V,.vec 9 (eS m))]:=by
 have key:=CallOK.renG (fun i=>if i=0 then A else V) (fun j=>if j=A then 0 else 1) h (by
  intro p hp
  simp only[zM,or_false]at hp
  rcases hp with rfl|rfl
  ·simp
  ·simp[hAV.symm]) (by
  intro p hp
  simp only[zM,or_false]at hp
  rcases hp with rfl|rfl
  ·intro c hc
   simp only[zM,or_false]at hc
   subst hc
   simp[iA,fJ]
  ·intro e he c hc
   exact of_eq_true (lL _) e he c hc) (by
  intro p hp
  simp only[zM,or_false]at hp
  rcases hp with rfl|rfl
  ·refine⟨by simp,fun c hc=>?_⟩
   simp only[zM,or_false]at hc
   subst hc
   simp[iA,fJ]
  ·exact⟨by simp,fun e he c hc=>of_eq_true (lL _) e he c hc⟩) (.tup _ (by simp)) (by
  intro x hx
  simp only[zM,or_false]at hx
  rcases hx with rfl|rfl
  ·simp[iA,fJ]
  ·exact hk _)
 have e1:[AV.loc 0 0,arg].map (rnA (fun i=>if i=0 then A else V))=[AV.loc A 0,arg]:=by
  rw[List.map_cons,List.map_cons,List.map_nil,ha];rfl
 have e2:∀ m:aD,rnL (fun i=>if i=0 then A else V) [(0,AV.blk [.ref 1 0 m.length m.length]),(1,AV.vec 9 (eS m))]=[(A,AV.blk [.ref V 0 m.length m.length]),(V,AV.vec 9 (eS m))]:=fun m=>rfl
 rw[e1,e2,e2]at key
 exact key
theorem xV {A V : Nat} (hAV : A ≠ V) (l : aD) (hn : l.length ≤ 1048576) (p : Pl) (vs : List Pt) (h0 : vs ≠ []) (hvn : vs.length ≤ 268435456) :
  CallOK prog 69 [.loc A 0,.agg (eG p vs)] [(A,.blk [.ref V 0 l.length l.length]),(V,.vec 9 (eS l))] (.tup []) [(A,.blk [.ref V 0 (l++[(p,vs)]).length (l++[(p,vs)]).length]),(V,.vec 9 (eS (l++[(p,vs)])))] :=
 b0j hAV (fun _=>rfl) (fun _=>(gM p vs).in) (c69a l hn p vs h0 hvn)
theorem xU {A V : Nat} (hAV : A ≠ V) (l : aD) (hn : l.length ≤ 1048576) :
  CallOK prog 69 [.loc A 0,.agg eG0] [(A,.blk [.ref V 0 l.length l.length]),(V,.vec 9 (eS l))] (.tup []) [(A,.blk [.ref V 0 l.length l.length]),(V,.vec 9 (eS l))] :=
 b0j hAV (fun _=>rfl) (fun _=>.agg _ (by intro c hc;simp only[zM,or_false]at hc;rcases hc with rfl|rfl|rfl|rfl|rfl|rfl|rfl|rfl|rfl<;>exact .lit _)) (c69b l hn)
theorem a9p (l m:aD):eS (l++m)=eS l++eS m:=List.map_append
theorem c21a (l : aD) (b : Pl) (hb : BPl 1073741824 b) (hn : l.length ≤ 1048576) (hv : ∀ s ∈ l, s.2.length ≤ 268435456 ∧ ∀ v ∈ s.2, CanP v ∧ BPt 1073741824 v) (hm : (bA l).length ≤ 268435456) (hf : aX b l = false) :
  CallOK prog 21 [.agg [.sl (eS l)],.agg (eH b)] [] (.tup [.agg [.sl (eS l)],.agg [.lit (.slice none 0 0)]]) []:=by
 refine eA func21 rfl 84 rfl rfl (by simp -dsimp (disch:=try exact zo)only[go_sem]) [.cell 4 33,.cell 5 33] (congrArg Array.toList results21) ?_
 simp only[aC,Nat.reduceAdd]
 have hml:maxLen=9223372036854775807:=rfl
 have hl:(eS l).length=l.length:=List.length_map _
 repeat'(first|refine zk ?_|(refine zu ?_ ?_<;>intro hc)|(refine zq (c27 l hn hv hm) ?_)|(refine zv ?_ ?_<;>intro hg)|omega|simp -dsimp (disch:=try exact zo)only[go_sem,hl,zl]|contradiction|rfl)
 have hV:=yB l
 have hfA:(eF l).any (fun v=>decide (0<aB b v))=aX b l:=pB l _
 have hbA:(eF l).any (fun v=>decide (aB b v<0))=aY b l:=pB l _
 have hvb:∀ v∈eF l,BPt 1073741824 v:=fun v hvm=>by
  obtain⟨s,hs,hvm⟩:=sF.1 hvm
  exact ((hv s hs).2 v hvm).2
 generalize eF l=vs at *
 have hvl:(vs.map eP).length=vs.length:=List.length_map _
 refine AW.loop (fun z:{i:Nat // i≤vs.length}=>⟨[(21,.lit (.int .i64 z.1)),(20,.lit (.int .i64 vs.length)),(19,.sl (vs.map eP)),(6,.lit (.bool (cP (fun v=>decide (aB b v<0)) vs z.1))),(7,.lit (.bool (cP (fun v=>decide (0<aB b v)) vs z.1))),(2,.loc 8 0),(3,.loc 9 0),(4,.loc 10 0),(5,.loc 11 0)],[(8,.blk [.sl (eS l)]),(9,.blk (eH b)),(10,.blk [.lit (.slice none 0 0)]),(11,.blk [.lit (.slice none 0 0)])],60⟩) (fun z=>vs.length - z.1) ⟨0,Nat.zero_le _⟩ (aR (by refine⟨?_,?_,?_,?_⟩<;>simp -dsimp (disch:=try exact zo)only[go_sem,vW,ZC])) ?_
 rintro⟨i,hi⟩
 dsimp only
 by_cases hlt:i<vs.length
 ·clear hfA hbA
  have ea:=fD vs i hlt
  have hsb:=mM (fun v=>decide (aB b v<0)) vs i hlt
  have hsf:=mM (fun v=>decide (0<aB b v)) vs i hlt
  have ha:=hvb _ (List.getElem_mem hlt)
  clear hv hvb
  generalize vs[i]=a at *
  simp only[eP,e4]at ea
  generalize cP (fun v=>decide (aB b v<0)) vs i=bb at *
  generalize cP (fun v=>decide (0<aB b v)) vs i=ff at *
  by_cases q1:aB b a<0<;>by_cases q2:0<aB b a
  ·omega
  all_goals
   have k1:=(show (aB b a<0)=_∧(0<aB b a)=_ from⟨(by first|exact eq_true q1|exact eq_false q1),(by first|exact eq_true q2|exact eq_false q2)⟩)
   clear q1 q2
   obtain⟨k1,k2⟩:=k1
   simp only[k1,k2,decide_true,decide_false]at hsb hsf
   cases bb<;>cases ff<;>(try simp only[Bool.true_or,Bool.false_or,Bool.or_true,Bool.or_false]at hsb)<;>(try simp only[Bool.true_or,Bool.false_or,Bool.or_true,Bool.or_false]at hsf)
  all_goals
   repeat'(first|refine zk ?_|(refine zu ?_ ?_<;>intro hc)|(refine zf (c34 b a hb ha) ?_)|(refine zv ?_ ?_<;>intro hg)|omega|simp -dsimp (disch:=try exact zo)only[go_sem,hl,hvl,ea,k1,k2,zl,ZT]|contradiction|rfl)
  all_goals exact AW.stop ⟨⟨i+1,by omega⟩,zw,by dsimp only;omega⟩
 ·have hil:i=vs.length:=by omega
  subst hil
  rw[mQ,mQ,hfA,hbA]
  rw[hf]
  exact z1
theorem c21b (l : aD) (b : Pl) (hb : BPl 1073741824 b) (hn : l.length ≤ 1048576) (hv : ∀ s ∈ l, s.2.length ≤ 268435456 ∧ ∀ v ∈ s.2, CanP v ∧ BPt 1073741824 v) (hm : (bA l).length ≤ 268435456) (hf : aX b l = true) (hbh : aY b l = false) :
  CallOK prog 21 [.agg [.sl (eS l)],.agg (eH b)] [] (.tup [.agg [.lit (.slice none 0 0)],.agg [.sl (eS l)]]) []:=by
 refine eA func21 rfl 84 rfl rfl (by simp -dsimp (disch:=try exact zo)only[go_sem]) [.cell 4 33,.cell 5 33] (congrArg Array.toList results21) ?_
 simp only[aC,Nat.reduceAdd]
 have hml:maxLen=9223372036854775807:=rfl
 have hl:(eS l).length=l.length:=List.length_map _
 repeat'(first|refine zk ?_|(refine zu ?_ ?_<;>intro hc)|(refine zq (c27 l hn hv hm) ?_)|(refine zv ?_ ?_<;>intro hg)|omega|simp -dsimp (disch:=try exact zo)only[go_sem,hl,zl]|contradiction|rfl)
 have hV:=yB l
 have hfA:(eF l).any (fun v=>decide (0<aB b v))=aX b l:=pB l _
 have hbA:(eF l).any (fun v=>decide (aB b v<0))=aY b l:=pB l _
 have hvb:∀ v∈eF l,BPt 1073741824 v:=fun v hvm=>by
  obtain⟨s,hs,hvm⟩:=sF.1 hvm
  exact ((hv s hs).2 v hvm).2
 generalize eF l=vs at *
 have hvl:(vs.map eP).length=vs.length:=List.length_map _
 refine AW.loop (fun z:{i:Nat // i≤vs.length}=>⟨[(21,.lit (.int .i64 z.1)),(20,.lit (.int .i64 vs.length)),(19,.sl (vs.map eP)),(6,.lit (.bool (cP (fun v=>decide (aB b v<0)) vs z.1))),(7,.lit (.bool (cP (fun v=>decide (0<aB b v)) vs z.1))),(2,.loc 8 0),(3,.loc 9 0),(4,.loc 10 0),(5,.loc 11 0)],[(8,.blk [.sl (eS l)]),(9,.blk (eH b)),(10,.blk [.lit (.slice none 0 0)]),(11,.blk [.lit (.slice none 0 0)])],60⟩) (fun z=>vs.length - z.1) ⟨0,Nat.zero_le _⟩ (aR (by refine⟨?_,?_,?_,?_⟩<;>simp -dsimp (disch:=try exact zo)only[go_sem,vW,ZC])) ?_
 rintro⟨i,hi⟩
 dsimp only
 by_cases hlt:i<vs.length
 ·clear hfA hbA
  have ea:=fD vs i hlt
  have hsb:=mM (fun v=>decide (aB b v<0)) vs i hlt
  have hsf:=mM (fun v=>decide (0<aB b v)) vs i hlt
  have ha:=hvb _ (List.getElem_mem hlt)
  clear hv hvb
  generalize vs[i]=a at *
  simp only[eP,e4]at ea
  generalize cP (fun v=>decide (aB b v<0)) vs i=bb at *
  generalize cP (fun v=>decide (0<aB b v)) vs i=ff at *
  by_cases q1:aB b a<0<;>by_cases q2:0<aB b a
  ·omega
  all_goals
   have k1:=(show (aB b a<0)=_∧(0<aB b a)=_ from⟨(by first|exact eq_true q1|exact eq_false q1),(by first|exact eq_true q2|exact eq_false q2)⟩)
   clear q1 q2
   obtain⟨k1,k2⟩:=k1
   simp only[k1,k2,decide_true,decide_false]at hsb hsf
   cases bb<;>cases ff<;>(try simp only[Bool.true_or,Bool.false_or,Bool.or_true,Bool.or_false]at hsb)<;>(try simp only[Bool.true_or,Bool.false_or,Bool.or_true,Bool.or_false]at hsf)
  all_goals
   repeat'(first|refine zk ?_|(refine zu ?_ ?_<;>intro hc)|(refine zf (c34 b a hb ha) ?_)|(refine zv ?_ ?_<;>intro hg)|omega|simp -dsimp (disch:=try exact zo)only[go_sem,hl,hvl,ea,k1,k2,zl,ZT]|contradiction|rfl)
  all_goals exact AW.stop ⟨⟨i+1,by omega⟩,zw,by dsimp only;omega⟩
 ·have hil:i=vs.length:=by omega
  subst hil
  rw[mQ,mQ,hfA,hbA]
  rw[hf,hbh]
  exact z1
end Go.Proofs.Vx
