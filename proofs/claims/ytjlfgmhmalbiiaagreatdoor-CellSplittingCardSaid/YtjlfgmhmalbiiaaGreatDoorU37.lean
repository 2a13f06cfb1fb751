import Derived.Test.YtjlfgmhmalbiiaaGreatDoorProg
import Derived.Test.YtjlfgmhmalbiiaaGreatDoorU10
import Derived.Test.YtjlfgmhmalbiiaaGreatDoorU36
set_option linter.all false
namespace Go.Proofs.Vx
open Go Go.Sx Go.Proofs
attribute [local irreducible] fnT CallOK CallFr AW effV callV runP runO oneP oneO gcaseP hid
theorem insP_of {l:List Pt} {x:Pt} (h:∀ y∈l,cmpP y x≠0):insP l x=insF x l:=by
 unfold insP
 rw[if_neg]
 intro k
 obtain ⟨y,hy,h2⟩:=List.any_eq_true.1 k
 exact h y hy (of_decide_eq_true h2)
theorem insP_is {l:List Pt} {x:Pt} (i:Nat) (h:i<l.length) (e:cmpP l[i] x=0):insP l x=l:=by
 unfold insP
 rw[if_pos]
 exact List.any_eq_true.2 ⟨_,List.getElem_mem h,decide_eq_true e⟩
set_option maxHeartbeats 40000000 in
theorem c127 (l:List Pt) (x:Pt) (hl:∀ y∈l,CanP y∧BPt 33554431 y) (hx:CanP x) (bx:BPt 33554431 x) (hn:l.length≤268435456):CallOK Tryz.prog 127 [.sl (l.map eP),.agg (eP x)] [] (.sl ((insP l x).map eP)) []:=by
 refine CallOK.closed Tryz.func127 rfl 49 rfl rfl (by rw[In_sl,eP_in];trivial) [.tmp 4] (congrArg Array.toList Tryz.results127) ?_
 simp only[startT,Nat.reduceAdd]
 have hml:maxLen=9223372036854775807:=rfl
 have hv:=hl
 clear hl
 have hl:(l.map eP).length=l.length:=List.length_map _
 have hz1:insO x false []=[]:=rfl
 have hz2:laidL x []=false:=rfl
 repeat' (first|refine zg ?_|(refine AW.cond rfl ?_ ?_<;>intro hc<;>first|simp only[NM]at hc|omega|skip)|refine zr ?_|refine ⟨by omega,?_⟩|(refine zb ?_ ?_<;>intro hg<;>(try rw[hg])<;>try simp only[NM]at hg)|omega|simp -dsimp (disch:=try exact zo) only[go_sem,hl,eP_in]|contradiction|rfl)
 refine AW.loop (fun z:{i:Nat // i≤l.length∧∀ q,q<i→∀ h:q<l.length,cmpP l[q] x≠0}=>⟨[(7,.lit (.int .i64 z.1)),(6,.lit (.bool (laidL x (l.take z.1)))),(5,.ref 10 0 (insO x false (l.take z.1)).length (insO x false (l.take z.1)).length),(4,.lit (.slice none 0 0)),(3,.loc 8 0),(0,.sl (l.map eP))],[(8,.blk (eP x)),(10,.vec 8 ((insO x false (l.take z.1)).map eP))],60⟩) (fun z=>l.length - z.1) ⟨0,Nat.zero_le _,fun q hq=>by omega⟩ (Weak.t4 (by refine ⟨?_,?_,?_,?_⟩<;>simp -dsimp (disch:=try exact zo) only[go_sem,eP_in,List.take_zero,hz1,hz2,List.map_nil,List.length_nil,ZC])) ?_
 rintro ⟨i,hi,hb⟩
 dsimp only
 by_cases hlt:i<l.length
 ·have ea:=eP_getD l i hlt
  obtain ⟨h1,h2⟩:=hv _ (List.getElem_mem hlt)
  have cc:=c180 l[i] x h1 hx h2 bx
  have hO:=insO_snoc x l[i] (l.take i)
  have hL:=laid_succ x l[i] (l.take i)
  rw[← List.take_succ_eq_append_getElem hlt]at hO hL
  have hon:=insO_len x (l.take i)
  have hsi:=insP_is (x:=x) i hlt
  have hbi:cmpP l[i] x≠0→∀ q,q<i+1→∀ h:q<l.length,cmpP l[q] x≠0:=fun hne q hq h=>by
   by_cases e:q=i
   ·subst e;exact hne
   ·exact hb q (by omega) h
  rw[List.length_take]at hon
  clear hv h1 h2 hx bx hb
  generalize l[i]=y at *
  generalize cmpP y x=c at *
  generalize hRe:insO x false (l.take i)=R at *
  generalize laidL x (l.take i)=b at *
  have hRl:(R.map eP).length=R.length:=List.length_map _
  have hRn:R.length≤268435457:=by rw[hon];split<;>omega
  clear hon
  simp only[eP,e4]at ea
  by_cases q1:c=0
  ·have k1:=eq_true q1
   rw[hsi q1]
   have k2:True:=trivial
   have k3:True:=trivial
   clear hsi hbi hO hL
   repeat' (first|refine zg ?_|(refine AW.cond rfl ?_ ?_<;>intro hc<;>first|simp only[NM]at hc|omega|skip)|refine zr ?_|(refine callV.flat _ yfn_180 cc rfl rfl ?_)|refine ⟨by omega,?_⟩|(refine zb ?_ ?_<;>intro hg<;>(try rw[hg])<;>try simp only[NM]at hg)|omega|simp -dsimp (disch:=try exact zo) only[go_sem,hl,ea,eP_in,ZT,k1,k2,k3,hRl,zl]|contradiction|rfl)
  ·have k1:=eq_false q1
   have hbn:=hbi q1
   clear hsi hbi
   by_cases q2:0<c
   ·have k2:=eq_true q2
    by_cases q3:b=true
    ·have k3:=q3
     rw[q3,if_neg (by simp)]at hO
     rw[q3]at hL
     simp only[Bool.true_or]at hL
     have hOl:(insO x false (l.take (i+1))).length=R.length+1:=by rw[hO];simp
     replace hO:(insO x false (l.take (i+1))).map eP=R.map eP++[eP y]:=by rw[hO];simp
     repeat' (first|refine zg ?_|(refine AW.cond rfl ?_ ?_<;>intro hc<;>first|simp only[NM]at hc|omega|skip)|refine zr ?_|(refine callV.flat _ yfn_180 cc rfl rfl ?_)|refine ⟨by omega,?_⟩|(refine zb ?_ ?_<;>intro hg<;>(try rw[hg])<;>try simp only[NM]at hg)|omega|simp -dsimp (disch:=try exact zo) only[go_sem,hl,ea,eP_in,ZT,k1,k2,k3,hRl,zl]|contradiction|rfl)
     all_goals exact AW.stop ⟨⟨i+1,by omega,hbn⟩,(Weak.t4 (by refine ⟨?_,?_,?_,?_⟩<;>first|(simp -dsimp (disch:=try exact zo) only[go_sem,hOl,hO,hL,zl,ZC];done)|(simp -dsimp (disch:=try exact zo) only[go_sem,eP_in,hOl,hL,ZC];done))),by dsimp only;omega⟩
    ·have k3:b=false:=by simpa using q3
     rw[k3,if_pos ⟨q2,rfl⟩]at hO
     rw[k3,decide_eq_true q2]at hL
     simp only[Bool.false_or]at hL
     have hOl:(insO x false (l.take (i+1))).length=R.length+1+1:=by rw[hO];simp
     replace hO:(insO x false (l.take (i+1))).map eP=R.map eP++[eP x]++[eP y]:=by rw[hO];simp
     repeat' (first|refine zg ?_|(refine AW.cond rfl ?_ ?_<;>intro hc<;>first|simp only[NM]at hc|omega|skip)|refine zr ?_|(refine callV.flat _ yfn_180 cc rfl rfl ?_)|refine ⟨by omega,?_⟩|(refine zb ?_ ?_<;>intro hg<;>(try rw[hg])<;>try simp only[NM]at hg)|omega|simp -dsimp (disch:=try exact zo) only[go_sem,hl,ea,eP_in,ZT,k1,k2,k3,hRl,zl]|contradiction|rfl)
     all_goals exact AW.stop ⟨⟨i+1,by omega,hbn⟩,(Weak.t4 (by refine ⟨?_,?_,?_,?_⟩<;>first|(simp -dsimp (disch:=try exact zo) only[go_sem,hOl,hO,hL,zl,ZC];done)|(simp -dsimp (disch:=try exact zo) only[go_sem,eP_in,hOl,hL,ZC];done))),by dsimp only;omega⟩
   ·have k2:=eq_false q2
    have k3:True:=trivial
    rw[if_neg (fun e=>q2 e.1)]at hO
    rw[decide_eq_false q2,Bool.or_false]at hL
    have hOl:(insO x false (l.take (i+1))).length=R.length+1:=by rw[hO];simp
    replace hO:(insO x false (l.take (i+1))).map eP=R.map eP++[eP y]:=by rw[hO];simp
    repeat' (first|refine zg ?_|(refine AW.cond rfl ?_ ?_<;>intro hc<;>first|simp only[NM]at hc|omega|skip)|refine zr ?_|(refine callV.flat _ yfn_180 cc rfl rfl ?_)|refine ⟨by omega,?_⟩|(refine zb ?_ ?_<;>intro hg<;>(try rw[hg])<;>try simp only[NM]at hg)|omega|simp -dsimp (disch:=try exact zo) only[go_sem,hl,ea,eP_in,ZT,k1,k2,k3,hRl,zl]|contradiction|rfl)
    all_goals exact AW.stop ⟨⟨i+1,by omega,hbn⟩,(Weak.t4 (by refine ⟨?_,?_,?_,?_⟩<;>first|(simp -dsimp (disch:=try exact zo) only[go_sem,hOl,hO,hL,zl,ZC];done)|(simp -dsimp (disch:=try exact zo) only[go_sem,eP_in,hOl,hL,ZC];done))),by dsimp only;omega⟩
 ·have hil:i=l.length:=by omega
  subst hil
  have hne:∀ y∈l,cmpP y x≠0:=fun y hy=>by
   obtain ⟨q,hq,rfl⟩:=List.getElem_of_mem hy
   exact hb q hq hq
  rw[List.take_length,insP_of hne,← insO_fin]
  have hon:=insO_len x l
  clear hv hx bx hb hne
  generalize insO x false l=R at *
  have hRl:(R.map eP).length=R.length:=List.length_map _
  have hRn:R.length≤268435457:=by rw[hon];split<;>omega
  by_cases q1:laidL x l=true
  ·have k1:=q1
   rw[if_pos q1]at hon
   have k0:0<R.length:=by omega
   clear hon
   rw[if_pos q1,List.append_nil]
   repeat' (first|refine zg ?_|(refine AW.cond rfl ?_ ?_<;>intro hc<;>first|simp only[NM]at hc|omega|skip)|refine zr ?_|refine ⟨by omega,?_⟩|(refine zb ?_ ?_<;>intro hg<;>(try rw[hg])<;>try simp only[NM]at hg)|omega|simp -dsimp (disch:=try exact zo) only[go_sem,hl,eP_in,k1,hRl,zl]|contradiction|rfl)
   rw[if_pos k0,List.take_of_length_le (by rw[hRl];exact Nat.le_refl _)]
  ·have k1:laidL x l=false:=by simpa using q1
   rw[if_neg q1,List.map_append,List.map_cons,List.map_nil]
   clear hon
   repeat' (first|refine zg ?_|(refine AW.cond rfl ?_ ?_<;>intro hc<;>first|simp only[NM]at hc|omega|skip)|refine zr ?_|refine ⟨by omega,?_⟩|(refine zb ?_ ?_<;>intro hg<;>(try rw[hg])<;>try simp only[NM]at hg)|omega|simp -dsimp (disch:=try exact zo) only[go_sem,hl,eP_in,k1,hRl,zl]|contradiction|rfl)
   rw[if_pos (by omega),List.take_of_length_le (by simp)]
end Go.Proofs.Vx
namespace Go.Proofs.Vx
open Go Go.Sx Go.Proofs
attribute [local irreducible] fnT CallOK CallFr AW effV callV runP runO oneP oneO gcaseP hid
theorem yfn_60:fnT Tryz.prog 60=true:=by kernel_rfl
theorem yfn_61:fnT Tryz.prog 61=true:=by kernel_rfl
theorem yfn_65:fnT Tryz.prog 65=true:=by kernel_rfl
def cK (A vs:List Pt) (j:Nat):List Pt:=insAll (A++vs.take j)
theorem cK_zero (A vs:List Pt):cK A vs 0=insAll A:=by unfold cK;simp
theorem cK_all (A vs:List Pt):cK A vs vs.length=insAll (A++vs):=by unfold cK;rw[List.take_length]
theorem cK_succ (A vs:List Pt) (j:Nat) (h:j<vs.length):cK A vs (j+1)=insP (cK A vs j) vs[j]:=by
 unfold cK
 rw[List.take_succ_eq_append_getElem h,← List.append_assoc,insAll_snoc]
theorem insP_mem {s:List Pt} {x y:Pt} (h:y∈insP s x):y=x∨y∈s:=by
 unfold insP at h
 split at h
 ·exact .inr h
 ·exact insF_mem.1 h
theorem insAll_mem {l:List Pt} {y:Pt} (h:y∈insAll l):y∈l:=by
 have key:∀ (r s:List Pt),y∈r.foldl insP s→y∈s∨y∈r:=by
  intro r
  induction r with
  | nil=>intro s h;exact .inl h
  | cons x r ih =>
   intro s h
   rw[List.foldl_cons]at h
   rcases ih _ h with h|h
   ·rcases insP_mem h with rfl|h
    ·exact .inr (by simp)
    ·exact .inl h
   ·exact .inr (by simp[h])
 rcases key l [] h with h|h
 ·cases h
 ·exact h
theorem corners_take {S M K:Nat} {l:PCell} (hc:CanC l) (hB:Bd S M K l) (i:Nat):∀ y∈cornersP (l.take i),CanP y∧BPt K y:=fun y hy=>by
 obtain ⟨s,hs,hy⟩:=List.mem_flatMap.1 hy
 exact ⟨hc.can s (List.mem_of_mem_take hs) y hy,hB.k s (List.mem_of_mem_take hs) y hy⟩
theorem corners_tlen {S M K:Nat} {l:PCell} (hB:Bd S M K l) (i:Nat):(cornersP (l.take i)).length≤S*M:=by
 refine corners_len (fun s hs=>hB.m s (List.mem_of_mem_take hs)) ?_
 rw[List.length_take]
 exact Nat.le_trans (Nat.min_le_right _ _) hB.n
set_option maxHeartbeats 40000000 in
theorem c60 (l:PCell) (hc:CanC l) (hB:BdC l):CallOK Tryz.prog 60 [.agg [.sl (eS l)]] [] (.sl ((vertsP l).map eP)) []:=by
 refine CallOK.closed Tryz.func60 rfl 37 rfl rfl (by rw[In_sl,eP_in];trivial) [.tmp 2] (congrArg Array.toList Tryz.results60) ?_
 simp only[startT,Nat.reduceAdd]
 have hml:maxLen=9223372036854775807:=rfl
 have hl:(eS l).length=l.length:=List.length_map _
 have hln:=hB.n
 have hz1:insAll (cornersP [])=[]:=rfl
 rw[← insAll_verts hc]
 repeat' (first|refine zg ?_|(refine AW.cond rfl ?_ ?_<;>intro hc<;>first|simp only[NM]at hc|omega|skip)|refine zr ?_|refine ⟨by omega,?_⟩|(refine zb ?_ ?_<;>intro hg<;>(try rw[hg])<;>try simp only[NM]at hg)|omega|simp -dsimp (disch:=try exact zo) only[go_sem,hl]|contradiction|rfl)
 refine AW.weak (Weak.freezeV 10 0 8 [] (t:=[(4,.lit (.int .i64 0)),(3,.sl []),(2,.lit (.slice none 0 0)),(1,.loc 8 0)]) (o:=[(8,.blk [.sl (eS l)])]) rfl rfl (by simp -dsimp (disch:=try exact zo) only[go_sem]) (by simp -dsimp (disch:=try exact zo) only[go_sem])) ?_
 refine AW.loop (fun z:{i:Nat // i≤l.length}=>⟨[(4,.lit (.int .i64 z.1)),(3,.sl ((insAll (cornersP (l.take z.1))).map eP)),(2,.lit (.slice none 0 0)),(1,.loc 8 0)],[(8,.blk [.sl (eS l)])],60⟩) (fun z=>l.length - z.1) ⟨0,Nat.zero_le _⟩ (Weak.t4 (by refine ⟨?_,?_,?_,?_⟩<;>simp -dsimp (disch:=try exact zo) only[go_sem,eS_in,eP_in,List.take_zero,hz1,List.map_nil,ZC])) ?_
 rintro ⟨i,hi⟩
 dsimp only
 by_cases hlt:i<l.length
 ·have es1:=eS_getD l i hlt
  have hsu:=corners_succ l i hlt
  have hvn:=hB.m _ (List.getElem_mem hlt)
  have hAc:=corners_take hc hB i
  have hAn:=corners_tlen hB i
  have hvv:∀ y∈l[i].2,CanP y∧BPt 100000 y:=fun y hy=>⟨hc.can _ (List.getElem_mem hlt) y hy,hB.k _ (List.getElem_mem hlt) y hy⟩
  clear hc hB
  generalize l[i]=sd at *
  obtain ⟨sp,vs⟩:=sd
  generalize cornersP (l.take i)=A at *
  dsimp only at es1 hvn hvv hsu
  simp only[eG]at es1
  have hvl:(vs.map eP).length=vs.length:=List.length_map _
  have hfin:insAll (cornersP (l.take (i+1)))=cK A vs vs.length:=by rw[cK_all,hsu]
  clear hsu
  repeat' (first|refine zg ?_|(refine AW.cond rfl ?_ ?_<;>intro hc<;>first|simp only[NM]at hc|omega|skip)|refine zr ?_|refine ⟨by omega,?_⟩|(refine zb ?_ ?_<;>intro hg<;>(try rw[hg])<;>try simp only[NM]at hg)|omega|simp -dsimp (disch:=try exact zo) only[go_sem,hl,es1,hvl,ZT,zl,eS_in,eP_in]|contradiction|rfl)
  refine AW.loop (fun z:{j:Nat // j≤vs.length}=>⟨[(5,.lit (.int .i64 z.1)),(4,.lit (.int .i64 i)),(3,.sl ((cK A vs z.1).map eP)),(2,.lit (.slice none 0 0)),(1,.loc 8 0)],[(8,.blk [.sl (eS l)])],80⟩) (fun z=>vs.length - z.1) ⟨0,Nat.zero_le _⟩ (Weak.t4 (by refine ⟨?_,?_,?_,?_⟩<;>simp -dsimp (disch:=try exact zo) only[go_sem,eS_in,eP_in,cK_zero,ZC])) ?_
  rintro ⟨j,hj⟩
  dsimp only
  by_cases hjt:j<vs.length
  ·have ea:=eP_getD vs j hjt
   have hst:=cK_succ A vs j hjt
   have cc:=c127 (cK A vs j) vs[j] (fun y hy=>by
    rcases List.mem_append.1 (insAll_mem hy)with h|h
    ·exact ⟨(hAc y h).1,(hAc y h).2.mono (by decide)⟩
    ·exact ⟨(hvv y (List.mem_of_mem_take h)).1,(hvv y (List.mem_of_mem_take h)).2.mono (by decide)⟩) (hvv _ (List.getElem_mem hjt)).1 ((hvv _ (List.getElem_mem hjt)).2.mono (by decide)) (by
    have h1:=insAll_len (A++vs.take j)
    rw[List.length_append,List.length_take]at h1
    unfold cK
    omega)
   clear hAc hvv hfin
   generalize vs[j]=x at *
   generalize cK A vs j=R at *
   simp only[eP,e4]at ea
   repeat' (first|refine zg ?_|(refine AW.cond rfl ?_ ?_<;>intro hc<;>first|simp only[NM]at hc|omega|skip)|refine zr ?_|(refine callV.plain _ yfn_127 cc (by simp -dsimp (disch:=try exact zo) only[go_sem,eP_in]) (by rw[In_sl,eP_in];trivial) ?_)|refine ⟨by omega,?_⟩|(refine zb ?_ ?_<;>intro hg<;>(try rw[hg])<;>try simp only[NM]at hg)|omega|simp -dsimp (disch:=try exact zo) only[go_sem,hl,es1,hvl,ea,ZT,zl,eS_in,eP_in]|contradiction|rfl)
   all_goals exact AW.stop ⟨⟨j+1,by omega⟩,(Weak.t4 (by refine ⟨?_,?_,?_,?_⟩<;>simp -dsimp (disch:=try exact zo) only[go_sem,eS_in,eP_in,hst,ZC])),by dsimp only;omega⟩
  ·have hjl:j=vs.length:=by omega
   subst hjl
   clear hAc hvv
   repeat' (first|refine zg ?_|(refine AW.cond rfl ?_ ?_<;>intro hc<;>first|simp only[NM]at hc|omega|skip)|refine zr ?_|refine ⟨by omega,?_⟩|(refine zb ?_ ?_<;>intro hg<;>(try rw[hg])<;>try simp only[NM]at hg)|omega|simp -dsimp (disch:=try exact zo) only[go_sem,hl,es1,hvl,ZT,zl,eS_in,eP_in]|contradiction|rfl)
   all_goals exact AW.stop ⟨⟨i+1,by omega⟩,(Weak.t4 (by refine ⟨?_,?_,?_,?_⟩<;>simp -dsimp (disch:=try exact zo) only[go_sem,eS_in,eP_in,hfin,ZC])),by dsimp only;omega⟩
 ·have hil:i=l.length:=by omega
  subst hil
  rw[List.take_length]
  clear hc hB
  repeat' (first|refine zg ?_|(refine AW.cond rfl ?_ ?_<;>intro hc<;>first|simp only[NM]at hc|omega|skip)|refine zr ?_|refine ⟨by omega,?_⟩|(refine zb ?_ ?_<;>intro hg<;>(try rw[hg])<;>try simp only[NM]at hg)|omega|simp -dsimp (disch:=try exact zo) only[go_sem,hl,eP_in]|contradiction|rfl)
end Go.Proofs.Vx
namespace Go.Proofs.Vx
open Go Go.Sx Go.Proofs
attribute [local irreducible] fnT CallOK CallFr AW effV callV runP runO oneP oneO gcaseP hid
theorem divInt_one (z:Int):Rat.divInt z 1=(z:Rat):=by rw[Rat.divInt_eq_div];simp;grind
set_option maxHeartbeats 3200000 in
theorem c65 (z:Int) (h1:-1073741824≤z) (h2:z<1073741824):CallOK Tryz.prog 65 [.lit (.int .i64 z)] [] (.agg (eQ (z:Rat))) []:=by
 refine CallOK.flat Tryz.func65 rfl 13 rfl rfl rfl [.cell 2 41] (congrArg Array.toList Tryz.results65) ?_
 simp only[startT,Nat.reduceAdd]
 have hs:(Zm z).size≤268435456:=Nat.le_trans ((Zm_size z 4).2 (by omega)) (by decide)
 have c1:=c87 z (by omega) (by omega)
 have c2:=c134 z 1 hs (Nat.le_trans ((Zm_size 1 1).2 (by decide)) (by decide)) (by decide)
 rw[divInt_one]at c2
 generalize (z:Rat)=q at *
 clear hs
 repeat' (first|refine zg ?_|(refine AW.cond rfl ?_ ?_<;>intro hc<;>first|simp only[NM]at hc|omega|skip)|refine zr ?_|(refine callV.flat _ yfn_87 c1 rfl rfl ?_)|(refine callV.flat _ yfn_136 c136 rfl rfl ?_)|(refine callV.flat _ yfn_134 c2 rfl rfl ?_)|refine ⟨by omega,?_⟩|(refine zb ?_ ?_<;>intro hg<;>(try rw[hg])<;>try simp only[NM]at hg)|omega|simp -dsimp (disch:=try exact zo) only[go_sem]|contradiction|rfl)
abbrev BdW (l:PCell):Prop:=Bd 16 128 400 l
theorem verts_ne {l:PCell} (h:CellOK l):0<(vertsP l).length:=by
 obtain ⟨s,hs⟩:=List.exists_mem_of_ne_nil _ (show l≠[]from fun e=>by have:=h.cell.vol_pos;rw[e]at this;simp[sds,Geo.vol6,Geo.sm]at this)
 have pv:=(h.cell.pv (sd s) (List.mem_map_of_mem hs)).len
 have:0<s.2.length:=by simp only[sd,List.length_map]at pv;omega
 exact List.length_pos_of_mem (verts_mem.2 ⟨s,hs,List.getElem_mem this⟩)
set_option maxHeartbeats 40000000 in
theorem c61 (l:PCell) (h:CellOK l) (hB:BdW l):CallOK Tryz.prog 61 [.agg [.sl (eS l)]] [] (.agg (eP (midP l))) []:=by
 refine CallOK.flat Tryz.func61 rfl 59 rfl rfl rfl [.cell 2 51] (congrArg Array.toList Tryz.results61) ?_
 simp only[startT,Nat.reduceAdd]
 have hml:maxLen=9223372036854775807:=rfl
 have hc:=h.toCanC
 have ct:=c60 l hc (hB.mono (by decide) (by decide) (by decide))
 have hvn:(vertsP l).length≤2048:=Nat.le_trans (verts_len_le l) (Nat.le_trans (corners_len hB.m hB.n) (by decide))
 have hv:∀ v∈vertsP l,CanP v∧BPt 2000 v:=fun v hv=>by
  obtain ⟨s,hs,h⟩:=verts_mem.1 hv
  exact ⟨hc.can s hs v h,(hB.k s hs v h).mono (by decide)⟩
 have h0:=verts_ne h
 unfold midP
 generalize vertsP l=vs at *
 clear hB hc h
 have hl:(vs.map eP).length=vs.length:=List.length_map _
 repeat' (first|refine zg ?_|(refine AW.cond rfl ?_ ?_<;>intro hc<;>first|simp only[NM]at hc|omega|skip)|refine zr ?_|(refine callV.plain _ yfn_60 ct (by simp -dsimp (disch:=try exact zo) only[go_sem,eS_in]) (by rw[In_sl,eP_in];trivial) ?_)|refine ⟨by omega,?_⟩|(refine zb ?_ ?_<;>intro hg<;>(try rw[hg])<;>try simp only[NM]at hg)|omega|simp -dsimp (disch:=try exact zo) only[go_sem,hl]|contradiction|rfl)
 have hzx:(sumV []).x=0:=rfl
 have hzy:(sumV []).y=0:=rfl
 have hzz:(sumV []).z=0:=rfl
 refine AW.loop (fun z:{i:Nat // i≤vs.length}=>⟨[(5,.lit (.int .i64 z.1)),(4,.loc 14 0),(3,.sl (vs.map eP)),(2,.loc 9 0)],[(9,.blk [.lit (.bool false),.lit (.string ⟨#[]⟩),.lit (.bool false),.lit (.string ⟨#[]⟩),.lit (.bool false),.lit (.string ⟨#[]⟩),.lit (.bool false),.lit (.string ⟨#[]⟩)]),(14,.blk (eV (sumV (vs.take z.1)).x (sumV (vs.take z.1)).y (sumV (vs.take z.1)).z))],60⟩) (fun z=>vs.length - z.1) ⟨0,Nat.zero_le _⟩ (Weak.t4 (by refine ⟨?_,?_,?_,?_⟩<;>simp -dsimp (disch:=try exact zo) only[go_sem,List.take_zero,hzx,hzy,hzz,eV,eQ,Zz,Zmz,Qz,eP_in,ZC])) ?_
 rintro ⟨i,hi⟩
 dsimp only
 have hs:=sum_qs hv i hi
 by_cases hlt:i<vs.length
 ·have ea:=eP_getD vs i hlt
  have hst:=sum_succ vs i hlt
  obtain ⟨h1,h2⟩:=hv _ (List.getElem_mem hlt)
  have c128v:=c128 vs[i] h1 (h2.mono (by decide))
  have ht:=tv_qs h1 h2
  clear hv h1 h2 ct
  generalize vs[i]=a at *
  generalize sumV (vs.take i)=A at *
  generalize tv a=T at *
  have hx1:(sumV (vs.take (i+1))).x=A.x+T.x:=by rw[hst];rfl
  have hy1:(sumV (vs.take (i+1))).y=A.y+T.y:=by rw[hst];rfl
  have hz1:(sumV (vs.take (i+1))).z=A.z+T.z:=by rw[hst];rfl
  clear hst
  obtain ⟨b1,b2,b3⟩:=hs.mono (show _≤67108864 by omega)
  obtain ⟨t1,t2,t3⟩:=ht.mono (show _≤67108864 by omega)
  clear hs ht
  simp only[eP,e4]at ea
  repeat' (first|refine zg ?_|refine AW.unroll 6 ?_|(refine AW.cond rfl ?_ ?_<;>intro hc<;>first|simp only[NM]at hc|omega|skip)|refine zr ?_|(refine callV.flat _ yfn_128 c128v rfl rfl ?_)|(refine callV.flat _ yfn_64 (c64 _ (by assumption) _ (by assumption)) rfl rfl ?_)|refine ⟨by omega,?_⟩|(refine zb ?_ ?_<;>intro hg<;>(try rw[hg])<;>try simp only[NM]at hg)|omega|simp -dsimp (disch:=try exact zo) only[go_sem,hl,ea,ZT,eP_in]|contradiction|rfl)
  all_goals exact AW.stop ⟨⟨i+1,by omega⟩,(Weak.t4 (by refine ⟨?_,?_,?_,?_⟩<;>simp -dsimp (disch:=try exact zo) only[go_sem,eP_in,hx1,hy1,hz1,eV,eQ,ZC])),by dsimp only;omega⟩
 ·have hil:i=vs.length:=by omega
  subst hil
  rw[List.take_length]at hs ⊢
  have hmx:max vs.length 1=vs.length:=by omega
  rw[hmx]
  have hp0:(0<vs.length)=True:=eq_true h0
  have hne:((vs.length:Nat):Rat)≠0:=nat_ne (by omega)
  have hq:=nat_qs (n:=vs.length) (by omega)
  have c65v:=c65 (vs.length:Nat) (by omega) (by omega)
  have hcast:(((vs.length:Nat):Int):Rat)=((vs.length:Nat):Rat):=rfl
  rw[hcast]at c65v
  obtain ⟨b1,b2,b3⟩:=hs
  have e1:=(b1.div hq hne).mono (show _≤67108864 by omega)
  have e2:=(b2.div hq hne).mono (show _≤67108864 by omega)
  have e3:=(b3.div hq hne).mono (show _≤67108864 by omega)
  have b1':=b1.mono (show _≤67108864 by omega)
  have b2':=b2.mono (show _≤67108864 by omega)
  have b3':=b3.mono (show _≤67108864 by omega)
  have hq':=hq.mono (show _≤67108864 by omega)
  clear hv b1 b2 b3 hq ct hmx
  generalize ((vs.length:Nat):Rat)=N at *
  generalize sumV vs=A at *
  repeat' (first|refine zg ?_|refine AW.unroll 6 ?_|(refine AW.cond rfl ?_ ?_<;>intro hc<;>first|simp only[NM]at hc|omega|skip)|refine zr ?_|(refine callV.flat _ yfn_65 c65v rfl rfl ?_)|(refine callV.flat _ yfn_129 (c129 _ (by assumption) _ (by assumption) hne) rfl rfl ?_)|(refine callV.flat _ yfn_130 (c130 _ _ _ (by assumption) (by assumption) (by assumption)) rfl rfl ?_)|refine ⟨by omega,?_⟩|(refine zb ?_ ?_<;>intro hg<;>(try rw[hg])<;>try simp only[NM]at hg)|omega|simp -dsimp (disch:=try exact zo) only[go_sem,hl,hp0]|contradiction|rfl)
end Go.Proofs.Vx
namespace Go.Proofs.Vx
open Go Go.Sx Go.Proofs
attribute [local irreducible] fnT CallOK CallFr AW effV callV runP runO oneP oneO gcaseP hid
theorem yfn_62:fnT Tryz.prog 62=true:=by kernel_rfl
theorem yfn_132:fnT Tryz.prog 132=true:=by kernel_rfl
set_option maxHeartbeats 16000000 in
theorem c132 (u v:Geo.V) (hu:QV 8388608 u) (hv:QV 8388608 v):CallOK Tryz.prog 132 [.agg (eV u.x u.y u.z),.agg (eV v.x v.y v.z)] [] (.agg (eV (Geo.cross u v).x (Geo.cross u v).y (Geo.cross u v).z)) []:=by
 refine CallOK.flat Tryz.func132 rfl 38 rfl rfl rfl [.cell 4 103] (congrArg Array.toList Tryz.results132) ?_
 simp only[startT,Nat.reduceAdd]
 obtain ⟨u1,u2,u3⟩:=hu.mono (show 8388608≤67108864 by decide)
 obtain ⟨v1,v2,v3⟩:=hv.mono (show 8388608≤67108864 by decide)
 have p1:=(hu.y.mul hv.z).mono (show 8388608+8388608≤67108864 by decide)
 have p2:=(hu.z.mul hv.y).mono (show 8388608+8388608≤67108864 by decide)
 have p3:=(hu.z.mul hv.x).mono (show 8388608+8388608≤67108864 by decide)
 have p4:=(hu.x.mul hv.z).mono (show 8388608+8388608≤67108864 by decide)
 have p5:=(hu.x.mul hv.y).mono (show 8388608+8388608≤67108864 by decide)
 have p6:=(hu.y.mul hv.x).mono (show 8388608+8388608≤67108864 by decide)
 unfold Geo.cross
 clear hu hv
 repeat' (first|refine zg ?_|refine AW.unroll 6 ?_|(refine AW.cond rfl ?_ ?_<;>intro hc<;>first|simp only[NM]at hc|omega|skip)|refine zr ?_|(refine callV.flat _ yfn_182 (c182 _ (by assumption) _ (by assumption)) rfl rfl ?_)|(refine callV.flat _ yfn_183 (c183 _ (by assumption) _ (by assumption)) rfl rfl ?_)|refine ⟨by omega,?_⟩|(refine zb ?_ ?_<;>intro hg<;>(try rw[hg])<;>try simp only[NM]at hg)|omega|simp -dsimp (disch:=try exact zo) only[go_sem]|contradiction|rfl)
def fanF (vs:List Pt) (k:Nat):Rat:=Geo.dot (tv (vs.getD 0 P0)) (Geo.cross (tv (vs.getD (k+1) P0)) (tv (vs.getD (k+2) P0)))
def fanT (vs:List Pt):Nat→Rat→Rat
 | 0,q=>q
 | k+1,q=>fanT vs k q+fanF vs k
def fanS (q:Rat) (s:Pl × List Pt):Rat:=fanT s.2 (s.2.length - 2) q
def fvT (l:PCell) (i:Nat):Rat:=(l.take i).foldl fanS 0
theorem fvT_zero (l:PCell):fvT l 0=0:=rfl
theorem fvT_succ (l:PCell) (i:Nat) (h:i<l.length):fvT l (i+1)=fanS (fvT l i) l[i]:=by
 unfold fvT
 rw[List.take_succ_eq_append_getElem h,List.foldl_append]
 rfl
theorem fan_eq {vs:List Pt} (h:2≤vs.length) (q:Rat):fanT vs (vs.length - 2) q=q+Geo.ar (tv (vs.getD 0 P0)) (vs.map tv):=by
 have hW:(vs.map tv).length=vs.length:=List.length_map _
 have hg:∀ (k:Nat) (hk:k<vs.length),(vs.map tv)[k]'(by omega)=tv (vs.getD k P0):=fun k hk=>by
  rw[List.getElem_map,List.getD_eq_getElem?_getD,List.getElem?_eq_getElem hk];rfl
 have key:∀ k,k+2≤vs.length→fanT vs k q=q+Geo.sm (fun e=>Geo.dot (tv (vs.getD 0 P0)) (Geo.cross e.1 e.2)) ((Geo.edges (vs.map tv)).take (k+1)):=by
  intro k
  induction k with
  | zero =>
   intro h
   rw[edges_take (vs.map tv) 0 (by omega),List.take_zero,List.nil_append]
   have e0:=hg 0 (by omega)
   simp only[Geo.sm,e0,fanT]
   simp only[Geo.dot,Geo.cross]
   grind
  | succ k ih =>
   intro h
   have h1:=hg (k+1) (by omega)
   have h2:=hg (k+2) (by omega)
   have hm:(k+1+1) % (vs.map tv).length=k+2:=by rw[hW];exact Nat.mod_eq_of_lt (by omega)
   rw[edges_take (vs.map tv) (k+1) (by omega),Geo.sm_append]
   simp only[hm,h1,h2]
   unfold fanT
   rw[ih (by omega)]
   simp only[Geo.sm,fanF]
   grind
 have hk:=key (vs.length - 2) (by omega)
 rw[hk]
 unfold Geo.ar
 obtain ⟨n,hn⟩:∃ n,vs.length=n+2:=⟨vs.length - 2,by omega⟩
 have hlast:=edges_take (vs.map tv) (n+1) (by omega)
 have hm:(n+1+1) % (vs.map tv).length=0:=by rw[hW,hn];exact Nat.mod_self _
 rw[List.take_of_length_le (by rw[Geo.edges_length,hW];omega)]at hlast
 have h0:=hg 0 (by omega)
 simp only[hm,h0]at hlast
 rw[hlast,Geo.sm_append,show vs.length - 2+1=n+1 by omega]
 simp only[Geo.sm]
 simp only[Geo.dot,Geo.cross]
 grind
theorem fvT_all {l:PCell} (h:CellOK l):fvT l l.length / 6=volP l:=by
 have key:∀ (m:PCell),(∀ s∈m,Geo.PV (tH s.1).n (s.2.map tv)∧∀ v∈s.2.map tv,(tH s.1).at v=0)→∀ q,m.foldl fanS q=q+Geo.sm Geo.sh (sds m):=by
  intro m
  induction m with
  | nil=>intro _ q;simp only[List.foldl_nil,sds,List.map_nil,Geo.sm];grind
  | cons s m ih =>
   intro hm q
   obtain ⟨h1,h2⟩:=hm s (by simp)
   have hl:3≤s.2.length:=by have:=h1.len;rw[List.length_map]at this;exact this
   have hmem:tv (s.2.getD 0 P0)∈s.2.map tv:=by
    refine List.mem_map_of_mem ?_
    rw[List.getD_eq_getElem?_getD,List.getElem?_eq_getElem (show 0<s.2.length by omega)]
    exact List.getElem_mem _
   have e:Geo.ar (tv (s.2.getD 0 P0)) (s.2.map tv)=Geo.sh (sd s):=Geo.sh_at (s:=sd s) h1 h2 (h2 _ hmem)
   rw[List.foldl_cons,ih (fun t ht=>hm t (by simp[ht]))]
   unfold fanS
   rw[fan_eq (by omega),e]
   simp only[sds,List.map_cons,Geo.sm]
   grind
 rw[volP_eq h]
 unfold fvT Geo.vol6
 rw[List.take_length,key l (fun s hs=>?_)]
 ·grind
 ·have hm:sd s∈sds l:=List.mem_map_of_mem hs
  exact ⟨h.cell.pv _ hm,h.cell.pl _ hm⟩
theorem RC_vol {l m:PCell} (hl:CellOK l) (hm:CellOK m) (h:RC l m):volP l=volP m:=by
 have hsh:∀ s t:Pl × List Pt,SR s t→Geo.sh (sd s)=Geo.sh (sd t):=fun s t h=>by
  have hp:=(h.2.edges.map fun e:Pt × Pt=>(tv e.1,tv e.2))
  unfold Geo.sh Geo.ar
  simp only[sd,h.1]
  rw[Geo.edges_map,Geo.edges_map,Geo.sm_perm _ hp]
 rw[volP_eq hl,volP_eq hm]
 congr 1
 unfold Geo.vol6 sds
 obtain ⟨k,h1,h2⟩:=h
 rw[Geo.sm_map,Geo.sm_map,Geo.sm_perm _ h1]
 clear h1 hl hm
 induction h2 with
 | nil=>rfl
 | cons h _ ih=>simp only[Geo.sm];rw[ih,hsh _ _ h]
theorem fanF_qs {vs:List Pt} (hv:∀ v∈vs,CanP v∧BPt 400 v) (k:Nat) (hk:k+2<vs.length):Qs 6005 (fanF vs k):=by
 have hq:∀ j,j<vs.length→QV 400 (tv (vs.getD j P0)):=fun j hj=>by
  rw[List.getD_eq_getElem?_getD,List.getElem?_eq_getElem hj]
  have:=hv _ (List.getElem_mem hj)
  exact tv_qs this.1 this.2
 exact (dot_qs (hq 0 (by omega)) (cross_qs (hq _ (by omega)) (hq _ hk))).mono (by decide)
theorem fanT_qs {vs:List Pt} (hv:∀ v∈vs,CanP v∧BPt 400 v) {q:Rat} {B:Nat} (hq:Qs B q) (k:Nat) (hk:k+2≤vs.length):Qs (B+6006*k) (fanT vs k q):=by
 induction k with
 | zero=>exact hq
 | succ k ih=>exact ((ih (by omega)).add (fanF_qs hv k (by omega))).mono (by omega)
theorem fvT_qs {l:PCell} (hv:∀ s∈l,3≤s.2.length∧s.2.length≤128∧∀ v∈s.2,CanP v∧BPt 400 v) (i:Nat) (hi:i≤l.length):Qs (1+768768*i) (fvT l i):=by
 induction i with
 | zero=>exact (zero_qs (by decide)).x
 | succ i ih =>
  obtain ⟨h3,h4,h5⟩:=hv _ (List.getElem_mem (show i<l.length by omega))
  rw[fvT_succ l i (by omega)]
  exact (fanT_qs h5 (ih (by omega)) _ (by omega)).mono (by omega)
theorem six_ne:((6:Int):Rat)≠0:=by decide
theorem six_qs:Qs 8 ((6:Int):Rat):=⟨(Zm_size 6 8).2 (by decide),by show (nb 1).size≤_;rw[nb_one];decide⟩
set_option maxHeartbeats 40000000 in
theorem c62 (l:PCell) (h:CellOK l) (hB:BdW l):CallOK Tryz.prog 62 [.agg [.sl (eS l)]] [] (.agg (eQ (volP l))) []:=by
 refine CallOK.flat Tryz.func62 rfl 62 rfl rfl rfl [.cell 2 41] (congrArg Array.toList Tryz.results62) ?_
 simp only[startT,Nat.reduceAdd]
 have hml:maxLen=9223372036854775807:=rfl
 have hl:(eS l).length=l.length:=List.length_map _
 have hln:=hB.n
 have hv:∀ s∈l,3≤s.2.length∧s.2.length≤128∧∀ v∈s.2,CanP v∧BPt 400 v:=fun s hs=>⟨by
  have:=(h.cell.pv (sd s) (List.mem_map_of_mem hs)).len
  simp only[sd,List.length_map]at this
  exact this,hB.m s hs,fun v hv=>⟨h.can s hs v hv,hB.k s hs v hv⟩⟩
 rw[← fvT_all h]
 clear h hB
 repeat' (first|refine zg ?_|(refine AW.cond rfl ?_ ?_<;>intro hc<;>first|simp only[NM]at hc|omega|skip)|refine zr ?_|refine ⟨by omega,?_⟩|(refine zb ?_ ?_<;>intro hg<;>(try rw[hg])<;>try simp only[NM]at hg)|omega|simp -dsimp (disch:=try exact zo) only[go_sem,hl]|contradiction|rfl)
 refine AW.loop (fun z:{i:Nat // i≤l.length}=>⟨[(4,.lit (.int .i64 z.1)),(3,.loc 11 0),(2,.loc 9 0),(1,.loc 8 0)],[(8,.blk [.sl (eS l)]),(9,.blk [.lit (.bool false),.lit (.string ⟨#[]⟩),.lit (.string ⟨#[]⟩)]),(11,.blk (eQ (fvT l z.1)))],60⟩) (fun z=>l.length - z.1) ⟨0,Nat.zero_le _⟩ (Weak.t4 (by refine ⟨?_,?_,?_,?_⟩<;>simp -dsimp (disch:=try exact zo) only[go_sem,fvT_zero,eQ,Zz,Zmz,Qz,eS_in,eP_in,ZC])) ?_
 rintro ⟨i,hi⟩
 dsimp only
 have hs:=fvT_qs hv i hi
 by_cases hlt:i<l.length
 ·have es1:=eS_getD l i hlt
  have hst0:=fvT_succ l i hlt
  obtain ⟨hv3,hvn,hvv⟩:=hv _ (List.getElem_mem hlt)
  clear hv
  generalize l[i]=sd at *
  obtain ⟨sp,vs⟩:=sd
  dsimp only at es1 hv3 hvn hvv
  simp only[eG]at es1
  have hfin:fvT l (i+1)=fanT vs (vs.length - 2) (fvT l i):=hst0
  clear hst0
  generalize fvT l i=A at *
  have hvl:(vs.map eP).length=vs.length:=List.length_map _
  repeat' (first|refine zg ?_|(refine AW.cond rfl ?_ ?_<;>intro hc<;>first|simp only[NM]at hc|omega|skip)|refine zr ?_|refine ⟨by omega,?_⟩|(refine zb ?_ ?_<;>intro hg<;>(try rw[hg])<;>try simp only[NM]at hg)|omega|simp -dsimp (disch:=try exact zo) only[go_sem,hl,es1,ZT,zl,eS_in,eP_in,hvl]|contradiction|rfl)
  refine AW.loop (fun z:{k:Nat // k+2≤vs.length}=>⟨[(6,.lit (.int .i64 ((z.1:Int)+1))),(5,.sl (vs.map eP)),(4,.lit (.int .i64 i)),(3,.loc 11 0),(2,.loc 9 0),(1,.loc 8 0)],[(8,.blk [.sl (eS l)]),(9,.blk [.lit (.bool false),.lit (.string ⟨#[]⟩),.lit (.string ⟨#[]⟩)]),(11,.blk (eQ (fanT vs z.1 A)))],80⟩) (fun z=>vs.length - z.1) ⟨0,by omega⟩ (Weak.t4 (by refine ⟨?_,?_,?_,?_⟩<;>simp -dsimp (disch:=try exact zo) only[go_sem,fanT,eS_in,eP_in,ZC])) ?_
  rintro ⟨k,hk⟩
  dsimp only
  by_cases hkt:k+2<vs.length
  ·have e0:=eP_getD vs 0 (by omega)
   have e1:=eP_getD vs (k+1) (by omega)
   have e2:=eP_getD vs (k+2) hkt
   have hk1:((k:Int)+1).toNat=k+1:=by omega
   have hk2:((k:Int)+1+1).toNat=k+2:=by omega
   have hst:fanT vs (k+1) A=fanT vs k A+fanF vs k:=rfl
   have q0:=hvv _ (List.getElem_mem (show 0<vs.length by omega))
   have q1:=hvv _ (List.getElem_mem (show k+1<vs.length by omega))
   have q2:=hvv _ (List.getElem_mem hkt)
   have d0:=c128 _ q0.1 (q0.2.mono (by decide))
   have d1:=c128 _ q1.1 (q1.2.mono (by decide))
   have d2:=c128 _ q2.1 (q2.2.mono (by decide))
   have t0:=tv_qs q0.1 q0.2
   have t1:=tv_qs q1.1 q1.2
   have t2:=tv_qs q2.1 q2.2
   have w1:=c132 _ _ (t1.mono (by decide)) (t2.mono (by decide))
   have hcr:=cross_qs t1 t2
   have w2:=c131 _ _ (t0.mono (by decide)) (hcr.mono (by decide))
   have w3:=c64 _ ((fanT_qs hvv hs k hk).mono (show _≤67108864 by omega)) _ ((fanF_qs hvv k hkt).mono (show _≤67108864 by decide))
   have hF:fanF vs k=Geo.dot (tv vs[0]) (Geo.cross (tv vs[k+1]) (tv vs[k+2])):=by
    unfold fanF
    rw[List.getD_eq_getElem?_getD,List.getElem?_eq_getElem (show 0<vs.length by omega),List.getD_eq_getElem?_getD,List.getElem?_eq_getElem (show k+1<vs.length by omega),List.getD_eq_getElem?_getD,List.getElem?_eq_getElem hkt]
    rfl
   rw[hF]at w3 hst
   clear hF hs hvv q0 q1 q2 t0 t1 t2 hcr hfin
   generalize vs[0]=x0 at *
   generalize vs[k+1]=x1 at *
   generalize vs[k+2]=x2 at *
   generalize fanT vs k A=R at *
   generalize tv x0=y0 at *
   generalize tv x1=y1 at *
   generalize tv x2=y2 at *
   generalize Geo.cross y1 y2=cr at *
   generalize Geo.dot y0 cr=dt at *
   simp only[eP,e4]at e0 e1 e2
   repeat' (first|refine zg ?_|(refine AW.cond rfl ?_ ?_<;>intro hc<;>first|simp only[NM]at hc|omega|skip)|refine zr ?_|(first|refine callV.flat _ yfn_128 d0 rfl rfl ?_|refine callV.flat _ yfn_128 d1 rfl rfl ?_|refine callV.flat _ yfn_128 d2 rfl rfl ?_)|(refine callV.flat _ yfn_132 w1 rfl rfl ?_)|(refine callV.flat _ yfn_131 w2 rfl rfl ?_)|(refine callV.flat _ yfn_64 w3 rfl rfl ?_)|refine ⟨by omega,?_⟩|(refine zb ?_ ?_<;>intro hg<;>(try rw[hg])<;>try simp only[NM]at hg)|omega|simp -dsimp (disch:=try exact zo) only[go_sem,hvl,e0,e1,e2,hk1,hk2,eP_in,eS_in]|contradiction|rfl)
   all_goals exact AW.stop ⟨⟨k+1,by omega⟩,(Weak.t4 (by refine ⟨?_,?_,?_,?_⟩<;>simp -dsimp (disch:=try exact zo) only[go_sem,eS_in,eP_in,hst,ZC])),by dsimp only;omega⟩
  ·have hkl:vs.length - 2=k:=by omega
   rw[hkl]at hfin
   clear hs hvv
   repeat' (first|refine zg ?_|(refine AW.cond rfl ?_ ?_<;>intro hc<;>first|simp only[NM]at hc|omega|skip)|refine zr ?_|refine ⟨by omega,?_⟩|(refine zb ?_ ?_<;>intro hg<;>(try rw[hg])<;>try simp only[NM]at hg)|omega|simp -dsimp (disch:=try exact zo) only[go_sem,hvl,eP_in,eS_in]|contradiction|rfl)
   all_goals exact AW.stop ⟨⟨i+1,by omega⟩,(Weak.t4 (by refine ⟨?_,?_,?_,?_⟩<;>simp -dsimp (disch:=try exact zo) only[go_sem,eS_in,eP_in,hfin,ZC])),by dsimp only;omega⟩
 ·have hil:i=l.length:=by omega
  subst hil
  have h6:((6:Int):Rat)=6:=rfl
  have b1:=hs.mono (show _≤67108864 by omega)
  have b2:=six_qs.mono (show _≤67108864 by decide)
  rw[← h6]
  clear hv hs h6
  generalize fvT l l.length=A at *
  repeat' (first|refine zg ?_|(refine AW.cond rfl ?_ ?_<;>intro hc<;>first|simp only[NM]at hc|omega|skip)|refine zr ?_|(refine callV.flat _ yfn_65 (c65 6 (by decide) (by decide)) rfl rfl ?_)|(refine callV.flat _ yfn_129 (c129 _ (by assumption) _ (by assumption) six_ne) rfl rfl ?_)|refine ⟨by omega,?_⟩|(refine zb ?_ ?_<;>intro hg<;>(try rw[hg])<;>try simp only[NM]at hg)|omega|simp -dsimp (disch:=try exact zo) only[go_sem,hl]|contradiction|rfl)
end Go.Proofs.Vx
