import Derived.Test.YtjlfgmhmalbiiaaGreatDoorProg
import Derived.Test.YtjlfgmhmalbiiaaGreatDoorU11
import Derived.Test.YtjlfgmhmalbiiaaGreatDoorU34
import Derived.Test.YtjlfgmhmalbiiaaGreatDoorU35
set_option linter.all false
namespace Go.Proofs.Vx
open Go Go.Sx Go.Proofs
attribute [local irreducible] fnT CallOK CallFr AW effV callV runP runO oneP oneO gcaseP hid
theorem yfn_119:fnT Tryz.prog 119=true:=by kernel_rfl
theorem c29r (x:RP) (h:RB 6 x):CallOK Tryz.prog 29 [.agg (eRP x)] [] (.agg (eP (ptR x))) []:=c29 x.n1 x.n2 x.n3 x.n4 x.m1 x.m2 x.m3 x.m4 (Nat.le_trans h.a (by decide)) (Nat.le_trans h.b (by decide)) (Nat.le_trans h.c (by decide)) (Nat.le_trans h.d (by decide))
set_option maxHeartbeats 16000000 in
theorem c119r (r:RP) (vs:List RP) (hn:vs.length≤1048576) (hr:RB 1048576 r) (hv:∀ v∈vs,RB 6 v):CallOK Tryz.prog 119 [.agg (eRP r++[.sl (eRPs vs)])] [] (.lit (.int .i64 (chkG r vs))) []:=by
 refine CallOK.flat Tryz.func119 rfl 102 rfl rfl rfl [.tmp 2] (congrArg Array.toList Tryz.results119) ?_
 simp only[startT,Nat.reduceAdd]
 have hml:maxLen=9223372036854775807:=rfl
 have hl:(eRPs vs).length=vs.length:=List.length_map _
 have cn:=True.intro
 by_cases hz:zeroR r
 ·replace cn:=c44bx r (Nat.le_trans hr.a (by decide)) (Nat.le_trans hr.b (by decide)) (Nat.le_trans hr.c (by decide)) (Nat.le_trans hr.d (by decide)) hz
  have h1:¬ canHR r:=fun h=>h.1 hz
  rw[chk1 h1]
  clear hz h1 hv hr
  simp only[eRP,List.cons_append,List.nil_append,eH,e4]at cn ⊢
  repeat' (first|refine zg ?_|(refine AW.cond rfl ?_ ?_<;>intro hc<;>first|simp only[NM]at hc|omega|skip)|refine zr ?_|(refine callV.flat _ yfn_44 cn rfl rfl ?_)|refine ⟨by omega,?_⟩|(refine zb ?_ ?_<;>intro hg<;>(try rw[hg])<;>try simp only[NM]at hg)|omega|simp -dsimp (disch:=try exact zo) only[go_sem,hl]|contradiction|rfl)
 ·replace cn:=c44ax r (Nat.le_trans hr.a (by decide)) (Nat.le_trans hr.b (by decide)) (Nat.le_trans hr.c (by decide)) (Nat.le_trans hr.d (by decide)) hz
  by_cases hc:eRP r=eH (nrmR r)
  ·have hcr:canHR r:=⟨hz,hc⟩
   have hp:=nrmR_bs hr hz
   have e2:=Hid.mk (show ∀ i (h:i<vs.length),¬ canPR vs[i]→chkG r vs=3 from fun i h hx=>chk2 hcr (List.getElem_mem h) hx)
   have e3:=Hid.mk (show (∀ v∈vs,canPR v)→(vs.map ptR).length<3→chkG r vs=4 from fun h1 h2=>chk3 hcr h1 (by rwa [List.length_map]at h2))
   have e4':=Hid.mk (show (∀ v∈vs,canPR v)→¬ (vs.map ptR).length<3→∀ i (h:i<(vs.map ptR).length),sideP (nrmR r) (vs.map ptR)[i]≠0→chkG r vs=2 from fun h1 h2 i h h3=>by
    rw[List.length_map]at h2 h
    rw[List.getElem_map]at h3
    exact chk4 hcr h1 h2 (List.getElem_mem h) h3)
   have e5:=Hid.mk (show (∀ v∈vs,canPR v)→¬ (vs.map ptR).length<3→(∀ i (h:i<(vs.map ptR).length),sideP (nrmR r) (vs.map ptR)[i]=0)→∀ b:Bool,(b=true↔Lefts (nrmR r) (vs.map ptR))→chkG r vs=if b=true then 0 else 1 from fun h1 h2 h3 b hb=>by
    rw[List.length_map]at h2
    refine chk5 hcr h1 h2 (fun v hv=>?_) hb
    obtain ⟨i,hi,rfl⟩:=List.getElem_of_mem hv
    have:=h3 i (by rwa [List.length_map])
    rwa [List.getElem_map]at this)
   rw[hc]at cn ⊢
   clear hcr hz hc hr
   generalize nrmR r=p at *
   generalize chkG r vs=e at *
   replace hv:=Hid.mk hv
   simp only[List.cons_append,List.nil_append,eH,e4]at cn ⊢
   repeat' (first|refine zg ?_|(refine AW.cond rfl ?_ ?_<;>intro hc<;>first|simp only[NM]at hc|omega|skip)|refine zr ?_|(refine callV.flat _ yfn_44 cn rfl rfl ?_)|refine ⟨by omega,?_⟩|(refine zb ?_ ?_<;>intro hg<;>(try rw[hg])<;>try simp only[NM]at hg)|omega|simp -dsimp (disch:=try exact zo) only[go_sem,hl]|contradiction|rfl)
   refine AW.loop (fun z:{i:Nat // i≤vs.length∧Hid (∀ j (h:j<vs.length),j<i→canPR vs[j])}=>⟨[(31,.lit (.int .i64 z.1)),(29,.sl (eRPs vs)),(30,.lit (.int .i64 vs.length)),(1,.loc 8 0)],[(8,.blk [.lit (.bool (Zn p.a)),.lit (.string (Zm p.a)),.lit (.bool (Zn p.b)),.lit (.string (Zm p.b)),.lit (.bool (Zn p.c)),.lit (.string (Zm p.c)),.lit (.bool (Zn p.d)),.lit (.string (Zm p.d)),.sl (eRPs vs)])],60⟩) (fun z=>vs.length - z.1) ⟨0,Nat.zero_le _,Hid.mk (fun j _ h=>absurd h (Nat.not_lt_zero _))⟩ (Weak.t4 (by refine ⟨?_,?_,?_,?_⟩<;>simp -dsimp (disch:=try exact zo) only[go_sem,eRPs_in,ZC])) ?_
   rintro ⟨i,hi,hI⟩
   dsimp only
   by_cases hlt:i<vs.length
   ·have ea:=eRPs_getD vs i hlt
    have cx:=c29r vs[i] (hv.out _ (List.getElem_mem hlt))
    have e2i:=e2.out i hlt
    have hI1:=Hid.mk (show canPR vs[i]→∀ j (h:j<vs.length),j<i+1→canPR vs[j]from fun hx j h h2=>by
     by_cases q:j=i
     ·subst q;exact hx
     ·exact hI.out j h (by omega))
    generalize vs[i]=x at *
    by_cases hx:canPR x
    ·replace hI1:=Hid.mk (hI1.out hx)
     unfold canPR at hx
     rw[hx]at ea cx
     clear e2i hx
     generalize ptR x=y at *
     simp only[eP,e4]at ea cx
     repeat' (first|refine zg ?_|(refine AW.cond rfl ?_ ?_<;>intro hc<;>first|simp only[NM]at hc|omega|skip)|refine zr ?_|(refine callV.flat _ yfn_29 cx rfl rfl ?_)|refine ⟨by omega,?_⟩|(refine zb ?_ ?_<;>intro hg<;>(try rw[hg])<;>try simp only[NM]at hg)|omega|simp -dsimp (disch:=try exact zo) only[go_sem,hl,ea,ZT,eRPs_in]|contradiction|rfl)
     all_goals exact AW.stop ⟨⟨i+1,by omega,hI1⟩,(Weak.t4 (by refine ⟨?_,?_,?_,?_⟩<;>simp -dsimp (disch:=try exact zo) only[go_sem,eRPs_in,ZC])),by dsimp only;omega⟩
    ·rw[e2i hx]
     have hne:¬ (Zn (ptR x).x=x.n1∧Zm (ptR x).x=x.m1∧Zn (ptR x).y=x.n2∧Zm (ptR x).y=x.m2∧Zn (ptR x).z=x.n3∧Zm (ptR x).z=x.m3∧Zn (ptR x).w=x.n4∧Zm (ptR x).w=x.m4):=fun h=>hx (by
      unfold canPR eRP eP e4
      obtain ⟨h1,h2,h3,h4,h5,h6,h7,h8⟩:=h
      rw[h1,h2,h3,h4,h5,h6,h7,h8])
     clear e2i hx hI1 e2 e3 e4' e5 hv hI
     generalize ptR x=y at *
     simp only[eP,e4,eRP]at ea cx
     repeat' (first|refine zg ?_|(refine AW.cond rfl ?_ ?_<;>intro hc<;>first|simp only[NM]at hc|omega|skip)|refine zr ?_|(refine callV.flat _ yfn_29 cx rfl rfl ?_)|refine ⟨by omega,?_⟩|(refine zb ?_ ?_<;>intro hg<;>(try rw[hg])<;>try simp only[NM]at hg)|omega|simp -dsimp (disch:=try exact zo) only[go_sem,hl,ea,ZT,eRPs_in]|contradiction|rfl)
   ·have hil:i=vs.length:=by omega
    subst hil
    have hall:∀ v∈vs,canPR v:=fun v hv=>by
     obtain ⟨j,hj,rfl⟩:=List.getElem_of_mem hv
     exact hI.out j hj hj
    have hpb:∀ v∈vs.map ptR,BPt 6 v:=fun v hv'=>by
     obtain ⟨u,hu,rfl⟩:=List.mem_map.1 hv'
     exact ptR_bs6 (hv.out u hu)
    have hpc:=Hid.mk (show ∀ v∈vs.map ptR,CanP v from fun v hv'=>by
     obtain ⟨u,hu,rfl⟩:=List.mem_map.1 hv'
     exact ptR_can u)
    replace e3:=e3.out hall
    replace e4':=Hid.mk (e4'.out hall)
    replace e5:=Hid.mk (e5.out hall)
    rw[eRPs_can hall]at hl ⊢
    have hvl:vs.length=(vs.map ptR).length:=(List.length_map _).symm
    have hpn:(vs.map ptR).length≤1048576:=by rw[← hvl];exact hn
    clear hI e2 hv hall cn hl hvl
    generalize vs.map ptR=ps at *
    have hpl:(ps.map eP).length=ps.length:=List.length_map _
    replace hpb:=Hid.mk hpb
    by_cases q3:ps.length<3
    ·have h3:((ps.length:Int)<3)=True:=eq_true (by omega)
     rw[e3 q3]
     clear e3 e4' e5
     repeat' (first|refine zg ?_|(refine AW.cond rfl ?_ ?_<;>intro hc<;>first|simp only[NM]at hc|omega|skip)|refine zr ?_|refine ⟨by omega,?_⟩|(refine zb ?_ ?_<;>intro hg<;>(try rw[hg])<;>try simp only[NM]at hg)|omega|simp -dsimp (disch:=try exact zo) only[go_sem,hpl,h3]|contradiction|rfl)
    ·have h3:((ps.length:Int)<3)=False:=eq_false (by omega)
     replace e4':=Hid.mk (e4'.out q3)
     replace e5:=Hid.mk (e5.out q3)
     clear e3
     repeat' (first|refine zg ?_|(refine AW.cond rfl ?_ ?_<;>intro hc<;>first|simp only[NM]at hc|omega|skip)|refine zr ?_|refine ⟨by omega,?_⟩|(refine zb ?_ ?_<;>intro hg<;>(try rw[hg])<;>try simp only[NM]at hg)|omega|simp -dsimp (disch:=try exact zo) only[go_sem,hpl,h3]|contradiction|rfl)
     refine AW.loop (fun z:{i:Nat // i≤ps.length∧Hid (∀ j (h:j<ps.length),j<i→sideP p ps[j]=0)}=>⟨[(47,.lit (.int .i64 z.1)),(45,.sl (ps.map eP)),(46,.lit (.int .i64 ps.length)),(1,.loc 8 0)],[(8,.blk [.lit (.bool (Zn p.a)),.lit (.string (Zm p.a)),.lit (.bool (Zn p.b)),.lit (.string (Zm p.b)),.lit (.bool (Zn p.c)),.lit (.string (Zm p.c)),.lit (.bool (Zn p.d)),.lit (.string (Zm p.d)),.sl (ps.map eP)])],100⟩) (fun z=>ps.length - z.1) ⟨0,Nat.zero_le _,Hid.mk (fun j _ h=>absurd h (Nat.not_lt_zero _))⟩ (Weak.t4 (by refine ⟨?_,?_,?_,?_⟩<;>simp -dsimp (disch:=try exact zo) only[go_sem,eP_in,ZC])) ?_
     rintro ⟨i,hi',hI⟩
     dsimp only
     by_cases hlt':i<ps.length
     ·have ea:=eP_getD ps i hlt'
      have hb:=hpb.out _ (List.getElem_mem hlt')
      have e4i:=e4'.out i hlt'
      have hI1:=Hid.mk (show sideP p ps[i]=0→∀ j (h:j<ps.length),j<i+1→sideP p ps[j]=0 from fun hx j h h2=>by
       by_cases q:j=i
       ·subst q;exact hx
       ·exact hI.out j h (by omega))
      generalize ps[i]=x at *
      have cs:=c50 p x (hp.mono (by decide)) (hb.mono (by decide))
      by_cases q:sideP p x=0
      ·have k1:=eq_true q
       rw[q]at cs
       replace hI1:=Hid.mk (hI1.out q)
       clear e4i q
       have k1:True:=trivial
       simp only[eP,e4]at ea
       simp only[eH,e4]at cs
       repeat' (first|refine zg ?_|(refine AW.cond rfl ?_ ?_<;>intro hc<;>first|simp only[NM]at hc|omega|skip)|refine zr ?_|(refine callV.flat _ yfn_50 cs rfl rfl ?_)|refine ⟨by omega,?_⟩|(refine zb ?_ ?_<;>intro hg<;>(try rw[hg])<;>try simp only[NM]at hg)|omega|simp -dsimp (disch:=try exact zo) only[go_sem,hpl,ea,k1,ZT,eP_in]|contradiction|rfl)
       all_goals exact AW.stop ⟨⟨i+1,by omega,hI1⟩,(Weak.t4 (by refine ⟨?_,?_,?_,?_⟩<;>simp -dsimp (disch:=try exact zo) only[go_sem,eP_in,ZC])),by dsimp only;omega⟩
      ·rw[e4i q]
       have k1:=eq_false q
       clear e4i hI1 e4' e5 hI
       generalize sideP p x=s at *
       simp only[eP,e4]at ea
       simp only[eH,e4]at cs
       repeat' (first|refine zg ?_|(refine AW.cond rfl ?_ ?_<;>intro hc<;>first|simp only[NM]at hc|omega|skip)|refine zr ?_|(refine callV.flat _ yfn_50 cs rfl rfl ?_)|refine ⟨by omega,?_⟩|(refine zb ?_ ?_<;>intro hg<;>(try rw[hg])<;>try simp only[NM]at hg)|omega|simp -dsimp (disch:=try exact zo) only[go_sem,hpl,ea,k1,ZT,eP_in]|contradiction|rfl)
     ·have hil:i=ps.length:=by omega
      subst hil
      have e0:=Hid.mk (show (∀ i,i<ps.length→leftAt p ps i)→e=0 from fun h=>by
       have:=e5.out (fun j h=>hI.out j h h) true ⟨fun _=>lefts_iff.2 h,fun _=>rfl⟩
       simpa using this)
      have e1:=Hid.mk (show ¬ Lefts p ps→e=1 from fun h=>by
       have:=e5.out (fun j h=>hI.out j h h) false ⟨fun k=>(Bool.false_ne_true k).elim,fun k=>absurd k h⟩
       simpa using this)
      have hcp:∀ v∈ps,CanP v:=hpc.out
      clear e4' e5 hI hpc
      replace hcp:=Hid.mk hcp
      repeat' (first|refine zg ?_|(refine AW.cond rfl ?_ ?_<;>intro hc<;>first|simp only[NM]at hc|omega|skip)|refine zr ?_|refine ⟨by omega,?_⟩|(refine zb ?_ ?_<;>intro hg<;>(try rw[hg])<;>try simp only[NM]at hg)|omega|simp -dsimp (disch:=try exact zo) only[go_sem,hpl]|contradiction|rfl)
      refine AW.loop (fun z:{i:Nat // i≤ps.length∧Hid (∀ i',i'<i→leftAt p ps i')}=>⟨[(60,.lit (.int .i64 z.1)),(58,.sl (ps.map eP)),(59,.lit (.int .i64 ps.length)),(1,.loc 8 0)],[(8,.blk [.lit (.bool (Zn p.a)),.lit (.string (Zm p.a)),.lit (.bool (Zn p.b)),.lit (.string (Zm p.b)),.lit (.bool (Zn p.c)),.lit (.string (Zm p.c)),.lit (.bool (Zn p.d)),.lit (.string (Zm p.d)),.sl (ps.map eP)])],150⟩) (fun z=>ps.length - z.1) ⟨0,Nat.zero_le _,Hid.mk (fun i' h=>absurd h (Nat.not_lt_zero _))⟩ (Weak.t4 (by refine ⟨?_,?_,?_,?_⟩<;>simp -dsimp (disch:=try exact zo) only[go_sem,eP_in,ZC])) ?_
      rintro ⟨i,hi,hI⟩
      dsimp only
      by_cases hlt:i<ps.length
      ·have ea:=eP_getD ps i hlt
       obtain ⟨k,hk⟩:∃ k,k=(i+1) % ps.length:=⟨_,rfl⟩
       have hm:((i:Int)+1) % (ps.length:Int)=(k:Int):=by rw[hk,Int.natCast_emod,Int.natCast_add];rfl
       have hkl:k<ps.length:=hk▸Nat.mod_lt _ (by omega)
       have ek:=eP_getD ps k hkl
       have hb:=hpb.out _ (List.getElem_mem hlt)
       have hbk:=hpb.out _ (List.getElem_mem hkl)
       have ha:=hcp.out _ (List.getElem_mem hlt)
       have hak:=hcp.out _ (List.getElem_mem hkl)
       have hL:=Hid.mk (show (∀ j (hj:j<ps.length),j≠i→j≠k→0<leftP p ps[i] ps[k] ps[j])→∀ i',i'<i+1→leftAt p ps i' from fun h i' h'=>by
        by_cases e:i'=i
        ·subst e
         intro _ k' hk' j hj e' h1 h2
         have:k'=k:=e'.trans hk.symm
         subst this
         exact h j hj h1 h2
        ·exact hI.out i' (by omega))
       have hN:=Hid.mk (show ∀ j (hj:j<ps.length),j≠i→j≠k→¬ 0<leftP p ps[i] ps[k] ps[j]→e=1 from fun j hj h1 h2 h3=>e1.out fun h=>h3 (lefts_iff.1 h i hlt hlt k hkl j hj hk h1 h2))
       clear hk
       generalize ps[k]=b at *
       generalize ps[i]=a at *
       simp only[eP,e4]at ea
       repeat' (first|refine zg ?_|(refine AW.cond rfl ?_ ?_<;>intro hc<;>first|simp only[NM]at hc|omega|skip)|refine zr ?_|refine ⟨by omega,?_⟩|(refine zb ?_ ?_<;>intro hg<;>(try rw[hg])<;>try simp only[NM]at hg)|omega|simp -dsimp (disch:=try exact zo) only[go_sem,hpl,ea,hm,ZT,eP_in]|contradiction|rfl)
       refine AW.loop (fun z:{j:Nat // j≤ps.length∧Hid (∀ j' (h:j'<ps.length),j'<j→j'≠i→j'≠k→0<leftP p a b ps[j'])}=>⟨[(74,.lit (.int .i64 z.1)),(72,.sl (ps.map eP)),(73,.lit (.int .i64 ps.length)),(9,.lit (.int .i64 i)),(10,.loc 154 0),(11,.lit (.int .i64 k)),(60,.lit (.int .i64 i)),(58,.sl (ps.map eP)),(59,.lit (.int .i64 ps.length)),(1,.loc 8 0)],[(154,.blk (eP a)),(8,.blk [.lit (.bool (Zn p.a)),.lit (.string (Zm p.a)),.lit (.bool (Zn p.b)),.lit (.string (Zm p.b)),.lit (.bool (Zn p.c)),.lit (.string (Zm p.c)),.lit (.bool (Zn p.d)),.lit (.string (Zm p.d)),.sl (ps.map eP)])],200⟩) (fun z=>ps.length - z.1) ⟨0,Nat.zero_le _,Hid.mk (fun j' _ h=>absurd h (Nat.not_lt_zero _))⟩ (Weak.t4 (by refine ⟨?_,?_,?_,?_⟩<;>simp -dsimp (disch:=try exact zo) only[go_sem,eP_in,ZC])) ?_
       rintro ⟨j,hj,hJ⟩
       dsimp only
       by_cases hjt:j<ps.length
       ·have ej:=eP_getD ps j hjt
        have hbj:=hpb.out _ (List.getElem_mem hjt)
        have haj:=hcp.out _ (List.getElem_mem hjt)
        have hNj:=hN.out j hjt
        have hJ1:=Hid.mk (show (j≠i→j≠k→0<leftP p a b ps[j])→∀ j' (h:j'<ps.length),j'<j+1→j'≠i→j'≠k→0<leftP p a b ps[j']from fun h j' h1 h2 h3 h4=>by
         by_cases e:j'=j
         ·subst e;exact h h3 h4
         ·exact hJ.out j' h1 (by omega) h3 h4)
        generalize ps[j]=x at *
        have cl:=c177 p a b x (hp.mono (by decide)) ha hak haj (hb.mono (by decide)) (hbk.mono (by decide)) (hbj.mono (by decide))
        have hsg:=left_sg p ha hak haj
        generalize sg (Geo.ori (tH p).n (tv a) (tv b) (tv x)).num=s at *
        simp only[eP,e4]at ej ek
        by_cases q1:j=i
        ·have k1:((j:Int)=(i:Int))=True:=eq_true (by omega)
         have k2:True:=trivial
         have k3:True:=trivial
         clear hNj cl hsg
         repeat' (first|refine zg ?_|(refine AW.cond rfl ?_ ?_<;>intro hc<;>first|simp only[NM]at hc|omega|skip)|refine zr ?_|(refine callV.flat _ yfn_177 cl rfl rfl ?_)|refine ⟨by omega,?_⟩|(refine zb ?_ ?_<;>intro hg<;>(try rw[hg])<;>try simp only[NM]at hg)|omega|simp -dsimp (disch:=try exact zo) only[go_sem,hpl,ej,ek,k1,k2,k3,ZT,eP_in]|contradiction|rfl)
         all_goals exact AW.stop ⟨⟨j+1,by omega,Hid.mk (hJ1.out fun h=>absurd q1 h)⟩,(Weak.t4 (by refine ⟨?_,?_,?_,?_⟩<;>simp -dsimp (disch:=try exact zo) only[go_sem,eP_in,ZC])),by dsimp only;omega⟩
        ·have k1:((j:Int)=(i:Int))=False:=eq_false (by omega)
         by_cases q2:j=k
         ·have k2:((j:Int)=(k:Int))=True:=eq_true (by omega)
          have k3:True:=trivial
          clear hNj cl hsg
          repeat' (first|refine zg ?_|(refine AW.cond rfl ?_ ?_<;>intro hc<;>first|simp only[NM]at hc|omega|skip)|refine zr ?_|(refine callV.flat _ yfn_177 cl rfl rfl ?_)|refine ⟨by omega,?_⟩|(refine zb ?_ ?_<;>intro hg<;>(try rw[hg])<;>try simp only[NM]at hg)|omega|simp -dsimp (disch:=try exact zo) only[go_sem,hpl,ej,ek,k1,k2,k3,ZT,eP_in]|contradiction|rfl)
          all_goals exact AW.stop ⟨⟨j+1,by omega,Hid.mk (hJ1.out fun _ h=>absurd q2 h)⟩,(Weak.t4 (by refine ⟨?_,?_,?_,?_⟩<;>simp -dsimp (disch:=try exact zo) only[go_sem,eP_in,ZC])),by dsimp only;omega⟩
         ·have k2:((j:Int)=(k:Int))=False:=eq_false (by omega)
          by_cases q3:0<leftP p a b x
          ·have k3:(s≤0)=False:=eq_false (fun h=>hsg.1 h q3)
           clear hNj hsg
           repeat' (first|refine zg ?_|(refine AW.cond rfl ?_ ?_<;>intro hc<;>first|simp only[NM]at hc|omega|skip)|refine zr ?_|(refine callV.flat _ yfn_177 cl rfl rfl ?_)|refine ⟨by omega,?_⟩|(refine zb ?_ ?_<;>intro hg<;>(try rw[hg])<;>try simp only[NM]at hg)|omega|simp -dsimp (disch:=try exact zo) only[go_sem,hpl,ej,ek,k1,k2,k3,ZT,eP_in]|contradiction|rfl)
           all_goals exact AW.stop ⟨⟨j+1,by omega,Hid.mk (hJ1.out fun _ _=>q3)⟩,(Weak.t4 (by refine ⟨?_,?_,?_,?_⟩<;>simp -dsimp (disch:=try exact zo) only[go_sem,eP_in,ZC])),by dsimp only;omega⟩
          ·rw[hNj q1 q2 q3]
           have k3:(s≤0)=True:=eq_true (hsg.2 q3)
           clear hNj hJ1 hN hL hI hJ hsg e0 e1
           repeat' (first|refine zg ?_|(refine AW.cond rfl ?_ ?_<;>intro hc<;>first|simp only[NM]at hc|omega|skip)|refine zr ?_|(refine callV.flat _ yfn_177 cl rfl rfl ?_)|refine ⟨by omega,?_⟩|(refine zb ?_ ?_<;>intro hg<;>(try rw[hg])<;>try simp only[NM]at hg)|omega|simp -dsimp (disch:=try exact zo) only[go_sem,hpl,ej,ek,k1,k2,k3,ZT,eP_in]|contradiction|rfl)
       ·have hjl:j=ps.length:=by omega
        subst hjl
        have hI':=hL.out fun j hj h1 h2=>hJ.out j hj hj h1 h2
        replace hI':=Hid.mk hI'
        repeat' (first|refine zg ?_|(refine AW.cond rfl ?_ ?_<;>intro hc<;>first|simp only[NM]at hc|omega|skip)|refine zr ?_|refine ⟨by omega,?_⟩|(refine zb ?_ ?_<;>intro hg<;>(try rw[hg])<;>try simp only[NM]at hg)|omega|simp -dsimp (disch:=try exact zo) only[go_sem,hpl]|contradiction|rfl)
        all_goals exact AW.stop ⟨⟨i+1,by omega,hI'⟩,(Weak.t4 (by refine ⟨?_,?_,?_,?_⟩<;>simp -dsimp (disch:=try exact zo) only[go_sem,eP_in,ZC])),by dsimp only;omega⟩
      ·have hil:i=ps.length:=by omega
       subst hil
       rw[e0.out fun i h=>hI.out i h]
       clear hI e0 e1
       repeat' (first|refine zg ?_|(refine AW.cond rfl ?_ ?_<;>intro hc<;>first|simp only[NM]at hc|omega|skip)|refine zr ?_|refine ⟨by omega,?_⟩|(refine zb ?_ ?_<;>intro hg<;>(try rw[hg])<;>try simp only[NM]at hg)|omega|simp -dsimp (disch:=try exact zo) only[go_sem,hpl]|contradiction|rfl)
  ·have h1:¬ canHR r:=fun h=>hc h.2
   rw[chk1 h1]
   clear hz h1 hv hr
   generalize nrmR r=q at *
   have hne:¬ (Zn q.a=r.n1∧Zm q.a=r.m1∧Zn q.b=r.n2∧Zm q.b=r.m2∧Zn q.c=r.n3∧Zm q.c=r.m3∧Zn q.d=r.n4∧Zm q.d=r.m4):=fun h=>hc (by
    unfold eRP eH e4
    obtain ⟨h1,h2,h3,h4,h5,h6,h7,h8⟩:=h
    rw[h1,h2,h3,h4,h5,h6,h7,h8])
   clear hc
   simp only[eRP,List.cons_append,List.nil_append,eH,e4]at cn ⊢
   repeat' (first|refine zg ?_|(refine AW.cond rfl ?_ ?_<;>intro hc<;>first|simp only[NM]at hc|omega|skip)|refine zr ?_|(refine callV.flat _ yfn_44 cn rfl rfl ?_)|refine ⟨by omega,?_⟩|(refine zb ?_ ?_<;>intro hg<;>(try rw[hg])<;>try simp only[NM]at hg)|omega|simp -dsimp (disch:=try exact zo) only[go_sem,hl]|contradiction|rfl)
end Go.Proofs.Vx
namespace Go.Proofs.Vx
open Go Go.Sx Go.Proofs
attribute [local irreducible] fnT CallOK CallFr AW effV callV runP runO oneP oneO gcaseP hid
theorem left_aba (p:Pl) (a b:Pt):leftP p a b a=0:=by
 unfold leftP
 simp only[Int.sub_self,Int.mul_zero,Int.zero_mul,Int.add_zero]
theorem left_aax (p:Pl) (a x:Pt):leftP p a a x=0:=by
 unfold leftP
 simp only[Int.sub_self,Int.mul_zero,Int.zero_mul,Int.add_zero]
theorem lefts_nodup {p:Pl} {vs:List Pt} (H:Lefts p vs) (h3:3≤vs.length):vs.Nodup:=by
 refine List.pairwise_iff_getElem.2 fun i j hi hj hij e=>?_
 have hk:(i+1) % vs.length=i+1:=Nat.mod_eq_of_lt (by omega)
 by_cases q:j=i+1
 ·subst q
  obtain ⟨m,hm,h1,h2⟩:∃ m,m<vs.length∧m≠i∧m≠i+1:=by
   by_cases i0:i=0
   ·exact ⟨2,by omega,by omega,by omega⟩
   ·exact ⟨0,by omega,by omega,by omega⟩
  have:=H.out i hi (i+1) hj m hm hk.symm h1 h2
  rw[← e,left_aax]at this
  omega
 ·have:=H.out i hi (i+1) (by omega) j hj hk.symm (by omega) q
  rw[← e,left_aba]at this
  omega
theorem edge_rev {vs:List Pt} (nd:vs.Nodup) (h3:3≤vs.length) {e:Pt × Pt} (he:e∈Geo.edges vs):Geo.sw e∉Geo.edges vs:=by
 intro hs
 obtain ⟨i,hi,e1⟩:=List.mem_iff_getElem.1 he
 obtain ⟨j,hj,e2⟩:=List.mem_iff_getElem.1 hs
 rw[Geo.edges_length]at hi hj
 rw[edges_get vs i hi]at e1
 rw[edges_get vs j hj]at e2
 subst e1
 unfold Geo.sw at e2
 have a1:=nd_inj nd _ _ (congrArg Prod.fst e2)
 have a2:=nd_inj nd _ _ (congrArg Prod.snd e2)
 by_cases q:i+1<vs.length
 ·rw[Nat.mod_eq_of_lt q]at a1
  subst a1
  by_cases q2:i+1+1<vs.length
  ·rw[Nat.mod_eq_of_lt q2]at a2;omega
  ·have:i+1+1=vs.length:=by omega
   rw[this,Nat.mod_self]at a2
   omega
 ·have:i+1=vs.length:=by omega
  rw[this,Nat.mod_self]at a1
  subst a1
  rw[Nat.mod_eq_of_lt (by omega)]at a2
  omega
def edg (l:PCell) (i:Nat):List (Pt × Pt):=match l[i]? with|some s=>Geo.edges s.2|none=>[]
theorem edg_get (l:PCell) (i:Nat) (h:i<l.length):edg l i=Geo.edges l[i].2:=by unfold edg;rw[List.getElem?_eq_getElem h]
def cntN (l:PCell) (but:Nat) (e:Pt × Pt):Nat→Nat
 | 0=>0
 | i+1=>cntN l but e i+if i=but then 0 else (edg l i).count e
theorem cntN_take (l:PCell) (but:Nat) (e:Pt × Pt) (i:Nat) (hi:i≤l.length):cntN l but e i+(if but<i then (edg l but).count e else 0)=(esP (l.take i)).count e:=by
 induction i with
 | zero=>simp[cntN,esP]
 | succ i ih =>
  have ih:=ih (by omega)
  rw[esP_succ l i (by omega),List.count_append,← edg_get l i (by omega),show cntN l but e (i+1)=cntN l but e i+if i=but then 0 else (edg l i).count e from rfl]
  by_cases q:i=but
  ·subst q
   rw[if_neg (by omega)]at ih
   rw[if_pos rfl,if_pos (by omega)]
   omega
  ·rw[if_neg q]
   by_cases q2:but<i
   ·rw[if_pos q2]at ih
    rw[if_pos (by omega)];omega
   ·rw[if_neg q2]at ih
    rw[if_neg (by omega)];omega
theorem cntN_all (l:PCell) (but:Nat) (e:Pt × Pt) (h:but<l.length):cntN l but e l.length+(edg l but).count e=(esP l).count e:=by
 have:=cntN_take l but e l.length (Nat.le_refl _)
 rwa [if_pos h,List.take_length]at this
def clsA (l:PCell):Prop:=∀ e∈esP l,(esP l).count e=1∧(esP l).count (Geo.sw e)=1
def clsB (l:PCell):Prop:=∀ i (h:i<l.length),∀ e∈Geo.edges l[i].2,cntN l i (Geo.sw e) l.length=1
theorem clsAB {l:PCell} (hf:∀ s∈l,FineG s.1 s.2):clsA l↔clsB l:=by
 have key:∀ i (h:i<l.length),∀ e∈Geo.edges l[i].2,cntN l i (Geo.sw e) l.length=(esP l).count (Geo.sw e):=fun i h e he=>by
  have f:=hf _ (List.getElem_mem h)
  have h0:(edg l i).count (Geo.sw e)=0:=by
   rw[edg_get l i h]
   exact List.count_eq_zero.2 (edge_rev (lefts_nodup f.lefts f.three) f.three he)
  have:=cntN_all l i (Geo.sw e) h
  omega
 have mem:∀ e,e∈esP l↔∃ i,∃ h:i<l.length,e∈Geo.edges l[i].2:=fun e=>by
  unfold esP
  rw[List.mem_flatMap]
  constructor
  ·rintro ⟨s,hs,he⟩
   obtain ⟨i,hi,rfl⟩:=List.getElem_of_mem hs
   exact ⟨i,hi,he⟩
  ·rintro ⟨i,hi,he⟩
   exact ⟨_,List.getElem_mem hi,he⟩
 constructor
 ·intro h i hi e he
  rw[key i hi e he]
  exact (h e ((mem e).2 ⟨i,hi,he⟩)).2
 ·intro h
  have h2:∀ e∈esP l,(esP l).count (Geo.sw e)=1:=fun e he=>by
   obtain ⟨i,hi,he⟩:=(mem e).1 he
   rw[← key i hi e he]
   exact h i hi e he
  intro e he
  refine ⟨?_,h2 e he⟩
  have hs:Geo.sw e∈esP l:=List.count_pos_iff.1 (by rw[h2 e he];decide)
  have:=h2 _ hs
  rwa [show Geo.sw (Geo.sw e)=e from rfl]at this
end Go.Proofs.Vx
namespace Go.Proofs.Vx
open Go Go.Sx Go.Proofs
attribute [local irreducible] fnT CallOK CallFr AW effV callV runP runO oneP oneO gcaseP hid
theorem yfn_178:fnT Tryz.prog 178=true:=by kernel_rfl
def cJ (l:PCell) (but:Nat) (e:Pt × Pt) (i:Nat) (vs:List Pt) (j:Nat):Nat:=cntN l but e i+if i=but then 0 else ((Geo.edges vs).take j).count e
theorem cJ_zero (l:PCell) (but:Nat) (e:Pt × Pt) (i:Nat) (vs:List Pt):cJ l but e i vs 0=cntN l but e i:=by unfold cJ;simp
theorem cJ_all (l:PCell) (but:Nat) (e:Pt × Pt) (i:Nat) (h:i<l.length):cJ l but e i l[i].2 l[i].2.length=cntN l but e (i+1):=by
 unfold cJ
 rw[List.take_of_length_le (by rw[Geo.edges_length];exact Nat.le_refl _),← edg_get l i h]
 rfl
theorem cJ_but (l:PCell) (e:Pt × Pt) (i:Nat) (vs:List Pt) (j:Nat):cJ l i e i vs j=cntN l i e i:=by unfold cJ;simp
theorem cJ_succ (l:PCell) (but:Nat) (e:Pt × Pt) (i:Nat) (vs:List Pt) (j:Nat) (hb:i≠but) (h:j<vs.length):cJ l but e i vs (j+1)=cJ l but e i vs j+if vs[j]=e.1∧vs[(j+1) % vs.length]'(Nat.mod_lt _ (by omega))=e.2 then 1 else 0:=by
 unfold cJ
 rw[if_neg hb,if_neg hb,edges_take vs j h,List.count_append,List.count_singleton]
 have:((vs[j],vs[(j+1) % vs.length]'(Nat.mod_lt _ (by omega))) == e)=decide (vs[j]=e.1∧vs[(j+1) % vs.length]'(Nat.mod_lt _ (by omega))=e.2):=by
  rw[Bool.eq_iff_iff,beq_iff_eq,decide_eq_true_iff]
  constructor
  ·intro h;exact ⟨congrArg Prod.fst h,congrArg Prod.snd h⟩
  ·rintro ⟨h1,h2⟩;exact Prod.ext h1 h2
 rw[this]
 by_cases q:vs[j]=e.1∧vs[(j+1) % vs.length]'(Nat.mod_lt _ (by omega))=e.2
 ·rw[if_pos q,decide_eq_true q];simp;omega
 ·rw[if_neg q,decide_eq_false q];simp
theorem cntN_le {S M K:Nat} {l:PCell} (hB:Bd S M K l) (but:Nat) (e:Pt × Pt) (i:Nat) (hi:i≤l.length):cntN l but e i≤S*M:=by
 have h1:=cntN_take l but e i hi
 have h2:=List.count_le_length (a:=e) (l:=esP (l.take i))
 have h3:=esP_len (l:=l.take i) (M:=M) fun s hs=>hB.m s (List.mem_of_mem_take hs)
 rw[List.length_take]at h3
 have h4:min i l.length*M≤S*M:=Nat.mul_le_mul_right _ (by have:=hB.n;omega)
 omega
theorem cJ_le {S M K:Nat} {l:PCell} (hB:Bd S M K l) (but:Nat) (e:Pt × Pt) (i:Nat) (hi:i≤l.length) (vs:List Pt) (j:Nat):cJ l but e i vs j≤S*M+j:=by
 unfold cJ
 have h1:=cntN_le hB but e i hi
 have h2:=List.count_le_length (a:=e) (l:=(Geo.edges vs).take j)
 rw[List.length_take]at h2
 split<;>omega
theorem ptne {x a:Pt} (h:x≠a):¬ (x.x=a.x∧x.y=a.y∧x.z=a.z∧x.w=a.w):=fun k=>h (pt_ext k)
set_option maxHeartbeats 40000000 in
theorem c178 (l:PCell) (but:Nat) (a b:Pt) (hB:BdC l) (hbut:but<l.length):CallOK Tryz.prog 178 [.agg [.sl (eS l)],.lit (.int .i64 but),.agg (eP a),.agg (eP b)] [] (.lit (.int .i64 (cntN l but (a,b) l.length))) []:=by
 refine CallOK.flat Tryz.func178 rfl 58 rfl rfl rfl [.tmp 8] (congrArg Array.toList Tryz.results178) ?_
 simp only[startT,Nat.reduceAdd]
 have hml:maxLen=9223372036854775807:=rfl
 have hl:(eS l).length=l.length:=List.length_map _
 have hln:=hB.n
 have hc0:cntN l but (a,b) 0=0:=rfl
 have hcl:=Hid.mk (fun i (hi:i≤l.length)=>cntN_le hB but (a,b) i hi)
 have hcj:=Hid.mk (fun i (hi:i≤l.length) vs j=>cJ_le hB but (a,b) i hi vs j)
 have hvm:=Hid.mk hB.m
 clear hB
 repeat' (first|refine zg ?_|(refine AW.cond rfl ?_ ?_<;>intro hc<;>first|simp only[NM]at hc|omega|skip)|refine zr ?_|refine ⟨by omega,?_⟩|(refine zb ?_ ?_<;>intro hg<;>(try rw[hg])<;>try simp only[NM]at hg)|omega|simp -dsimp (disch:=try exact zo) only[go_sem,hl]|contradiction|rfl)
 refine AW.loop (fun z:{i:Nat // i≤l.length}=>⟨[(10,.lit (.int .i64 z.1)),(9,.lit (.int .i64 (cntN l but (a,b) z.1))),(1,.lit (.int .i64 but)),(4,.loc 8 0),(6,.loc 9 0),(7,.loc 10 0)],[(8,.blk [.sl (eS l)]),(9,.blk (eP a)),(10,.blk (eP b))],60⟩) (fun z=>l.length - z.1) ⟨0,Nat.zero_le _⟩ (Weak.t4 (by refine ⟨?_,?_,?_,?_⟩<;>simp -dsimp (disch:=try exact zo) only[go_sem,eS_in,eP_in,hc0,ZC])) ?_
 rintro ⟨i,hi⟩
 dsimp only
 by_cases hlt:i<l.length
 ·have es1:=eS_getD l i hlt
  have hfin0:=cJ_all l but (a,b) i hlt
  have hvn:=hvm.out _ (List.getElem_mem hlt)
  generalize l[i]=sd at *
  obtain ⟨sp,vs⟩:=sd
  dsimp only at es1 hvn hfin0
  simp only[eG]at es1
  have hvl:(vs.map eP).length=vs.length:=List.length_map _
  have hz:=cJ_zero l but (a,b) i vs
  repeat' (first|refine zg ?_|(refine AW.cond rfl ?_ ?_<;>intro hc<;>first|simp only[NM]at hc|omega|skip)|refine zr ?_|refine ⟨by omega,?_⟩|(refine zb ?_ ?_<;>intro hg<;>(try rw[hg])<;>try simp only[NM]at hg)|omega|simp -dsimp (disch:=try exact zo) only[go_sem,hl,es1,hvl,ZT,zl,eS_in,eP_in]|contradiction|rfl)
  refine AW.loop (fun z:{j:Nat // j≤vs.length}=>⟨[(12,.lit (.int .i64 z.1)),(11,.sl (vs.map eP)),(10,.lit (.int .i64 i)),(9,.lit (.int .i64 (cJ l but (a,b) i vs z.1))),(1,.lit (.int .i64 but)),(4,.loc 8 0),(6,.loc 9 0),(7,.loc 10 0)],[(8,.blk [.sl (eS l)]),(9,.blk (eP a)),(10,.blk (eP b))],80⟩) (fun z=>vs.length - z.1) ⟨0,Nat.zero_le _⟩ (Weak.t4 (by refine ⟨?_,?_,?_,?_⟩<;>simp -dsimp (disch:=try exact zo) only[go_sem,eS_in,eP_in,cJ_zero,ZC])) ?_
  rintro ⟨j,hj⟩
  dsimp only
  have hle:=hcj.out i hi vs j
  by_cases hjt:j<vs.length
  ·have ex:=eP_getD vs j hjt
   obtain ⟨k,hk⟩:∃ k,k=(j+1) % vs.length:=⟨_,rfl⟩
   have hm:((j:Int)+1) % (vs.length:Int)=(k:Int):=by rw[hk,Int.natCast_emod,Int.natCast_add];rfl
   have hkl:k<vs.length:=hk▸Nat.mod_lt _ (by omega)
   have ey:=eP_getD vs k hkl
   by_cases q1:i=but
   ·have k1:((i:Int)=(but:Int))=True:=eq_true (by omega)
    have k2:True:=trivial
    have k3:True:=trivial
    have hst:cJ l but (a,b) i vs (j+1)=cJ l but (a,b) i vs j:=by subst q1;rw[cJ_but,cJ_but]
    clear hfin0 hz hcl hcj hvm hk
    generalize cJ l but (a,b) i vs j=n at *
    generalize vs[j]=x at *
    generalize vs[k]=y at *
    simp only[eP,e4]at ex ey
    repeat' (first|refine zg ?_|(refine AW.cond rfl ?_ ?_<;>intro hc<;>first|simp only[NM]at hc|omega|skip)|refine zr ?_|refine ⟨by omega,?_⟩|(refine zb ?_ ?_<;>intro hg<;>(try rw[hg])<;>try simp only[NM]at hg)|omega|simp -dsimp (disch:=try exact zo) only[go_sem,hvl,ex,ey,hm,k1,k2,k3,ZT,eP_in,eS_in]|contradiction|rfl)
    all_goals exact AW.stop ⟨⟨j+1,by omega⟩,(Weak.t4 (by refine ⟨?_,?_,?_,?_⟩<;>simp -dsimp (disch:=try exact zo) only[go_sem,eS_in,eP_in,hst,ZC])),by dsimp only;omega⟩
   ·have k1:((i:Int)=(but:Int))=False:=eq_false (by omega)
    have hst0:cJ l but (a,b) i vs (j+1)=cJ l but (a,b) i vs j+if vs[j]=a∧vs[k]=b then 1 else 0:=by
     have h:=cJ_succ l but (a,b) i vs j q1 hjt
     simp only[← hk]at h
     exact h
    clear hfin0 hz hcl hcj hvm hk
    generalize cJ l but (a,b) i vs j=n at *
    generalize vs[j]=x at *
    generalize vs[k]=y at *
    simp only[eP,e4]at ex ey
    by_cases q2:x=a
    ·by_cases q3:y=b
     ·rw[if_pos ⟨q2,q3⟩]at hst0
      subst q2 q3
      have k2:True:=trivial
      have k3:True:=trivial
      have hst:=hst0
      clear hst0
      repeat' (first|refine zg ?_|(refine AW.cond rfl ?_ ?_<;>intro hc<;>first|simp only[NM]at hc|omega|skip)|refine zr ?_|refine ⟨by omega,?_⟩|(refine zb ?_ ?_<;>intro hg<;>(try rw[hg])<;>try simp only[NM]at hg)|omega|simp -dsimp (disch:=try exact zo) only[go_sem,hvl,ex,ey,hm,k1,k2,k3,ZT,eP_in,eS_in]|contradiction|rfl)
      all_goals exact AW.stop ⟨⟨j+1,by omega⟩,(Weak.t4 (by refine ⟨?_,?_,?_,?_⟩<;>simp -dsimp (disch:=try exact zo) only[go_sem,eS_in,eP_in,hst,ZC])),by dsimp only;omega⟩
     ·rw[if_neg (fun h=>q3 h.2)]at hst0
      have k3:True:=trivial
      have hn3:=ptne q3
      have k2:True:=trivial
      subst q2
      have hst:=hst0
      clear hst0
      repeat' (first|refine zg ?_|(refine AW.cond rfl ?_ ?_<;>intro hc<;>first|simp only[NM]at hc|omega|skip)|refine zr ?_|refine ⟨by omega,?_⟩|(refine zb ?_ ?_<;>intro hg<;>(try rw[hg])<;>try simp only[NM]at hg)|omega|simp -dsimp (disch:=try exact zo) only[go_sem,hvl,ex,ey,hm,k1,k2,k3,ZT,eP_in,eS_in]|contradiction|rfl)
      all_goals exact AW.stop ⟨⟨j+1,by omega⟩,(Weak.t4 (by refine ⟨?_,?_,?_,?_⟩<;>simp -dsimp (disch:=try exact zo) only[go_sem,eS_in,eP_in,hst,ZC])),by dsimp only;omega⟩
    ·rw[if_neg (fun h=>q2 h.1)]at hst0
     have k2:True:=trivial
     have hn2:=ptne q2
     have k3:True:=trivial
     have hst:=hst0
     clear hst0
     repeat' (first|refine zg ?_|(refine AW.cond rfl ?_ ?_<;>intro hc<;>first|simp only[NM]at hc|omega|skip)|refine zr ?_|refine ⟨by omega,?_⟩|(refine zb ?_ ?_<;>intro hg<;>(try rw[hg])<;>try simp only[NM]at hg)|omega|simp -dsimp (disch:=try exact zo) only[go_sem,hvl,ex,ey,hm,k1,k2,k3,ZT,eP_in,eS_in]|contradiction|rfl)
     all_goals exact AW.stop ⟨⟨j+1,by omega⟩,(Weak.t4 (by refine ⟨?_,?_,?_,?_⟩<;>simp -dsimp (disch:=try exact zo) only[go_sem,eS_in,eP_in,hst,ZC])),by dsimp only;omega⟩
  ·have hjl:j=vs.length:=by omega
   subst hjl
   have hfin:=hfin0.symm
   clear hfin0 hz
   repeat' (first|refine zg ?_|(refine AW.cond rfl ?_ ?_<;>intro hc<;>first|simp only[NM]at hc|omega|skip)|refine zr ?_|refine ⟨by omega,?_⟩|(refine zb ?_ ?_<;>intro hg<;>(try rw[hg])<;>try simp only[NM]at hg)|omega|simp -dsimp (disch:=try exact zo) only[go_sem,hvl,eP_in,eS_in]|contradiction|rfl)
   all_goals exact AW.stop ⟨⟨i+1,by omega⟩,(Weak.t4 (by refine ⟨?_,?_,?_,?_⟩<;>simp -dsimp (disch:=try exact zo) only[go_sem,eS_in,eP_in,hfin,ZC])),by dsimp only;omega⟩
 ·have hil:i=l.length:=by omega
  subst hil
  repeat' (first|refine zg ?_|(refine AW.cond rfl ?_ ?_<;>intro hc<;>first|simp only[NM]at hc|omega|skip)|refine zr ?_|refine ⟨by omega,?_⟩|(refine zb ?_ ?_<;>intro hg<;>(try rw[hg])<;>try simp only[NM]at hg)|omega|simp -dsimp (disch:=try exact zo) only[go_sem,hl]|contradiction|rfl)
end Go.Proofs.Vx
