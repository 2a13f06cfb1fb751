import Derived.Test.YtjlfgmhmalbiiaaGreatDoorProg
import Derived.Test.YtjlfgmhmalbiiaaGreatDoorU11
import Derived.Test.YtjlfgmhmalbiiaaGreatDoorU30
import Derived.Test.YtjlfgmhmalbiiaaGreatDoorU31
import Derived.Test.YtjlfgmhmalbiiaaGreatDoorU34
set_option linter.all false
namespace Go.Proofs.Vx
open Go Go.Sx Go.Proofs
attribute [local irreducible] fnT CallOK CallFr AW effV callV runP runO oneP oneO gcaseP hid
def canHR (r:RP):Prop:=¬ zeroR r∧eRP r=eH (nrmR r)
def canPR (x:RP):Prop:=eRP x=eP (ptR x)
open Classical in
noncomputable def chkG (r:RP) (vs:List RP):Int :=
 if ¬ canHR r then 3 else if ∃ v∈vs,¬ canPR v then 3 else if vs.length<3 then 4 else if ∃ v∈vs,sideP (nrmR r) (ptR v)≠0 then 2 else if Lefts (nrmR r) (vs.map ptR)then 0 else 1
theorem chk1 {r:RP} {vs:List RP} (h:¬ canHR r):chkG r vs=3:=by unfold chkG;rw[if_pos h]
theorem chk2 {r:RP} {vs:List RP} (h:canHR r) {v:RP} (hv:v∈vs) (hc:¬ canPR v):chkG r vs=3:=by unfold chkG;rw[if_neg (fun k=>k h),if_pos ⟨v,hv,hc⟩]
theorem chk3 {r:RP} {vs:List RP} (h:canHR r) (hv:∀ v∈vs,canPR v) (hn:vs.length<3):chkG r vs=4:=by
 unfold chkG
 rw[if_neg (fun k=>k h),if_neg (fun ⟨v,h1,h2⟩=>h2 (hv v h1)),if_pos hn]
theorem chk4 {r:RP} {vs:List RP} (h:canHR r) (hv:∀ v∈vs,canPR v) (hn:¬ vs.length<3) {v:RP} (hm:v∈vs) (hs:sideP (nrmR r) (ptR v)≠0):chkG r vs=2:=by
 unfold chkG
 rw[if_neg (fun k=>k h),if_neg (fun ⟨v,h1,h2⟩=>h2 (hv v h1)),if_neg hn,if_pos ⟨v,hm,hs⟩]
theorem chk5 {r:RP} {vs:List RP} (h:canHR r) (hv:∀ v∈vs,canPR v) (hn:¬ vs.length<3) (hs:∀ v∈vs,sideP (nrmR r) (ptR v)=0) {b:Bool} (hb:b=true↔Lefts (nrmR r) (vs.map ptR)):chkG r vs=if b=true then 0 else 1:=by
 unfold chkG
 rw[if_neg (fun k=>k h),if_neg (fun ⟨v,h1,h2⟩=>h2 (hv v h1)),if_neg hn,if_neg (fun ⟨v,h1,h2⟩=>h2 (hs v h1))]
 by_cases k:Lefts (nrmR r) (vs.map ptR)
 ·rw[if_pos k,if_pos (hb.2 k)]
 ·rw[if_neg k,if_neg (fun e=>k (hb.1 e))]
structure RB (K:Nat) (r:RP):Prop where
 a:r.m1.size≤K
 b:r.m2.size≤K
 c:r.m3.size≤K
 d:r.m4.size≤K
theorem RB.mono {K L:Nat} {r:RP} (h:RB K r) (hl:K≤L):RB L r:=⟨Nat.le_trans h.a hl,Nat.le_trans h.b hl,Nat.le_trans h.c hl,Nat.le_trans h.d hl⟩
theorem eRP_eq {r s:RP}:eRP r=eRP s↔r.n1=s.n1∧r.m1=s.m1∧r.n2=s.n2∧r.m2=s.m2∧r.n3=s.n3∧r.m3=s.m3∧r.n4=s.n4∧r.m4=s.m4:=by
 unfold eRP
 simp
theorem nrmR_bs {K:Nat} {r:RP} (h:RB K r) (hz:¬ zeroR r):BPl K (nrmR r):=by
 obtain ⟨d1,d2,d3,d4⟩:=g4_dvd (iv r.n1 r.m1) (iv r.n2 r.m2) (iv r.n3 r.m3) (iv r.n4 r.m4)
 have hG:0<g4 (iv r.n1 r.m1) (iv r.n2 r.m2) (iv r.n3 r.m3) (iv r.n4 r.m4):=by
  apply Nat.pos_of_ne_zero
  intro h0
  rw[h0]at d1 d2 d3
  exact hz ⟨by simpa using d1,by simpa using d2,by simpa using d3⟩
 have z1:=zs_iv r.n1 r.m1
 have z2:=zs_iv r.n2 r.m2
 have z3:=zs_iv r.n3 r.m3
 have z4:=zs_iv r.n4 r.m4
 have b1:=h.a
 have b2:=h.b
 have b3:=h.c
 have b4:=h.d
 exact ⟨⟨Nat.le_trans (zs_exact d1 hG) (by omega),Nat.le_trans (zs_exact d2 hG) (by omega),Nat.le_trans (zs_exact d3 hG) (by omega),Nat.le_trans (zs_exact d4 hG) (by omega)⟩⟩
theorem ptR_bs6 {x:RP} (h:RB 6 x):BPt 6 (ptR x):=⟨nrm_bs ⟨iv_zs h.a,iv_zs h.b,iv_zs h.c,iv_zs h.d⟩ (by decide)⟩
theorem eRPs_can {vs:List RP} (h:∀ v∈vs,canPR v):eRPs vs=(vs.map ptR).map eP:=by
 unfold eRPs
 rw[List.map_map]
 exact List.map_congr_left fun v hv=>h v hv
theorem c98r (x:RP) (h:RB 6 x):CallOK Tryz.prog 98 [.agg (eRP x)] [] (.agg (eP (ptR x))) []:=c98 x.n1 x.m1 x.n2 x.m2 x.n3 x.m3 x.n4 x.m4 (Nat.lt_of_le_of_lt h.a (by decide)) (Nat.lt_of_le_of_lt h.b (by decide)) (Nat.lt_of_le_of_lt h.c (by decide)) (Nat.lt_of_le_of_lt h.d (by decide))
set_option maxHeartbeats 16000000 in
theorem c117r (r:RP) (vs:List RP) (hn:vs.length≤1048576) (hr:RB 1048576 r) (hv:∀ v∈vs,RB 6 v):CallOK Tryz.prog 117 [.agg (eRP r++[.sl (eRPs vs)])] [] (.lit (.int .i64 (chkG r vs))) []:=by
 refine CallOK.flat Tryz.func117 rfl 55 rfl rfl rfl [.tmp 2] (congrArg Array.toList Tryz.results117) ?_
 simp only[startT,Nat.reduceAdd]
 have hml:maxLen=9223372036854775807:=rfl
 have hl:(eRPs vs).length=vs.length:=List.length_map _
 have cn:=c168 r.n1 r.m1 r.n2 r.m2 r.n3 r.m3 r.n4 r.m4 (Nat.lt_of_le_of_lt hr.a (by decide)) (Nat.lt_of_le_of_lt hr.b (by decide)) (Nat.lt_of_le_of_lt hr.c (by decide)) (Nat.lt_of_le_of_lt hr.d (by decide))
 by_cases hz:zeroR r
 ·rw[if_pos (show iv r.n1 r.m1=0∧iv r.n2 r.m2=0∧iv r.n3 r.m3=0 from hz)]at cn
  have h1:¬ canHR r:=fun h=>h.1 hz
  rw[chk1 h1]
  clear hz h1 hv hr
  simp only[eRP,List.cons_append,List.nil_append,eH,e4]at cn ⊢
  repeat' (first|refine zg ?_|(refine AW.cond rfl ?_ ?_<;>intro hc<;>first|simp only[NM]at hc|omega|skip)|refine zr ?_|(refine callV.flat _ yfn_168 cn rfl rfl ?_)|refine ⟨by omega,?_⟩|(refine zb ?_ ?_<;>intro hg<;>(try rw[hg])<;>try simp only[NM]at hg)|omega|simp -dsimp (disch:=try exact zo) only[go_sem,hl]|contradiction|rfl)
 ·rw[if_neg (show ¬ (iv r.n1 r.m1=0∧iv r.n2 r.m2=0∧iv r.n3 r.m3=0)from hz)]at cn
  change CallOK _ _ [.agg (eRP r)] _ (.tup [.agg (eH (nrmR r)),_]) _ at cn
  by_cases hc:eRP r=eH (nrmR r)
  ·have hcr:canHR r:=⟨hz,hc⟩
   have hp:=(nrmR_bs hr hz).mono (show 1048576≤1148576 by decide)
   have e2:=Hid.mk (show ∀ i (h:i<vs.length),¬ canPR vs[i]→chkG r vs=3 from fun i h hx=>chk2 hcr (List.getElem_mem h) hx)
   have e3:=Hid.mk (show (∀ v∈vs,canPR v)→(vs.map ptR).length<3→chkG r vs=4 from fun h1 h2=>chk3 hcr h1 (by rwa [List.length_map]at h2))
   have e4':=Hid.mk (show (∀ v∈vs,canPR v)→¬ (vs.map ptR).length<3→∀ i (h:i<(vs.map ptR).length),sideP (nrmR r) (vs.map ptR)[i]≠0→chkG r vs=2 from fun h1 h2 i h h3=>by
    rw[List.length_map]at h2 h
    rw[List.getElem_map]at h3
    exact chk4 hcr h1 h2 (List.getElem_mem h) h3)
   have e5:=Hid.mk (show (∀ v∈vs,canPR v)→¬ (vs.map ptR).length<3→(∀ i (h:i<(vs.map ptR).length),sideP (nrmR r) (vs.map ptR)[i]=0)→∀ b:Bool,(b=true↔Lefts (nrmR r) (vs.map ptR))→chkG r vs=if b=true then 0 else 1 from fun h1 h2 h3 b hb=>by
    rw[List.length_map]at h2
    refine chk5 hcr h1 h2 (fun v hv=>?_) hb
    obtain ⟨i,hi,rfl⟩:=List.getElem_of_mem hv
    have:=h3 i (by rwa [List.length_map])
    rwa [List.getElem_map]at this)
   rw[hc]at cn ⊢
   clear hcr hz hc hr
   generalize nrmR r=p at *
   generalize chkG r vs=e at *
   replace hv:=Hid.mk hv
   simp only[List.cons_append,List.nil_append,eH,e4]at cn ⊢
   repeat' (first|refine zg ?_|(refine AW.cond rfl ?_ ?_<;>intro hc<;>first|simp only[NM]at hc|omega|skip)|refine zr ?_|(refine callV.flat _ yfn_168 cn rfl rfl ?_)|refine ⟨by omega,?_⟩|(refine zb ?_ ?_<;>intro hg<;>(try rw[hg])<;>try simp only[NM]at hg)|omega|simp -dsimp (disch:=try exact zo) only[go_sem,hl]|contradiction|rfl)
   refine AW.loop (fun z:{i:Nat // i≤vs.length∧Hid (∀ j (h:j<vs.length),j<i→canPR vs[j])}=>⟨[(26,.lit (.int .i64 z.1)),(24,.sl (eRPs vs)),(25,.lit (.int .i64 vs.length)),(1,.loc 8 0)],[(8,.blk [.lit (.bool (Zn p.a)),.lit (.string (Zm p.a)),.lit (.bool (Zn p.b)),.lit (.string (Zm p.b)),.lit (.bool (Zn p.c)),.lit (.string (Zm p.c)),.lit (.bool (Zn p.d)),.lit (.string (Zm p.d)),.sl (eRPs vs)])],60⟩) (fun z=>vs.length - z.1) ⟨0,Nat.zero_le _,Hid.mk (fun j _ h=>absurd h (Nat.not_lt_zero _))⟩ (Weak.t4 (by refine ⟨?_,?_,?_,?_⟩<;>simp -dsimp (disch:=try exact zo) only[go_sem,eRPs_in,ZC])) ?_
   rintro ⟨i,hi,hI⟩
   dsimp only
   by_cases hlt:i<vs.length
   ·have ea:=eRPs_getD vs i hlt
    have cx:=c98r vs[i] (hv.out _ (List.getElem_mem hlt))
    have e2i:=e2.out i hlt
    have hI1:=Hid.mk (show canPR vs[i]→∀ j (h:j<vs.length),j<i+1→canPR vs[j]from fun hx j h h2=>by
     by_cases q:j=i
     ·subst q;exact hx
     ·exact hI.out j h (by omega))
    generalize vs[i]=x at *
    by_cases hx:canPR x
    ·replace hI1:=Hid.mk (hI1.out hx)
     unfold canPR at hx
     rw[hx]at ea cx
     clear e2i hx
     generalize ptR x=y at *
     simp only[eP,e4]at ea cx
     repeat' (first|refine zg ?_|(refine AW.cond rfl ?_ ?_<;>intro hc<;>first|simp only[NM]at hc|omega|skip)|refine zr ?_|(refine callV.flat _ yfn_98 cx rfl rfl ?_)|refine ⟨by omega,?_⟩|(refine zb ?_ ?_<;>intro hg<;>(try rw[hg])<;>try simp only[NM]at hg)|omega|simp -dsimp (disch:=try exact zo) only[go_sem,hl,ea,ZT,eRPs_in]|contradiction|rfl)
     all_goals exact AW.stop ⟨⟨i+1,by omega,hI1⟩,(Weak.t4 (by refine ⟨?_,?_,?_,?_⟩<;>simp -dsimp (disch:=try exact zo) only[go_sem,eRPs_in,ZC])),by dsimp only;omega⟩
    ·rw[e2i hx]
     have hne:¬ (Zn (ptR x).x=x.n1∧Zm (ptR x).x=x.m1∧Zn (ptR x).y=x.n2∧Zm (ptR x).y=x.m2∧Zn (ptR x).z=x.n3∧Zm (ptR x).z=x.m3∧Zn (ptR x).w=x.n4∧Zm (ptR x).w=x.m4):=fun h=>hx (by
      unfold canPR eRP eP e4
      obtain ⟨h1,h2,h3,h4,h5,h6,h7,h8⟩:=h
      rw[h1,h2,h3,h4,h5,h6,h7,h8])
     clear e2i hx hI1 e2 e3 e4' e5 hv hI
     generalize ptR x=y at *
     simp only[eP,e4,eRP]at ea cx
     repeat' (first|refine zg ?_|(refine AW.cond rfl ?_ ?_<;>intro hc<;>first|simp only[NM]at hc|omega|skip)|refine zr ?_|(refine callV.flat _ yfn_98 cx rfl rfl ?_)|refine ⟨by omega,?_⟩|(refine zb ?_ ?_<;>intro hg<;>(try rw[hg])<;>try simp only[NM]at hg)|omega|simp -dsimp (disch:=try exact zo) only[go_sem,hl,ea,ZT,eRPs_in]|contradiction|rfl)
   ·have hil:i=vs.length:=by omega
    subst hil
    have hall:∀ v∈vs,canPR v:=fun v hv=>by
     obtain ⟨j,hj,rfl⟩:=List.getElem_of_mem hv
     exact hI.out j hj hj
    have hpb:∀ v∈vs.map ptR,BPt 6 v:=fun v hv'=>by
     obtain ⟨u,hu,rfl⟩:=List.mem_map.1 hv'
     exact ptR_bs6 (hv.out u hu)
    replace e3:=e3.out hall
    replace e4':=Hid.mk (e4'.out hall)
    replace e5:=Hid.mk (e5.out hall)
    rw[eRPs_can hall]at hl ⊢
    have hvl:vs.length=(vs.map ptR).length:=(List.length_map _).symm
    have hpn:(vs.map ptR).length≤1048576:=by rw[← hvl];exact hn
    clear hI e2 hv hall cn hl hvl
    generalize vs.map ptR=ps at *
    have hpl:(ps.map eP).length=ps.length:=List.length_map _
    replace hpb:=Hid.mk hpb
    by_cases q3:ps.length<3
    ·have h3:((ps.length:Int)<3)=True:=eq_true (by omega)
     rw[e3 q3]
     clear e3 e4' e5
     repeat' (first|refine zg ?_|(refine AW.cond rfl ?_ ?_<;>intro hc<;>first|simp only[NM]at hc|omega|skip)|refine zr ?_|refine ⟨by omega,?_⟩|(refine zb ?_ ?_<;>intro hg<;>(try rw[hg])<;>try simp only[NM]at hg)|omega|simp -dsimp (disch:=try exact zo) only[go_sem,hpl,h3]|contradiction|rfl)
    ·have h3:((ps.length:Int)<3)=False:=eq_false (by omega)
     replace e4':=Hid.mk (e4'.out q3)
     replace e5:=Hid.mk (e5.out q3)
     clear e3
     repeat' (first|refine zg ?_|(refine AW.cond rfl ?_ ?_<;>intro hc<;>first|simp only[NM]at hc|omega|skip)|refine zr ?_|refine ⟨by omega,?_⟩|(refine zb ?_ ?_<;>intro hg<;>(try rw[hg])<;>try simp only[NM]at hg)|omega|simp -dsimp (disch:=try exact zo) only[go_sem,hpl,h3]|contradiction|rfl)
     refine AW.loop (fun z:{i:Nat // i≤ps.length∧Hid (∀ j (h:j<ps.length),j<i→sideP p ps[j]=0)}=>⟨[(42,.lit (.int .i64 z.1)),(40,.sl (ps.map eP)),(41,.lit (.int .i64 ps.length)),(1,.loc 8 0)],[(8,.blk [.lit (.bool (Zn p.a)),.lit (.string (Zm p.a)),.lit (.bool (Zn p.b)),.lit (.string (Zm p.b)),.lit (.bool (Zn p.c)),.lit (.string (Zm p.c)),.lit (.bool (Zn p.d)),.lit (.string (Zm p.d)),.sl (ps.map eP)])],100⟩) (fun z=>ps.length - z.1) ⟨0,Nat.zero_le _,Hid.mk (fun j _ h=>absurd h (Nat.not_lt_zero _))⟩ (Weak.t4 (by refine ⟨?_,?_,?_,?_⟩<;>simp -dsimp (disch:=try exact zo) only[go_sem,eP_in,ZC])) ?_
     rintro ⟨i,hi',hI⟩
     dsimp only
     by_cases hlt':i<ps.length
     ·have ea:=eP_getD ps i hlt'
      have hb:=hpb.out _ (List.getElem_mem hlt')
      have e4i:=e4'.out i hlt'
      have hI1:=Hid.mk (show sideP p ps[i]=0→∀ j (h:j<ps.length),j<i+1→sideP p ps[j]=0 from fun hx j h h2=>by
       by_cases q:j=i
       ·subst q;exact hx
       ·exact hI.out j h (by omega))
      generalize ps[i]=x at *
      have cs:=c34 p x (hp.mono (by decide)) (hb.mono (by decide))
      by_cases q:sideP p x=0
      ·have k1:=eq_true q
       rw[q]at cs
       replace hI1:=Hid.mk (hI1.out q)
       clear e4i q
       have k1:True:=trivial
       simp only[eP,e4]at ea
       simp only[eH,e4]at cs
       repeat' (first|refine zg ?_|(refine AW.cond rfl ?_ ?_<;>intro hc<;>first|simp only[NM]at hc|omega|skip)|refine zr ?_|(refine callV.flat _ yfn_34 cs rfl rfl ?_)|refine ⟨by omega,?_⟩|(refine zb ?_ ?_<;>intro hg<;>(try rw[hg])<;>try simp only[NM]at hg)|omega|simp -dsimp (disch:=try exact zo) only[go_sem,hpl,ea,k1,ZT,eP_in]|contradiction|rfl)
       all_goals exact AW.stop ⟨⟨i+1,by omega,hI1⟩,(Weak.t4 (by refine ⟨?_,?_,?_,?_⟩<;>simp -dsimp (disch:=try exact zo) only[go_sem,eP_in,ZC])),by dsimp only;omega⟩
      ·rw[e4i q]
       have k1:=eq_false q
       clear e4i hI1 e4' e5 hI
       generalize sideP p x=s at *
       simp only[eP,e4]at ea
       simp only[eH,e4]at cs
       repeat' (first|refine zg ?_|(refine AW.cond rfl ?_ ?_<;>intro hc<;>first|simp only[NM]at hc|omega|skip)|refine zr ?_|(refine callV.flat _ yfn_34 cs rfl rfl ?_)|refine ⟨by omega,?_⟩|(refine zb ?_ ?_<;>intro hg<;>(try rw[hg])<;>try simp only[NM]at hg)|omega|simp -dsimp (disch:=try exact zo) only[go_sem,hpl,ea,k1,ZT,eP_in]|contradiction|rfl)
     ·have hil:i=ps.length:=by omega
      subst hil
      obtain ⟨b,hb⟩:∃ b:Bool,b=true↔Lefts p ps:=by
       by_cases h:Lefts p ps
       ·exact ⟨true,fun _=>h,fun _=>rfl⟩
       ·exact ⟨false,fun e=>(Bool.false_ne_true e).elim,fun e=>absurd e h⟩
      have ct:=c176r p ps b hb (by omega) hp (fun v hv=>(hpb.out v hv).mono (by decide))
      rw[e5.out (fun j h=>hI.out j h h) b hb]
      clear e4' e5 hI hb
      simp only[eG,eH,e4,List.cons_append,List.nil_append]at ct
      cases b
      ·repeat' (first|refine zg ?_|(refine AW.cond rfl ?_ ?_<;>intro hc<;>first|simp only[NM]at hc|omega|skip)|refine zr ?_|(refine callV.plain _ yfn_176 ct (by simp -dsimp (disch:=try exact zo) only[go_sem,eP_in]) (.lit _) ?_)|refine ⟨by omega,?_⟩|(refine zb ?_ ?_<;>intro hg<;>(try rw[hg])<;>try simp only[NM]at hg)|omega|simp -dsimp (disch:=try exact zo) only[go_sem,hpl]|contradiction|rfl)
      ·repeat' (first|refine zg ?_|(refine AW.cond rfl ?_ ?_<;>intro hc<;>first|simp only[NM]at hc|omega|skip)|refine zr ?_|(refine callV.plain _ yfn_176 ct (by simp -dsimp (disch:=try exact zo) only[go_sem,eP_in]) (.lit _) ?_)|refine ⟨by omega,?_⟩|(refine zb ?_ ?_<;>intro hg<;>(try rw[hg])<;>try simp only[NM]at hg)|omega|simp -dsimp (disch:=try exact zo) only[go_sem,hpl]|contradiction|rfl)
  ·have h1:¬ canHR r:=fun h=>hc h.2
   rw[chk1 h1]
   clear hz h1 hv hr
   generalize nrmR r=q at *
   have hne:¬ (Zn q.a=r.n1∧Zm q.a=r.m1∧Zn q.b=r.n2∧Zm q.b=r.m2∧Zn q.c=r.n3∧Zm q.c=r.m3∧Zn q.d=r.n4∧Zm q.d=r.m4):=fun h=>hc (by
    unfold eRP eH e4
    obtain ⟨h1,h2,h3,h4,h5,h6,h7,h8⟩:=h
    rw[h1,h2,h3,h4,h5,h6,h7,h8])
   clear hc
   simp only[eRP,List.cons_append,List.nil_append,eH,e4]at cn ⊢
   repeat' (first|refine zg ?_|(refine AW.cond rfl ?_ ?_<;>intro hc<;>first|simp only[NM]at hc|omega|skip)|refine zr ?_|(refine callV.flat _ yfn_168 cn rfl rfl ?_)|refine ⟨by omega,?_⟩|(refine zb ?_ ?_<;>intro hg<;>(try rw[hg])<;>try simp only[NM]at hg)|omega|simp -dsimp (disch:=try exact zo) only[go_sem,hl]|contradiction|rfl)
end Go.Proofs.Vx
namespace Go.Proofs.Vx
open Go Go.Sx Go.Proofs
attribute [local irreducible] fnT CallOK CallFr AW effV callV runP runO oneP oneO gcaseP hid
theorem yfn_127:fnT Tryz.prog 127=true:=by kernel_rfl
theorem yfn_180:fnT Tryz.prog 180=true:=by kernel_rfl
theorem yfn_229:fnT Tryz.prog 229=true:=by kernel_rfl
def insF (x:Pt):List Pt→List Pt
 | []=>[x]
 | y::ys=>if 0<cmpP y x then x::y::ys else y::insF x ys
def insP (l:List Pt) (x:Pt):List Pt:=if l.any (fun y=>decide (cmpP y x=0))=true then l else insF x l
theorem insF_mem {x z:Pt} {l:List Pt}:z∈insF x l↔z=x∨z∈l:=by
 induction l with
 | nil=>simp[insF]
 | cons y l ih=>unfold insF;split<;>simp[ih]<;>grind
theorem cmp_zero {a b:Pt} (ha:CanP a) (hb:CanP b):cmpP a b=0↔a=b:=by
 constructor
 ·intro h
  have n1:¬ ltV (tv a) (tv b):=fun k=>by have:=(cmpP_lt ha.w hb.w).2 k;omega
  by_cases k:ltV (tv b) (tv a)
  ·exfalso
   unfold cmpP at h
   split at h
   ·contradiction
   ·split at h
    ·contradiction
    ·rename_i h1 h2
     have q1:=(cross_eq ha.w hb.w).2 ((sg_zero_iff _).1 (by simpa using h1))
     have q2:=(cross_eq ha.w hb.w).2 ((sg_zero_iff _).1 (by simpa using h2))
     have q3:=(cross_eq ha.w hb.w).2 ((sg_zero_iff _).1 h)
     have:tv a=tv b:=Geo.V.ext q1 q2 q3
     rw[this]at k
     exact ltV_irrefl _ k
  ·exact tv_inj ha hb (ltV_eq n1 k)
 ·rintro rfl
  unfold cmpP
  simp[Int.mul_comm,sg]
theorem cmp_pos {a b:Pt} (ha:CanP a) (hb:CanP b):0<cmpP a b↔ltV (tv b) (tv a):=by
 have h1:=cmpP_lt ha.w hb.w
 have h2:=cmp_zero ha hb
 constructor
 ·intro h
  have n1:¬ ltV (tv a) (tv b):=fun k=>by have:=h1.2 k;omega
  apply Classical.byContradiction
  intro k
  have:=h2.2 (tv_inj ha hb (ltV_eq n1 k))
  omega
 ·intro h
  have n1:¬ cmpP a b<0:=fun k=>ltV_irrefl _ (ltV_trans h (h1.1 k))
  have n2:¬ cmpP a b=0:=fun k=>by rw[h2.1 k]at h;exact ltV_irrefl _ h
  omega
def Asc (l:List Pt):Prop:=l.Pairwise fun a b=>ltV (tv a) (tv b)
theorem insF_asc {x:Pt} {l:List Pt} (hx:CanP x) (hl:∀ y∈l,CanP y) (h:Asc l) (hn:x∉l):Asc (insF x l):=by
 induction l with
 | nil=>exact List.pairwise_singleton _ _
 | cons y l ih =>
  have hy:=hl y (by simp)
  obtain ⟨h1,h2⟩:=List.pairwise_cons.1 h
  unfold insF
  split
  ·rename_i hp
   have hxy:=(cmp_pos hy hx).1 hp
   refine List.pairwise_cons.2 ⟨fun z hz=>?_,h⟩
   rcases List.mem_cons.1 hz with rfl|hz
   ·exact hxy
   ·exact ltV_trans hxy (h1 z hz)
  ·rename_i hp
   have hyx:ltV (tv y) (tv x):=by
    apply Classical.byContradiction
    intro k
    have n2:¬ ltV (tv x) (tv y):=fun q=>hp ((cmp_pos hy hx).2 q)
    exact hn (by rw[tv_inj hy hx (ltV_eq k n2)];simp)
   refine List.pairwise_cons.2 ⟨fun z hz=>?_,ih (fun z hz=>hl z (by simp[hz])) h2 fun hh=>hn (by simp[hh])⟩
   rcases insF_mem.1 hz with rfl|hz
   ·exact hyx
   ·exact h1 z hz
structure InsI (l s:List Pt):Prop where
 can:∀ y∈s,CanP y
 asc:Asc s
 mem:∀ y,y∈s↔y∈l
theorem any_zero {x:Pt} {s:List Pt} (hx:CanP x) (hs:∀ y∈s,CanP y):s.any (fun y=>decide (cmpP y x=0))=true↔x∈s:=by
 rw[List.any_eq_true]
 constructor
 ·rintro ⟨y,hy,h⟩
  rw[← (cmp_zero (hs y hy) hx).1 (of_decide_eq_true h)];exact hy
 ·intro h
  exact ⟨x,h,decide_eq_true ((cmp_zero hx hx).2 rfl)⟩
theorem InsI.step {l s:List Pt} {x:Pt} (I:InsI l s) (hx:CanP x):InsI (l++[x]) (insP s x):=by
 unfold insP
 by_cases h:s.any (fun y=>decide (cmpP y x=0))=true
 ·rw[if_pos h]
  have hm:=(any_zero hx I.can).1 h
  refine ⟨I.can,I.asc,fun y=>?_⟩
  rw[I.mem,List.mem_append,List.mem_singleton]
  constructor
  ·exact .inl
  ·rintro (h|rfl)
   ·exact h
   ·exact (I.mem _).1 hm
 ·rw[if_neg h]
  have hm:x∉s:=fun k=>h ((any_zero hx I.can).2 k)
  refine ⟨fun y hy=>?_,insF_asc hx I.can I.asc hm,fun y=>?_⟩
  ·rcases insF_mem.1 hy with rfl|hy
   ·exact hx
   ·exact I.can y hy
  ·rw[insF_mem,I.mem,List.mem_append,List.mem_singleton,or_comm]
end Go.Proofs.Vx
namespace Go.Proofs.Vx
open Go Go.Sx Go.Proofs
attribute [local irreducible] fnT CallOK CallFr AW effV callV runP runO oneP oneO gcaseP hid
theorem yfn_60:fnT Tryz.prog 60=true:=by kernel_rfl
theorem yfn_61:fnT Tryz.prog 61=true:=by kernel_rfl
theorem yfn_65:fnT Tryz.prog 65=true:=by kernel_rfl
end Go.Proofs.Vx
namespace Go.Proofs.Vx
open Go Go.Sx Go.Proofs
attribute [local irreducible] fnT CallOK CallFr AW effV callV runP runO oneP oneO gcaseP hid
theorem yfn_62:fnT Tryz.prog 62=true:=by kernel_rfl
theorem yfn_132:fnT Tryz.prog 132=true:=by kernel_rfl
end Go.Proofs.Vx
namespace Go.Proofs.Vx
open Go Go.Sx Go.Proofs
attribute [local irreducible] fnT CallOK CallFr AW effV callV runP runO oneP oneO gcaseP hid
theorem yfn_177:fnT Tryz.prog 177=true:=by kernel_rfl
theorem yfn_219:fnT Tryz.prog 219=true:=by kernel_rfl
theorem yfn_220:fnT Tryz.prog 220=true:=by kernel_rfl
theorem Qd_int (z:Int):Qd (z:Rat)=⟨#[]⟩:=by unfold Qd;rw[if_pos (show (z:Rat).den=1 from rfl)]
theorem int_qs {z:Int} {k:Nat} (h:(Zm z).size≤k) (hk:1≤k):Qs k (z:Rat):=⟨h,by show (nb 1).size≤k;rw[nb_one];exact hk⟩
theorem num_int (z:Int):(z:Rat).num=z:=rfl
set_option maxHeartbeats 3200000 in
theorem c219 (z:Int) (h:(Zm z).size≤8388608):CallOK Tryz.prog 219 [.agg (eZ z)] [] (.agg (eQ (z:Rat))) []:=by
 refine CallOK.flat Tryz.func219 rfl 9 rfl rfl rfl [.cell 2 41] (congrArg Array.toList Tryz.results219) ?_
 simp only[startT,Nat.reduceAdd]
 have c1:=c230 (z:Rat) ((int_qs h (by decide)).mono (by decide))
 simp only[eQ,Qd_int,num_int]at c1
 simp only[eQ,Qd_int,num_int]
 clear h
 repeat' (first|refine zg ?_|(refine AW.cond rfl ?_ ?_<;>intro hc<;>first|simp only[NM]at hc|omega|skip)|refine zr ?_|(refine callV.flat _ yfn_230 c1 rfl rfl ?_)|refine ⟨by omega,?_⟩|(refine zb ?_ ?_<;>intro hg<;>(try rw[hg])<;>try simp only[NM]at hg)|omega|simp -dsimp (disch:=try exact zo) only[go_sem]|contradiction|rfl)
set_option maxHeartbeats 16000000 in
theorem c220 (b a:Pt) (hb:CanP b) (ha:CanP a) (bb:BPt 4194304 b) (ba:BPt 4194304 a):CallOK Tryz.prog 220 [.agg (eP b),.agg (eP a)] [] (.agg (eV (tv b - tv a).x (tv b - tv a).y (tv b - tv a).z)) []:=by
 refine CallOK.flat Tryz.func220 rfl 26 rfl rfl rfl [.cell 4 103] (congrArg Array.toList Tryz.results220) ?_
 simp only[startT,Nat.reduceAdd]
 have ca:=c128 b hb (bb.mono (by decide))
 have cb:=c128 a ha (ba.mono (by decide))
 obtain ⟨u1,u2,u3⟩:=(tv_qs hb bb).mono (show 4194304≤67108864 by decide)
 obtain ⟨v1,v2,v3⟩:=(tv_qs ha ba).mono (show 4194304≤67108864 by decide)
 simp only[Geo.sub_x,Geo.sub_y,Geo.sub_z]
 clear ha hb ba bb
 generalize tv b=s at *
 generalize tv a=t at *
 repeat' (first|refine zg ?_|refine AW.unroll 6 ?_|(refine AW.cond rfl ?_ ?_<;>intro hc<;>first|simp only[NM]at hc|omega|skip)|refine zr ?_|(first|refine callV.flat _ yfn_128 ca rfl rfl ?_|refine callV.flat _ yfn_128 cb rfl rfl ?_)|(refine callV.flat _ yfn_183 (c183 _ (by assumption) _ (by assumption)) rfl rfl ?_)|refine ⟨by omega,?_⟩|(refine zb ?_ ?_<;>intro hg<;>(try rw[hg])<;>try simp only[NM]at hg)|omega|simp -dsimp (disch:=try exact zo) only[go_sem]|contradiction|rfl)
set_option maxRecDepth 20000 in
set_option maxHeartbeats 16000000 in
theorem c177 (p:Pl) (a b x:Pt) (hp:BPl 1048576 p) (ha:CanP a) (hb:CanP b) (hx:CanP x) (ba:BPt 100000 a) (bb:BPt 100000 b) (bx:BPt 100000 x):CallOK Tryz.prog 177 [.agg (eH p),.agg (eP a),.agg (eP b),.agg (eP x)] [] (.lit (.int .i64 (sg (Geo.ori (tH p).n (tv a) (tv b) (tv x)).num))) []:=by
 refine CallOK.flat Tryz.func177 rfl 30 rfl rfl rfl [.tmp 8] (congrArg Array.toList Tryz.results177) ?_
 simp only[startT,Nat.reduceAdd]
 have w1:=c219 p.a (Nat.le_trans hp.out.a (by decide))
 have w2:=c219 p.b (Nat.le_trans hp.out.b (by decide))
 have w3:=c219 p.c (Nat.le_trans hp.out.c (by decide))
 have l1:=c220 b a hb ha (bb.mono (by decide)) (ba.mono (by decide))
 have l2:=c220 x a hx ha (bx.mono (by decide)) (ba.mono (by decide))
 have qn:QV 1048576 (tH p).n:=⟨int_qs hp.out.a (by decide),int_qs hp.out.b (by decide),int_qs hp.out.c (by decide)⟩
 have s1:=sub_qs (tv_qs hb bb) (tv_qs ha ba)
 have s2:=sub_qs (tv_qs hx bx) (tv_qs ha ba)
 have cr:=cross_qs s1 s2
 have k1:=c210 _ _ (s1.mono (by decide)) (s2.mono (by decide))
 have k2:=c213 _ _ (qn.mono (by decide)) (cr.mono (show _≤8388608 by decide))
 have k3:=c63 _ ((dot_qs qn cr).mono (by decide))
 unfold Geo.ori
 have e1:(tH p).n.x=((p.a:Int):Rat):=rfl
 have e2:(tH p).n.y=((p.b:Int):Rat):=rfl
 have e3:(tH p).n.z=((p.c:Int):Rat):=rfl
 rw[e1,e2,e3]at k2
 clear hp ha hb hx ba bb bx qn s1 s2 cr e1 e2 e3
 generalize tv b - tv a=u at *
 generalize tv x - tv a=v at *
 generalize Geo.cross u v=c at *
 generalize Geo.dot (tH p).n c=d at *
 simp only[eH,e4]
 generalize p.a=n1 at *
 generalize p.b=n2 at *
 generalize p.c=n3 at *
 repeat' (first|refine zg ?_|(refine AW.cond rfl ?_ ?_<;>intro hc<;>first|simp only[NM]at hc|omega|skip)|refine zr ?_|(first|refine callV.flat _ yfn_219 w1 rfl rfl ?_|refine callV.flat _ yfn_219 w2 rfl rfl ?_|refine callV.flat _ yfn_219 w3 rfl rfl ?_)|(first|refine callV.flat _ yfn_220 l1 rfl rfl ?_|refine callV.flat _ yfn_220 l2 rfl rfl ?_)|(refine callV.flat _ yfn_210 k1 rfl rfl ?_)|(refine callV.flat _ yfn_213 k2 rfl rfl ?_)|(refine callV.flat _ yfn_63 k3 rfl rfl ?_)|refine ⟨by omega,?_⟩|(refine zb ?_ ?_<;>intro hg<;>(try rw[hg])<;>try simp only[NM]at hg)|omega|simp -dsimp (disch:=try exact zo) only[go_sem]|contradiction|rfl)
theorem left_sg (p:Pl) {a b x:Pt} (ha:CanP a) (hb:CanP b) (hx:CanP x):sg (Geo.ori (tH p).n (tv a) (tv b) (tv x)).num≤0↔¬ 0<leftP p a b x:=by
 rw[left_tv p ha.w hb.w hx.w]
 have h:=sg_num (Geo.ori (tH p).n (tv a) (tv b) (tv x))
 rw[← h]
 omega
end Go.Proofs.Vx
