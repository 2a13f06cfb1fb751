import Derived.Test.YtjlfgmhmalbiiaaGreatDoorProg
import Derived.Test.YtjlfgmhmalbiiaaGreatDoorU11
import Derived.Test.YtjlfgmhmalbiiaaGreatDoorU36
set_option linter.all false
namespace Go.Proofs.Vx
open Go Go.Sx Go.Proofs
attribute [local irreducible] fnT CallOK CallFr AW effV callV runP runO oneP oneO gcaseP hid
theorem yfn_120:fnT Tryz.prog 120=true:=by kernel_rfl
def okAt (l:PCell) (i k:Nat):Prop:=∀ (hi:i<l.length) (hk:k<l[i].2.length),(∀ j (hj:j<l.length),sideP l[j].1 l[i].2[k]≤0)∧cntN l i (l[i].2[(k+1) % l[i].2.length]'(Nat.mod_lt _ (Nat.lt_of_le_of_lt (Nat.zero_le _) hk)),l[i].2[k]) l.length=1
def noOut (l:PCell):Prop:=∀ i (hi:i<l.length) k (hk:k<l[i].2.length) j (hj:j<l.length),sideP l[j].1 l[i].2[k]≤0
theorem conv_iff {l:PCell}:(∀ i,i<l.length→∀ k,okAt l i k)↔clsB l∧noOut l:=by
 constructor
 ·intro h
  refine ⟨fun i hi e he=>?_,fun i hi k hk j hj=>(h i hi k hi hk).1 j hj⟩
  obtain ⟨k,hk,q⟩:=List.mem_iff_getElem.1 he
  rw[Geo.edges_length]at hk
  rw[edges_get _ k hk]at q
  subst q
  exact (h i hi k hi hk).2
 ·rintro ⟨h1,h2⟩ i hi k hi' hk
  refine ⟨fun j hj=>h2 i hi k hk j hj,?_⟩
  have hl:k<(Geo.edges l[i].2).length:=by rw[Geo.edges_length];exact hk
  have:=h1 i hi _ (List.getElem_mem hl)
  rw[edges_get _ k hk]at this
  exact this
set_option maxHeartbeats 40000000 in
theorem c120 (l:PCell) (r:Bool) (hr:r=true↔∀ i,i<l.length→∀ k,okAt l i k) (hB:BdC l):CallOK Tryz.prog 120 [.agg [.sl (eS l)]] [] (.lit (.bool r)) []:=by
 refine CallOK.flat Tryz.func120 rfl 61 rfl rfl rfl [.tmp 2] (congrArg Array.toList Tryz.results120) ?_
 simp only[startT,Nat.reduceAdd]
 have hml:maxLen=9223372036854775807:=rfl
 have hl:(eS l).length=l.length:=List.length_map _
 have hln:=hB.n
 have hcc:=Hid.mk (fun i (hi:i<l.length) a b=>c178 l i a b hB hi)
 have hct:=Hid.mk (fun i (hi:i<l.length) e=>cntN_le hB i e l.length (Nat.le_refl _))
 have hbd:=Hid.mk hB
 replace hr:=Hid.mk hr
 clear hB
 repeat' (first|refine zg ?_|(refine AW.cond rfl ?_ ?_<;>intro hc<;>first|simp only[NM]at hc|omega|skip)|refine zr ?_|refine ⟨by omega,?_⟩|(refine zb ?_ ?_<;>intro hg<;>(try rw[hg])<;>try simp only[NM]at hg)|omega|simp -dsimp (disch:=try exact zo) only[go_sem,hl]|contradiction|rfl)
 refine AW.loop (fun z:{i:Nat // i≤l.length∧Hid (∀ i',i'<i→∀ k,okAt l i' k)}=>⟨[(3,.lit (.int .i64 z.1)),(1,.loc 8 0)],[(8,.blk [.sl (eS l)])],60⟩) (fun z=>l.length - z.1) ⟨0,Nat.zero_le _,Hid.mk (fun i' h=>absurd h (Nat.not_lt_zero _))⟩ (Weak.t4 (by refine ⟨?_,?_,?_,?_⟩<;>simp -dsimp (disch:=try exact zo) only[go_sem,eS_in,eP_in,ZC])) ?_
 rintro ⟨i,hi,hI⟩
 dsimp only
 by_cases hlt:i<l.length
 ·have es1:=eS_getD l i hlt
  have hvn:=hbd.out.m _ (List.getElem_mem hlt)
  have hvb:=Hid.mk (hbd.out.k _ (List.getElem_mem hlt))
  have hF:=Hid.mk (show ∀ k (hk:k<l[i].2.length),¬ ((∀ j (hj:j<l.length),sideP l[j].1 l[i].2[k]≤0)∧cntN l i (l[i].2[(k+1) % l[i].2.length]'(Nat.mod_lt _ (Nat.lt_of_le_of_lt (Nat.zero_le _) hk)),l[i].2[k]) l.length=1)→r=false from fun k hk h=>by
   cases hq:r
   ·rfl
   ·exact absurd (hr.out.1 hq i hlt k hlt hk) h)
  have hO:=Hid.mk (show ∀ k (hk:k<l[i].2.length),(∀ j (hj:j<l.length),sideP l[j].1 l[i].2[k]≤0)→cntN l i (l[i].2[(k+1) % l[i].2.length]'(Nat.mod_lt _ (Nat.lt_of_le_of_lt (Nat.zero_le _) hk)),l[i].2[k]) l.length=1→okAt l i k from fun k hk h1 h2 _ _=>⟨h1,h2⟩)
  have hE:=Hid.mk (show (∀ k,k<l[i].2.length→okAt l i k)→∀ i',i'<i+1→∀ k,okAt l i' k from fun h i' h' k=>by
   by_cases e:i'=i
   ·subst e
    intro h1 h2
    exact h k h2 h1 h2
   ·exact hI.out i' (by omega) k)
  have hcc1:=Hid.mk (hcc.out i hlt)
  have hct1:=Hid.mk (hct.out i hlt)
  generalize l[i]=sd at *
  obtain ⟨sp,vs⟩:=sd
  dsimp only at es1 hvn hvb hF hO hE
  simp only[eG]at es1
  have hvl:(vs.map eP).length=vs.length:=List.length_map _
  clear hcc hct
  repeat' (first|refine zg ?_|(refine AW.cond rfl ?_ ?_<;>intro hc<;>first|simp only[NM]at hc|omega|skip)|refine zr ?_|refine ⟨by omega,?_⟩|(refine zb ?_ ?_<;>intro hg<;>(try rw[hg])<;>try simp only[NM]at hg)|omega|simp -dsimp (disch:=try exact zo) only[go_sem,hl,es1,hvl,ZT,zl,eS_in,eP_in]|contradiction|rfl)
  refine AW.loop (fun z:{k:Nat // k≤vs.length∧Hid (∀ k',k'<k→okAt l i k')}=>⟨[(5,.lit (.int .i64 z.1)),(4,.sl (vs.map eP)),(3,.lit (.int .i64 i)),(1,.loc 8 0)],[(8,.blk [.sl (eS l)])],80⟩) (fun z=>vs.length - z.1) ⟨0,Nat.zero_le _,Hid.mk (fun k' h=>absurd h (Nat.not_lt_zero _))⟩ (Weak.t4 (by refine ⟨?_,?_,?_,?_⟩<;>simp -dsimp (disch:=try exact zo) only[go_sem,eS_in,eP_in,ZC])) ?_
  rintro ⟨k,hk,hK⟩
  dsimp only
  by_cases hkt:k<vs.length
  ·have ex:=eP_getD vs k hkt
   have hxb:=hvb.out _ (List.getElem_mem hkt)
   obtain ⟨k',hk'⟩:∃ k',k'=(k+1) % vs.length:=⟨_,rfl⟩
   have hm:((k:Int)+1) % (vs.length:Int)=(k':Int):=by rw[hk',Int.natCast_emod,Int.natCast_add];rfl
   have hkl:k'<vs.length:=hk'▸Nat.mod_lt _ (by omega)
   have ey:=eP_getD vs k' hkl
   have hFk:¬ ((∀ j (hj:j<l.length),sideP l[j].1 vs[k]≤0)∧cntN l i (vs[k'],vs[k]) l.length=1)→r=false:=by
    have h:=hF.out k hkt
    simp only[← hk']at h
    exact h
   have hOk:(∀ j (hj:j<l.length),sideP l[j].1 vs[k]≤0)→cntN l i (vs[k'],vs[k]) l.length=1→∀ k',k'<k+1→okAt l i k':=by
    have h:=hO.out k hkt
    simp only[← hk']at h
    intro h1 h2 k' h3
    by_cases e:k'=k
    ·subst e;exact h h1 h2
    ·exact hK.out k' (by omega)
   replace hFk:=Hid.mk hFk
   replace hOk:=Hid.mk hOk
   clear hk'
   have cc:=hcc1.out vs[k'] vs[k]
   have hcn:=hct1.out (vs[k'],vs[k])
   generalize vs[k]=x at *
   generalize vs[k']=y at *
   simp only[eP,e4]at ex ey
   repeat' (first|refine zg ?_|(refine AW.cond rfl ?_ ?_<;>intro hc<;>first|simp only[NM]at hc|omega|skip)|refine zr ?_|refine ⟨by omega,?_⟩|(refine zb ?_ ?_<;>intro hg<;>(try rw[hg])<;>try simp only[NM]at hg)|omega|simp -dsimp (disch:=try exact zo) only[go_sem,hl,es1,hvl,ZT,zl,eS_in,eP_in]|contradiction|rfl)
   refine AW.loop (fun z:{j:Nat // j≤l.length∧Hid (∀ j' (h:j'<l.length),j'<j→sideP l[j'].1 x≤0)}=>⟨[(6,.lit (.int .i64 z.1)),(5,.lit (.int .i64 k)),(4,.sl (vs.map eP)),(3,.lit (.int .i64 i)),(1,.loc 8 0)],[(8,.blk [.sl (eS l)])],100⟩) (fun z=>l.length - z.1) ⟨0,Nat.zero_le _,Hid.mk (fun j' _ h=>absurd h (Nat.not_lt_zero _))⟩ (Weak.t4 (by refine ⟨?_,?_,?_,?_⟩<;>simp -dsimp (disch:=try exact zo) only[go_sem,eS_in,eP_in,ZC])) ?_
   rintro ⟨j,hj,hJ⟩
   dsimp only
   by_cases hjt:j<l.length
   ·have esj:=eS_getD l j hjt
    have hpb:=hbd.out.p _ (List.getElem_mem hjt)
    have cs:=c50 l[j].1 x (hpb.mono (by decide)) (hxb.mono (by decide))
    by_cases q:sideP l[j].1 x≤0
    ·have hJ1:=Hid.mk (show ∀ j' (h:j'<l.length),j'<j+1→sideP l[j'].1 x≤0 from fun j' h h'=>by
      by_cases e:j'=j
      ·subst e;exact q
      ·exact hJ.out j' h (by omega))
     have k1:(0<sideP l[j].1 x)=False:=eq_false (by omega)
     clear cc hcn hpb q
     generalize l[j]=sj at *
     obtain ⟨p,us⟩:=sj
     dsimp only at esj cs k1
     simp only[eG]at esj
     simp only[eH,e4]at cs
     generalize sideP p x=s at *
     repeat' (first|refine zg ?_|(refine AW.cond rfl ?_ ?_<;>intro hc<;>first|simp only[NM]at hc|omega|skip)|refine zr ?_|(refine callV.flat _ yfn_50 cs rfl rfl ?_)|refine ⟨by omega,?_⟩|(refine zb ?_ ?_<;>intro hg<;>(try rw[hg])<;>try simp only[NM]at hg)|omega|simp -dsimp (disch:=try exact zo) only[go_sem,hl,esj,ex,hvl,k1,ZT,zl,eS_in,eP_in]|contradiction|rfl)
     all_goals exact AW.stop ⟨⟨j+1,by omega,hJ1⟩,(Weak.t4 (by refine ⟨?_,?_,?_,?_⟩<;>simp -dsimp (disch:=try exact zo) only[go_sem,eS_in,eP_in,ZC])),by dsimp only;omega⟩
    ·rw[hFk.out fun h=>q (h.1 j hjt)]
     have k1:(0<sideP l[j].1 x)=True:=eq_true (by omega)
     clear cc hcn hpb q hFk hOk hJ hK hI hF hO hE hr hbd hvb
     generalize l[j]=sj at *
     obtain ⟨p,us⟩:=sj
     dsimp only at esj cs k1
     simp only[eG]at esj
     simp only[eH,e4]at cs
     generalize sideP p x=s at *
     repeat' (first|refine zg ?_|(refine AW.cond rfl ?_ ?_<;>intro hc<;>first|simp only[NM]at hc|omega|skip)|refine zr ?_|(refine callV.flat _ yfn_50 cs rfl rfl ?_)|refine ⟨by omega,?_⟩|(refine zb ?_ ?_<;>intro hg<;>(try rw[hg])<;>try simp only[NM]at hg)|omega|simp -dsimp (disch:=try exact zo) only[go_sem,hl,esj,ex,hvl,k1,ZT,zl,eS_in,eP_in]|contradiction|rfl)
   ·have hjl:j=l.length:=by omega
    subst hjl
    by_cases q:cntN l i (y,x) l.length=1
    ·have hK1:=Hid.mk (hOk.out (fun j h=>hJ.out j h h) q)
     rw[q]at cc
     have k1:True:=trivial
     clear hFk hOk q hcn
     repeat' (first|refine zg ?_|(refine AW.cond rfl ?_ ?_<;>intro hc<;>first|simp only[NM]at hc|omega|skip)|refine zr ?_|(refine callV.plain _ yfn_178 cc (by simp -dsimp (disch:=try exact zo) only[go_sem,eS_in,eP_in]) (.lit _) ?_)|refine ⟨by omega,?_⟩|(refine zb ?_ ?_<;>intro hg<;>(try rw[hg])<;>try simp only[NM]at hg)|omega|simp -dsimp (disch:=try exact zo) only[go_sem,hl,ex,ey,hm,hvl,k1,ZT,zl,eS_in,eP_in]|contradiction|rfl)
     all_goals exact AW.stop ⟨⟨k+1,by omega,hK1⟩,(Weak.t4 (by refine ⟨?_,?_,?_,?_⟩<;>simp -dsimp (disch:=try exact zo) only[go_sem,eS_in,eP_in,ZC])),by dsimp only;omega⟩
    ·rw[hFk.out fun h=>q h.2]
     generalize cntN l i (y,x) l.length=n at *
     have k1:((n:Int)=1)=False:=eq_false (by omega)
     clear hFk hOk hJ hK hI hF hO hE hr hbd hvb
     repeat' (first|refine zg ?_|(refine AW.cond rfl ?_ ?_<;>intro hc<;>first|simp only[NM]at hc|omega|skip)|refine zr ?_|(refine callV.plain _ yfn_178 cc (by simp -dsimp (disch:=try exact zo) only[go_sem,eS_in,eP_in]) (.lit _) ?_)|refine ⟨by omega,?_⟩|(refine zb ?_ ?_<;>intro hg<;>(try rw[hg])<;>try simp only[NM]at hg)|omega|simp -dsimp (disch:=try exact zo) only[go_sem,hl,ex,ey,hm,hvl,k1,ZT,zl,eS_in,eP_in]|contradiction|rfl)
  ·have hkl:k=vs.length:=by omega
   subst hkl
   have hI':=Hid.mk (hE.out fun k h=>hK.out k h)
   repeat' (first|refine zg ?_|(refine AW.cond rfl ?_ ?_<;>intro hc<;>first|simp only[NM]at hc|omega|skip)|refine zr ?_|refine ⟨by omega,?_⟩|(refine zb ?_ ?_<;>intro hg<;>(try rw[hg])<;>try simp only[NM]at hg)|omega|simp -dsimp (disch:=try exact zo) only[go_sem,hl,hvl,eS_in,eP_in]|contradiction|rfl)
   all_goals exact AW.stop ⟨⟨i+1,by omega,hI'⟩,(Weak.t4 (by refine ⟨?_,?_,?_,?_⟩<;>simp -dsimp (disch:=try exact zo) only[go_sem,eS_in,eP_in,ZC])),by dsimp only;omega⟩
 ·have hil:i=l.length:=by omega
  subst hil
  rw[hr.out.2 fun i h k=>hI.out i h k]
  clear hr hI
  repeat' (first|refine zg ?_|(refine AW.cond rfl ?_ ?_<;>intro hc<;>first|simp only[NM]at hc|omega|skip)|refine zr ?_|refine ⟨by omega,?_⟩|(refine zb ?_ ?_<;>intro hg<;>(try rw[hg])<;>try simp only[NM]at hg)|omega|simp -dsimp (disch:=try exact zo) only[go_sem,hl]|contradiction|rfl)
end Go.Proofs.Vx
namespace Go.Proofs.Vx
open Go Go.Sx Go.Proofs
attribute [local irreducible] fnT CallOK CallFr AW effV callV runP runO oneP oneO gcaseP hid
theorem yfn_56:fnT Tryz.prog 56=true:=by kernel_rfl
abbrev RCell:=List (RP × List RP)
def eRS (l:RCell):List (List AV):=l.map fun s=>eRP s.1++[.sl (eRPs s.2)]
def typC (l:RCell):PCell:=l.map fun s=>(nrmR s.1,s.2.map ptR)
theorem eRS_getD (l:RCell) (i:Nat) (h:i<l.length):(eRS l).getD i []=eRP l[i].1++[.sl (eRPs l[i].2)]:=by
 unfold eRS
 rw[List.getD_eq_getElem?_getD,List.getElem?_map,List.getElem?_eq_getElem h];rfl
theorem eRS_in {K:Nat→Prop} (l:RCell):(∀ e∈eRS l,∀ c∈e,In K c)=True:=eq_true fun e he c hc=>by
 obtain ⟨s,_,rfl⟩:=List.mem_map.1 he
 rcases List.mem_append.1 hc with h|h
 ·unfold eRP at h
  simp only[List.mem_cons,List.not_mem_nil,or_false]at h
  rcases h with rfl|rfl|rfl|rfl|rfl|rfl|rfl|rfl<;>exact .lit _
 ·obtain rfl:=List.mem_singleton.1 h
  exact .sl _ (of_eq_true (eRPs_in _))
open Classical in
noncomputable def scanC (fin:Int):List RP→RCell→Int
 | _,[]=>fin
 | seen,s::t=>if chkG s.1 s.2≠0 then chkG s.1 s.2 else if s.1∈seen then 8 else scanC fin (seen++[s.1]) t
open Classical in
noncomputable def finC (l:RCell):Int:=if l.length<4 then 3 else if clsB (typC l)∧noOut (typC l)then 0 else 3
open Classical in
noncomputable def codeC (l:RCell):Int:=if l=[]then 9 else scanC (finC l) [] l
open Classical in
theorem scan_at {fin:Int} {l:RCell} {i:Nat} (h:i<l.length):scanC fin ((l.take i).map (·.1)) (l.drop i)=if chkG l[i].1 l[i].2≠0 then chkG l[i].1 l[i].2 else if l[i].1∈(l.take i).map (·.1)then 8 else scanC fin ((l.take (i+1)).map (·.1)) (l.drop (i+1)):=by
 rw[List.drop_eq_getElem_cons h]
 rw[List.take_succ_eq_append_getElem h,List.map_append]
 rw[scanC]
 rfl
theorem chk_zero {r:RP} {vs:List RP} (h:chkG r vs=0):canHR r∧(∀ v∈vs,canPR v)∧FineG (nrmR r) (vs.map ptR):=by
 have h1:canHR r:=Classical.byContradiction fun k=>by rw[chk1 k]at h;exact absurd h (by decide)
 have h2:∀ v∈vs,canPR v:=fun v hv=>Classical.byContradiction fun k=>by rw[chk2 h1 hv k]at h;exact absurd h (by decide)
 have h3:¬ vs.length<3:=fun k=>by rw[chk3 h1 h2 k]at h;exact absurd h (by decide)
 have h4:∀ v∈vs,sideP (nrmR r) (ptR v)=0:=fun v hv=>Classical.byContradiction fun k=>by rw[chk4 h1 h2 h3 hv k]at h;exact absurd h (by decide)
 have h5:Lefts (nrmR r) (vs.map ptR):=Classical.byContradiction fun k=>by
  rw[chk5 h1 h2 h3 h4 (b:=false) ⟨fun e=>(Bool.false_ne_true e).elim,fun e=>absurd e k⟩]at h
  exact absurd h (by decide)
 have hH:CanH (nrmR r):=by
  obtain ⟨z,e⟩:=h1
  have e':=e
  unfold eRP eH e4 at e'
  simp only[List.cons.injEq,AV.lit.injEq,Value.bool.injEq,Value.string.injEq,and_true]at e'
  obtain ⟨a1,a2,a3,a4,a5,a6,a7,a8⟩:=e'
  have i1:iv r.n1 r.m1=(nrmR r).a:=by rw[a1,a2,iv_Z]
  have i2:iv r.n2 r.m2=(nrmR r).b:=by rw[a3,a4,iv_Z]
  have i3:iv r.n3 r.m3=(nrmR r).c:=by rw[a5,a6,iv_Z]
  have i4:iv r.n4 r.m4=(nrmR r).d:=by rw[a7,a8,iv_Z]
  refine ⟨?_,fun k=>z ?_⟩
  ·rw[← i1,← i2,← i3,← i4];rfl
  ·unfold zeroR;rw[i1,i2,i3];exact k
 refine ⟨h1,h2,hH,fun v hv=>?_,by rw[List.length_map];omega,fun v hv=>?_,h5⟩
 ·obtain ⟨u,_,rfl⟩:=List.mem_map.1 hv;exact ptR_can u
 ·obtain ⟨u,hu,rfl⟩:=List.mem_map.1 hv;exact h4 u hu
theorem typ_of {l:RCell} (h:∀ s∈l,chkG s.1 s.2=0):eRS l=eS (typC l)∧∀ s∈typC l,FineG s.1 s.2:=by
 constructor
 ·unfold eRS eS typC
  rw[List.map_map]
  refine List.map_congr_left fun s hs=>?_
  obtain ⟨h1,h2,_⟩:=chk_zero (h s hs)
  show _=eG (nrmR s.1) (s.2.map ptR)
  rw[h1.2,eRPs_can h2]
  rfl
 ·intro s hs
  obtain ⟨t,ht,rfl⟩:=List.mem_map.1 hs
  exact (chk_zero (h t ht)).2.2
end Go.Proofs.Vx
namespace Go.Proofs.Vx
open Go Go.Sx Go.Proofs
attribute [local irreducible] fnT CallOK CallFr AW effV callV runP runO oneP oneO gcaseP hid
structure RCB (l:RCell):Prop where
 n:l.length≤8
 p:∀ s∈l,RB 1048576 s.1
 m:∀ s∈l,s.2.length≤8
 v:∀ s∈l,∀ v∈s.2,RB 6 v
theorem RP_ext {r s:RP} (h:r.n1=s.n1∧r.m1=s.m1∧r.n2=s.n2∧r.m2=s.m2∧r.n3=s.n3∧r.m3=s.m3∧r.n4=s.n4∧r.m4=s.m4):r=s:=by
 obtain ⟨h1,h2,h3,h4,h5,h6,h7,h8⟩:=h
 cases r;cases s
 simp only at *
 subst h1 h2 h3 h4 h5 h6 h7 h8;rfl
theorem typ_bd {l:RCell} (h:RCB l) (hc:∀ s∈l,chkG s.1 s.2=0):BdC (typC l):=by
 refine ⟨?_,fun s hs=>?_,fun s hs v hv=>?_,fun s hs=>?_⟩
 ·unfold typC;rw[List.length_map];exact Nat.le_trans h.n (by decide)
 ·obtain ⟨t,ht,rfl⟩:=List.mem_map.1 hs
  rw[List.length_map];exact Nat.le_trans (h.m t ht) (by decide)
 ·obtain ⟨t,ht,rfl⟩:=List.mem_map.1 hs
  obtain ⟨u,hu,rfl⟩:=List.mem_map.1 hv
  exact (ptR_bs6 (h.v t ht u hu)).mono (by decide)
 ·obtain ⟨t,ht,rfl⟩:=List.mem_map.1 hs
  exact (nrmR_bs (h.p t ht) (chk_zero (hc t ht)).1.1).mono (by decide)
set_option maxHeartbeats 40000000 in
theorem c56 (l:RCell) (hB:RCB l):CallOK Tryz.prog 56 [.agg [.sl (eRS l)]] [] (.lit (.int .i64 (codeC l))) []:=by
 refine CallOK.flat Tryz.func56 rfl 53 rfl rfl rfl [.tmp 2] (congrArg Array.toList Tryz.results56) ?_
 simp only[startT,Nat.reduceAdd]
 have hml:maxLen=9223372036854775807:=rfl
 have hl:(eRS l).length=l.length:=List.length_map _
 have hln:=hB.n
 by_cases h0:l=[]
 ·have k0:((l.length:Int)=0)=True:=eq_true (by subst h0;rfl)
  have he:codeC l=9:=by unfold codeC;rw[if_pos h0]
  rw[he]
  clear hB he h0
  repeat' (first|refine zg ?_|(refine AW.cond rfl ?_ ?_<;>intro hc<;>first|simp only[NM]at hc|omega|skip)|refine zr ?_|refine ⟨by omega,?_⟩|(refine zb ?_ ?_<;>intro hg<;>(try rw[hg])<;>try simp only[NM]at hg)|omega|simp -dsimp (disch:=try exact zo) only[go_sem,hl,k0]|contradiction|rfl)
 ·have k0:((l.length:Int)=0)=False:=eq_false (by have:=List.length_pos_iff.2 h0;omega)
  have he:codeC l=scanC (finC l) [] l:=by unfold codeC;rw[if_neg h0]
  have he0:codeC l=scanC (finC l) ((l.take 0).map (·.1)) (l.drop 0):=he
  clear he h0
  generalize codeC l=e at *
  replace hB:=Hid.mk hB
  repeat' (first|refine zg ?_|(refine AW.cond rfl ?_ ?_<;>intro hc<;>first|simp only[NM]at hc|omega|skip)|refine zr ?_|refine ⟨by omega,?_⟩|(refine zb ?_ ?_<;>intro hg<;>(try rw[hg])<;>try simp only[NM]at hg)|omega|simp -dsimp (disch:=try exact zo) only[go_sem,hl,k0]|contradiction|rfl)
  refine AW.loop (fun z:{i:Nat // i≤l.length∧Hid (e=scanC (finC l) ((l.take i).map (·.1)) (l.drop i)∧∀ j (h:j<l.length),j<i→chkG l[j].1 l[j].2=0)}=>⟨[(3,.lit (.int .i64 z.1)),(1,.loc 8 0)],[(8,.blk [.sl (eRS l)])],60⟩) (fun z=>l.length - z.1) ⟨0,Nat.zero_le _,Hid.mk ⟨he0,fun j _ h=>absurd h (Nat.not_lt_zero _)⟩⟩ (Weak.t4 (by refine ⟨?_,?_,?_,?_⟩<;>simp -dsimp (disch:=try exact zo) only[go_sem,eRS_in,ZC])) ?_
  clear he0
  rintro ⟨i,hi,hI⟩
  dsimp only
  by_cases hlt:i<l.length
  ·have es1:=eRS_getD l i hlt
   have hm:=List.getElem_mem hlt
   have cc:=c119r l[i].1 l[i].2 (Nat.le_trans (hB.out.m _ hm) (by decide)) (hB.out.p _ hm) (hB.out.v _ hm)
   have hs:=hI.out.1
   rw[scan_at hlt]at hs
   have hJ:=Hid.mk (show chkG l[i].1 l[i].2=0→∀ j (h:j<l.length),j<i+1→chkG l[j].1 l[j].2=0 from fun q j h h'=>by
    by_cases e:j=i
    ·subst e;exact q
    ·exact hI.out.2 j h (by omega))
   by_cases q:chkG l[i].1 l[i].2=0
   ·rw[if_neg (fun k=>k q)]at hs
    rw[q]at cc
    have k1:True:=trivial
    replace hJ:=Hid.mk (hJ.out q)
    replace hs:=Hid.mk hs
    clear q hm
    have hmem:=Hid.mk (show ∀ k (h:k<l.length),k<i→l[k].1=l[i].1→l[i].1∈(l.take i).map (·.1)from fun k h h1 h2=>by
     rw[← h2]
     exact List.mem_map.2 ⟨l[k],List.mem_take_iff_getElem.2 ⟨k,by omega,rfl⟩,rfl⟩)
    have hnm:=Hid.mk (show (∀ k (h:k<l.length),k<i→l[k].1≠l[i].1)→l[i].1∉(l.take i).map (·.1)from fun h hmm=>by
     obtain ⟨s,hs,e⟩:=List.mem_map.1 hmm
     obtain ⟨k,hk,rfl⟩:=List.mem_take_iff_getElem.1 hs
     exact h k (by omega) (by omega) e)
    simp only[eRP,List.cons_append,List.nil_append]at es1 cc
    repeat' (first|refine zg ?_|(refine AW.cond rfl ?_ ?_<;>intro hc<;>first|simp only[NM]at hc|omega|skip)|refine zr ?_|(refine callV.plain _ yfn_119 cc (by simp -dsimp (disch:=try exact zo) only[go_sem,eRPs_in]) (.lit _) ?_)|refine ⟨by omega,?_⟩|(refine zb ?_ ?_<;>intro hg<;>(try rw[hg])<;>try simp only[NM]at hg)|omega|simp -dsimp (disch:=try exact zo) only[go_sem,hl,es1,k1,ZT,eRS_in,eRPs_in]|contradiction|rfl)
    refine AW.loop (fun z:{k:Nat // k≤i∧Hid (∀ k' (h:k'<l.length),k'<k→l[k'].1≠l[i].1)}=>⟨[(5,.lit (.int .i64 z.1)),(3,.lit (.int .i64 i)),(1,.loc 8 0)],[(8,.blk [.sl (eRS l)])],80⟩) (fun z=>i - z.1) ⟨0,Nat.zero_le _,Hid.mk (fun k' _ h=>absurd h (Nat.not_lt_zero _))⟩ (Weak.t4 (by refine ⟨?_,?_,?_,?_⟩<;>simp -dsimp (disch:=try exact zo) only[go_sem,eRS_in,ZC])) ?_
    rintro ⟨k,hk,hK⟩
    dsimp only
    by_cases hkt:k<i
    ·have hkl:k<l.length:=by omega
     have es2:=eRS_getD l k hkl
     simp only[eRP,List.cons_append,List.nil_append]at es2
     by_cases q2:l[k].1=l[i].1
     ·have he:e=8:=by
       have:=hs.out
       rwa [if_pos (hmem.out k hkl hkt q2)]at this
      rw[he]
      rw[q2]at es2
      clear hs hmem hnm hK hJ hI cc
      repeat' (first|refine zg ?_|(refine AW.cond rfl ?_ ?_<;>intro hc<;>first|simp only[NM]at hc|omega|skip)|refine zr ?_|refine ⟨by omega,?_⟩|(refine zb ?_ ?_<;>intro hg<;>(try rw[hg])<;>try simp only[NM]at hg)|omega|simp -dsimp (disch:=try exact zo) only[go_sem,hl,es1,es2,ZT,eRS_in,eRPs_in]|contradiction|rfl)
     ·have hne:¬ (l[k].1.n1=l[i].1.n1∧l[k].1.m1=l[i].1.m1∧l[k].1.n2=l[i].1.n2∧l[k].1.m2=l[i].1.m2∧l[k].1.n3=l[i].1.n3∧l[k].1.m3=l[i].1.m3∧l[k].1.n4=l[i].1.n4∧l[k].1.m4=l[i].1.m4):=fun h=>q2 (RP_ext h)
      have hK1:=Hid.mk (show ∀ k' (h:k'<l.length),k'<k+1→l[k'].1≠l[i].1 from fun k' h h'=>by
       by_cases e:k'=k
       ·subst e;exact q2
       ·exact hK.out k' h (by omega))
      clear cc q2
      repeat' (first|refine zg ?_|(refine AW.cond rfl ?_ ?_<;>intro hc<;>first|simp only[NM]at hc|omega|skip)|refine zr ?_|refine ⟨by omega,?_⟩|(refine zb ?_ ?_<;>intro hg<;>(try rw[hg])<;>try simp only[NM]at hg)|omega|simp -dsimp (disch:=try exact zo) only[go_sem,hl,es1,es2,ZT,eRS_in,eRPs_in]|contradiction|rfl)
      all_goals exact AW.stop ⟨⟨k+1,by omega,hK1⟩,(Weak.t4 (by refine ⟨?_,?_,?_,?_⟩<;>simp -dsimp (disch:=try exact zo) only[go_sem,eRS_in,ZC])),by dsimp only;omega⟩
    ·have hkl:k=i:=by omega
     subst hkl
     have hs':=hs.out
     rw[if_neg (hnm.out fun k' h h'=>hK.out k' h h')]at hs'
     have hI1:=Hid.mk (And.intro hs' hJ.out)
     clear hs' hs hmem hnm cc
     repeat' (first|refine zg ?_|(refine AW.cond rfl ?_ ?_<;>intro hc<;>first|simp only[NM]at hc|omega|skip)|refine zr ?_|refine ⟨by omega,?_⟩|(refine zb ?_ ?_<;>intro hg<;>(try rw[hg])<;>try simp only[NM]at hg)|omega|simp -dsimp (disch:=try exact zo) only[go_sem,hl,eRS_in]|contradiction|rfl)
     all_goals exact AW.stop ⟨⟨k+1,by omega,hI1⟩,(Weak.t4 (by refine ⟨?_,?_,?_,?_⟩<;>simp -dsimp (disch:=try exact zo) only[go_sem,eRS_in,ZC])),by dsimp only;omega⟩
   ·rw[if_pos q]at hs
    rw[hs]
    generalize hc:chkG l[i].1 l[i].2=c at *
    have k1:(c=0)=False:=eq_false q
    clear hs hJ hI hc hm
    simp only[eRP,List.cons_append,List.nil_append]at es1 cc
    repeat' (first|refine zg ?_|(refine AW.cond rfl ?_ ?_<;>intro hc<;>first|simp only[NM]at hc|omega|skip)|refine zr ?_|(refine callV.plain _ yfn_119 cc (by simp -dsimp (disch:=try exact zo) only[go_sem,eRPs_in]) (.lit _) ?_)|refine ⟨by omega,?_⟩|(refine zb ?_ ?_<;>intro hg<;>(try rw[hg])<;>try simp only[NM]at hg)|omega|simp -dsimp (disch:=try exact zo) only[go_sem,hl,es1,k1,ZT,eRS_in,eRPs_in]|contradiction|rfl)
  ·have hil:i=l.length:=by omega
   subst hil
   have hall:∀ s∈l,chkG s.1 s.2=0:=fun s hs=>by
    obtain ⟨j,hj,rfl⟩:=List.getElem_of_mem hs
    exact hI.out.2 j hj hj
   have hs:=hI.out.1
   rw[List.drop_length]at hs
   have hs':e=finC l:=hs
   have ht:=(typ_of hall).1
   have hb:=typ_bd hB.out hall
   have hl2:(eS (typC l)).length=l.length:=by rw[← ht];exact hl
   obtain ⟨r,hr⟩:∃ r:Bool,r=true↔clsB (typC l)∧noOut (typC l):=by
    by_cases h:clsB (typC l)∧noOut (typC l)
    ·exact ⟨true,fun _=>h,fun _=>rfl⟩
    ·exact ⟨false,fun e=>(Bool.false_ne_true e).elim,fun e=>absurd e h⟩
   have cv:=c120 (typC l) r (hr.trans conv_iff.symm) hb
   rw[hs']
   unfold finC
   rw[ht]
   by_cases h4:l.length<4
   ·have k4:((l.length:Int)<4)=True:=eq_true (by omega)
    rw[if_pos h4]
    clear hI hB hall hs hs' hb hr ht hl
    generalize typC l=L at *
    repeat' (first|refine zg ?_|(refine AW.cond rfl ?_ ?_<;>intro hc<;>first|simp only[NM]at hc|omega|skip)|refine zr ?_|(refine callV.plain _ yfn_120 cv (by simp -dsimp (disch:=try exact zo) only[go_sem,eS_in]) (.lit _) ?_)|refine ⟨by omega,?_⟩|(refine zb ?_ ?_<;>intro hg<;>(try rw[hg])<;>try simp only[NM]at hg)|omega|simp -dsimp (disch:=try exact zo) only[go_sem,hl2,k4,eS_in]|contradiction|rfl)
   ·have k4:((l.length:Int)<4)=False:=eq_false (by omega)
    rw[if_neg h4]
    cases r
    ·rw[if_neg (fun h=>Bool.false_ne_true (hr.2 h))]
     clear hI hB hall hs hs' hb hr ht hl
     generalize typC l=L at *
     repeat' (first|refine zg ?_|(refine AW.cond rfl ?_ ?_<;>intro hc<;>first|simp only[NM]at hc|omega|skip)|refine zr ?_|(refine callV.plain _ yfn_120 cv (by simp -dsimp (disch:=try exact zo) only[go_sem,eS_in]) (.lit _) ?_)|refine ⟨by omega,?_⟩|(refine zb ?_ ?_<;>intro hg<;>(try rw[hg])<;>try simp only[NM]at hg)|omega|simp -dsimp (disch:=try exact zo) only[go_sem,hl2,k4,eS_in]|contradiction|rfl)
    ·rw[if_pos (hr.1 rfl)]
     clear hI hB hall hs hs' hb hr ht hl
     generalize typC l=L at *
     repeat' (first|refine zg ?_|(refine AW.cond rfl ?_ ?_<;>intro hc<;>first|simp only[NM]at hc|omega|skip)|refine zr ?_|(refine callV.plain _ yfn_120 cv (by simp -dsimp (disch:=try exact zo) only[go_sem,eS_in]) (.lit _) ?_)|refine ⟨by omega,?_⟩|(refine zb ?_ ?_<;>intro hg<;>(try rw[hg])<;>try simp only[NM]at hg)|omega|simp -dsimp (disch:=try exact zo) only[go_sem,hl2,k4,eS_in]|contradiction|rfl)
end Go.Proofs.Vx
namespace Go.Proofs.Vx
open Go Go.Sx Go.Proofs
attribute [local irreducible] fnT CallOK CallFr AW effV callV runP runO oneP oneO gcaseP hid
def ddE (G:List (Pt × Pt)):List (Pt × Pt):=G.foldl (fun D e=>if e∈D then D else D++[e]) []
theorem ddE_snoc (G:List (Pt × Pt)) (e:Pt × Pt):ddE (G++[e])=if e∈ddE G then ddE G else ddE G++[e]:=by unfold ddE;rw[List.foldl_append];rfl
theorem ddE_mem:∀ (r G D:List (Pt × Pt)),(∀ e,e∈D↔e∈G)→∀ e,e∈r.foldl (fun D e=>if e∈D then D else D++[e]) D↔e∈G++r:=by
 intro r
 induction r with
 | nil=>intro G D h e;simpa using h e
 | cons x r ih =>
  intro G D h e
  rw[List.foldl_cons,ih (G++[x]) _ (fun f=>?_)]
  ·simp
  ·split
   ·rename_i hx
    rw[h,List.mem_append,List.mem_singleton]
    constructor
    ·exact .inl
    ·rintro (k|rfl)
     ·exact k
     ·exact (h _).1 hx
   ·rw[List.mem_append,List.mem_append,h]
theorem ddE_iff {G:List (Pt × Pt)} {e:Pt × Pt}:e∈ddE G↔e∈G:=by
 have:=ddE_mem G [] [] (fun _=>Iff.rfl) e
 unfold ddE
 simpa using this
theorem ddE_nodup (G:List (Pt × Pt)):(ddE G).Nodup:=by
 have key:∀ (r D:List (Pt × Pt)),D.Nodup→(r.foldl (fun D e=>if e∈D then D else D++[e]) D).Nodup:=by
  intro r
  induction r with
  | nil=>intro D h;exact h
  | cons x r ih =>
   intro D h
   rw[List.foldl_cons]
   refine ih _ ?_
   split
   ·exact h
   ·rename_i hx
    rw[List.nodup_append]
    exact ⟨h,by simp,fun a ha b hb e=>by
     obtain rfl:=List.mem_singleton.1 hb
     exact hx (e▸ha)⟩
 exact key G [] List.Pairwise.nil
theorem ddE_len (G:List (Pt × Pt)):(ddE G).length≤G.length:=by
 have key:∀ (r D:List (Pt × Pt)),(r.foldl (fun D e=>if e∈D then D else D++[e]) D).length≤D.length+r.length:=by
  intro r
  induction r with
  | nil=>intro D;simp
  | cons x r ih =>
   intro D
   rw[List.foldl_cons,List.length_cons]
   refine Nat.le_trans (ih _) ?_
   split
   ·omega
   ·rw[List.length_append,List.length_singleton];omega
 have:=key G []
 simpa [ddE]using this
def mVN (D:List (Pt × Pt)) (v:Pt × Pt→Nat):List (Value × Value):=D.map fun e=>(ev e,.int .i64 (v e:Nat))
def mCN (G:List (Pt × Pt)):List (Value × Value):=mVN (ddE G) fun e=>G.count e
theorem mVN_keys (D:List (Pt × Pt)) (v:Pt × Pt→Nat):(mVN D v).map (·.1)=D.map ev:=by unfold mVN;rw[List.map_map];rfl
theorem ev_mem {D:List (Pt × Pt)} {e:Pt × Pt}:ev e∈D.map ev↔e∈D:=by
 constructor
 ·intro h
  obtain ⟨f,hf,q⟩:=List.mem_map.1 h
  exact ev_inj q▸hf
 ·exact fun h=>List.mem_map_of_mem h
open Classical in
theorem mVN_find {D:List (Pt × Pt)} {v:Pt × Pt→Nat} {e:Pt × Pt} (h:e∈D):mfind (mVN D v) (ev e)=some (.int .i64 (v e:Nat)):=by
 unfold mfind
 cases hq:(mVN D v).find? fun x=>decide (x.1=ev e)with
 | none =>
  have:=List.find?_eq_none.1 hq (ev e,.int .i64 (v e:Nat)) (List.mem_map.2 ⟨e,h,rfl⟩)
  simp at this
 | some x =>
  obtain ⟨f,_,rfl⟩:=List.mem_map.1 (List.mem_of_find?_eq_some hq)
  have h2:=List.find?_some hq
  have:ev f=ev e:=by simpa using h2
  rw[ev_inj this];rfl
theorem mVN_set {D:List (Pt × Pt)} (nd:D.Nodup) {v:Pt × Pt→Nat} {j:Nat} (hj:j<D.length) (w:Nat):mset (mVN D v) j (.int .i64 (w:Nat))=mVN D fun f=>if f=D[j]then w else v f:=by
 unfold mset mVN
 refine List.ext_getElem? fun m=>?_
 rw[List.getElem?_modify,List.getElem?_map,List.getElem?_map]
 cases hm:D[m]? with
 | none=>simp
 | some f =>
  obtain ⟨hml,hf⟩:=List.getElem?_eq_some_iff.1 hm
  by_cases q:j=m
  ·subst q
   have:f=D[j]:=hf.symm
   simp[this]
  ·have:f≠D[j]:=fun e=>q (nd_inj nd hj hml (by rw[hf,e]))
   simp[q,this]
theorem mVN_app (D:List (Pt × Pt)) (e:Pt × Pt) (v:Pt × Pt→Nat):mVN (D++[e]) v=mVN D v++[(ev e,.int .i64 (v e:Nat))]:=by unfold mVN;rw[List.map_append];rfl
theorem mVN_congr {D:List (Pt × Pt)} {v w:Pt × Pt→Nat} (h:∀ e∈D,v e=w e):mVN D v=mVN D w:=by
 unfold mVN
 exact List.map_congr_left fun e he=>by rw[h e he]
open Classical in
theorem mVN_put {D:List (Pt × Pt)} {v:Pt × Pt→Nat} {e:Pt × Pt} (h:e∈D):mput (mVN D v) (ev e) (.int .i64 (v e:Nat))=mVN D v:=by
 unfold mput
 rw[if_pos (by rw[mVN_keys];exact ev_mem.2 h)]
 unfold mVN
 rw[List.map_map]
 refine List.map_congr_left fun f _=>?_
 show (if ev f=ev e then _ else _)=_
 split
 ·rename_i q
  rw[ev_inj q]
 ·rfl
theorem mVN_idx {D:List (Pt × Pt)} (nd:D.Nodup) {v:Pt × Pt→Nat} {j:Nat} (hj:j<D.length):midx (mVN D v) (ev D[j])=j:=by
 unfold midx mVN
 rw[List.findIdx_map]
 refine (List.findIdx_eq hj).2 ⟨by simp,fun k hk=>?_⟩
 simp only[Function.comp_apply,decide_eq_false_iff_not]
 intro q
 have:=nd_inj nd (by omega) hj (ev_inj q)
 omega
structure MStep (M M1 M2:List (Value × Value)) (e:Pt × Pt) (c j:Nat):Prop where
 find:(mfind M (ev e)).getD (.int .i64 0)=.int .i64 (c:Nat)
 put:mput M (ev e) (.int .i64 (c:Nat))=M1
 find1:(mfind M1 (ev e)).getD (.int .i64 0)=.int .i64 (c:Nat)
 idx:midx M (ev e)=j
 lt:j<M1.length
 set:mset M1 j (.int .i64 ((c+1:Nat):Int))=M2
 keys:M1.map (·.1)=M2.map (·.1)
theorem mCN_step (G:List (Pt × Pt)) (e:Pt × Pt):∃ M1 j,MStep (mCN G) M1 (mCN (G++[e])) e (G.count e) j:=by
 have nd:=ddE_nodup G
 have hcnt:∀ f,(G++[e]).count f=G.count f+if f=e then 1 else 0:=fun f=>by
  rw[List.count_append,List.count_singleton]
  by_cases q:f=e
  ·subst q;simp
  ·rw[if_neg q,if_neg]
   simpa using fun h=>q h.symm
 by_cases h:e∈ddE G
 ·obtain ⟨j,hj,q⟩:=List.mem_iff_getElem.1 h
  refine ⟨mCN G,j,?_,?_,?_,?_,?_,?_,?_⟩
  ·unfold mCN;rw[mVN_find h];rfl
  ·unfold mCN;exact mVN_put h
  ·unfold mCN;rw[mVN_find h];rfl
  ·unfold mCN;rw[← q];exact mVN_idx nd hj
  ·unfold mCN mVN;rw[List.length_map];exact hj
  ·unfold mCN
   rw[mVN_set nd hj,ddE_snoc,if_pos h]
   refine mVN_congr fun f _=>?_
   rw[hcnt,q]
   split
   ·rename_i k;rw[k]
   ·rfl
  ·unfold mCN
   rw[mVN_keys,mVN_keys,ddE_snoc,if_pos h]
 ·have hn:ev e∉(mCN G).map (·.1):=by unfold mCN;rw[mVN_keys];exact fun k=>h (ev_mem.1 k)
  have h0:G.count e=0:=List.count_eq_zero.2 fun k=>h (ddE_iff.2 k)
  have hD:∀ f∈ddE G,f≠e:=fun f hf k=>h (k▸hf)
  have e2:mCN G++[(ev e,.int .i64 ((0:Nat):Int))]=mVN (ddE G++[e]) fun f=>if f=e then 0 else G.count f:=by
   rw[mVN_app,if_pos rfl]
   congr 1
   exact mVN_congr fun f hf=>by rw[if_neg (hD f hf)]
  refine ⟨mCN G++[(ev e,.int .i64 ((0:Nat):Int))],(ddE G).length,?_,?_,?_,?_,?_,?_,?_⟩
  ·rw[mfind_no hn,h0];rfl
  ·rw[h0];exact mput_no hn
  ·rw[e2,mVN_find (by simp),h0,if_pos rfl];rfl
  ·rw[midx_none hn];unfold mCN mVN;rw[List.length_map]
  ·rw[List.length_append];unfold mCN mVN;rw[List.length_map];simp
  ·rw[e2,h0]
   have nd2:(ddE G++[e]).Nodup:=by
    rw[List.nodup_append]
    exact ⟨nd,by simp,fun a ha b hb k=>by
     obtain rfl:=List.mem_singleton.1 hb
     exact hD a ha k⟩
   rw[mVN_set nd2 (by simp)]
   unfold mCN
   rw[ddE_snoc,if_neg h]
   refine mVN_congr fun f hf=>?_
   rw[hcnt]
   have hg:(ddE G++[e])[(ddE G).length]'(by simp)=e:=by simp
   rw[hg]
   by_cases k:f=e
   ·rw[if_pos k,if_pos k,k,h0]
   ·rw[if_neg k,if_neg k,if_neg k,Nat.add_zero]
  ·rw[e2]
   unfold mCN
   rw[mVN_keys,mVN_keys,ddE_snoc,if_neg h]
theorem mCN_keys {G:List (Pt × Pt)} (h:∀ e∈G,BPt 1073741824 e.1∧BPt 1073741824 e.2):KeysOk Tryz.prog 138 (mCN G):=by
 refine ⟨fun x hx=>?_,?_⟩
 ·obtain ⟨e,he,rfl⟩:=List.mem_map.1 hx
  have:=h e (ddE_iff.1 he)
  exact key138 e this.1 this.2
 ·unfold mCN
  rw[mVN_keys]
  exact List.Pairwise.map _ (fun a b hab hp=>hab (ev_inj hp)) (ddE_nodup G)
theorem keys_of {M M2:List (Value × Value)} (h:KeysOk Tryz.prog 138 M2) (e:M.map (·.1)=M2.map (·.1)):KeysOk Tryz.prog 138 M:=by
 refine ⟨fun x hx=>?_,by rw[e];exact h.2⟩
 have:x.1∈M2.map (·.1):=by rw[← e];exact List.mem_map_of_mem hx
 obtain ⟨y,hy,q⟩:=List.mem_map.1 this
 rw[← q]
 exact h.1 y hy
theorem mCN_find (G:List (Pt × Pt)) (e:Pt × Pt):(mfind (mCN G) (ev e)).getD (.int .i64 0)=.int .i64 (G.count e:Nat):=by
 obtain ⟨M1,j,h⟩:=mCN_step G e
 exact h.find
end Go.Proofs.Vx
namespace Go.Proofs.Vx
open Go Go.Sx Go.Proofs
attribute [local irreducible] fnT CallOK CallFr AW effV callV runP runO oneP oneO gcaseP hid
theorem noOut_iff {l:PCell}:noOut l↔∀ x∈vertsP l,outP l x=false:=by
 constructor
 ·intro h x hx
  obtain ⟨s,hs,hx⟩:=verts_mem.1 hx
  obtain ⟨i,hi,rfl⟩:=List.getElem_of_mem hs
  obtain ⟨k,hk,rfl⟩:=List.getElem_of_mem hx
  unfold outP
  rw[List.any_eq_false]
  intro t ht
  obtain ⟨j,hj,rfl⟩:=List.getElem_of_mem ht
  have:=h i hi k hk j hj
  simp only[decide_eq_true_eq]
  omega
 ·intro h i hi k hk j hj
  have h1:=h _ (verts_mem.2 ⟨_,List.getElem_mem hi,List.getElem_mem hk⟩)
  unfold outP at h1
  rw[List.any_eq_false]at h1
  have:=h1 _ (List.getElem_mem hj)
  simp only[decide_eq_true_eq]at this
  omega
theorem clsA_iff {l:PCell}:clsA l↔∀ j (h:j<(ddE (esP l)).length),(esP l).count (ddE (esP l))[j]=1∧(esP l).count (Geo.sw (ddE (esP l))[j])=1:=by
 constructor
 ·intro h j hj
  exact h _ (ddE_iff.1 (List.getElem_mem hj))
 ·intro h e he
  obtain ⟨j,hj,rfl⟩:=List.getElem_of_mem (ddE_iff.2 he)
  exact h j hj
theorem finC_iff {l:RCell} (h:∀ s∈l,chkG s.1 s.2=0) (h4:¬ l.length<4):(clsA (typC l)→(∀ x∈vertsP (typC l),outP (typC l) x=false)→finC l=0)∧(¬ clsA (typC l)→finC l=3)∧(∀ x∈vertsP (typC l),outP (typC l) x≠false→finC l=3):=by
 have hf:=(typ_of h).2
 have hAB:=clsAB hf
 unfold finC
 rw[if_neg h4]
 refine ⟨fun h1 h2=>if_pos ⟨hAB.1 h1,noOut_iff.2 h2⟩,fun h1=>if_neg fun k=>h1 (hAB.2 k.1),fun x hx h2=>if_neg fun k=>h2 (noOut_iff.1 k.2 x hx)⟩
end Go.Proofs.Vx
namespace Go.Proofs.Vx
open Go Go.Sx Go.Proofs
attribute [local irreducible] fnT CallOK CallFr AW effV callV runP runO oneP oneO gcaseP hid
theorem can_inj {r s:RP} (hr:canHR r) (hs:canHR s) (h:nrmR r=nrmR s):r=s:=by
 have:eRP r=eRP s:=by rw[hr.2,hs.2,h]
 exact RP_ext (eRP_eq.1 this)
theorem met_iff {l:RCell} {i:Nat} (hi:i<l.length) (hc:∀ j (h:j<l.length),j<i+1→chkG l[j].1 l[j].2=0):l[i].1∈(l.take i).map (·.1)↔nrmR l[i].1∈((typC l).take i).map (·.1):=by
 unfold typC
 rw[← List.map_take,List.map_map]
 constructor
 ·intro h
  obtain ⟨s,hs,q⟩:=List.mem_map.1 h
  exact List.mem_map.2 ⟨s,hs,by rw[← q];rfl⟩
 ·intro h
  obtain ⟨s,hs,q⟩:=List.mem_map.1 h
  obtain ⟨k,hk,rfl⟩:=List.mem_take_iff_getElem.1 hs
  have h1:=(chk_zero (hc k (by omega) (by omega))).1
  have h2:=(chk_zero (hc i hi (by omega))).1
  have:=can_inj h1 h2 q
  rw[← this]
  exact List.mem_map.2 ⟨_,hs,rfl⟩
open Classical in
theorem mHB_has {ps:List Pl} {p:Pl} (h:p∈ps):(mfind (mHB ps) (plv p)).getD (.bool false)=.bool true:=by
 unfold mfind
 cases hq:(mHB ps).find? fun x=>decide (x.1=plv p)with
 | none =>
  have:=List.find?_eq_none.1 hq (plv p,.bool true) (List.mem_map.2 ⟨p,h,rfl⟩)
  simp at this
 | some x =>
  obtain ⟨f,_,rfl⟩:=List.mem_map.1 (List.mem_of_find?_eq_some hq)
  rfl
end Go.Proofs.Vx
