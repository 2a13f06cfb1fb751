import Derived.Test.YtjlfgmhmalbiiaaGreatDoorProg
import Derived.Test.YtjlfgmhmalbiiaaGreatDoorU10
import Derived.Test.YtjlfgmhmalbiiaaGreatDoorU20
import Derived.Test.YtjlfgmhmalbiiaaGreatDoorU33
import Derived.Test.YtjlfgmhmalbiiaaGreatDoorU34
set_option linter.all false
namespace Go.Proofs.Vx
open Go Go.Sx Go.Proofs
attribute [local irreducible] fnT CallOK CallFr AW effV callV runP runO oneP oneO gcaseP hid
theorem yfn_163:fnT Tryz.prog 163=true:=by kernel_rfl
theorem bhR_succ (b:Pl) (l:PCell) (i:Nat) (h:i<l.length):bhR b (l.take (i+1))=bhR b (l.take i)++(if 3≤(partI (-1) b l[i].2).length then [(l[i].1,partI (-1) b l[i].2)]else []):=by
 unfold bhR
 rw[List.take_succ_eq_append_getElem h,List.filterMap_append]
 congr 1
 rw[List.filterMap_cons,List.filterMap_nil]
 split<;>rename_i q<;>split at q<;>simp_all
theorem bhR_len (b:Pl) (l:PCell):(bhR b l).length≤l.length:=List.length_filterMap_le _ _
def onL (b:Pl) (es:List (Pt × Pt)):List (Pt × Pt):=es.filter (onE b)
theorem onL_app (b:Pl) (a c:List (Pt × Pt)):onL b (a++c)=onL b a++onL b c:=List.filter_append _ _
theorem esP_app (l m:PCell):esP (l++m)=esP l++esP m:=List.flatMap_append
theorem esP_one (p:Pl) (vs:List Pt):esP [(p,vs)]=Geo.edges vs:=by unfold esP;simp
theorem edges_take {α:Type} (vs:List α) (k:Nat) (h:k<vs.length):(Geo.edges vs).take (k+1)=(Geo.edges vs).take k++[(vs[k],vs[(k+1) % vs.length]'(Nat.mod_lt _ (by omega)))]:=by
 have hl:k<(Geo.edges vs).length:=by rw[Geo.edges_length];exact h
 rw[List.take_succ_eq_append_getElem hl,edges_get vs k h hl]
theorem onL_one (b:Pl) (x y:Pt):onL b [(x,y)]=if sideP b x=0∧sideP b y=0 then [(x,y)]else []:=by
 unfold onL onE
 by_cases h:sideP b x=0∧sideP b y=0<;>simp[h]
def mE (b:Pl) (H:List (Pt × Pt)) (P:List Pt) (k:Nat):List (Pt × Pt):=H++onL b ((Geo.edges P).take k)
theorem mE_zero (b:Pl) (H:List (Pt × Pt)) (P:List Pt):mE b H P 0=H:=List.append_nil _
theorem mE_all (b:Pl) (H:List (Pt × Pt)) (P:List Pt):mE b H P P.length=H++onL b (Geo.edges P):=by unfold mE;rw[List.take_of_length_le (by rw[Geo.edges_length];exact Nat.le_refl _)]
theorem onL_len (b:Pl) (es:List (Pt × Pt)):(onL b es).length≤es.length:=List.length_filter_le _ _
theorem pt_ext {p q:Pt} (h:p.x=q.x∧p.y=q.y∧p.z=q.z∧p.w=q.w):p=q:=by
 obtain ⟨h1,h2,h3,h4⟩:=h
 cases p;cases q
 simp only at h1 h2 h3 h4
 subst h1 h2 h3 h4;rfl
theorem esP_len {l:PCell} {M:Nat} (h:∀ s∈l,s.2.length≤M):(esP l).length≤l.length*M:=by
 induction l with
 | nil=>simp[esP]
 | cons s l ih =>
  have h1:=ih fun t ht=>h t (by simp[ht])
  have h2:=h s (by simp)
  have e:(esP (s::l)).length=s.2.length+(esP l).length:=by unfold esP;rw[List.flatMap_cons,List.length_append,Geo.edges_length]
  rw[e,List.length_cons,Nat.succ_mul]
  omega
theorem bhR_M {b:Pl} {l:PCell} {M:Nat} (h:∀ s∈l,s.2.length≤M):∀ s∈bhR b l,s.2.length≤2*M:=by
 intro s hs
 obtain ⟨t,ht,e⟩:=List.mem_filterMap.1 hs
 split at e
 ·obtain rfl:=Option.some.inj e
  have h1:=partI_len (-1) b t.2
  have h2:=h t ht
  show (partI (-1) b t.2).length≤_
  omega
 ·contradiction
set_option maxRecDepth 20000 in
set_option maxHeartbeats 40000000 in
theorem c163 (l:PCell) (b:Pl) (h:CellOK l) (hS:Geo.Spl (sds l) (tH b)) (hb:BPl 1048576 b) (hn:l.length≤4096) (hv:∀ s∈l,s.2.length≤65536∧∀ v∈s.2,BPt 1048576 v):CallOK Tryz.prog 163 [.agg [.sl (eS l)],.agg (eH b)] [] (.agg [.sl (eS (bcellR b l))]) []:=by
 refine CallOK.closed Tryz.func163 rfl 131 rfl rfl (inCell _) [.cell 4 33] (congrArg Array.toList Tryz.results163) ?_
 simp only[startT,Nat.reduceAdd]
 have hml:maxLen=9223372036854775807:=rfl
 have hl:(eS l).length=l.length:=List.length_map _
 have hz1:bhR b []=[]:=rfl
 have hz2:onL b []=[]:=rfl
 have hz3:esP []=[]:=rfl
 have hEn:∀ i,(onL b (esP (bhR b (l.take i)))).length≤536870912:=fun i=>by
  have h1:=onL_len b (esP (bhR b (l.take i)))
  have h2:=esP_len (bhR_M (b:=b) (l:=l.take i) (M:=65536) fun s hs=>(hv s (List.mem_of_mem_take hs)).1)
  have h3:=bhR_len b (l.take i)
  rw[List.length_take]at h3
  have h4:(bhR b (l.take i)).length*(2*65536)≤4096*(2*65536):=Nat.mul_le_mul_right _ (by omega)
  omega
 repeat' (first|refine zg ?_|(refine AW.cond rfl ?_ ?_<;>intro hc<;>first|simp only[NM]at hc|omega|skip)|refine zr ?_|refine ⟨by omega,?_⟩|(refine zb ?_ ?_<;>intro hg<;>(try rw[hg])<;>try simp only[NM]at hg)|omega|simp -dsimp (disch:=try exact zo) only[go_sem,hl]|contradiction|rfl)
 refine AW.weak (Weak.nilB 12 0 9 _ (by decide) rfl (by simp) rfl (by simp)) ?_
 refine AW.loop (fun z:{i:Nat // i≤l.length}=>⟨[(8,.lit (.int .i64 z.1)),(6,.ref 14 0 (onL b (esP (bhR b (l.take z.1)))).length (onL b (esP (bhR b (l.take z.1)))).length),(7,.ref 15 0 (onL b (esP (bhR b (l.take z.1)))).length (onL b (esP (bhR b (l.take z.1)))).length),(2,.loc 8 0),(3,.loc 9 0),(4,.loc 10 0),(5,.loc 12 0)],[(12,.blk [.ref 19 0 (bhR b (l.take z.1)).length (bhR b (l.take z.1)).length]),(19,.vec 9 (eS (bhR b (l.take z.1)))),(14,.vec 8 (((onL b (esP (bhR b (l.take z.1)))).map (·.2)).map eP)),(15,.vec 8 (((onL b (esP (bhR b (l.take z.1)))).map (·.1)).map eP)),(8,.blk [.sl (eS l)]),(9,.blk (eH b)),(10,.blk [.lit (.slice none 0 0)])],60⟩) (fun z=>l.length - z.1) ⟨0,Nat.zero_le _⟩ (Weak.t4 (by refine ⟨?_,?_,?_,?_⟩<;>simp -dsimp (disch:=try exact zo) only[go_sem,eS_in,eP_in,List.take_zero,hz1,hz2,hz3,List.map_nil,List.length_nil,ZC])) ?_
 rintro ⟨i,hi⟩
 dsimp only
 by_cases hlt:i<l.length
 ·have es1:=eS_getD l i hlt
  have hst0:=bhR_succ b l i hlt
  obtain ⟨hvn,hvb⟩:=hv _ (List.getElem_mem hlt)
  have hcan:=h.can _ (List.getElem_mem hlt)
  have hBn:=bhR_len b (l.take i)
  rw[List.length_take]at hBn
  have hHn:=hEn i
  clear h hS hv hEn
  generalize l[i]=sd at *
  obtain ⟨sp,svs⟩:=sd
  dsimp only at es1 hst0 hvn hvb hcan
  have cc:=c214 b svs (by omega) hcan hvb hb
  have hPn:=partI_len (-1) b svs
  have hPb:=partI_bs (h:=-1) hb hvb
  generalize partI (-1) b svs=P at *
  generalize bhR b (l.take i)=B at *
  have hBl:(eS B).length=B.length:=List.length_map _
  have hBl2:(B++[(sp,P)]).length=B.length+1:=by simp
  have hBm:eS (B++[(sp,P)])=eS B++[eG sp P]:=by rw[eS_app];rfl
  have hPl:(P.map eP).length=P.length:=List.length_map _
  have hfH0:onL b (esP (B++[(sp,P)]))=onL b (esP B)++onL b (Geo.edges P):=by rw[esP_app,esP_one,onL_app]
  generalize hHe:onL b (esP B)=H at *
  simp only[eG]at es1
  have hHa:((H.map (·.2)).map eP).length=H.length:=by rw[List.length_map,List.length_map]
  have hHb:((H.map (·.1)).map eP).length=H.length:=by rw[List.length_map,List.length_map]
  clear hcan hvb
  by_cases h3:3≤P.length
  ·have k0:((P.length:Int)<3)=False:=eq_false (by omega)
   rw[if_pos h3]at hst0
   repeat' (first|refine zg ?_|(refine AW.cond rfl ?_ ?_<;>intro hc<;>first|simp only[NM]at hc|omega|skip)|refine zr ?_|(refine callV.plain _ yfn_214 cc (by simp -dsimp (disch:=try exact zo) only[go_sem,eP_in]) (by rw[In_sl,eP_in];trivial) ?_)|refine ⟨by omega,?_⟩|(refine zb ?_ ?_<;>intro hg<;>(try rw[hg])<;>try simp only[NM]at hg)|omega|simp -dsimp (disch:=try exact zo) only[go_sem,hl,es1,ZT,zl,eS_in,eP_in,k0,hBl,hBm]|contradiction|rfl)
   refine AW.loop (fun z:{k:Nat // k≤P.length}=>⟨[(10,.lit (.int .i64 z.1)),(9,.sl (P.map eP)),(8,.lit (.int .i64 i)),(6,.ref 14 0 (mE b H P z.1).length (mE b H P z.1).length),(7,.ref 15 0 (mE b H P z.1).length (mE b H P z.1).length),(2,.loc 8 0),(3,.loc 9 0),(4,.loc 10 0),(5,.loc 12 0)],[(12,.blk [.ref 19 0 (B++[(sp,P)]).length (B++[(sp,P)]).length]),(19,.vec 9 (eS (B++[(sp,P)]))),(14,.vec 8 (((mE b H P z.1).map (·.2)).map eP)),(15,.vec 8 (((mE b H P z.1).map (·.1)).map eP)),(8,.blk [.sl (eS l)]),(9,.blk (eH b)),(10,.blk [.lit (.slice none 0 0)])],90⟩) (fun z=>P.length - z.1) ⟨0,Nat.zero_le _⟩ (Weak.t4 (by refine ⟨?_,?_,?_,?_⟩<;>first|(simp -dsimp (disch:=try exact zo) only[go_sem,mE_zero,hBl2,hBm,hBl,ZC];done)|(simp -dsimp (disch:=try exact zo) only[go_sem,eS_in,eP_in,mE_zero,Int.cast_ofNat_Int];done))) ?_
   rintro ⟨k,hk⟩
   dsimp only
   by_cases hkt:k<P.length
   ·have hmod:(k+1) % P.length<P.length:=Nat.mod_lt _ (by omega)
    have hm:((k:Int)+1) % (P.length:Int)=(((k+1) % P.length:Nat):Int):=by rw[Int.natCast_emod,Int.natCast_add];rfl
    have ea:=eP_getD P k hkt
    have ea2:=eP_getD P _ hmod
    have hst:mE b H P (k+1)=mE b H P k++(if sideP b P[k]=0∧sideP b P[(k+1) % P.length]=0 then [(P[k],P[(k+1) % P.length])]else []):=by
     unfold mE;rw[edges_take P k hkt,onL_app,onL_one,List.append_assoc]
    have ca:=c50 b P[k] (hb.mono (by decide)) ((hPb _ (List.getElem_mem hkt)).mono (by decide))
    have cb:=c50 b P[(k+1) % P.length] (hb.mono (by decide)) ((hPb _ (List.getElem_mem hmod)).mono (by decide))
    have hGn:(mE b H P k).length≤1073741824:=by
     unfold mE
     have h1:=onL_len b ((Geo.edges P).take k)
     rw[List.length_take]at h1
     rw[List.length_append]
     omega
    clear hPb hfH0 hHa hHb hHn
    generalize P[k]=x at *
    generalize P[(k+1) % P.length]=y at *
    generalize mE b H P k=G at *
    have hHa:((G.map (·.2)).map eP).length=G.length:=by rw[List.length_map,List.length_map]
    have hHb:((G.map (·.1)).map eP).length=G.length:=by rw[List.length_map,List.length_map]
    simp only[eP,e4]at ea ea2
    by_cases q1:sideP b x=0
    ·have k1:=eq_true q1
     by_cases q2:sideP b y=0
     ·have k2:=eq_true q2
      rw[if_pos ⟨q1,q2⟩]at hst
      have hHl:(mE b H P (k+1)).length=G.length+1:=by rw[hst];simp
      have hHx:((mE b H P (k+1)).map (·.2)).map eP=(G.map (·.2)).map eP++[eP y]:=by rw[hst];simp
      have hHy:((mE b H P (k+1)).map (·.1)).map eP=(G.map (·.1)).map eP++[eP x]:=by rw[hst];simp
      clear hst q1 q2
      repeat' (first|refine zg ?_|(refine AW.cond rfl ?_ ?_<;>intro hc<;>first|simp only[NM]at hc|omega|skip)|refine zr ?_|(first|refine callV.flat _ yfn_50 ca rfl rfl ?_|refine callV.flat _ yfn_50 cb rfl rfl ?_)|refine ⟨by omega,?_⟩|(refine zb ?_ ?_<;>intro hg<;>(try rw[hg])<;>try simp only[NM]at hg)|omega|simp -dsimp (disch:=try exact zo) only[go_sem,hPl,ea,ea2,hm,k1,k2,ZT,zl,hHa,hHb,eP_in]|contradiction|rfl)
      all_goals exact AW.stop ⟨⟨k+1,by omega⟩,(Weak.t4 (by refine ⟨?_,?_,?_,?_⟩<;>first|(simp -dsimp (disch:=try exact zo) only[go_sem,hHl,hHx,hHy,zl,ZC];done)|(simp -dsimp (disch:=try exact zo) only[go_sem,eS_in,eP_in,hHl,ZC];done))),by dsimp only;omega⟩
     ·have k2:=eq_false q2
      rw[if_neg (fun e=>q2 e.2),List.append_nil]at hst
      clear q1 q2
      repeat' (first|refine zg ?_|(refine AW.cond rfl ?_ ?_<;>intro hc<;>first|simp only[NM]at hc|omega|skip)|refine zr ?_|(first|refine callV.flat _ yfn_50 ca rfl rfl ?_|refine callV.flat _ yfn_50 cb rfl rfl ?_)|refine ⟨by omega,?_⟩|(refine zb ?_ ?_<;>intro hg<;>(try rw[hg])<;>try simp only[NM]at hg)|omega|simp -dsimp (disch:=try exact zo) only[go_sem,hPl,ea,ea2,hm,k1,k2,ZT,zl,hHa,hHb,eP_in]|contradiction|rfl)
      all_goals exact AW.stop ⟨⟨k+1,by omega⟩,(Weak.t4 (by refine ⟨?_,?_,?_,?_⟩<;>simp -dsimp (disch:=try exact zo) only[go_sem,eS_in,eP_in,hst,ZC])),by dsimp only;omega⟩
    ·have k1:=eq_false q1
     have k2:True:=trivial
     rw[if_neg (fun e=>q1 e.1),List.append_nil]at hst
     clear q1
     repeat' (first|refine zg ?_|(refine AW.cond rfl ?_ ?_<;>intro hc<;>first|simp only[NM]at hc|omega|skip)|refine zr ?_|(first|refine callV.flat _ yfn_50 ca rfl rfl ?_|refine callV.flat _ yfn_50 cb rfl rfl ?_)|refine ⟨by omega,?_⟩|(refine zb ?_ ?_<;>intro hg<;>(try rw[hg])<;>try simp only[NM]at hg)|omega|simp -dsimp (disch:=try exact zo) only[go_sem,hPl,ea,ea2,hm,k1,k2,ZT,zl,hHa,hHb,eP_in]|contradiction|rfl)
     all_goals exact AW.stop ⟨⟨k+1,by omega⟩,(Weak.t4 (by refine ⟨?_,?_,?_,?_⟩<;>simp -dsimp (disch:=try exact zo) only[go_sem,eS_in,eP_in,hst,ZC])),by dsimp only;omega⟩
   ·have hkl:k=P.length:=by omega
    subst hkl
    have hfB:bhR b (l.take (i+1))=B++[(sp,P)]:=hst0
    have hfH:onL b (esP (B++[(sp,P)]))=mE b H P P.length:=by rw[hfH0,mE_all]
    clear hPb hst0
    repeat' (first|refine zg ?_|(refine AW.cond rfl ?_ ?_<;>intro hc<;>first|simp only[NM]at hc|omega|skip)|refine zr ?_|refine ⟨by omega,?_⟩|(refine zb ?_ ?_<;>intro hg<;>(try rw[hg])<;>try simp only[NM]at hg)|omega|simp -dsimp (disch:=try exact zo) only[go_sem,hPl,zl]|contradiction|rfl)
    all_goals exact AW.stop ⟨⟨i+1,by omega⟩,(Weak.t4 (by refine ⟨?_,?_,?_,?_⟩<;>simp -dsimp (disch:=try exact zo) only[go_sem,eS_in,eP_in,hfH,hfB,ZC])),by dsimp only;omega⟩
  ·have k0:((P.length:Int)<3)=True:=eq_true (by omega)
   rw[if_neg h3,List.append_nil]at hst0
   have hst:=hst0
   clear hst0 hPb
   repeat' (first|refine zg ?_|(refine AW.cond rfl ?_ ?_<;>intro hc<;>first|simp only[NM]at hc|omega|skip)|refine zr ?_|(refine callV.plain _ yfn_214 cc (by simp -dsimp (disch:=try exact zo) only[go_sem,eP_in]) (by rw[In_sl,eP_in];trivial) ?_)|refine ⟨by omega,?_⟩|(refine zb ?_ ?_<;>intro hg<;>(try rw[hg])<;>try simp only[NM]at hg)|omega|simp -dsimp (disch:=try exact zo) only[go_sem,hl,es1,ZT,zl,eS_in,eP_in,k0,hBl,hBm]|contradiction|rfl)
   all_goals exact AW.stop ⟨⟨i+1,by omega⟩,(Weak.t4 (by refine ⟨?_,?_,?_,?_⟩<;>simp -dsimp (disch:=try exact zo) only[go_sem,eS_in,eP_in,hst,hHe,ZC])),by dsimp only;omega⟩
 ·have hil:i=l.length:=by omega
  subst hil
  rw[List.take_length]
  have hHn:=hEn l.length
  rw[List.take_length]at hHn
  rw[bhR_eq h hS]at hHn ⊢
  have C:=capF_of h hS
  have hbl:=bh_can (b:=b) h.toCanC
  have hBn:(bh b l).length≤l.length:=List.length_filterMap_le _ _
  have hcl:=C.cl
  have hnx:=C.nx
  have hne:=C.ne
  have hcap:capR b (bh b l)=runP' (nxP ((heP b l).map Geo.sw)) (heP b l).length (((heP b l).map (·.2)).headD P0):=rfl
  have hf0:=headD_mem (d:=P0) (show (heP b l).map (·.2)≠[] by simpa using hne)
  have hon:onL b (esP (bh b l))=heP b l:=rfl
  unfold bcellR
  rw[hon]at hHn ⊢
  rw[hcap]
  clear h hS hv hEn C hbl
  generalize nxP ((heP b l).map Geo.sw)=nx at *
  generalize heP b l=H at *
  generalize hfe:(H.map (·.2)).headD P0=f0 at *
  have ef0:((H.map (·.2)).map eP).getD 0 []=eP f0:=by
   cases H with
   | nil=>exact absurd rfl hne
   | cons e H=>rw[← hfe];rfl
  generalize bh b l=B at *
  have hBl:(eS B).length=B.length:=List.length_map _
  have hHa:((H.map (·.2)).map eP).length=H.length:=by rw[List.length_map,List.length_map]
  have hHb:((H.map (·.1)).map eP).length=H.length:=by rw[List.length_map,List.length_map]
  have hn0:0<H.length:=List.length_pos_iff.2 hne
  have k0:((H.length:Int)=0)=False:=eq_false (by omega)
  have hr1:runP' nx 1 f0=[f0]:=rfl
  simp only[eP,e4]at ef0
  repeat' (first|refine zg ?_|(refine AW.cond rfl ?_ ?_<;>intro hc<;>first|simp only[NM]at hc|omega|skip)|refine zr ?_|refine ⟨by omega,?_⟩|(refine zb ?_ ?_<;>intro hg<;>(try rw[hg])<;>try simp only[NM]at hg)|omega|simp -dsimp (disch:=try exact zo) only[go_sem,hHa,hHb,zl,k0,ef0,eP_in,hl]|contradiction|rfl)
  have hbB:eS (B++[(b,runP' nx H.length f0)])=eS B++[eG b (runP' nx H.length f0)]:=by rw[eS_app];rfl
  rw[hbB]
  clear hcap hon hfe ef0 hlt hi hb
  refine AW.loop (fun z:{j:Nat // 1≤j∧j≤H.length}=>⟨[(13,.ref 71 0 z.1 z.1),(6,.ref 14 0 (H).length (H).length),(7,.ref 15 0 (H).length (H).length),(2,.loc 8 0),(3,.loc 9 0),(4,.loc 10 0),(5,.loc 12 0)],[(71,.vec 8 ((runP' nx z.1 f0).map eP)),(12,.blk [.ref 19 0 (B).length (B).length]),(19,.vec 9 (eS (B))),(14,.vec 8 (((H).map (·.2)).map eP)),(15,.vec 8 (((H).map (·.1)).map eP)),(8,.blk [.sl (eS l)]),(9,.blk (eH b)),(10,.blk [.lit (.slice none 0 0)])],80⟩) (fun z=>H.length - z.1) ⟨1,Nat.le_refl _,hn0⟩ (Weak.t4 (by refine ⟨?_,?_,?_,?_⟩<;>simp -dsimp (disch:=try exact zo) only[go_sem,eP_in,eS_in,hr1,List.map_cons,List.map_nil,ZC])) ?_
  rintro ⟨j,hj1,hj⟩
  dsimp only
  have hRl:((runP' nx j f0).map eP).length=j:=by rw[List.length_map,runP'_length]
  by_cases hjt:j<H.length
  ·have hlm:itP nx (j - 1) f0∈H.map (·.2):=itP_mem hcl _ hf0
   have hRn:runP' nx (j+1) f0=runP' nx j f0++[nx (itP nx (j - 1) f0)]:=by
    have e1:=itP_succ nx (j - 1) f0
    rw[show j - 1+1=j by omega]at e1
    rw[runP'_succ,e1]
   have el:((runP' nx j f0).map eP).getD (j - 1) []=eP (itP nx (j - 1) f0):=by
    obtain ⟨q,rfl⟩:∃ q,j=q+1:=⟨j - 1,by omega⟩
    rw[runP'_succ,List.map_append,List.getD_eq_getElem?_getD,List.getElem?_append_right (by simp[runP'_length])]
    simp[runP'_length]
   have hj1':((j:Int) - 1).toNat=j - 1:=by omega
   generalize hRR:runP' nx j f0=R at *
   generalize itP nx (j - 1) f0=last at *
   simp only[eP,e4]at el
   clear hcl hf0 hbB
   repeat' (first|refine zg ?_|(refine AW.cond rfl ?_ ?_<;>intro hc<;>first|simp only[NM]at hc|omega|skip)|refine zr ?_|refine ⟨by omega,?_⟩|(refine zb ?_ ?_<;>intro hg<;>(try rw[hg])<;>try simp only[NM]at hg)|omega|simp -dsimp (disch:=try exact zo) only[go_sem,hHa,zl,hRl,k0]|contradiction|rfl)
   refine AW.loop (fun z:{i:Nat // i≤H.length∧∀ q,q<i→∀ h:q<H.length,H[q].2≠last}=>⟨[(14,.lit (.int .i64 z.1)),(13,.ref 71 0 j j),(6,.ref 14 0 (H).length (H).length),(7,.ref 15 0 (H).length (H).length),(2,.loc 8 0),(3,.loc 9 0),(4,.loc 10 0),(5,.loc 12 0)],[(71,.vec 8 (R.map eP)),(12,.blk [.ref 19 0 (B).length (B).length]),(19,.vec 9 (eS (B))),(14,.vec 8 (((H).map (·.2)).map eP)),(15,.vec 8 (((H).map (·.1)).map eP)),(8,.blk [.sl (eS l)]),(9,.blk (eH b)),(10,.blk [.lit (.slice none 0 0)])],100⟩) (fun z=>H.length - z.1) ⟨0,Nat.zero_le _,fun q hq=>by omega⟩ (Weak.t4 (by refine ⟨?_,?_,?_,?_⟩<;>simp -dsimp (disch:=try exact zo) only[go_sem,eP_in,eS_in,ZC])) ?_
   rintro ⟨i,hi,hbe⟩
   dsimp only
   by_cases hit:i<H.length
   ·have ea:((H.map (·.2)).map eP).getD i []=eP H[i].2:=by rw[eP_getD _ i (by simpa using hit),List.getElem_map]
    have et:((H.map (·.1)).map eP).getD i []=eP H[i].1:=by rw[eP_getD _ i (by simpa using hit),List.getElem_map]
    have hnxi:=hnx _ (List.getElem_mem hit)
    by_cases e:H[i].2=last
    ·have hRn2:runP' nx (j+1) f0=R++[H[i].1]:=by rw[hRn,← e,hnxi]
     have k1:(H[i].2.x=last.x∧H[i].2.y=last.y∧H[i].2.z=last.z∧H[i].2.w=last.w)=True:=eq_true (by rw[e];simp)
     have hRm:(runP' nx (j+1) f0).map eP=R.map eP++[eP H[i].1]:=by rw[hRn2];simp
     clear hbe hnx hnxi hRn hRn2 hlm e
     generalize H[i].2=u at *
     generalize H[i].1=w at *
     simp only[eP,e4]at ea et
     repeat' (first|refine zg ?_|(refine AW.cond rfl ?_ ?_<;>intro hc<;>first|simp only[NM]at hc|omega|skip)|refine zr ?_|refine ⟨by omega,?_⟩|(refine zb ?_ ?_<;>intro hg<;>(try rw[hg])<;>try simp only[NM]at hg)|omega|simp -dsimp (disch:=try exact zo) only[go_sem,hHa,hHb,hRl,zl,ea,el,et,hj1',k1,ZT,eP_in]|contradiction|rfl)
     all_goals exact AW.stop ⟨⟨j+1,by omega,by omega⟩,(Weak.t4 (by refine ⟨?_,?_,?_,?_⟩<;>first|(simp -dsimp (disch:=try exact zo) only[go_sem,hRm,hRl,zl,ZC];done)|(simp -dsimp (disch:=try exact zo) only[go_sem,eS_in,eP_in,ZC];done))),by dsimp only;omega⟩
    ·have k1:(H[i].2.x=last.x∧H[i].2.y=last.y∧H[i].2.z=last.z∧H[i].2.w=last.w)=False:=eq_false fun q=>e (pt_ext q)
     have hbe2:∀ q,q<i+1→∀ h:q<H.length,H[q].2≠last:=fun q hq h=>by
      by_cases q':q=i
      ·subst q';exact e
      ·exact hbe q (by omega) h
     clear hbe hnx hnxi hRn hlm e
     generalize H[i].2=u at *
     generalize H[i].1=w at *
     simp only[eP,e4]at ea et
     replace hbe2:=Hid.mk hbe2
     repeat' (first|refine zg ?_|(refine AW.cond rfl ?_ ?_<;>intro hc<;>first|simp only[NM]at hc|omega|skip)|refine zr ?_|refine ⟨by omega,?_⟩|(refine zb ?_ ?_<;>intro hg<;>(try rw[hg])<;>try simp only[NM]at hg)|omega|simp -dsimp (disch:=try exact zo) only[go_sem,hHa,hHb,hRl,zl,ea,el,et,hj1',k1,ZT,eP_in]|contradiction|rfl)
     all_goals exact AW.stop ⟨⟨i+1,by omega,hbe2.out⟩,(Weak.t4 (by refine ⟨?_,?_,?_,?_⟩<;>simp -dsimp (disch:=try exact zo) only[go_sem,eP_in,eS_in,ZC])),by dsimp only;omega⟩
   ·exfalso
    obtain ⟨e,he,q⟩:=List.mem_map.1 hlm
    obtain ⟨t,ht,rfl⟩:=List.mem_iff_getElem.1 he
    exact hbe t (by omega) ht q
  ·have hjl:j=H.length:=by omega
   subst hjl
   generalize runP' nx H.length f0=R at *
   refine AW.weak (Weak.freezeV 71 H.length 8 (R.map eP) (t:=[(13,.sl (R.map eP)),(6,.ref 14 0 (H).length (H).length),(7,.ref 15 0 (H).length (H).length),(2,.loc 8 0),(3,.loc 9 0),(4,.loc 10 0),(5,.loc 12 0)]) (o:=[(12,.blk [.ref 19 0 (B).length (B).length]),(19,.vec 9 (eS (B))),(14,.vec 8 (((H).map (·.2)).map eP)),(15,.vec 8 (((H).map (·.1)).map eP)),(8,.blk [.sl (eS l)]),(9,.blk (eH b)),(10,.blk [.lit (.slice none 0 0)])]) rfl hRl (by simp -dsimp (disch:=try exact zo) only[go_sem,and_self]) (by simp -dsimp (disch:=try exact zo) only[go_sem,and_self])) ?_
   clear hcl hnx hf0 hbB
   repeat' (first|refine zg ?_|(refine AW.cond rfl ?_ ?_<;>intro hc<;>first|simp only[NM]at hc|omega|skip)|refine zr ?_|refine ⟨by omega,?_⟩|(refine zb ?_ ?_<;>intro hg<;>(try rw[hg])<;>try simp only[NM]at hg)|omega|simp -dsimp (disch:=try exact zo) only[go_sem,hHa,hRl,zl,hBl,eP_in,List.take_of_length_le,Nat.zero_lt_succ]|contradiction|rfl)
end Go.Proofs.Vx
namespace Go.Proofs.Vx
open Go Go.Sx Go.Proofs
attribute [local irreducible] fnT CallOK CallFr AW effV callV runP runO oneP oneO gcaseP hid
theorem yqq_Nx73:arT Tryz.prog 245=none∧slT Tryz.prog 245=some (41,3):=by and_intros<;>kernel_rfl
attribute [go_sem] yqq_Nx73
theorem yfn_94:fnT Tryz.prog 94=true:=by kernel_rfl
theorem yfn_160:fnT Tryz.prog 160=true:=by kernel_rfl
theorem yfn_209:fnT Tryz.prog 209=true:=by kernel_rfl
set_option maxHeartbeats 3200000 in
theorem c246a (u v:Geo.V) (hu:QV 8388608 u) (hv:QV 8388608 v):CallOK Tryz.prog 246 [.agg (eV u.x u.y u.z),.agg (eV v.x v.y v.z),.lit (.int .i64 1),.lit (.int .i64 2)] [] (.agg (eQ (u.y*v.z - u.z*v.y))) []:=by
 refine CallOK.flat Tryz.func246 rfl 24 rfl rfl rfl [.cell 8 41] (congrArg Array.toList Tryz.results246) ?_
 simp only[startT,Nat.reduceAdd]
 obtain ⟨u1,u2,u3⟩:=hu.mono (show 8388608≤67108864 by decide)
 obtain ⟨v1,v2,v3⟩:=hv.mono (show 8388608≤67108864 by decide)
 have p1:=(hu.y.mul hv.z).mono (show 8388608+8388608≤67108864 by decide)
 have p2:=(hu.z.mul hv.y).mono (show 8388608+8388608≤67108864 by decide)
 clear hu hv
 repeat' (first|refine zg ?_|(refine AW.cond rfl ?_ ?_<;>intro hc<;>try simp only[NM]at hc)|refine zr ?_|(refine callV.flat _ yfn_182 (c182 _ (by assumption) _ (by assumption)) rfl rfl ?_)|(refine callV.flat _ yfn_183 (c183 _ (by assumption) _ (by assumption)) rfl rfl ?_)|refine ⟨by omega,?_⟩|(refine zb ?_ ?_<;>intro hg<;>(try rw[hg])<;>try simp only[NM]at hg)|omega|simp -dsimp (disch:=try exact zo) only[go_sem]|contradiction|rfl)
set_option maxHeartbeats 3200000 in
theorem c246b (u v:Geo.V) (hu:QV 8388608 u) (hv:QV 8388608 v):CallOK Tryz.prog 246 [.agg (eV u.x u.y u.z),.agg (eV v.x v.y v.z),.lit (.int .i64 2),.lit (.int .i64 0)] [] (.agg (eQ (u.z*v.x - u.x*v.z))) []:=by
 refine CallOK.flat Tryz.func246 rfl 24 rfl rfl rfl [.cell 8 41] (congrArg Array.toList Tryz.results246) ?_
 simp only[startT,Nat.reduceAdd]
 obtain ⟨u1,u2,u3⟩:=hu.mono (show 8388608≤67108864 by decide)
 obtain ⟨v1,v2,v3⟩:=hv.mono (show 8388608≤67108864 by decide)
 have p1:=(hu.z.mul hv.x).mono (show 8388608+8388608≤67108864 by decide)
 have p2:=(hu.x.mul hv.z).mono (show 8388608+8388608≤67108864 by decide)
 clear hu hv
 repeat' (first|refine zg ?_|(refine AW.cond rfl ?_ ?_<;>intro hc<;>try simp only[NM]at hc)|refine zr ?_|(refine callV.flat _ yfn_182 (c182 _ (by assumption) _ (by assumption)) rfl rfl ?_)|(refine callV.flat _ yfn_183 (c183 _ (by assumption) _ (by assumption)) rfl rfl ?_)|refine ⟨by omega,?_⟩|(refine zb ?_ ?_<;>intro hg<;>(try rw[hg])<;>try simp only[NM]at hg)|omega|simp -dsimp (disch:=try exact zo) only[go_sem]|contradiction|rfl)
set_option maxHeartbeats 3200000 in
theorem c246c (u v:Geo.V) (hu:QV 8388608 u) (hv:QV 8388608 v):CallOK Tryz.prog 246 [.agg (eV u.x u.y u.z),.agg (eV v.x v.y v.z),.lit (.int .i64 0),.lit (.int .i64 1)] [] (.agg (eQ (u.x*v.y - u.y*v.x))) []:=by
 refine CallOK.flat Tryz.func246 rfl 24 rfl rfl rfl [.cell 8 41] (congrArg Array.toList Tryz.results246) ?_
 simp only[startT,Nat.reduceAdd]
 obtain ⟨u1,u2,u3⟩:=hu.mono (show 8388608≤67108864 by decide)
 obtain ⟨v1,v2,v3⟩:=hv.mono (show 8388608≤67108864 by decide)
 have p1:=(hu.x.mul hv.y).mono (show 8388608+8388608≤67108864 by decide)
 have p2:=(hu.y.mul hv.x).mono (show 8388608+8388608≤67108864 by decide)
 clear hu hv
 repeat' (first|refine zg ?_|(refine AW.cond rfl ?_ ?_<;>intro hc<;>try simp only[NM]at hc)|refine zr ?_|(refine callV.flat _ yfn_182 (c182 _ (by assumption) _ (by assumption)) rfl rfl ?_)|(refine callV.flat _ yfn_183 (c183 _ (by assumption) _ (by assumption)) rfl rfl ?_)|refine ⟨by omega,?_⟩|(refine zb ?_ ?_<;>intro hg<;>(try rw[hg])<;>try simp only[NM]at hg)|omega|simp -dsimp (disch:=try exact zo) only[go_sem]|contradiction|rfl)
set_option maxHeartbeats 3200000 in
theorem c210 (u v:Geo.V) (hu:QV 8388608 u) (hv:QV 8388608 v):CallOK Tryz.prog 210 [.agg (eV u.x u.y u.z),.agg (eV v.x v.y v.z)] [] (.agg (eV (Geo.cross u v).x (Geo.cross u v).y (Geo.cross u v).z)) []:=by
 refine CallOK.flat Tryz.func210 rfl 15 rfl rfl rfl [.cell 4 103] (congrArg Array.toList Tryz.results210) ?_
 simp only[startT,Nat.reduceAdd]
 have ca:=c246a u v hu hv
 have cb:=c246b u v hu hv
 have cc:=c246c u v hu hv
 unfold Geo.cross
 dsimp only
 clear hu hv
 repeat' (first|refine zg ?_|(refine AW.cond rfl ?_ ?_<;>intro hc<;>try simp only[NM]at hc)|refine zr ?_|(first|refine callV.flat _ yfn_246 ca rfl rfl ?_|refine callV.flat _ yfn_246 cb rfl rfl ?_|refine callV.flat _ yfn_246 cc rfl rfl ?_)|refine ⟨by omega,?_⟩|(refine zb ?_ ?_<;>intro hg<;>(try rw[hg])<;>try simp only[NM]at hg)|omega|simp -dsimp (disch:=try exact zo) only[go_sem]|contradiction|rfl)
set_option maxHeartbeats 8000000 in
theorem c213 (u v:Geo.V) (hu:QV 8388608 u) (hv:QV 8388608 v):CallOK Tryz.prog 213 [.agg (eV u.x u.y u.z),.agg (eV v.x v.y v.z)] [] (.agg (eQ (Geo.dot u v))) []:=by
 refine CallOK.flat Tryz.func213 rfl 22 rfl rfl rfl [.cell 4 41] (congrArg Array.toList Tryz.results213) ?_
 simp only[startT,Nat.reduceAdd]
 obtain ⟨u1,u2,u3⟩:=hu.mono (show 8388608≤67108864 by decide)
 obtain ⟨v1,v2,v3⟩:=hv.mono (show 8388608≤67108864 by decide)
 have p1:=(hu.x.mul hv.x).mono (show 8388608+8388608≤67108864 by decide)
 have p2:=(hu.y.mul hv.y).mono (show 8388608+8388608≤67108864 by decide)
 have p3:=(hu.z.mul hv.z).mono (show 8388608+8388608≤67108864 by decide)
 have q1:=((hu.x.mul hv.x).add (hu.y.mul hv.y)).mono (show 8388608+8388608+(8388608+8388608)+1≤67108864 by decide)
 have zq:Qs 67108864 0:=⟨by show (Zm 0).size≤_;rw[Zm_zero];exact Nat.zero_le _,by show (nb 1).size≤_;rw[nb_one];decide⟩
 have c64z:CallOK Tryz.prog 64 [.agg [.lit (.bool false),.lit (.string ⟨#[]⟩),.lit (.string ⟨#[]⟩)],.agg (eQ (u.x*v.x))] [] (.agg (eQ (u.x*v.x))) []:=by
  have:=c64 0 zq _ p1
  rwa [eQ_zero,Rat.zero_add]at this
 unfold Geo.dot
 clear hu hv zq
 repeat' (first|refine zg ?_|refine AW.unroll 6 ?_|(refine AW.cond rfl ?_ ?_<;>intro hc<;>try simp only[NM]at hc)|refine zr ?_|(refine callV.flat _ yfn_182 (c182 _ (by assumption) _ (by assumption)) rfl rfl ?_)|(first|refine callV.flat _ yfn_64 c64z rfl rfl ?_|refine callV.flat _ yfn_64 (c64 _ (by assumption) _ (by assumption)) rfl rfl ?_)|refine ⟨by omega,?_⟩|(refine zb ?_ ?_<;>intro hg<;>(try rw[hg])<;>try simp only[NM]at hg)|omega|simp -dsimp (disch:=try exact zo) only[go_sem]|contradiction|rfl)
def dens (a b c d:Rat):Int:=1*(a.den:Int)*(b.den:Int)*(c.den:Int)*(d.den:Int)
def mkH (a b c d:Rat):Pl:=pnrm (a.num*(dens a b c d / (a.den:Int))) (b.num*(dens a b c d / (b.den:Int))) (c.num*(dens a b c d / (c.den:Int))) (d.num*(dens a b c d / (d.den:Int)))
theorem c90q (z:Int) (g:Nat) (hg:0<g) (hd:(g:Int)∣z) (h:(Zm z).size≤268435456) (hgs:(Zm (g:Int)).size≤268435456):CallOK Tryz.prog 90 [.agg (eZ z),.agg (eZ (g:Int))] [] (.tup [.agg (eZ (z / (g:Int))),.agg (eZ 0),.lit (.bool true)]) []:=by
 have:=c90z z g hg hd h (by rw[← Zm_nat];exact hgs)
 rwa [← eZ_nat]at this
theorem dens_pos (a b c d:Rat):dens a b c d≠0:=by
 unfold dens
 exact Int.mul_ne_zero (Int.mul_ne_zero (Int.mul_ne_zero (Int.mul_ne_zero (by decide) (den_ne a)) (den_ne b)) (den_ne c)) (den_ne d)
theorem dvd_div_ne {B:Int} {g:Int} (hB:B≠0) (h:g∣B):B / g≠0:=by
 obtain ⟨k,rfl⟩:=h
 have hg:g≠0:=fun e=>hB (by rw[e];simp)
 rw[Int.mul_ediv_cancel_left _ hg]
 exact fun e=>hB (by rw[e];simp)
set_option maxRecDepth 20000 in
set_option maxHeartbeats 40000000 in
theorem c212 (a b c d:Rat) (ha:Qs 16777216 a) (hb:Qs 16777216 b) (hcx:Qs 16777216 c) (hd:Qs 16777216 d) (h0:¬ (a=0∧b=0∧c=0)):CallOK Tryz.prog 212 [.agg (eV a b c),.agg (eQ d)] [] (.tup [.agg (eH (mkH a b c d)),.lit (.bool true)]) []:=by
 refine CallOK.flat Tryz.func212 rfl 78 rfl rfl rfl [.cell 4 26,.tmp 5] (congrArg Array.toList Tryz.results212) ?_
 simp only[startT,Nat.reduceAdd]
 have ra:=ha.num
 have rb:=hb.num
 have rc:=hcx.num
 have rd:=hd.num
 have sa:=ha.den'
 have sb:=hb.den'
 have sc:=hcx.den'
 have sd:=hd.den'
 have s1:(Zm 1).size≤1:=by rw[Zm_size];decide
 have t1:=zs_mul _ _ s1 sa
 have t2:=zs_mul _ _ t1 sb
 have t3:=zs_mul _ _ t2 sc
 have t4:=zs_mul _ _ t3 sd
 have k1:=c112 1 (a.den:Int) (by omega) (by omega)
 have k2:=c112 (1*(a.den:Int)) (b.den:Int) (by omega) (by omega)
 have k3:=c112 (1*(a.den:Int)*(b.den:Int)) (c.den:Int) (by omega) (by omega)
 have k4:CallOK Tryz.prog 112 [.agg (eZ (1*(a.den:Int)*(b.den:Int)*(c.den:Int))),.agg (eZ (d.den:Int))] [] (.agg (eZ (dens a b c d))) []:=c112 (1*(a.den:Int)*(b.den:Int)*(c.den:Int)) (d.den:Int) (by omega) (by omega)
 have t5:(Zm (dens a b c d)).size≤67108865:=t4
 have v1:(a.den:Int)∣dens a b c d:=by unfold dens;exact Int.dvd_trans (Int.dvd_trans (Int.dvd_trans (Int.dvd_mul_left _ _) (Int.dvd_mul_right _ _)) (Int.dvd_mul_right _ _)) (Int.dvd_mul_right _ _)
 have v2:(b.den:Int)∣dens a b c d:=by unfold dens;exact Int.dvd_trans (Int.dvd_trans (Int.dvd_mul_left _ _) (Int.dvd_mul_right _ _)) (Int.dvd_mul_right _ _)
 have v3:(c.den:Int)∣dens a b c d:=by unfold dens;exact Int.dvd_trans (Int.dvd_mul_left _ _) (Int.dvd_mul_right _ _)
 have v4:(d.den:Int)∣dens a b c d:=by unfold dens;exact Int.dvd_mul_left _ _
 have d1:=c90q (dens a b c d) a.den (Nat.pos_of_ne_zero a.den_nz) v1 (by omega) (by omega)
 have d2:=c90q (dens a b c d) b.den (Nat.pos_of_ne_zero b.den_nz) v2 (by omega) (by omega)
 have d3:=c90q (dens a b c d) c.den (Nat.pos_of_ne_zero c.den_nz) v3 (by omega) (by omega)
 have d4:=c90q (dens a b c d) d.den (Nat.pos_of_ne_zero d.den_nz) v4 (by omega) (by omega)
 have hB:=dens_pos a b c d
 have n1:=dvd_div_ne hB v1
 have n2:=dvd_div_ne hB v2
 have n3:=dvd_div_ne hB v3
 have w1:=zs_div_le (dens a b c d) a.den
 have w2:=zs_div_le (dens a b c d) b.den
 have w3:=zs_div_le (dens a b c d) c.den
 have w4:=zs_div_le (dens a b c d) d.den
 have hz:¬ (a.num*(dens a b c d / (a.den:Int))=0∧b.num*(dens a b c d / (b.den:Int))=0∧c.num*(dens a b c d / (c.den:Int))=0):=by
  rintro ⟨e1,e2,e3⟩
  exact h0 ⟨Rat.num_eq_zero.1 ((Int.mul_eq_zero.1 e1).resolve_right n1),Rat.num_eq_zero.1 ((Int.mul_eq_zero.1 e2).resolve_right n2),Rat.num_eq_zero.1 ((Int.mul_eq_zero.1 e3).resolve_right n3)⟩
 clear n1 n2 n3 hB v1 v2 v3 v4 t1 t2 t3 t4 h0
 unfold mkH
 generalize dens a b c d / (a.den:Int)=A at *
 generalize dens a b c d / (b.den:Int)=B at *
 generalize dens a b c d / (c.den:Int)=C at *
 generalize dens a b c d / (d.den:Int)=D at *
 generalize dens a b c d=N at *
 have x1:=zs_mul a.num A ra (show _≤67108866 by omega)
 have x2:=zs_mul b.num B rb (show _≤67108866 by omega)
 have x3:=zs_mul c.num C rc (show _≤67108866 by omega)
 have x4:=zs_mul d.num D rd (show _≤67108866 by omega)
 have m1:=c112 a.num A (by omega) (by omega)
 have m2:=c112 b.num B (by omega) (by omega)
 have m3:=c112 c.num C (by omega) (by omega)
 have m4:=c112 d.num D (by omega) (by omega)
 have cn:=c44z _ _ _ _ ⟨show (Zm (a.num*A)).size≤_ by omega,show (Zm (b.num*B)).size≤_ by omega,show (Zm (c.num*C)).size≤_ by omega,show (Zm (d.num*D)).size≤_ by omega⟩ hz
 replace ha:=ha.mono (show 16777216≤67108864 by decide)
 replace hb:=hb.mono (show 16777216≤67108864 by decide)
 replace hcx:=hcx.mono (show 16777216≤67108864 by decide)
 replace hd:=hd.mono (show 16777216≤67108864 by decide)
 clear x1 x2 x3 x4 w1 w2 w3 w4 ra rb rc rd sa sb sc sd s1 hz
 repeat' (first|refine zg ?_|refine AW.unroll 6 ?_|(refine AW.cond rfl ?_ ?_<;>intro hc<;>try simp only[NM]at hc)|refine zr ?_|(first|refine callV.flat _ yfn_181 (c181 a ha) rfl rfl ?_|refine callV.flat _ yfn_181 (c181 b hb) rfl rfl ?_|refine callV.flat _ yfn_181 (c181 c hcx) rfl rfl ?_|refine callV.flat _ yfn_181 (c181 d hd) rfl rfl ?_)|(first|refine callV.flat _ yfn_112 k1 rfl rfl ?_|refine callV.flat _ yfn_112 k2 rfl rfl ?_|refine callV.flat _ yfn_112 k3 rfl rfl ?_|refine callV.flat _ yfn_112 k4 rfl rfl ?_|refine callV.flat _ yfn_112 m1 rfl rfl ?_|refine callV.flat _ yfn_112 m2 rfl rfl ?_|refine callV.flat _ yfn_112 m3 rfl rfl ?_|refine callV.flat _ yfn_112 m4 rfl rfl ?_)|(first|refine callV.flat _ yfn_90 d1 rfl rfl ?_|refine callV.flat _ yfn_90 d2 rfl rfl ?_|refine callV.flat _ yfn_90 d3 rfl rfl ?_|refine callV.flat _ yfn_90 d4 rfl rfl ?_)|(refine callV.flat _ yfn_44 cn rfl rfl ?_)|(refine callV.flat _ yfn_87 c87o rfl rfl ?_)|refine ⟨by omega,?_⟩|(refine zb ?_ ?_<;>intro hg<;>(try rw[hg])<;>try simp only[NM]at hg)|omega|simp -dsimp (disch:=try exact zo) only[go_sem]|contradiction|rfl)
def nP (a b c:Pt):Geo.V:=Geo.cross (tv b - tv a) (tv c - tv a)
def thruP (a b c:Pt):Pl:=mkH (nP a b c).x (nP a b c).y (nP a b c).z (Geo.dot (nP a b c) (tv a))
theorem c211t (u v:Geo.V) (hu:QV 33554432 u) (hv:QV 33554432 v):CallOK Tryz.prog 211 [.agg (eV u.x u.y u.z),.agg (eV v.x v.y v.z)] [] (.agg (eV (u - v).x (u - v).y (u - v).z)) []:=c211 u v hu hv
set_option maxHeartbeats 16000000 in
theorem c161 (a b c:Pt) (ha:CanP a) (hb:CanP b) (hcx:CanP c) (ba:BPt 65536 a) (bb:BPt 65536 b) (bc:BPt 65536 c) (h0:nP a b c≠⟨0,0,0⟩):CallOK Tryz.prog 161 [.agg (eP a),.agg (eP b),.agg (eP c)] [] (.tup [.agg (eH (thruP a b c)),.lit (.bool true)]) []:=by
 refine CallOK.flat Tryz.func161 rfl 32 rfl rfl rfl [.cell 6 26,.tmp 7] (congrArg Array.toList Tryz.results161) ?_
 simp only[startT,Nat.reduceAdd]
 have ca:=c128 a ha (ba.mono (by decide))
 have cb:=c128 b hb (bb.mono (by decide))
 have cc:=c128 c hcx (bc.mono (by decide))
 have qa:=tv_qs ha ba
 have qb:=tv_qs hb bb
 have qc:=tv_qs hcx bc
 have l1:=c211t _ _ (qb.mono (show _≤33554432 by decide)) (qa.mono (show _≤33554432 by decide))
 have l2:=c211t _ _ (qc.mono (show _≤33554432 by decide)) (qa.mono (show _≤33554432 by decide))
 have q1:=sub_qs qb qa
 have q2:=sub_qs qc qa
 have cx:=c210 _ _ (q1.mono (show _≤8388608 by decide)) (q2.mono (show _≤8388608 by decide))
 have q3:=cross_qs q1 q2
 have cd:=c213 _ _ (q3.mono (show _≤8388608 by decide)) (qa.mono (show _≤8388608 by decide))
 have q4:=dot_qs q3 qa
 have cm:=c212 _ _ _ _ (q3.x.mono (show _≤16777216 by decide)) (q3.y.mono (show _≤16777216 by decide)) (q3.z.mono (show _≤16777216 by decide)) (q4.mono (show _≤16777216 by decide)) (fun e=>h0 (Geo.V.ext e.1 e.2.1 e.2.2))
 change CallOK _ _ [.agg (eV (nP a b c).x (nP a b c).y (nP a b c).z),.agg (eQ (Geo.dot (nP a b c) (tv a)))] _ (.tup [.agg (eH (thruP a b c)),_]) _ at cm
 change CallOK _ _ [.agg (eV (nP a b c).x (nP a b c).y (nP a b c).z),_] _ (.agg (eQ (Geo.dot (nP a b c) (tv a)))) _ at cd
 change CallOK _ _ _ _ (.agg (eV (nP a b c).x (nP a b c).y (nP a b c).z)) _ at cx
 clear qa qb qc q1 q2 q3 q4 h0 ha hb hcx ba bb bc
 generalize thruP a b c=M at *
 generalize Geo.dot (nP a b c) (tv a)=E at *
 generalize nP a b c=N at *
 generalize tv b - tv a=U at *
 generalize tv c - tv a=W at *
 generalize tv a=A at *
 generalize tv b=B at *
 generalize tv c=C at *
 repeat' (first|refine zg ?_|(refine AW.cond rfl ?_ ?_<;>intro hc<;>try simp only[NM]at hc)|refine zr ?_|(first|refine callV.flat _ yfn_128 ca rfl rfl ?_|refine callV.flat _ yfn_128 cb rfl rfl ?_|refine callV.flat _ yfn_128 cc rfl rfl ?_)|(first|refine callV.flat _ yfn_211 l1 rfl rfl ?_|refine callV.flat _ yfn_211 l2 rfl rfl ?_)|(refine callV.flat _ yfn_210 cx rfl rfl ?_)|(refine callV.flat _ yfn_213 cd rfl rfl ?_)|(refine callV.flat _ yfn_212 cm rfl rfl ?_)|refine ⟨by omega,?_⟩|(refine zb ?_ ?_<;>intro hg<;>(try rw[hg])<;>try simp only[NM]at hg)|omega|simp -dsimp (disch:=try exact zo) only[go_sem]|contradiction|rfl)
theorem c87s (z:Int) (h:-1000≤z∧z≤1000):CallOK Tryz.prog 87 [.lit (.int .i64 z)] [] (.agg (eZ z)) []:=c87 z (by omega) (by omega)
set_option maxHeartbeats 3200000 in
theorem c209 (x y z:Int) (hx:-1≤x∧x≤1) (hy:-1≤y∧y≤1) (hz:-1≤z∧z≤1):CallOK Tryz.prog 209 [.lit (.int .i64 x),.lit (.int .i64 y),.lit (.int .i64 z)] [] (.agg (eP (wpt x y z))) []:=by
 refine CallOK.flat Tryz.func209 rfl 18 rfl rfl rfl [.cell 6 51] (congrArg Array.toList Tryz.results209) ?_
 simp only[startT,Nat.reduceAdd]
 unfold wpt
 repeat' (first|refine zg ?_|(refine AW.cond rfl ?_ ?_<;>intro hc<;>try simp only[NM]at hc)|refine zr ?_|(first|refine callV.flat _ yfn_87 (c87s (1000*x) (by omega)) rfl rfl ?_|refine callV.flat _ yfn_87 (c87s (1000*y) (by omega)) rfl rfl ?_|refine callV.flat _ yfn_87 (c87s (1000*z) (by omega)) rfl rfl ?_|refine callV.flat _ yfn_87 c87o rfl rfl ?_)|refine ⟨by omega,?_⟩|(refine zb ?_ ?_<;>intro hg<;>(try rw[hg])<;>try simp only[NM]at hg)|omega|simp -dsimp (disch:=try exact zo) only[go_sem]|contradiction|rfl)
set_option maxHeartbeats 3200000 in
theorem c160a (x y z:Int) (hx:-1≤x∧x≤1) (hy:-1≤y∧y≤1) (hz:-1≤z∧z≤1):CallOK Tryz.prog 160 [.lit (.int .i64 x),.lit (.int .i64 y),.lit (.int .i64 z),.lit (.int .i64 0)] [] (.agg (eP (wpt x y z))) []:=by
 refine CallOK.flat Tryz.func160 rfl 22 rfl rfl rfl [.cell 8 51] (congrArg Array.toList Tryz.results160) ?_
 simp only[startT,Nat.reduceAdd]
 repeat' (first|refine zg ?_|refine AW.unroll 6 ?_|(refine AW.cond rfl ?_ ?_<;>intro hc<;>try simp only[NM]at hc)|refine zr ?_|(refine callV.flat _ yfn_209 (c209 x y z (by omega) (by omega) (by omega)) rfl rfl ?_)|refine ⟨by omega,?_⟩|(refine zb ?_ ?_<;>intro hg<;>(try rw[hg])<;>try simp only[NM]at hg)|omega|simp -dsimp (disch:=try exact zo) only[go_sem]|contradiction|rfl)
set_option maxHeartbeats 3200000 in
theorem c160b (x y z:Int) (hx:-1≤x∧x≤1) (hy:-1≤y∧y≤1) (hz:-1≤z∧z≤1):CallOK Tryz.prog 160 [.lit (.int .i64 x),.lit (.int .i64 y),.lit (.int .i64 z),.lit (.int .i64 1)] [] (.agg (eP (wpt z x y))) []:=by
 refine CallOK.flat Tryz.func160 rfl 22 rfl rfl rfl [.cell 8 51] (congrArg Array.toList Tryz.results160) ?_
 simp only[startT,Nat.reduceAdd]
 repeat' (first|refine zg ?_|refine AW.unroll 6 ?_|(refine AW.cond rfl ?_ ?_<;>intro hc<;>try simp only[NM]at hc)|refine zr ?_|(refine callV.flat _ yfn_209 (c209 z x y (by omega) (by omega) (by omega)) rfl rfl ?_)|refine ⟨by omega,?_⟩|(refine zb ?_ ?_<;>intro hg<;>(try rw[hg])<;>try simp only[NM]at hg)|omega|simp -dsimp (disch:=try exact zo) only[go_sem]|contradiction|rfl)
set_option maxHeartbeats 3200000 in
theorem c160c (x y z:Int) (hx:-1≤x∧x≤1) (hy:-1≤y∧y≤1) (hz:-1≤z∧z≤1):CallOK Tryz.prog 160 [.lit (.int .i64 x),.lit (.int .i64 y),.lit (.int .i64 z),.lit (.int .i64 2)] [] (.agg (eP (wpt y z x))) []:=by
 refine CallOK.flat Tryz.func160 rfl 22 rfl rfl rfl [.cell 8 51] (congrArg Array.toList Tryz.results160) ?_
 simp only[startT,Nat.reduceAdd]
 repeat' (first|refine zg ?_|refine AW.unroll 6 ?_|(refine AW.cond rfl ?_ ?_<;>intro hc<;>try simp only[NM]at hc)|refine zr ?_|(refine callV.flat _ yfn_209 (c209 y z x (by omega) (by omega) (by omega)) rfl rfl ?_)|refine ⟨by omega,?_⟩|(refine zb ?_ ?_<;>intro hg<;>(try rw[hg])<;>try simp only[NM]at hg)|omega|simp -dsimp (disch:=try exact zo) only[go_sem]|contradiction|rfl)
end Go.Proofs.Vx
