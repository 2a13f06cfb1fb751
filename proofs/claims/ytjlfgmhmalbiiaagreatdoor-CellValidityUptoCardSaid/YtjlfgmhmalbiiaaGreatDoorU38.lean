import Derived.Test.YtjlfgmhmalbiiaaGreatDoorProg
import Derived.Deep.Slices
import Derived.OpenShut
import Derived.Test.YtjlfgmhmalbiiaaGreatDoorU11
import Derived.Test.YtjlfgmhmalbiiaaGreatDoorU30
import Derived.Test.YtjlfgmhmalbiiaaGreatDoorU34
import Derived.Test.YtjlfgmhmalbiiaaGreatDoorU37
set_option linter.all false
namespace Go.Proofs.Vx
open Go Go.Sx Go.Proofs
attribute [local irreducible] fnT CallOK CallFr AW effV callV runP runO oneP oneO gcaseP hid
theorem snoc_nd {α:Type} {l:List α} {a:α} (h:l.Nodup) (ha:a∉l):(l++[a]).Nodup:=by
 rw[List.nodup_append]
 exact ⟨h,by simp,fun x hx y hy e=>by
  obtain rfl:=List.mem_singleton.1 hy
  exact ha (e▸hx)⟩
theorem mCN_len (G:List (Pt × Pt)):(mCN G).length=(ddE G).length:=by unfold mCN mVN;rw[List.length_map]
theorem mCN_at {G:List (Pt × Pt)} {j:Nat} (h:j<(ddE G).length):(mCN G)[j]?=some (ev (ddE G)[j],.int .i64 (G.count (ddE G)[j]:Nat)):=by
 unfold mCN mVN
 rw[List.getElem?_map,List.getElem?_eq_getElem h];rfl
theorem typ_el {l:RCell} {i:Nat} (h:i<l.length) (h':i<(typC l).length):(typC l)[i]=(nrmR l[i].1,l[i].2.map ptR):=by simp only[typC,List.getElem_map]
theorem es_pts {l:PCell} {K:Nat} (hk:∀ s∈l,∀ v∈s.2,BPt K v) {e:Pt × Pt} (he:e∈esP l):BPt K e.1∧BPt K e.2:=by
 obtain ⟨s,hs,he⟩:=List.mem_flatMap.1 he
 exact ⟨hk s hs _ (Geo.mem_fst he),hk s hs _ (Geo.mem_snd he)⟩
set_option maxRecDepth 20000 in
set_option maxHeartbeats 40000000 in
theorem c55r (l:RCell) (hB:RCB l):CallOK Tryz.prog 55 [.agg [.sl (eRS l)]] [] (.lit (.int .i64 (codeC l))) []:=by
 refine CallOK.flat Tryz.func55 rfl 88 rfl rfl rfl [.tmp 2] (congrArg Array.toList Tryz.results55) ?_
 simp only[startT,Nat.reduceAdd]
 have hml:maxLen=9223372036854775807:=rfl
 have hl:(eRS l).length=l.length:=List.length_map _
 have hln:=hB.n
 by_cases h0:l=[]
 ·have k0:((l.length:Int)=0)=True:=eq_true (by subst h0;rfl)
  have he:codeC l=9:=by unfold codeC;rw[if_pos h0]
  rw[he]
  clear hB he h0
  repeat' (first|refine zg ?_|(refine AW.cond rfl ?_ ?_<;>intro hc<;>first|simp only[NM]at hc|omega|skip)|refine zr ?_|refine ⟨by omega,?_⟩|(refine zb ?_ ?_<;>intro hg<;>(try rw[hg])<;>try simp only[NM]at hg)|omega|simp -dsimp (disch:=try exact zo) only[go_sem,hl,k0]|contradiction|rfl)
 ·have k0:((l.length:Int)=0)=False:=eq_false (by have:=List.length_pos_iff.2 h0;omega)
  have he0:codeC l=scanC (finC l) ((l.take 0).map (·.1)) (l.drop 0):=by unfold codeC;rw[if_neg h0];rfl
  clear h0
  generalize codeC l=e at *
  replace hB:=Hid.mk hB
  have hz1:mHB []=[]:=rfl
  have hz2:mCN []=[]:=rfl
  have hz3:esP []=[]:=rfl
  repeat' (first|refine zg ?_|(refine AW.cond rfl ?_ ?_<;>intro hc<;>first|simp only[NM]at hc|omega|skip)|refine zr ?_|refine ⟨by omega,?_⟩|(refine zb ?_ ?_<;>intro hg<;>(try rw[hg])<;>try simp only[NM]at hg)|omega|simp -dsimp (disch:=try exact zo) only[go_sem,hl,k0]|contradiction|rfl)
  refine AW.loop (fun z:{i:Nat // i≤l.length∧Hid (e=scanC (finC l) ((l.take i).map (·.1)) (l.drop i)∧(∀ j (h:j<l.length),j<i→chkG l[j].1 l[j].2=0)∧(((typC l).take i).map (·.1)).Nodup)}=>⟨[(23,.lit (.int .i64 z.1)),(22,.lit (.int .i64 l.length)),(21,.sl (eRS l)),(3,.mp 14),(4,.mp 16),(1,.loc 8 0)],[(14,.mpo (mHB (((typC l).take z.1).map (·.1)))),(16,.mpo (mCN (esP ((typC l).take z.1)))),(8,.blk [.sl (eRS l)])],60⟩) (fun z=>l.length - z.1) ⟨0,Nat.zero_le _,Hid.mk ⟨he0,fun j _ h=>absurd h (Nat.not_lt_zero _),List.Pairwise.nil⟩⟩ (Weak.t4 (by refine ⟨?_,?_,?_,?_⟩<;>simp -dsimp (disch:=try exact zo) only[go_sem,eRS_in,List.take_zero,hz1,hz2,hz3,List.map_nil,ZC])) ?_
  rintro ⟨i,hi,hI⟩
  dsimp only
  by_cases hlt:i<l.length
  ·have hm:=List.getElem_mem hlt
   have cp:=c117r l[i].1 l[i].2 (Nat.le_trans (hB.out.m _ hm) (by decide)) (hB.out.p _ hm) (hB.out.v _ hm)
   have hs:=hI.out.1
   rw[scan_at hlt]at hs
   have es1:=eRS_getD l i hlt
   by_cases q:chkG l[i].1 l[i].2=0
   ·have hall:∀ j (h:j<l.length),j<i+1→chkG l[j].1 l[j].2=0:=fun j h h'=>by
     by_cases e:j=i
     ·subst e;exact q
     ·exact hI.out.2.1 j h (by omega)
    have hJ:=Hid.mk hall
    obtain ⟨z1,z2,z3⟩:=chk_zero q
    have hmet:=met_iff hlt hall
    have hlt':i<(typC l).length:=by unfold typC;rw[List.length_map];exact hlt
    have hT:=typ_el hlt hlt'
    have hfE:=esP_succ (typC l) i hlt'
    have hfP:=pls_succ (typC l) i hlt'
    rw[if_neg (fun k=>k q)]at hs
    rw[q]at cp
    rw[hT]at hfE hfP
    rw[z1.2,eRPs_can z2]at es1 cp
    have hbp:BPl 1073741824 (nrmR l[i].1):=(nrmR_bs (hB.out.p _ hm) z1.1).mono (by decide)
    have hkP:=key26 (nrmR l[i].1) hbp
    have hPn:=hI.out.2.2
    have hin:∀ s∈(typC l).take i,∃ t∈l,chkG t.1 t.2=0∧s=(nrmR t.1,t.2.map ptR):=fun s hs=>by
     obtain ⟨j,hj,rfl⟩:=List.mem_take_iff_getElem.1 hs
     have hj':j<l.length:=by omega
     exact ⟨l[j],List.getElem_mem hj',hI.out.2.1 j hj' (by omega),typ_el hj' _⟩
    have hkoP:=keysHB hPn fun p hp=>by
     obtain ⟨s,hs,rfl⟩:=List.mem_map.1 hp
     obtain ⟨t,ht,k,rfl⟩:=hin s hs
     exact (nrmR_bs (hB.out.p t ht) (chk_zero k).1.1).mono (by decide)
    have hvb:∀ s∈(typC l).take i,∀ v∈s.2,BPt 1073741824 v:=fun s hs v hv=>by
     obtain ⟨t,ht,k,rfl⟩:=hin s hs
     obtain ⟨u,hu,rfl⟩:=List.mem_map.1 hv
     exact (ptR_bs6 (hB.out.v t ht u hu)).mono (by decide)
    have hvn:∀ v∈l[i].2.map ptR,BPt 1073741824 v:=fun v hv=>by
     obtain ⟨u,hu,rfl⟩:=List.mem_map.1 hv
     exact (ptR_bs6 (hB.out.v _ hm u hu)).mono (by decide)
    have hGb:∀ e∈esP ((typC l).take i)++Geo.edges (l[i].2.map ptR),BPt 1073741824 e.1∧BPt 1073741824 e.2:=fun e he=>by
     rcases List.mem_append.1 he with he|he
     ·exact es_pts hvb he
     ·exact ⟨hvn _ (Geo.mem_fst he),hvn _ (Geo.mem_snd he)⟩
    have hnv:(l[i].2.map ptR).length≤8:=by rw[List.length_map];exact hB.out.m _ hm
    have hEn0:(esP ((typC l).take i)).length≤64:=by
     have h1:=esP_len (l:=(typC l).take i) (M:=8) fun s hs=>by
      obtain ⟨t,ht,k,rfl⟩:=hin s hs
      rw[List.length_map];exact hB.out.m t ht
     have h2:((typC l).take i).length≤8:=by rw[List.length_take];omega
     have h3:=Nat.mul_le_mul_right 8 h2
     omega
    by_cases hmem:l[i].1∈(l.take i).map (·.1)
    ·rw[if_pos hmem]at hs
     have hlkP:=mHB_has (hmet.1 hmem)
     rw[hs]
     have k1:True:=trivial
     clear hs hI hJ hall hm hmet hmem hT hfE hfP hbp hPn hin hvb hvn hGb hnv hEn0 z1 z2 z3 q hB
     generalize mCN (esP ((typC l).take i))=M' at *
     generalize ((typC l).take i).map (·.1)=Qi at *
     generalize nrmR l[i].1=sp at *
     generalize l[i].2.map ptR=svs at *
     simp only[eH,e4,List.cons_append,List.nil_append]at es1 cp
     simp only[plv]at hkP hlkP
     repeat' (first|refine zg ?_|(refine AW.cond rfl ?_ ?_<;>intro hc<;>first|simp only[NM]at hc|omega|skip)|refine zr ?_|(refine callV.plain _ yfn_117 cp (by simp -dsimp (disch:=try exact zo) only[go_sem,eP_in,eRPs_in]) (.lit _) ?_)|refine ⟨by omega,?_⟩|(refine zb ?_ ?_<;>intro hg<;>(try rw[hg])<;>try simp only[NM]at hg)|omega|simp -dsimp (disch:=try exact zo) only[go_sem,hl,es1,ZT,eRS_in,eP_in,kl26,hkP,hkoP,hlkP]|rfl)
    ·rw[if_neg hmem]at hs
     have hno:=fun h=>hmem (hmet.2 h)
     have hlkP:(mfind (mHB (((typC l).take i).map (·.1))) (plv (nrmR l[i].1))).getD (.bool false)=.bool false:=by rw[mfind_no (mHB_key hno)];rfl
     have hputP:mput (mHB (((typC l).take i).map (·.1))) (plv (nrmR l[i].1)) (.bool true)=mHB (((typC l).take i).map (·.1)++[nrmR l[i].1]):=by rw[mput_no (mHB_key hno)];unfold mHB;rw[List.map_append];rfl
     have hI1:=Hid.mk (show e=scanC (finC l) ((l.take (i+1)).map (·.1)) (l.drop (i+1))∧(∀ j (h:j<l.length),j<i+1→chkG l[j].1 l[j].2=0)∧(((typC l).take (i+1)).map (·.1)).Nodup from ⟨hs,hall,by rw[hfP];exact snoc_nd hPn hno⟩)
     have ce:=c118 (nrmR l[i].1) (l[i].2.map ptR) (by omega)
     have hedl:(Geo.edges (l[i].2.map ptR)).length≤8:=by rw[Geo.edges_length];exact hnv
     have hEl:(eEs (Geo.edges (l[i].2.map ptR))).length=(Geo.edges (l[i].2.map ptR)).length:=List.length_map _
     have k1:True:=trivial
     clear hs hI hJ hall hm hmet hmem hT hbp hPn hin hvb hvn hnv z1 z2 z3 q hno
     generalize ((typC l).take i).map (·.1)=Qi at *
     generalize esP ((typC l).take i)=E0 at *
     generalize nrmR l[i].1=sp at *
     generalize l[i].2.map ptR=svs at *
     generalize Geo.edges svs=ed at *
     simp only[eH,e4,List.cons_append,List.nil_append]at es1 cp
     simp only[eG]at ce
     simp only[plv]at hkP hlkP hputP
     replace hGb:=Hid.mk hGb
     repeat' (first|refine zg ?_|(refine AW.cond rfl ?_ ?_<;>intro hc<;>first|simp only[NM]at hc|omega|skip)|refine zr ?_|(refine callV.plain _ yfn_117 cp (by simp -dsimp (disch:=try exact zo) only[go_sem,eP_in,eRPs_in]) (.lit _) ?_)|(refine callV.plain _ yfn_118 ce (by simp -dsimp (disch:=try exact zo) only[go_sem,eP_in]) inEs ?_)|refine ⟨by omega,?_⟩|(refine zb ?_ ?_<;>intro hg<;>(try rw[hg])<;>try simp only[NM]at hg)|omega|simp -dsimp (disch:=try exact zo) only[go_sem,hl,es1,ZT,eRS_in,eP_in,hEl,kl26,hkP,hkoP,hlkP,hputP]|rfl)
     refine AW.loop (fun z:{k:Nat // k≤ed.length}=>⟨[(42,.lit (.int .i64 z.1)),(41,.lit (.int .i64 ed.length)),(40,.sl (eEs ed)),(23,.lit (.int .i64 i)),(22,.lit (.int .i64 l.length)),(21,.sl (eRS l)),(3,.mp 14),(4,.mp 16),(1,.loc 8 0)],[(14,.mpo (mHB (Qi++[sp]))),(16,.mpo (mCN (E0++ed.take z.1))),(8,.blk [.sl (eRS l)])],90⟩) (fun z=>ed.length - z.1) ⟨0,Nat.zero_le _⟩ (Weak.t4 (by refine ⟨?_,?_,?_,?_⟩<;>simp -dsimp (disch:=try exact zo) only[go_sem,eRS_in,eEs_in,List.take_zero,List.append_nil,ZC])) ?_
     rintro ⟨k,hkk⟩
     dsimp only
     by_cases hkt:k<ed.length
     ·have ea:=eEs_getD ed k hkt
      have hst:E0++ed.take (k+1)=(E0++ed.take k)++[ed[k]]:=by rw[List.take_succ_eq_append_getElem hkt,List.append_assoc]
      obtain ⟨M1,j,hS⟩:=mCN_step (E0++ed.take k) ed[k]
      have hb1:∀ x∈(E0++ed.take k)++[ed[k]],BPt 1073741824 x.1∧BPt 1073741824 x.2:=fun x hx=>by
       refine hGb.out x ?_
       rw[← hst]at hx
       rcases List.mem_append.1 hx with h|h
       ·exact List.mem_append_left _ h
       ·exact List.mem_append_right _ (List.mem_of_mem_take h)
      have hkE:=key138 ed[k] (hb1 _ (List.mem_append_right _ (List.mem_singleton.2 rfl))).1 (hb1 _ (List.mem_append_right _ (List.mem_singleton.2 rfl))).2
      have hkoE:=mCN_keys (G:=E0++ed.take k) fun x hx=>hb1 x (List.mem_append_left _ hx)
      have hkoE2:=mCN_keys hb1
      have hkoE1:=keys_of hkoE2 hS.keys
      have hlkE:=hS.find
      have hputE:=hS.put
      have hlk2:=hS.find1
      have hmx:=hS.idx
      have hjl:=hS.lt
      have hset:mset M1 j (.int .i64 (((E0++ed.take k).count ed[k]:Nat)+1:Int))=mCN ((E0++ed.take k)++[ed[k]]):=hS.set
      have hcn:(E0++ed.take k).count ed[k]≤100:=by
       refine Nat.le_trans List.count_le_length ?_
       rw[List.length_append,List.length_take];omega
      clear hS hb1 cp ce hkP hkoP hlkP hputP hfE es1 hGb hEn0 hI1
      generalize (E0++ed.take k).count ed[k]=cnt at *
      generalize E0++ed.take k=G at *
      generalize ed[k]=e at *
      replace hst:mCN (E0++ed.take (k+1))=mCN (G++[e]):=by rw[hst]
      generalize mCN G=M at *
      generalize mCN (G++[e])=M2 at *
      obtain ⟨a,b⟩:=e
      dsimp only[eE]at ea
      simp only[ev]at hkE hlkE hmx hputE hset hlk2
      repeat' (first|refine AW.all (id:=17) T17 ymix (by kernel_rfl) ?_|refine zg ?_|(refine AW.cond rfl ?_ ?_<;>intro hc<;>first|simp only[NM]at hc|omega|skip)|refine zr ?_|refine ⟨by omega,?_⟩|(refine zb ?_ ?_<;>intro hg<;>(try rw[hg])<;>try simp only[NM]at hg)|omega|simp -dsimp (disch:=try exact zo) only[go_sem,T17,hEl,ea,ZT,kl138,hkE,hkoE,hkoE1,hkoE2,hlkE,hputE,hmx,hset,hlk2]|rfl|refine And.intro ?_ ?_)
      all_goals exact AW.stop ⟨⟨k+1,by omega⟩,(Weak.t4 (by refine ⟨?_,?_,?_,?_⟩<;>simp -dsimp (disch:=try exact zo) only[go_sem,eRS_in,eEs_in,hst,ZC])),by dsimp only;omega⟩
     ·have hkl:k=ed.length:=by omega
      subst hkl
      rw[List.take_length]
      clear cp ce hkP hkoP hlkP hputP es1 hGb
      repeat' (first|refine zg ?_|(refine AW.cond rfl ?_ ?_<;>intro hc<;>first|simp only[NM]at hc|omega|skip)|refine zr ?_|refine ⟨by omega,?_⟩|(refine zb ?_ ?_<;>intro hg<;>(try rw[hg])<;>try simp only[NM]at hg)|omega|simp -dsimp (disch:=try exact zo) only[go_sem,hEl]|contradiction|rfl)
      all_goals exact AW.stop ⟨⟨i+1,by omega,hI1⟩,(Weak.t4 (by refine ⟨?_,?_,?_,?_⟩<;>simp -dsimp (disch:=try exact zo) only[go_sem,eRS_in,hfP,hfE,ZC])),by dsimp only;omega⟩
   ·rw[if_pos q]at hs
    rw[hs]
    have ce:True:=trivial
    generalize hc:chkG l[i].1 l[i].2=c at *
    have k1:(c=0)=False:=eq_false q
    clear hs hI hc hm
    generalize mHB (((typC l).take i).map (·.1))=M at *
    generalize mCN (esP ((typC l).take i))=M' at *
    simp only[eRP,List.cons_append,List.nil_append]at es1 cp
    repeat' (first|refine zg ?_|(refine AW.cond rfl ?_ ?_<;>intro hc<;>first|simp only[NM]at hc|omega|skip)|refine zr ?_|(refine callV.plain _ yfn_117 cp (by simp -dsimp (disch:=try exact zo) only[go_sem,eP_in,eRPs_in]) (.lit _) ?_)|refine ⟨by omega,?_⟩|(refine zb ?_ ?_<;>intro hg<;>(try rw[hg])<;>try simp only[NM]at hg)|omega|simp -dsimp (disch:=try exact zo) only[go_sem,hl,es1,k1,ZT,eRS_in,eRPs_in]|rfl)
  ·have hil:i=l.length:=by omega
   subst hil
   have hall:∀ s∈l,chkG s.1 s.2=0:=fun s hs=>by
    obtain ⟨j,hj,rfl⟩:=List.getElem_of_mem hs
    exact hI.out.2.1 j hj hj
   have hs:=hI.out.1
   rw[List.drop_length]at hs
   have hs':e=finC l:=hs
   obtain ⟨ht,hf⟩:=typ_of hall
   have hb:=typ_bd hB.out hall
   have hlT:l.length=(typC l).length:=by unfold typC;rw[List.length_map]
   have hfin:=fun h4=>finC_iff hall h4
   have hfin4:l.length<4→finC l=3:=fun h=>by unfold finC;rw[if_pos h]
   rw[hs',ht]
   conv=>arg 5;rw[hlT,List.take_length]
   rw[hlT]at hfin hfin4 hln
   clear hs hs' hall hI hB hlt hi he0 hl ht
   generalize finC l=fc at *
   generalize typC l=L at *
   have hl:(eS L).length=L.length:=List.length_map _
   have hElen:=mCN_len (esP L)
   have hEb:∀ x∈esP L,BPt 1073741824 x.1∧BPt 1073741824 x.2:=fun x hx=>es_pts (fun s hs v hv=>(hb.k s hs v hv).mono (by decide)) hx
   have hkoE:=mCN_keys hEb
   have hcan:CanC L:=⟨fun s hs=>(hf s hs).can⟩
   have hcv:=c27x L hcan hb
   have hVb:∀ x∈vertsP L,BPt 100000 x:=fun v hv=>by
    obtain ⟨s,hs,hv⟩:=verts_mem.1 hv
    exact hb.k s hs v hv
   have hVn:(vertsP L).length≤268435456:=verts_bd hb
   have hco:∀ x∈vertsP L,CallOK Tryz.prog 91 [.agg [.sl (eS L)],.agg (eP x)] [] (.lit (.bool (outP L x))) []:=fun x hx=>c91 L x (by omega) (fun s hs=>(hb.p s hs).mono (by decide)) ((hVb x hx).mono (by decide))
   have hEn:(esP L).length≤268435456:=by
    have h1:=esP_len hb.m
    have h2:L.length*4096≤64*4096:=Nat.mul_le_mul_right _ hb.n
    omega
   have hDn:(ddE (esP L)).length≤268435456:=Nat.le_trans (ddE_len _) hEn
   have hnth:∀ j,j<(ddE (esP L)).length→∃ e:Pt × Pt,e=(ddE (esP L)).getD j ((⟨0,0,0,0⟩:Pt),(⟨0,0,0,0⟩:Pt))∧(mCN (esP L))[j]?=some (ev e,.int .i64 ((esP L).count e:Nat))∧(keyOf Tryz.prog 138 (ev (Geo.sw e))).isSome=true∧(mfind (mCN (esP L)) (ev (Geo.sw e))).getD (.int .i64 0)=.int .i64 ((esP L).count (Geo.sw e):Nat):=fun j hj=>by
    refine ⟨(ddE (esP L))[j],by rw[List.getD_eq_getElem?_getD,List.getElem?_eq_getElem hj];rfl,mCN_at hj,?_,mCN_find _ _⟩
    have:=hEb _ (ddE_iff.1 (List.getElem_mem hj))
    exact key138 _ this.2 this.1
   have hA:clsA L↔∀ j,j<(ddE (esP L)).length→(esP L).count ((ddE (esP L)).getD j ((⟨0,0,0,0⟩:Pt),(⟨0,0,0,0⟩:Pt)))=1∧(esP L).count (Geo.sw ((ddE (esP L)).getD j ((⟨0,0,0,0⟩:Pt),(⟨0,0,0,0⟩:Pt))))=1:=by
    rw[clsA_iff]
    constructor<;>intro h j hj<;>have:=h j hj<;>simpa [List.getD_eq_getElem?_getD,List.getElem?_eq_getElem hj]using this
   by_cases h4:L.length<4
   ·have k4:((L.length:Int)<4)=True:=eq_true (by omega)
    rw[hfin4 h4]
    clear hfin hfin4 hA hnth hco hEb hcan hcv hVb hf hb h4
    generalize mCN (esP L)=M at *
    generalize mHB (L.map (·.1))=M' at *
    repeat' (first|refine zg ?_|(refine AW.cond rfl ?_ ?_<;>intro hc<;>first|simp only[NM]at hc|omega|skip)|refine zr ?_|refine ⟨by omega,?_⟩|(refine zb ?_ ?_<;>intro hg<;>(try rw[hg])<;>try simp only[NM]at hg)|omega|simp -dsimp (disch:=try exact zo) only[go_sem,hl,k4,hElen]|contradiction|rfl)
   ·have k4:((L.length:Int)<4)=False:=eq_false (by omega)
    obtain ⟨f1,f2,f3⟩:=hfin h4
    replace f1:=Hid.mk f1
    replace f2:=Hid.mk f2
    replace f3:=Hid.mk f3
    replace hA:=Hid.mk hA
    replace hnth:=Hid.mk hnth
    replace hco:=Hid.mk hco
    clear hfin hfin4 hEb hcan hVb hf hb h4
    generalize hVe:vertsP L=V at *
    have hVl0:(V.map eP).length=V.length:=List.length_map _
    clear hVe
    generalize mHB (L.map (·.1))=M' at *
    generalize hMe:mCN (esP L)=M at *
    clear hMe
    generalize ddE (esP L)=D at *
    generalize esP L=E at *
    repeat' (first|refine zg ?_|(refine AW.cond rfl ?_ ?_<;>intro hc<;>first|simp only[NM]at hc|omega|skip)|refine zr ?_|refine ⟨by omega,?_⟩|(refine zb ?_ ?_<;>intro hg<;>(try rw[hg])<;>try simp only[NM]at hg)|omega|simp -dsimp (disch:=try exact zo) only[go_sem,hl,k4,hElen]|contradiction|rfl)
    refine AW.loop (fun z:{seen:List Nat // seen.Nodup∧(∀ x∈seen,x<D.length)∧seen.length≤D.length∧Hid (∀ j∈seen,E.count (D.getD j ((⟨0,0,0,0⟩:Pt),(⟨0,0,0,0⟩:Pt)))=1∧E.count (Geo.sw (D.getD j ((⟨0,0,0,0⟩:Pt),(⟨0,0,0,0⟩:Pt))))=1)}=>⟨[(59,.loc 66 0),(4,.mp 16),(1,.loc 8 0)],[(66,.ito 16 D.length z.1),(16,.mpo M),(8,.blk [.sl (eS L)])],90⟩) (fun z=>D.length - z.1.length) ⟨[],by simp,by simp,Nat.zero_le _,Hid.mk (by simp)⟩ (Weak.t4 (by refine ⟨?_,?_,?_,?_⟩<;>simp -dsimp (disch:=try exact zo) only[go_sem,eS_in,ZC])) ?_
    rintro ⟨seen,hs1,hs2,hs3,hs0⟩
    dsimp only
    refine AW.seq ?_
    refine AW.next (r:=66) (l:=16) (by decide) (by decide) rfl rfl rfl hElen (fun j hj hjs=>?_) (fun hall=>?_)
    ·obtain ⟨e,e0,n1,n2,hfs⟩:=hnth.out j hj
     have hs4:(seen++[j]).Nodup:=snoc_nd hs1 hjs
     have hs5:∀ x∈seen++[j],x<D.length:=fun x hx=>by
      rcases List.mem_append.1 hx with hx|hx
      ·exact hs2 x hx
      ·simp at hx;omega
     have hs6:seen.length+1≤D.length:=by
      have:=nodup_len hs4 (m:=List.range D.length) fun x hx=>List.mem_range.2 (hs5 x hx)
      simpa using this
     have hs7:=Hid.mk (show E.count e=1→E.count (Geo.sw e)=1→∀ i∈seen++[j],E.count (D.getD i ((⟨0,0,0,0⟩:Pt),(⟨0,0,0,0⟩:Pt)))=1∧E.count (Geo.sw (D.getD i ((⟨0,0,0,0⟩:Pt),(⟨0,0,0,0⟩:Pt))))=1 from fun g1 g2 i hi=>by
      rcases List.mem_append.1 hi with hi|hi
      ·exact hs0.out i hi
      ·obtain rfl:=List.mem_singleton.1 hi
       rw[← e0];exact ⟨g1,g2⟩)
     have hbad:=Hid.mk (show ¬ (E.count e=1∧E.count (Geo.sw e)=1)→fc=3 from fun h=>f2.out fun k=>h (by have:=hA.out.1 k j hj;rwa [← e0]at this))
     have hlast:(seen++[j]).getLast?=some j:=List.getLast?_concat
     have hx1:E.count e≤268435456:=Nat.le_trans List.count_le_length hEn
     have hx2:E.count (Geo.sw e)≤268435456:=Nat.le_trans List.count_le_length hEn
     clear hs1 hs2 hjs e0 hs0
     replace hs4:=Hid.mk hs4
     replace hs5:=Hid.mk hs5
     generalize E.count e=u at *
     generalize E.count (Geo.sw e)=v at *
     obtain ⟨a,b⟩:=e
     simp only[Geo.sw,ev]at n1 n2 hfs
     by_cases g1:u=1
     ·have k1:((u:Int)=1)=True:=eq_true (by omega)
      by_cases g2:v=1
      ·have k2:((v:Int)=1)=True:=eq_true (by omega)
       replace hs7:=Hid.mk (hs7.out g1 g2)
       clear hbad
       repeat' (first|refine zg ?_|(refine AW.cond rfl ?_ ?_<;>intro hc<;>first|simp only[NM]at hc|omega|skip)|refine zr ?_|refine ⟨by omega,?_⟩|(refine zb ?_ ?_<;>intro hg<;>(try rw[hg])<;>try simp only[NM]at hg)|omega|simp -dsimp (disch:=try exact zo) only[go_sem,hlast,n1,n2,hElen,hfs,kl138,hkoE,k1,k2]|rfl)
       all_goals exact AW.stop ⟨⟨seen++[j],hs4.out,hs5.out,by rw[List.length_append];exact hs6,hs7⟩,(Weak.t4 (by refine ⟨?_,?_,?_,?_⟩<;>simp -dsimp (disch:=try exact zo) only[go_sem,eS_in,ZC])),by dsimp only;rw[List.length_append,List.length_singleton];omega⟩
      ·have k2:((v:Int)=1)=False:=eq_false (by omega)
       rw[hbad.out (fun h=>g2 h.2)]
       clear hbad hs7
       repeat' (first|refine zg ?_|(refine AW.cond rfl ?_ ?_<;>intro hc<;>first|simp only[NM]at hc|omega|skip)|refine zr ?_|refine ⟨by omega,?_⟩|(refine zb ?_ ?_<;>intro hg<;>(try rw[hg])<;>try simp only[NM]at hg)|omega|simp -dsimp (disch:=try exact zo) only[go_sem,hlast,n1,n2,hElen,hfs,kl138,hkoE,k1,k2]|rfl)
     ·have k1:((u:Int)=1)=False:=eq_false (by omega)
      have k2:True:=trivial
      rw[hbad.out (fun h=>g1 h.1)]
      clear hbad hs7
      repeat' (first|refine zg ?_|(refine AW.cond rfl ?_ ?_<;>intro hc<;>first|simp only[NM]at hc|omega|skip)|refine zr ?_|refine ⟨by omega,?_⟩|(refine zb ?_ ?_<;>intro hg<;>(try rw[hg])<;>try simp only[NM]at hg)|omega|simp -dsimp (disch:=try exact zo) only[go_sem,hlast,n1,n2,hElen,hfs,kl138,hkoE,k1,k2]|rfl)
    ·have hcl:Hid (clsA L):=Hid.mk (hA.out.2 fun j hj=>hs0.out j (hall j hj))
     clear hall hs1 hs2 hs3 hs0 hA hnth f2
     repeat' (first|refine zg ?_|(refine AW.cond rfl ?_ ?_<;>intro hc<;>first|simp only[NM]at hc|omega|skip)|refine zr ?_|(refine callV.plain _ yfn_27 hcv (by simp -dsimp (disch:=try exact zo) only[go_sem,eS_in]) (by rw[In_sl,eP_in];trivial) ?_)|refine ⟨by omega,?_⟩|(refine zb ?_ ?_<;>intro hg<;>(try rw[hg])<;>try simp only[NM]at hg)|omega|simp -dsimp (disch:=try exact zo) only[go_sem,eS_in,hVl0]|contradiction|rfl)
     refine AW.loop (fun z:{k:Nat // k≤V.length∧Hid (∀ j (h:j<V.length),j<k→outP L V[j]=false)}=>⟨[(80,.lit (.int .i64 z.1)),(79,.lit (.int .i64 V.length)),(78,.sl (V.map eP)),(1,.loc 8 0)],[(8,.blk [.sl (eS L)])],130⟩) (fun z=>V.length - z.1) ⟨0,Nat.zero_le _,Hid.mk (fun j _ h=>absurd h (Nat.not_lt_zero _))⟩ (Weak.t4 (by refine ⟨?_,?_,?_,?_⟩<;>simp -dsimp (disch:=try exact zo) only[go_sem,eS_in,eP_in,ZC])) ?_
     rintro ⟨k,hk,hK⟩
     dsimp only
     have hVl:(V.map eP).length=V.length:=List.length_map _
     by_cases hkt:k<V.length
     ·have ea:=eP_getD V k hkt
      have co:=hco.out _ (List.getElem_mem hkt)
      have hbad:=Hid.mk (f3.out V[k] (List.getElem_mem hkt))
      have hK1:=Hid.mk (show outP L V[k]=false→∀ j (h:j<V.length),j<k+1→outP L V[j]=false from fun hx j h h2=>by
       by_cases q:j=k
       ·subst q;exact hx
       ·exact hK.out j h (by omega))
      by_cases q:outP L V[k]=false
      ·rw[q]at co
       replace hK1:=Hid.mk (hK1.out q)
       clear hbad q
       generalize V[k]=x at *
       simp only[eP,e4]at ea co
       repeat' (first|refine zg ?_|(refine AW.cond rfl ?_ ?_<;>intro hc<;>first|simp only[NM]at hc|omega|skip)|refine zr ?_|(refine callV.plain _ yfn_91 co (by simp -dsimp (disch:=try exact zo) only[go_sem,eS_in]) (.lit _) ?_)|refine ⟨by omega,?_⟩|(refine zb ?_ ?_<;>intro hg<;>(try rw[hg])<;>try simp only[NM]at hg)|omega|simp -dsimp (disch:=try exact zo) only[go_sem,hVl,ea,ZT,eS_in,eP_in]|contradiction|rfl)
       all_goals exact AW.stop ⟨⟨k+1,by omega,hK1⟩,(Weak.t4 (by refine ⟨?_,?_,?_,?_⟩<;>simp -dsimp (disch:=try exact zo) only[go_sem,eS_in,eP_in,ZC])),by dsimp only;omega⟩
      ·rw[hbad.out q]
       have q':outP L V[k]=true:=by simpa using q
       rw[q']at co
       clear hbad q hK1 q'
       generalize V[k]=x at *
       simp only[eP,e4]at ea co
       repeat' (first|refine zg ?_|(refine AW.cond rfl ?_ ?_<;>intro hc<;>first|simp only[NM]at hc|omega|skip)|refine zr ?_|(refine callV.plain _ yfn_91 co (by simp -dsimp (disch:=try exact zo) only[go_sem,eS_in]) (.lit _) ?_)|refine ⟨by omega,?_⟩|(refine zb ?_ ?_<;>intro hg<;>(try rw[hg])<;>try simp only[NM]at hg)|omega|simp -dsimp (disch:=try exact zo) only[go_sem,hVl,ea,ZT,eS_in,eP_in]|contradiction|rfl)
     ·have hkl:k=V.length:=by omega
      subst hkl
      rw[f1.out hcl.out fun x hx=>by
       obtain ⟨j,hj,rfl⟩:=List.getElem_of_mem hx
       exact hK.out j hj hj]
      repeat' (first|refine zg ?_|(refine AW.cond rfl ?_ ?_<;>intro hc<;>first|simp only[NM]at hc|omega|skip)|refine zr ?_|refine ⟨by omega,?_⟩|(refine zb ?_ ?_<;>intro hg<;>(try rw[hg])<;>try simp only[NM]at hg)|omega|simp -dsimp (disch:=try exact zo) only[go_sem,hVl]|contradiction|rfl)
end Go.Proofs.Vx
namespace Go.Proofs.Vx
open Go Go.Sx Go.Proofs
attribute [local irreducible] fnT CallOK CallFr AW effV callV runP runO oneP oneO gcaseP hid
theorem yfn_12:fnT Tryz.prog 12=true:=by kernel_rfl
theorem great_RB {vs:List RP} (h:¬ 0<greatP vs):∀ v∈vs,RB 6 v:=fun v hv=>by
 have hb:bigR v=false:=by
  cases hq:bigR v
  ·rfl
  ·refine absurd ?_ h
   unfold greatP
   rw[if_pos (List.any_eq_true.2 ⟨v,hv,hq⟩)];decide
 obtain ⟨h1,h2,h3,h4⟩:=bigR_not hb
 exact ⟨h1,h2,h3,h4⟩
set_option maxRecDepth 20000 in
set_option maxHeartbeats 40000000 in
theorem c12 (l:RCell) (hp:∀ s∈l,RB 1048576 s.1):CallOK Tryz.prog 12 [.agg [.sl (eRS l)]] [] (.lit (.bool true)) []:=by
 refine CallOK.flat Tryz.func12 rfl 42 rfl rfl rfl [.tmp 2] (congrArg Array.toList Tryz.results12) ?_
 simp only[startT,Nat.reduceAdd]
 have hml:maxLen=9223372036854775807:=rfl
 have hl:(eRS l).length=l.length:=List.length_map _
 replace hp:=Hid.mk hp
 by_cases h0:8<l.length
 ·have k0:(8<(l.length:Int))=True:=eq_true (by omega)
  clear h0
  repeat' (first|refine zg ?_|(refine AW.cond rfl ?_ ?_<;>intro hc<;>first|simp only[NM]at hc|omega|skip)|refine zr ?_|(refine callV.flat _ yfn_19 c19 rfl rfl ?_)|refine ⟨by omega,?_⟩|(refine zb ?_ ?_<;>intro hg<;>(try rw[hg])<;>try simp only[NM]at hg)|omega|simp -dsimp (disch:=try exact zo) only[go_sem,hl,k0,eRS_in]|contradiction|rfl)
 ·have k0:(8<(l.length:Int))=False:=eq_false (by omega)
  repeat' (first|refine zg ?_|(refine AW.cond rfl ?_ ?_<;>intro hc<;>first|simp only[NM]at hc|omega|skip)|refine zr ?_|(refine callV.flat _ yfn_19 c19 rfl rfl ?_)|refine ⟨by omega,?_⟩|(refine zb ?_ ?_<;>intro hg<;>(try rw[hg])<;>try simp only[NM]at hg)|omega|simp -dsimp (disch:=try exact zo) only[go_sem,hl,k0,eRS_in]|contradiction|rfl)
  refine AW.loop (fun z:{i:Nat // i≤l.length∧Hid (∀ j (h:j<l.length),j<i→l[j].2.length≤8∧∀ v∈l[j].2,RB 6 v)}=>⟨[(13,.lit (.int .i64 z.1)),(12,.lit (.int .i64 l.length)),(11,.sl (eRS l)),(1,.loc 8 0)],[(8,.blk [.sl (eRS l)])],60⟩) (fun z=>l.length - z.1) ⟨0,Nat.zero_le _,Hid.mk (fun j _ h=>absurd h (Nat.not_lt_zero _))⟩ (Weak.t4 (by refine ⟨?_,?_,?_,?_⟩<;>simp -dsimp (disch:=try exact zo) only[go_sem,eRS_in,ZC])) ?_
  rintro ⟨i,hi,hI⟩
  dsimp only
  by_cases hlt:i<l.length
  ·have es1:=eRS_getD l i hlt
   have hI1:=Hid.mk (show (l[i].2.length≤8∧∀ v∈l[i].2,RB 6 v)→∀ j (h:j<l.length),j<i+1→l[j].2.length≤8∧∀ v∈l[j].2,RB 6 v from fun hx j h h2=>by
    by_cases q:j=i
    ·subst q;exact hx
    ·exact hI.out j h (by omega))
   generalize l[i].1=r at *
   generalize l[i].2=vs at *
   simp only[eRP,List.cons_append,List.nil_append]at es1
   have hvl:(eRPs vs).length=vs.length:=List.length_map _
   by_cases q1:8<vs.length
   ·have k1:(8<(vs.length:Int))=True:=eq_true (by omega)
    have k2:True:=trivial
    have cg:True:=trivial
    clear hI1
    repeat' (first|refine zg ?_|(refine AW.cond rfl ?_ ?_<;>intro hc<;>first|simp only[NM]at hc|omega|skip)|refine zr ?_|(refine callV.flat _ yfn_19 c19 rfl rfl ?_)|(refine callV.plain _ yfn_28 cg (by simp -dsimp (disch:=try exact zo) only[go_sem,eRPs_in]) (.lit _) ?_)|refine ⟨by omega,?_⟩|(refine zb ?_ ?_<;>intro hg<;>(try rw[hg])<;>try simp only[NM]at hg)|omega|simp -dsimp (disch:=try exact zo) only[go_sem,hl,es1,hvl,k1,k2,ZT,eRS_in,eRPs_in]|contradiction|rfl)
   ·have k1:(8<(vs.length:Int))=False:=eq_false (by omega)
    have cg:=c28 vs (by omega)
    by_cases q2:0<greatP vs
    ·generalize greatP vs=g at *
     have k2:(0<g)=True:=eq_true q2
     clear hI1
     repeat' (first|refine zg ?_|(refine AW.cond rfl ?_ ?_<;>intro hc<;>first|simp only[NM]at hc|omega|skip)|refine zr ?_|(refine callV.flat _ yfn_19 c19 rfl rfl ?_)|(refine callV.plain _ yfn_28 cg (by simp -dsimp (disch:=try exact zo) only[go_sem,eRPs_in]) (.lit _) ?_)|refine ⟨by omega,?_⟩|(refine zb ?_ ?_<;>intro hg<;>(try rw[hg])<;>try simp only[NM]at hg)|omega|simp -dsimp (disch:=try exact zo) only[go_sem,hl,es1,hvl,k1,k2,ZT,eRS_in,eRPs_in]|contradiction|rfl)
    ·replace hI1:=Hid.mk (hI1.out ⟨by omega,great_RB q2⟩)
     generalize greatP vs=g at *
     have k2:(0<g)=False:=eq_false q2
     repeat' (first|refine zg ?_|(refine AW.cond rfl ?_ ?_<;>intro hc<;>first|simp only[NM]at hc|omega|skip)|refine zr ?_|(refine callV.flat _ yfn_19 c19 rfl rfl ?_)|(refine callV.plain _ yfn_28 cg (by simp -dsimp (disch:=try exact zo) only[go_sem,eRPs_in]) (.lit _) ?_)|refine ⟨by omega,?_⟩|(refine zb ?_ ?_<;>intro hg<;>(try rw[hg])<;>try simp only[NM]at hg)|omega|simp -dsimp (disch:=try exact zo) only[go_sem,hl,es1,hvl,k1,k2,ZT,eRS_in,eRPs_in]|contradiction|rfl)
     all_goals exact AW.stop ⟨⟨i+1,by omega,hI1⟩,(Weak.t4 (by refine ⟨?_,?_,?_,?_⟩<;>simp -dsimp (disch:=try exact zo) only[go_sem,eRS_in,ZC])),by dsimp only;omega⟩
  ·have hil:i=l.length:=by omega
   subst hil
   have hR:RCB l:=⟨by omega,hp.out,fun s hs=>by
    obtain ⟨j,hj,rfl⟩:=List.getElem_of_mem hs
    exact (hI.out j hj hj).1,fun s hs=>by
    obtain ⟨j,hj,rfl⟩:=List.getElem_of_mem hs
    exact (hI.out j hj hj).2⟩
   have ca:=c55r l hR
   have cb:=c56 l hR
   have cw:=c55 worldP world_cell world_H (world_bd.mono (by decide) (by decide) (by decide))
   have w0:=c57
   clear hR hI
   generalize codeC l=e at *
   generalize worldP=W at *
   repeat' (first|refine zg ?_|(refine AW.cond rfl ?_ ?_<;>intro hc<;>first|simp only[NM]at hc|omega|skip)|refine zr ?_|(refine callV.flat _ yfn_19 c19 rfl rfl ?_)|(first|refine callV.plain _ yfn_55 ca (by simp -dsimp (disch:=try exact zo) only[go_sem,eRS_in]) (.lit _) ?_|refine callV.plain _ yfn_55 cw (by simp -dsimp (disch:=try exact zo) only[go_sem,eS_in]) (.lit _) ?_)|(refine callV.plain _ yfn_56 cb (by simp -dsimp (disch:=try exact zo) only[go_sem,eRS_in]) (.lit _) ?_)|(refine callV.plain _ yfn_57 w0 (by simp) (inCell _) ?_)|refine ⟨by omega,?_⟩|(refine zb ?_ ?_<;>intro hg<;>(try rw[hg])<;>try simp only[NM]at hg)|omega|simp -dsimp (disch:=try exact zo) only[go_sem,hl,eRS_in,eS_in]|contradiction|rfl)
end Go.Proofs.Vx
namespace Go.Proofs.Vx
open Go Go.Sx Go.Proofs Go.ChangeShapes Go.WideShapes Go.Deep
theorem st_u4:Tryz.prog.underlying 4=some .bool:=by kernel_rfl
theorem st_u9:Tryz.prog.underlying 9=some .string:=by kernel_rfl
theorem st_u22:Tryz.prog.underlying 22=some (.slice 26):=by kernel_rfl
theorem st_u27:Tryz.prog.underlying 27=some (.array 1 26):=by kernel_rfl
theorem st_c26:Tryz.prog.cellsOf 26=8:=by kernel_rfl
theorem st_c27:Tryz.prog.cellsOf 27=8:=by kernel_rfl
theorem st_f26:fldT Tryz.prog 26=some [(24,0),(24,2),(24,4),(24,6)]:=by kernel_rfl
theorem fld_of {P:Program} {t:TypeId} {ks:List (TypeId × Nat)} (h:fldT P t=some ks):∃ fs,P.underlying t=some (.struct fs)∧fs.toList.map (fun f=>(f.type,f.offset))=ks:=by
 unfold fldT at h
 split at h
 ·rename_i fs hs
  split at h
  ·exact ⟨fs,hs,Option.some.inj h⟩
  ·contradiction
 ·contradiction
theorem list2 {l:List Field} {a b c d:Nat} (h:l.map (fun f=>(f.type,f.offset))=[(a,b),(c,d)]):∃ f0 f1,l=[f0,f1]∧f0.type=a∧f0.offset=b∧f1.type=c∧f1.offset=d:=by
 rcases l with _|⟨f0,_|⟨f1,_|⟨f2,l⟩⟩⟩<;>simp at h
 exact ⟨f0,f1,rfl,h.1.1,h.1.2,h.2.1,h.2.2⟩
theorem list4 {l:List Field} {a b c d a' b' c' d':Nat} (h:l.map (fun f=>(f.type,f.offset))=[(a,b),(c,d),(a',b'),(c',d')]):∃ f0 f1 f2 f3,l=[f0,f1,f2,f3]∧(f0.type=a∧f0.offset=b)∧(f1.type=c∧f1.offset=d)∧(f2.type=a'∧f2.offset=b')∧(f3.type=c'∧f3.offset=d'):=by
 rcases l with _|⟨f0,_|⟨f1,_|⟨f2,_|⟨f3,_|⟨f4,l⟩⟩⟩⟩⟩<;>simp at h
 exact ⟨f0,f1,f2,f3,rfl,h.1,h.2.1,h.2.2.1,h.2.2.2⟩
structure TyOk (P:Program):Prop where
 u4:P.underlying 4=some .bool
 u9:P.underlying 9=some .string
 u22:P.underlying 22=some (.slice 26)
 u27:P.underlying 27=some (.array 1 26)
 c4:P.cellsOf 4=1
 c9:P.cellsOf 9=1
 c24:P.cellsOf 24=2
 c26:P.cellsOf 26=8
 c27:P.cellsOf 27=8
 s24:∃ f0 f1:Field,P.underlying 24=some (.struct #[f0,f1])∧f0.type=4∧f0.offset=0∧f1.type=9∧f1.offset=1
 s26:∃ f0 f1 f2 f3:Field,P.underlying 26=some (.struct #[f0,f1,f2,f3])∧(f0.type=24∧f0.offset=0)∧(f1.type=24∧f1.offset=2)∧(f2.type=24∧f2.offset=4)∧(f3.type=24∧f3.offset=6)
theorem tyOk:TyOk Tryz.prog:=by
 refine ⟨st_u4,st_u9,st_u22,st_u27,yco_4,yco_9,yco_24,st_c26,st_c27,?_,?_⟩
 ·obtain ⟨fs,hu,hk⟩:=fld_of yfl_24
  obtain ⟨f0,f1,hf,r⟩:=list2 hk
  exact ⟨f0,f1,by rw[hu,← Array.toArray_toList (xs:=fs),hf],r⟩
 ·obtain ⟨fs,hu,hk⟩:=fld_of st_f26
  obtain ⟨f0,f1,f2,f3,hf,r⟩:=list4 hk
  exact ⟨f0,f1,f2,f3,by rw[hu,← Array.toArray_toList (xs:=fs),hf],r⟩
section
variable {P:Program} {H:Type} {enc:TypeId × Value→H} {w:World} {base:Nat} {spare:Nat→Bool} {held:Bool}
def dI (b:Bool) (s:ByteArray):DataW H:=.agg [.lit (.bool b),.lit (.string s.data.toList)]
def dR (r:RP):DataW H:=.agg [dI r.n1 r.m1,dI r.n2 r.m2,dI r.n3 r.m3,dI r.n4 r.m4]
def cR (r:RP):List Value:=[.bool r.n1,.string r.m1,.bool r.n2,.string r.m2,.bool r.n3,.string r.m3,.bool r.n4,.string r.m4]
def wfR (r:RP):Prop:=r.m1.size≤maxLen∧r.m2.size≤maxLen∧r.m3.size≤maxLen∧r.m4.size≤maxLen
theorem open24 (T:TyOk P) {fuel:Nat} {cs:List Value} {x:DataW H × List MemPlace} (h:DataW.trod enc P w base spare held fuel 24 cs=some x):∃ b s,cs=[.bool b,.string s]∧x=(dI b s,[])∧s.size≤maxLen:=by
 obtain ⟨f0,f1,hu,t0,o0,t1,o1⟩:=T.s24
 obtain ⟨xs,n,_,hx,hl,hxl,hf⟩:=DataW.trod_struct hu h
 rw[T.c24]at hl
 match xs,hxl,cs,hl with
 | [y0,y1],_,[v0,v1],_ =>
  have g0:=hf 0 f0 rfl
  have g1:=hf 1 f1 rfl
  simp[t0,o0,t1,o1,T.c4,T.c9]at g0 g1
  obtain ⟨b,e0,e1⟩:=DataW.trod_bool T.u4 g0
  obtain ⟨s,e2,e3,e4⟩:=DataW.trod_string T.u9 g1
  simp only[List.cons.injEq,and_true]at e0 e2
  subst e0 e2 e1 e3
  exact ⟨b,s,rfl,by rw[hx];rfl,e4⟩
def S4 (P:Program) (t:TypeId):Prop:=∃ f0 f1 f2 f3:Field,P.underlying t=some (.struct #[f0,f1,f2,f3])∧(f0.type=24∧f0.offset=0)∧(f1.type=24∧f1.offset=2)∧(f2.type=24∧f2.offset=4)∧(f3.type=24∧f3.offset=6)
theorem open4 (T:TyOk P) {t:TypeId} (st:S4 P t) (ct:P.cellsOf t=8) {fuel:Nat} {cs:List Value} {x:DataW H × List MemPlace} (h:DataW.trod enc P w base spare held fuel t cs=some x):∃ r,wfR r∧cs=cR r∧x=(dR r,[]):=by
 obtain ⟨f0,f1,f2,f3,hu,⟨t0,o0⟩,⟨t1,o1⟩,⟨t2,o2⟩,⟨t3,o3⟩⟩:=st
 obtain ⟨xs,n,_,hx,hl,hxl,hf⟩:=DataW.trod_struct hu h
 rw[ct]at hl
 match xs,hxl,cs,hl with
 | [y0,y1,y2,y3],_,[v0,v1,v2,v3,v4,v5,v6,v7],_ =>
  have g0:=hf 0 f0 rfl
  have g1:=hf 1 f1 rfl
  have g2:=hf 2 f2 rfl
  have g3:=hf 3 f3 rfl
  simp[t0,o0,t1,o1,t2,o2,t3,o3,T.c24]at g0 g1 g2 g3
  obtain ⟨b0,s0,a0,c0,d0⟩:=open24 T g0
  obtain ⟨b1,s1,a1,c1,d1⟩:=open24 T g1
  obtain ⟨b2,s2,a2,c2,d2⟩:=open24 T g2
  obtain ⟨b3,s3,a3,c3,d3⟩:=open24 T g3
  simp only[List.cons.injEq,and_true]at a0 a1 a2 a3
  obtain ⟨rfl,rfl⟩:=a0
  obtain ⟨rfl,rfl⟩:=a1
  obtain ⟨rfl,rfl⟩:=a2
  obtain ⟨rfl,rfl⟩:=a3
  subst c0 c1 c2 c3
  exact ⟨⟨b0,s0,b1,s1,b2,s2,b3,s3⟩,⟨d0,d1,d2,d3⟩,rfl,by rw[hx];rfl⟩
theorem cR_get (r:RP) (j:Nat) (h:j<8):(eRP r)[j]'h=.lit ((cR r)[j]'h):=by
 match j,h with
 | 0,_=>rfl
 | 1,_=>rfl
 | 2,_=>rfl
 | 3,_=>rfl
 | 4,_=>rfl
 | 5,_=>rfl
 | 6,_=>rfl
 | 7,_=>rfl
theorem cR_one (r:RP) (j:Nat) (h:j<8):((cR r)[j]'h).oneCell'=true:=by
 match j,h with
 | 0,_=>rfl
 | 1,_=>rfl
 | 2,_=>rfl
 | 3,_=>rfl
 | 4,_=>rfl
 | 5,_=>rfl
 | 6,_=>rfl
 | 7,_=>rfl
end
def g00 (W:World):Gh:=⟨W,fun b=>b<W.heap.size,fun _=>False,fun _=>0,fun _=>⟨none,0,0,0⟩,fun _=>0⟩
theorem g00_ok (W:World):GOk (cxOf Tryz.prog (g00 W) (upd anyf [])) (g00 W) (upd anyf []):=⟨rfl,Tp.rfl,rfl,Nat.le_refl _,fun _ _ _=>rfl,fun b hb=>hb,fun b hb=>.inl hb,fun b hb=>hb,fun l=>trivial,fun l b hb=>by simp[upd,anyf,blkOf]at hb,fun l l' b hb=>by simp[upd,anyf,blkOf]at hb⟩
theorem calls_true {f : Nat} {args : List AV} {vals : List Value} {W : World} (h : CallOK Tryz.prog f args [] (.lit (.bool true)) []) (hr : RelL (g00 W) args vals) :
  Calls Tryz.prog f vals.toArray W fun e w'=>e=.returned (.bool true)∧w'.os=W.os∧w'.output=W.output∧W.heap.size≤w'.heap.size∧∀ b,b<W.heap.size→w'.heap[b]?=W.heap[b]?:=by
 refine (h (g00 W) vals (fun l=>by simp[g00]) (g00_ok W) hr).mono ?_
 rintro e w' ⟨v,g',rfl,rfl,_,_,hg,hv⟩
 cases hv
 exact ⟨rfl,hg.os,hg.output,hg.size,fun b hb=>hg.old b hb (by rintro ⟨l,hl⟩;simp[upd,anyf,blkOf]at hl)⟩
end Go.Proofs.Vx
namespace Go.Proofs.Vx
open Go Go.Sx Go.Proofs Go.ChangeShapes Go.WideShapes Go.Deep
section
variable {P:Program} {H:Type} {enc:TypeId × Value→H}
structure Lies (W:World) (b off len cap:Nat) (R:Nat→RP):Prop where
 le:len≤cap
 ml:cap≤maxLen
 wf:∀ i,i<cap→wfR (R i)
 blk:∃ cs e fr,W.heap[b]?=some (.cells cs e fr)
 cell:∀ i,i<cap→∀ j (hj:j<8),W.cell? ⟨b,off+i*8+j,none⟩=some ((cR (R i))[j]'hj)
theorem Lies.lt {W:World} {b off len cap:Nat} {R:Nat→RP} (h:Lies W b off len cap R):b<W.heap.size:=by
 obtain ⟨cs,e,fr,h⟩:=h.blk
 exact (Array.getElem?_eq_some_iff.1 h).1
theorem Lies.mono {W W':World} {b off len cap:Nat} {R:Nat→RP} (h:Lies W b off len cap R) (hk:∀ b,b<W.heap.size→W'.heap[b]?=W.heap[b]?):Lies W' b off len cap R:=by
 refine ⟨h.le,h.ml,h.wf,?_,fun i hi j hj=>?_⟩
 ·rw[hk b h.lt];exact h.blk
 ·have:=h.cell i hi j hj
  unfold World.cell? at this ⊢
  rw[hk b h.lt]
  exact this
theorem flatMap_nil {β:Type} (n:Nat):((List.range n).flatMap fun _=>([]:List β))=[]:=by simp
theorem post_grown {f : Func} {s : ChangeSpec} {apart fresh handsOn again : Bool} {W W' : World} {args : Array Value} {v : Value} {ds : List (DataW H)} {before : List MemPlace}
  (hvs:s.vars=[]) (hW:DataW.Whole enc P f.params.toList s.vars apart W args.toList ds [] before) (hos:W'.os=W.os) (hou:W'.output=W.output) (hold:∀ b,b<W.heap.size→W'.heap[b]?=W.heap[b]?)
  (hres:∀ (b:Nat) (sp:Nat→Bool) (hd:Bool),DataW.TrodAll enc P W' b sp hd f.resultTypes.toList (v.resultList f.resultTypes.size) (s.fn H ds).results [])
  (hargs:∀ sp:Nat→Bool,(∀ b,b<W.heap.size→sp b=true)→DataW.TrodAll enc P W' 0 sp true f.params.toList args.toList (s.fn H ds).args before) (hv0:(s.fn H ds).vars=[])
  (hok:∀ (j:Nat) (t:TypeId) (r:Value),f.resultTypes[j]?=some t→(v.resultList f.resultTypes.size)[j]?=some r→Value.okWide P W' .any 0 t r) :
  s.post enc P f apart fresh handsOn again W args v W':=by
 have hkept:W.keptBut W' (·∈before):=by
  refine ⟨hos,hou,fun i hi=>?_⟩
  rw[hold i hi]
  split
  ·rename_i h1 h2
   rw[h1]at h2
   simp only[Option.some.injEq,Obj.cells.injEq]at h2
   obtain ⟨rfl,rfl,rfl⟩:=h2
   exact ⟨rfl,rfl,rfl,fun _ _=>rfl⟩
  ·rename_i h1 h2
   rw[h1]at h2
   simp only[Option.some.injEq,Obj.map.injEq]at h2
   obtain ⟨rfl,rfl⟩:=h2
   exact .inr ⟨rfl,rfl⟩
  ·rfl
 have hvars:∀ sp:Nat→Bool,DataW.TrodVars enc P W' sp s.vars (s.fn H (ds++[])).vars []:=fun sp=>by rw[List.append_nil,hv0,hvs];rfl
 have hres':=hres
 have hargs':=hargs
 rw[← List.append_nil ds]at hres' hargs'
 refine ⟨ds,[],before,[],before,[],hW,hres' _ _ _,hargs' _ (fun b hb=>by simpa using hb),hvars _,World.keptBut_mono (fun p hp=>⟨hp,Or.inr (Or.inl hp)⟩) hkept,fun _=>?_⟩
 obtain ⟨_,_,_,_,_,hz,hn⟩:=id hW
 refine ⟨hok,_,_,([]++before)++[],⟨[]++before,[],trodAll_append (hargs' _ (fun _ _=>rfl)) (hres' _ _ _),hvars _,rfl,?_,?_⟩,?_⟩
 ·intro b off hp
  have hp':MemPlace.cell b off∈before:=by simpa using hp
  have hb:b<W.heap.size:=hW.lt _ hp'
  have:=hz b off hp'
  unfold World.frozen? at this ⊢
  rw[hold b hb]
  exact this
 ·intro ha
  simpa using hn ha
 ·intro p hp _
  simpa using hp
end
end Go.Proofs.Vx
namespace Go.Proofs.Vx
open Go Go.Sx Go.Proofs Go.ChangeShapes Go.WideShapes Go.Deep
section
variable {P:Program} {H:Type} {enc:TypeId × Value→H}
theorem st_f51:fldT Tryz.prog 51=some [(24,0),(24,2),(24,4),(24,6)]:=by kernel_rfl
theorem st_c51:Tryz.prog.cellsOf 51=8:=by kernel_rfl
theorem st_s51:S4 Tryz.prog 51:=by
 obtain ⟨fs,hu,hk⟩:=fld_of st_f51
 obtain ⟨f0,f1,f2,f3,hf,r⟩:=list4 hk
 exact ⟨f0,f1,f2,f3,by rw[hu,← Array.toArray_toList (xs:=fs),hf],r⟩
end
end Go.Proofs.Vx
