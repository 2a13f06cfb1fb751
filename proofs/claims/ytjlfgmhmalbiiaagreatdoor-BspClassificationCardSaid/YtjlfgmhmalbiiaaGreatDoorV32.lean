import Derived.Test.YtjlfgmhmalbiiaaGreatDoorV31
set_option linter.all false
set_option maxHeartbeats 40000000
namespace Go.Proofs.Vx
open Go Go.Sx Go.Proofs Tryz
attribute [local irreducible] fnT CallOK CallFr AW aO callV aP aN aM aQ gcaseP hid
theorem b9f (b:Pl) (l:aF) (i:Nat) (h:i<l.length):bhR b (l.take (i+1))=bhR b (l.take i)++(if 3≤(bD (-1) b l[i].2).length then [(l[i].1,bD (-1) b l[i].2)]else []):=by
 unfold bhR
 rw[List.take_succ_eq_append_getElem h,List.filterMap_append]
 congr 1
 rw[List.filterMap_cons,List.filterMap_nil]
 split<;>rename_i q<;>split at q<;>simp_all
theorem a6b (b:Pl) (l:aF):(bhR b l).length≤l.length:=List.length_filterMap_le _ _
def onL (b:Pl) (es:List (Pt × Pt)):List (Pt × Pt):=es.filter (onE b)
theorem a5b (b:Pl) (a c:List (Pt × Pt)):onL b (a++c)=onL b a++onL b c:=List.filter_append _ _
theorem c2h (l m:aF):esP (l++m)=esP l++esP m:=List.flatMap_append
theorem c2f (p:Pl) (vs:List Pt):esP [(p,vs)]=Geo.edges vs:=by unfold esP;simp
theorem b1o {α:Type} (vs:List α) (k:Nat) (h:k<vs.length):(Geo.edges vs).take (k+1)=(Geo.edges vs).take k++[(vs[k],vs[(k+1) % vs.length]'(Nat.mod_lt _ (by omega)))]:=by
 have hl:k<(Geo.edges vs).length:=by rw[Geo.gC];exact h
 rw[List.take_succ_eq_append_getElem hl,xN vs k h hl]
theorem c1c (b:Pl) (x y:Pt):onL b [(x,y)]=if aB b x=0∧aB b y=0 then [(x,y)]else []:=by
 unfold onL onE
 by_cases h:aB b x=0∧aB b y=0<;>simp[h]
def mE (b:Pl) (H:List (Pt × Pt)) (P:List Pt) (k:Nat):List (Pt × Pt):=H++onL b ((Geo.edges P).take k)
theorem a5k (b:Pl) (H:List (Pt × Pt)) (P:List Pt):mE b H P 0=H:=List.append_nil _
theorem c5e (b:Pl) (H:List (Pt × Pt)) (P:List Pt):mE b H P P.length=H++onL b (Geo.edges P):=by unfold mE;rw[List.take_of_length_le (by rw[Geo.gC];exact Nat.le_refl _)]
theorem a5a (b:Pl) (es:List (Pt × Pt)):(onL b es).length≤es.length:=List.length_filter_le _ _
theorem c4v {p q:Pt} (h:p.x=q.x∧p.y=q.y∧p.z=q.z∧p.w=q.w):p=q:=by
 obtain⟨h1,h2,h3,h4⟩:=h
 cases p;cases q
 simp only at h1 h2 h3 h4
 subst h1 h2 h3 h4;rfl
theorem c2g {l:aF} {M:Nat} (h:∀ s∈l,s.2.length≤M):(esP l).length≤l.length*M:=by
 induction l with
 | nil=>simp[esP]
 | cons s l ih =>
  have h1:=ih fun t ht=>h t (by simp[ht])
  have h2:=h s (by simp)
  have e:(esP (s::l)).length=s.2.length+(esP l).length:=by unfold esP;rw[List.flatMap_cons,List.length_append,Geo.gC]
  rw[e,List.length_cons,Nat.succ_mul]
  omega
theorem bhR_M {b:Pl} {l:aF} {M:Nat} (h:∀ s∈l,s.2.length≤M):∀ s∈bhR b l,s.2.length≤2*M:=by
 intro s hs
 obtain⟨t,ht,e⟩:=List.mem_filterMap.1 hs
 split at e
 ·obtain rfl:=Option.some.inj e
  have h1:=oR (-1) b t.2
  have h2:=h t ht
  show (bD (-1) b t.2).length≤_
  omega
 ·contradiction
set_option maxRecDepth 20000 in
theorem c163 (l:aF) (b:Pl) (h:CellOK l) (hS:Geo.Spl (sds l) (tH b)) (hb:BPl 1048576 b) (hn:l.length≤4096) (hv:∀ s∈l,s.2.length≤65536∧∀ v∈s.2,BPt 1048576 v):CallOK prog 163 [.agg [.sl (eS l)],.agg (eH b)] [] (.agg [.sl (eS (jA b l))]) []:=by
 refine fN func163 rfl 131 rfl rfl (bV _) [.cell 4 33] (congrArg Array.toList results163) ?_
 simp only[aD,Nat.reduceAdd]
 have hml:maxLen=9223372036854775807:=rfl
 have hl:(eS l).length=l.length:=List.length_map _
 have hz1:bhR b []=[]:=rfl
 have hz2:onL b []=[]:=rfl
 have hz3:esP []=[]:=rfl
 have hEn:∀ i,(onL b (esP (bhR b (l.take i)))).length≤536870912:=fun i=>by
  have h1:=a5a b (esP (bhR b (l.take i)))
  have h2:=c2g (bhR_M (b:=b) (l:=l.take i) (M:=65536) fun s hs=>(hv s (List.mem_of_mem_take hs)).1)
  have h3:=a6b b (l.take i)
  rw[List.length_take]at h3
  have h4:(bhR b (l.take i)).length*(2*65536)≤4096*(2*65536):=Nat.mul_le_mul_right _ (by omega)
  omega
 repeat'(first|refine zg ?_|(refine zc ?_ ?_<;>intro hc<;>first|simp only[NM]at hc|omega|skip)|refine zr ?_|refine⟨by omega,?_⟩|(refine zb ?_ ?_<;>intro hg<;>(try rw[hg])<;>try simp only[NM]at hg)|omega|simp -dsimp (disch:=try exact zo)only[go_sem,hl]|contradiction|rfl)
 refine AW.weak (jK 12 0 9 _ (by decide) rfl (by simp) rfl (by simp)) ?_
 refine AW.loop (fun z:{i:Nat // i≤l.length}=>⟨[(8,.lit (.int .i64 z.1)),(6,.ref 14 0 (onL b (esP (bhR b (l.take z.1)))).length (onL b (esP (bhR b (l.take z.1)))).length),(7,.ref 15 0 (onL b (esP (bhR b (l.take z.1)))).length (onL b (esP (bhR b (l.take z.1)))).length),(2,.loc 8 0),(3,.loc 9 0),(4,.loc 10 0),(5,.loc 12 0)],[(12,.blk [.ref 19 0 (bhR b (l.take z.1)).length (bhR b (l.take z.1)).length]),(19,.vec 9 (eS (bhR b (l.take z.1)))),(14,.vec 8 (((onL b (esP (bhR b (l.take z.1)))).map (·.2)).map eP)),(15,.vec 8 (((onL b (esP (bhR b (l.take z.1)))).map (·.1)).map eP)),(8,.blk [.sl (eS l)]),(9,.blk (eH b)),(10,.blk [.lit (.slice none 0 0)])],60⟩) (fun z=>l.length - z.1) ⟨0,Nat.zero_le _⟩ (aH (by refine⟨?_,?_,?_,?_⟩<;>simp -dsimp (disch:=try exact zo)only[go_sem,aG,aC,List.take_zero,hz1,hz2,hz3,List.map_nil,List.length_nil,ZC])) ?_
 rintro⟨i,hi⟩
 dsimp only
 by_cases hlt:i<l.length
 ·have es1:=sL l i hlt
  have hst0:=b9f b l i hlt
  obtain⟨hvn,hvb⟩:=hv _ (List.getElem_mem hlt)
  have hcan:=h.can _ (List.getElem_mem hlt)
  have hBn:=a6b b (l.take i)
  rw[List.length_take]at hBn
  have hHn:=hEn i
  clear h hS hv hEn
  generalize l[i]=sd at *
  obtain⟨sp,svs⟩:=sd
  dsimp only at es1 hst0 hvn hvb hcan
  have cc:=c214 b svs (by omega) hcan hvb hb
  have hPn:=oR (-1) b svs
  have hPb:=xY (h:=-1) hb hvb
  generalize bD (-1) b svs=P at *
  generalize bhR b (l.take i)=B at *
  have hBl:(eS B).length=B.length:=List.length_map _
  have hBl2:(B++[(sp,P)]).length=B.length+1:=by simp
  have hBm:eS (B++[(sp,P)])=eS B++[eG sp P]:=by rw[a7i];rfl
  have hPl:(P.map eP).length=P.length:=List.length_map _
  have hfH0:onL b (esP (B++[(sp,P)]))=onL b (esP B)++onL b (Geo.edges P):=by rw[c2h,c2f,a5b]
  generalize hHe:onL b (esP B)=H at *
  simp only[eG]at es1
  have hHa:((H.map (·.2)).map eP).length=H.length:=by rw[List.length_map,List.length_map]
  have hHb:((H.map (·.1)).map eP).length=H.length:=by rw[List.length_map,List.length_map]
  clear hcan hvb
  by_cases h3:3≤P.length
  ·have k0:((P.length:Int)<3)=False:=eq_false (by omega)
   rw[if_pos h3]at hst0
   repeat'(first|refine zg ?_|(refine zc ?_ ?_<;>intro hc<;>first|simp only[NM]at hc|omega|skip)|refine zr ?_|(refine zp cc (by simp -dsimp (disch:=try exact zo)only[go_sem,aC]) (by rw[gJ,aC];trivial) ?_)|refine⟨by omega,?_⟩|(refine zb ?_ ?_<;>intro hg<;>(try rw[hg])<;>try simp only[NM]at hg)|omega|simp -dsimp (disch:=try exact zo)only[go_sem,hl,es1,ZT,zl,aG,aC,k0,hBl,hBm]|contradiction|rfl)
   refine AW.loop (fun z:{k:Nat // k≤P.length}=>⟨[(10,.lit (.int .i64 z.1)),(9,.sl (P.map eP)),(8,.lit (.int .i64 i)),(6,.ref 14 0 (mE b H P z.1).length (mE b H P z.1).length),(7,.ref 15 0 (mE b H P z.1).length (mE b H P z.1).length),(2,.loc 8 0),(3,.loc 9 0),(4,.loc 10 0),(5,.loc 12 0)],[(12,.blk [.ref 19 0 (B++[(sp,P)]).length (B++[(sp,P)]).length]),(19,.vec 9 (eS (B++[(sp,P)]))),(14,.vec 8 (((mE b H P z.1).map (·.2)).map eP)),(15,.vec 8 (((mE b H P z.1).map (·.1)).map eP)),(8,.blk [.sl (eS l)]),(9,.blk (eH b)),(10,.blk [.lit (.slice none 0 0)])],90⟩) (fun z=>P.length - z.1) ⟨0,Nat.zero_le _⟩ (aH (by refine⟨?_,?_,?_,?_⟩<;>first|(simp -dsimp (disch:=try exact zo)only[go_sem,a5k,hBl2,hBm,hBl,ZC];done)|(simp -dsimp (disch:=try exact zo)only[go_sem,aG,aC,a5k,Int.cast_ofNat_Int];done))) ?_
   rintro⟨k,hk⟩
   dsimp only
   by_cases hkt:k<P.length
   ·have hmod:(k+1) % P.length<P.length:=Nat.mod_lt _ (by omega)
    have hm:((k:Int)+1) % (P.length:Int)=(((k+1) % P.length:Nat):Int):=by rw[Int.natCast_emod,Int.natCast_add];rfl
    have ea:=fB P k hkt
    have ea2:=fB P _ hmod
    have hst:mE b H P (k+1)=mE b H P k++(if aB b P[k]=0∧aB b P[(k+1) % P.length]=0 then [(P[k],P[(k+1) % P.length])]else []):=by
     unfold mE;rw[b1o P k hkt,a5b,c1c,List.append_assoc]
    have ca:=c50 b P[k] (hb.mono (by decide)) ((hPb _ (List.getElem_mem hkt)).mono (by decide))
    have cb:=c50 b P[(k+1) % P.length] (hb.mono (by decide)) ((hPb _ (List.getElem_mem hmod)).mono (by decide))
    have hGn:(mE b H P k).length≤1073741824:=by
     unfold mE
     have h1:=a5a b ((Geo.edges P).take k)
     rw[List.length_take]at h1
     rw[List.length_append]
     omega
    clear hPb hfH0 hHa hHb hHn
    generalize P[k]=x at *
    generalize P[(k+1) % P.length]=y at *
    generalize mE b H P k=G at *
    have hHa:((G.map (·.2)).map eP).length=G.length:=by rw[List.length_map,List.length_map]
    have hHb:((G.map (·.1)).map eP).length=G.length:=by rw[List.length_map,List.length_map]
    simp only[eP,e4]at ea ea2
    by_cases q1:aB b x=0
    ·have k1:=eq_true q1
     by_cases q2:aB b y=0
     ·have k2:=eq_true q2
      rw[if_pos ⟨q1,q2⟩]at hst
      have hHl:(mE b H P (k+1)).length=G.length+1:=by rw[hst];simp
      have hHx:((mE b H P (k+1)).map (·.2)).map eP=(G.map (·.2)).map eP++[eP y]:=by rw[hst];simp
      have hHy:((mE b H P (k+1)).map (·.1)).map eP=(G.map (·.1)).map eP++[eP x]:=by rw[hst];simp
      clear hst q1 q2
      repeat'(first|refine zg ?_|(refine zc ?_ ?_<;>intro hc<;>first|simp only[NM]at hc|omega|skip)|refine zr ?_|(first|refine zf ca ?_|refine zf cb ?_)|refine⟨by omega,?_⟩|(refine zb ?_ ?_<;>intro hg<;>(try rw[hg])<;>try simp only[NM]at hg)|omega|simp -dsimp (disch:=try exact zo)only[go_sem,hPl,ea,ea2,hm,k1,k2,ZT,zl,hHa,hHb,aC]|contradiction|rfl)
      all_goals exact AW.stop ⟨⟨k+1,by omega⟩,(aH (by refine⟨?_,?_,?_,?_⟩<;>first|(simp -dsimp (disch:=try exact zo)only[go_sem,hHl,hHx,hHy,zl,ZC];done)|(simp -dsimp (disch:=try exact zo)only[go_sem,aG,aC,hHl,ZC];done))),by dsimp only;omega⟩
     ·have k2:=eq_false q2
      rw[if_neg (fun e=>q2 e.2),List.append_nil]at hst
      clear q1 q2
      repeat'(first|refine zg ?_|(refine zc ?_ ?_<;>intro hc<;>first|simp only[NM]at hc|omega|skip)|refine zr ?_|(first|refine zf ca ?_|refine zf cb ?_)|refine⟨by omega,?_⟩|(refine zb ?_ ?_<;>intro hg<;>(try rw[hg])<;>try simp only[NM]at hg)|omega|simp -dsimp (disch:=try exact zo)only[go_sem,hPl,ea,ea2,hm,k1,k2,ZT,zl,hHa,hHb,aC]|contradiction|rfl)
      all_goals exact AW.stop ⟨⟨k+1,by omega⟩,(aH (by refine⟨?_,?_,?_,?_⟩<;>simp -dsimp (disch:=try exact zo)only[go_sem,aG,aC,hst,ZC])),by dsimp only;omega⟩
    ·have k1:=eq_false q1
     have k2:True:=trivial
     rw[if_neg (fun e=>q1 e.1),List.append_nil]at hst
     clear q1
     repeat'(first|refine zg ?_|(refine zc ?_ ?_<;>intro hc<;>first|simp only[NM]at hc|omega|skip)|refine zr ?_|(first|refine zf ca ?_|refine zf cb ?_)|refine⟨by omega,?_⟩|(refine zb ?_ ?_<;>intro hg<;>(try rw[hg])<;>try simp only[NM]at hg)|omega|simp -dsimp (disch:=try exact zo)only[go_sem,hPl,ea,ea2,hm,k1,k2,ZT,zl,hHa,hHb,aC]|contradiction|rfl)
     all_goals exact AW.stop ⟨⟨k+1,by omega⟩,(aH (by refine⟨?_,?_,?_,?_⟩<;>simp -dsimp (disch:=try exact zo)only[go_sem,aG,aC,hst,ZC])),by dsimp only;omega⟩
   ·have hkl:k=P.length:=by omega
    subst hkl
    have hfB:bhR b (l.take (i+1))=B++[(sp,P)]:=hst0
    have hfH:onL b (esP (B++[(sp,P)]))=mE b H P P.length:=by rw[hfH0,c5e]
    clear hPb hst0
    repeat'(first|refine zg ?_|(refine zc ?_ ?_<;>intro hc<;>first|simp only[NM]at hc|omega|skip)|refine zr ?_|refine⟨by omega,?_⟩|(refine zb ?_ ?_<;>intro hg<;>(try rw[hg])<;>try simp only[NM]at hg)|omega|simp -dsimp (disch:=try exact zo)only[go_sem,hPl,zl]|contradiction|rfl)
    all_goals exact AW.stop ⟨⟨i+1,by omega⟩,(aH (by refine⟨?_,?_,?_,?_⟩<;>simp -dsimp (disch:=try exact zo)only[go_sem,aG,aC,hfH,hfB,ZC])),by dsimp only;omega⟩
  ·have k0:((P.length:Int)<3)=True:=eq_true (by omega)
   rw[if_neg h3,List.append_nil]at hst0
   have hst:=hst0
   clear hst0 hPb
   repeat'(first|refine zg ?_|(refine zc ?_ ?_<;>intro hc<;>first|simp only[NM]at hc|omega|skip)|refine zr ?_|(refine zp cc (by simp -dsimp (disch:=try exact zo)only[go_sem,aC]) (by rw[gJ,aC];trivial) ?_)|refine⟨by omega,?_⟩|(refine zb ?_ ?_<;>intro hg<;>(try rw[hg])<;>try simp only[NM]at hg)|omega|simp -dsimp (disch:=try exact zo)only[go_sem,hl,es1,ZT,zl,aG,aC,k0,hBl,hBm]|contradiction|rfl)
   all_goals exact AW.stop ⟨⟨i+1,by omega⟩,(aH (by refine⟨?_,?_,?_,?_⟩<;>simp -dsimp (disch:=try exact zo)only[go_sem,aG,aC,hst,hHe,ZC])),by dsimp only;omega⟩
 ·have hil:i=l.length:=by omega
  subst hil
  rw[List.take_length]
  have hHn:=hEn l.length
  rw[List.take_length]at hHn
  rw[c6e h hS]at hHn ⊢
  have C:=sN h hS
  have hbl:=pX (b:=b) h.toCanC
  have hBn:(bh b l).length≤l.length:=List.length_filterMap_le _ _
  have hcl:=C.cl
  have hnx:=C.nx
  have hne:=C.ne
  have hcap:mU b (bh b l)=bA (nxP ((heP b l).map Geo.sw)) (heP b l).length (((heP b l).map (·.2)).headD P0):=rfl
  have hf0:=a2q (d:=P0) (show (heP b l).map (·.2)≠[] by simpa using hne)
  have hon:onL b (esP (bh b l))=heP b l:=rfl
  unfold jA
  rw[hon]at hHn ⊢
  rw[hcap]
  clear h hS hv hEn C hbl
  generalize nxP ((heP b l).map Geo.sw)=nx at *
  generalize heP b l=H at *
  generalize hfe:(H.map (·.2)).headD P0=f0 at *
  have ef0:((H.map (·.2)).map eP).getD 0 []=eP f0:=by
   cases H with
   | nil=>exact absurd rfl hne
   | cons e H=>rw[← hfe];rfl
  generalize bh b l=B at *
  have hBl:(eS B).length=B.length:=List.length_map _
  have hHa:((H.map (·.2)).map eP).length=H.length:=by rw[List.length_map,List.length_map]
  have hHb:((H.map (·.1)).map eP).length=H.length:=by rw[List.length_map,List.length_map]
  have hn0:0<H.length:=List.length_pos_iff.2 hne
  have k0:((H.length:Int)=0)=False:=eq_false (by omega)
  have hr1:bA nx 1 f0=[f0]:=rfl
  simp only[eP,e4]at ef0
  repeat'(first|refine zg ?_|(refine zc ?_ ?_<;>intro hc<;>first|simp only[NM]at hc|omega|skip)|refine zr ?_|refine⟨by omega,?_⟩|(refine zb ?_ ?_<;>intro hg<;>(try rw[hg])<;>try simp only[NM]at hg)|omega|simp -dsimp (disch:=try exact zo)only[go_sem,hHa,hHb,zl,k0,ef0,aC,hl]|contradiction|rfl)
  have hbB:eS (B++[(b,bA nx H.length f0)])=eS B++[eG b (bA nx H.length f0)]:=by rw[a7i];rfl
  rw[hbB]
  clear hcap hon hfe ef0 hlt hi hb
  refine AW.loop (fun z:{j:Nat // 1≤j∧j≤H.length}=>⟨[(13,.ref 71 0 z.1 z.1),(6,.ref 14 0 (H).length (H).length),(7,.ref 15 0 (H).length (H).length),(2,.loc 8 0),(3,.loc 9 0),(4,.loc 10 0),(5,.loc 12 0)],[(71,.vec 8 ((bA nx z.1 f0).map eP)),(12,.blk [.ref 19 0 (B).length (B).length]),(19,.vec 9 (eS (B))),(14,.vec 8 (((H).map (·.2)).map eP)),(15,.vec 8 (((H).map (·.1)).map eP)),(8,.blk [.sl (eS l)]),(9,.blk (eH b)),(10,.blk [.lit (.slice none 0 0)])],80⟩) (fun z=>H.length - z.1) ⟨1,Nat.le_refl _,hn0⟩ (aH (by refine⟨?_,?_,?_,?_⟩<;>simp -dsimp (disch:=try exact zo)only[go_sem,aC,aG,hr1,List.map_cons,List.map_nil,ZC])) ?_
  rintro⟨j,hj1,hj⟩
  dsimp only
  have hRl:((bA nx j f0).map eP).length=j:=by rw[List.length_map,oJ]
  by_cases hjt:j<H.length
  ·have hlm:itP nx (j - 1) f0∈H.map (·.2):=a5n hcl _ hf0
   have hRn:bA nx (j+1) f0=bA nx j f0++[nx (itP nx (j - 1) f0)]:=by
    have e1:=sD nx (j - 1) f0
    rw[show j - 1+1=j by omega]at e1
    rw[Sx.t8,e1]
   have el:((bA nx j f0).map eP).getD (j - 1) []=eP (itP nx (j - 1) f0):=by
    obtain⟨q,rfl⟩:∃ q,j=q+1:=⟨j - 1,by omega⟩
    rw[Sx.t8,List.map_append,List.getD_eq_getElem?_getD,List.getElem?_append_right (by simp[oJ])]
    simp[oJ]
   have hj1':((j:Int) - 1).toNat=j - 1:=by omega
   generalize hRR:bA nx j f0=R at *
   generalize itP nx (j - 1) f0=last at *
   simp only[eP,e4]at el
   clear hcl hf0 hbB
   repeat'(first|refine zg ?_|(refine zc ?_ ?_<;>intro hc<;>first|simp only[NM]at hc|omega|skip)|refine zr ?_|refine⟨by omega,?_⟩|(refine zb ?_ ?_<;>intro hg<;>(try rw[hg])<;>try simp only[NM]at hg)|omega|simp -dsimp (disch:=try exact zo)only[go_sem,hHa,zl,hRl,k0]|contradiction|rfl)
   refine AW.loop (fun z:{i:Nat // i≤H.length∧∀ q,q<i→∀ h:q<H.length,H[q].2≠last}=>⟨[(14,.lit (.int .i64 z.1)),(13,.ref 71 0 j j),(6,.ref 14 0 (H).length (H).length),(7,.ref 15 0 (H).length (H).length),(2,.loc 8 0),(3,.loc 9 0),(4,.loc 10 0),(5,.loc 12 0)],[(71,.vec 8 (R.map eP)),(12,.blk [.ref 19 0 (B).length (B).length]),(19,.vec 9 (eS (B))),(14,.vec 8 (((H).map (·.2)).map eP)),(15,.vec 8 (((H).map (·.1)).map eP)),(8,.blk [.sl (eS l)]),(9,.blk (eH b)),(10,.blk [.lit (.slice none 0 0)])],100⟩) (fun z=>H.length - z.1) ⟨0,Nat.zero_le _,fun q hq=>by omega⟩ (aH (by refine⟨?_,?_,?_,?_⟩<;>simp -dsimp (disch:=try exact zo)only[go_sem,aC,aG,ZC])) ?_
   rintro⟨i,hi,hbe⟩
   dsimp only
   by_cases hit:i<H.length
   ·have ea:((H.map (·.2)).map eP).getD i []=eP H[i].2:=by rw[fB _ i (by simpa using hit),List.getElem_map]
    have et:((H.map (·.1)).map eP).getD i []=eP H[i].1:=by rw[fB _ i (by simpa using hit),List.getElem_map]
    have hnxi:=hnx _ (List.getElem_mem hit)
    by_cases e:H[i].2=last
    ·have hRn2:bA nx (j+1) f0=R++[H[i].1]:=by rw[hRn,← e,hnxi]
     have k1:(H[i].2.x=last.x∧H[i].2.y=last.y∧H[i].2.z=last.z∧H[i].2.w=last.w)=True:=eq_true (by rw[e];simp)
     have hRm:(bA nx (j+1) f0).map eP=R.map eP++[eP H[i].1]:=by rw[hRn2];simp
     clear hbe hnx hnxi hRn hRn2 hlm e
     generalize H[i].2=u at *
     generalize H[i].1=w at *
     simp only[eP,e4]at ea et
     repeat'(first|refine zg ?_|(refine zc ?_ ?_<;>intro hc<;>first|simp only[NM]at hc|omega|skip)|refine zr ?_|refine⟨by omega,?_⟩|(refine zb ?_ ?_<;>intro hg<;>(try rw[hg])<;>try simp only[NM]at hg)|omega|simp -dsimp (disch:=try exact zo)only[go_sem,hHa,hHb,hRl,zl,ea,el,et,hj1',k1,ZT,aC]|contradiction|rfl)
     all_goals exact AW.stop ⟨⟨j+1,by omega,by omega⟩,(aH (by refine⟨?_,?_,?_,?_⟩<;>first|(simp -dsimp (disch:=try exact zo)only[go_sem,hRm,hRl,zl,ZC];done)|(simp -dsimp (disch:=try exact zo)only[go_sem,aG,aC,ZC];done))),by dsimp only;omega⟩
    ·have k1:(H[i].2.x=last.x∧H[i].2.y=last.y∧H[i].2.z=last.z∧H[i].2.w=last.w)=False:=eq_false fun q=>e (c4v q)
     have hbe2:∀ q,q<i+1→∀ h:q<H.length,H[q].2≠last:=fun q hq h=>by
      by_cases q':q=i
      ·subst q';exact e
      ·exact hbe q (by omega) h
     clear hbe hnx hnxi hRn hlm e
     generalize H[i].2=u at *
     generalize H[i].1=w at *
     simp only[eP,e4]at ea et
     replace hbe2:=Hid.mk hbe2
     repeat'(first|refine zg ?_|(refine zc ?_ ?_<;>intro hc<;>first|simp only[NM]at hc|omega|skip)|refine zr ?_|refine⟨by omega,?_⟩|(refine zb ?_ ?_<;>intro hg<;>(try rw[hg])<;>try simp only[NM]at hg)|omega|simp -dsimp (disch:=try exact zo)only[go_sem,hHa,hHb,hRl,zl,ea,el,et,hj1',k1,ZT,aC]|contradiction|rfl)
     all_goals exact AW.stop ⟨⟨i+1,by omega,hbe2.out⟩,(aH (by refine⟨?_,?_,?_,?_⟩<;>simp -dsimp (disch:=try exact zo)only[go_sem,aC,aG,ZC])),by dsimp only;omega⟩
   ·exfalso
    obtain⟨e,he,q⟩:=List.mem_map.1 hlm
    obtain⟨t,ht,rfl⟩:=List.mem_iff_getElem.1 he
    exact hbe t (by omega) ht q
  ·have hjl:j=H.length:=by omega
   subst hjl
   generalize bA nx H.length f0=R at *
   refine AW.weak (lS 71 H.length 8 (R.map eP) (t:=[(13,.sl (R.map eP)),(6,.ref 14 0 (H).length (H).length),(7,.ref 15 0 (H).length (H).length),(2,.loc 8 0),(3,.loc 9 0),(4,.loc 10 0),(5,.loc 12 0)]) (o:=[(12,.blk [.ref 19 0 (B).length (B).length]),(19,.vec 9 (eS (B))),(14,.vec 8 (((H).map (·.2)).map eP)),(15,.vec 8 (((H).map (·.1)).map eP)),(8,.blk [.sl (eS l)]),(9,.blk (eH b)),(10,.blk [.lit (.slice none 0 0)])]) rfl hRl (by simp -dsimp (disch:=try exact zo)only[go_sem,and_self]) (by simp -dsimp (disch:=try exact zo)only[go_sem,and_self])) ?_
   clear hcl hnx hf0 hbB
   repeat'(first|refine zg ?_|(refine zc ?_ ?_<;>intro hc<;>first|simp only[NM]at hc|omega|skip)|refine zr ?_|refine⟨by omega,?_⟩|(refine zb ?_ ?_<;>intro hg<;>(try rw[hg])<;>try simp only[NM]at hg)|omega|simp -dsimp (disch:=try exact zo)only[go_sem,hHa,hRl,zl,hBl,aC,List.take_of_length_le,Nat.zero_lt_succ]|contradiction|rfl)
end Go.Proofs.Vx
namespace Go.Proofs.Vx
open Go Go.Sx Go.Proofs Tryz
attribute [local irreducible] fnT CallOK CallFr AW aO callV aP aN aM aQ gcaseP hid
def ev (e:Pt × Pt):Value:=.agg #[.bool (Zn e.1.x),.string (Zm e.1.x),.bool (Zn e.1.y),.string (Zm e.1.y),.bool (Zn e.1.z),.string (Zm e.1.z),.bool (Zn e.1.w),.string (Zm e.1.w),.bool (Zn e.2.x),.string (Zm e.2.x),.bool (Zn e.2.y),.string (Zm e.2.y),.bool (Zn e.2.z),.string (Zm e.2.z),.bool (Zn e.2.w),.string (Zm e.2.w)]
end Go.Proofs.Vx
namespace Go.Sx
set_option linter.unusedVariables false
set_option linter.unusedSimpArgs false
inductive OT
 | fin
 | none
 | alt (j:Nat) (t r:OT)
def runT (P:Program) (nt:Nat) (ops:List Oper) (N:Nat):OT→AS→(AS→Prop)→Prop
 | .fin,S,K=>K S
 | .none,_,_=>True
 | .alt j t r,S,K=>aM P nt ops (ops.getD j default) (N+j) S (fun S' _=>runT P nt ops N t S' K) (tg _)∧runT P nt ops N r S K
theorem b6h (P:Program) (nt:Nat) (ops:List Oper) (N:Nat) (S:AS) (K:AS→Prop):runT P nt ops N .fin S K=K S:=rfl
theorem b2r (P:Program) (nt:Nat) (ops:List Oper) (N:Nat) (S:AS) (K:AS→Prop):runT P nt ops N .none S K=True:=rfl
theorem c4s (P:Program) (nt:Nat) (o0:Oper) (l:List Oper) (N:Nat) (t r:OT) (S:AS) (K:AS→Prop):runT P nt (o0::l) N (.alt 0 t r) S K=(aM P nt (o0::l) o0 (N+0) S (fun S' _=>runT P nt (o0::l) N t S' K) (tg _)∧runT P nt (o0::l) N r S K):=rfl
theorem c4r (P:Program) (nt:Nat) (o0 o1:Oper) (l:List Oper) (N:Nat) (t r:OT) (S:AS) (K:AS→Prop):runT P nt (o0::o1::l) N (.alt 1 t r) S K=(aM P nt (o0::o1::l) o1 (N+1) S (fun S' _=>runT P nt (o0::o1::l) N t S' K) (tg _)∧runT P nt (o0::o1::l) N r S K):=rfl
theorem c4q (P:Program) (nt:Nat) (o0 o1 o2:Oper) (l:List Oper) (N:Nat) (t r:OT) (S:AS) (K:AS→Prop):runT P nt (o0::o1::o2::l) N (.alt 2 t r) S K=(aM P nt (o0::o1::o2::l) o2 (N+2) S (fun S' _=>runT P nt (o0::o1::o2::l) N t S' K) (tg _)∧runT P nt (o0::o1::o2::l) N r S K):=rfl
theorem c4p (P:Program) (nt:Nat) (o0 o1 o2 o3:Oper) (l:List Oper) (N:Nat) (t r:OT) (S:AS) (K:AS→Prop):runT P nt (o0::o1::o2::o3::l) N (.alt 3 t r) S K=(aM P nt (o0::o1::o2::o3::l) o3 (N+3) S (fun S' _=>runT P nt (o0::o1::o2::o3::l) N t S' K) (tg _)∧runT P nt (o0::o1::o2::o3::l) N r S K):=rfl
theorem c4o (P:Program) (nt:Nat) (o0 o1 o2 o3 o4:Oper) (l:List Oper) (N:Nat) (t r:OT) (S:AS) (K:AS→Prop):runT P nt (o0::o1::o2::o3::o4::l) N (.alt 4 t r) S K=(aM P nt (o0::o1::o2::o3::o4::l) o4 (N+4) S (fun S' _=>runT P nt (o0::o1::o2::o3::o4::l) N t S' K) (tg _)∧runT P nt (o0::o1::o2::o3::o4::l) N r S K):=rfl
theorem c4n (P:Program) (nt:Nat) (o0 o1 o2 o3 o4 o5:Oper) (l:List Oper) (N:Nat) (t r:OT) (S:AS) (K:AS→Prop):runT P nt (o0::o1::o2::o3::o4::o5::l) N (.alt 5 t r) S K=(aM P nt (o0::o1::o2::o3::o4::o5::l) o5 (N+5) S (fun S' _=>runT P nt (o0::o1::o2::o3::o4::o5::l) N t S' K) (tg _)∧runT P nt (o0::o1::o2::o3::o4::o5::l) N r S K):=rfl
theorem c4m (P:Program) (nt:Nat) (o0 o1 o2 o3 o4 o5 o6:Oper) (l:List Oper) (N:Nat) (t r:OT) (S:AS) (K:AS→Prop):runT P nt (o0::o1::o2::o3::o4::o5::o6::l) N (.alt 6 t r) S K=(aM P nt (o0::o1::o2::o3::o4::o5::o6::l) o6 (N+6) S (fun S' _=>runT P nt (o0::o1::o2::o3::o4::o5::o6::l) N t S' K) (tg _)∧runT P nt (o0::o1::o2::o3::o4::o5::o6::l) N r S K):=rfl
attribute [go_sem] b6h b2r c4s c4r c4q c4p c4o c4n c4m
end Go.Sx
namespace Go.Proofs.Vx
open Go Go.Sx Go.Proofs Tryz
attribute [local irreducible] fnT CallOK CallFr AW aO callV aP aN aM aQ gcaseP hid
theorem b4x:arT prog 245=none∧slT prog 245=some (41,3):=by and_intros<;>kernel_rfl
attribute [go_sem] b4x
theorem c246a (u v:Geo.V) (hu:QV 8388608 u) (hv:QV 8388608 v):CallOK prog 246 [.agg (eV u.x u.y u.z),.agg (eV v.x v.y v.z),.lit (.int .i64 1),.lit (.int .i64 2)] [] (.agg (eQ (u.y*v.z - u.z*v.y))) []:=by
 refine zs func246 24 [.cell 8 41] results246 ?_
 simp only[aD,Nat.reduceAdd]
 obtain⟨u1,u2,u3⟩:=hu.mono (show 8388608≤67108864 by decide)
 obtain⟨v1,v2,v3⟩:=hv.mono (show 8388608≤67108864 by decide)
 have p1:=(hu.y.mul hv.z).mono (show 8388608+8388608≤67108864 by decide)
 have p2:=(hu.z.mul hv.y).mono (show 8388608+8388608≤67108864 by decide)
 clear hu hv
 repeat'(first|refine zg ?_|(refine zc ?_ ?_<;>intro hc<;>try simp only[NM]at hc)|refine zr ?_|(refine zf (qZ _ (by assumption) _ (by assumption)) ?_)|(refine zf (qY _ (by assumption) _ (by assumption)) ?_)|refine⟨by omega,?_⟩|(refine zb ?_ ?_<;>intro hg<;>(try rw[hg])<;>try simp only[NM]at hg)|omega|simp -dsimp (disch:=try exact zo)only[go_sem]|contradiction|rfl)
theorem c246b (u v:Geo.V) (hu:QV 8388608 u) (hv:QV 8388608 v):CallOK prog 246 [.agg (eV u.x u.y u.z),.agg (eV v.x v.y v.z),.lit (.int .i64 2),.lit (.int .i64 0)] [] (.agg (eQ (u.z*v.x - u.x*v.z))) []:=by
 refine zs func246 24 [.cell 8 41] results246 ?_
 simp only[aD,Nat.reduceAdd]
 obtain⟨u1,u2,u3⟩:=hu.mono (show 8388608≤67108864 by decide)
 obtain⟨v1,v2,v3⟩:=hv.mono (show 8388608≤67108864 by decide)
 have p1:=(hu.z.mul hv.x).mono (show 8388608+8388608≤67108864 by decide)
 have p2:=(hu.x.mul hv.z).mono (show 8388608+8388608≤67108864 by decide)
 clear hu hv
 repeat'(first|refine zg ?_|(refine zc ?_ ?_<;>intro hc<;>try simp only[NM]at hc)|refine zr ?_|(refine zf (qZ _ (by assumption) _ (by assumption)) ?_)|(refine zf (qY _ (by assumption) _ (by assumption)) ?_)|refine⟨by omega,?_⟩|(refine zb ?_ ?_<;>intro hg<;>(try rw[hg])<;>try simp only[NM]at hg)|omega|simp -dsimp (disch:=try exact zo)only[go_sem]|contradiction|rfl)
theorem c246c (u v:Geo.V) (hu:QV 8388608 u) (hv:QV 8388608 v):CallOK prog 246 [.agg (eV u.x u.y u.z),.agg (eV v.x v.y v.z),.lit (.int .i64 0),.lit (.int .i64 1)] [] (.agg (eQ (u.x*v.y - u.y*v.x))) []:=by
 refine zs func246 24 [.cell 8 41] results246 ?_
 simp only[aD,Nat.reduceAdd]
 obtain⟨u1,u2,u3⟩:=hu.mono (show 8388608≤67108864 by decide)
 obtain⟨v1,v2,v3⟩:=hv.mono (show 8388608≤67108864 by decide)
 have p1:=(hu.x.mul hv.y).mono (show 8388608+8388608≤67108864 by decide)
 have p2:=(hu.y.mul hv.x).mono (show 8388608+8388608≤67108864 by decide)
 clear hu hv
 repeat'(first|refine zg ?_|(refine zc ?_ ?_<;>intro hc<;>try simp only[NM]at hc)|refine zr ?_|(refine zf (qZ _ (by assumption) _ (by assumption)) ?_)|(refine zf (qY _ (by assumption) _ (by assumption)) ?_)|refine⟨by omega,?_⟩|(refine zb ?_ ?_<;>intro hg<;>(try rw[hg])<;>try simp only[NM]at hg)|omega|simp -dsimp (disch:=try exact zo)only[go_sem]|contradiction|rfl)
theorem c210 (u v:Geo.V) (hu:QV 8388608 u) (hv:QV 8388608 v):CallOK prog 210 [.agg (eV u.x u.y u.z),.agg (eV v.x v.y v.z)] [] (.agg (eV (Geo.aA u v).x (Geo.aA u v).y (Geo.aA u v).z)) []:=by
 refine zs func210 15 [.cell 4 103] results210 ?_
 simp only[aD,Nat.reduceAdd]
 have ca:=c246a u v hu hv
 have cb:=c246b u v hu hv
 have cc:=c246c u v hu hv
 unfold Geo.aA
 dsimp only
 clear hu hv
 repeat'(first|refine zg ?_|(refine zc ?_ ?_<;>intro hc<;>try simp only[NM]at hc)|refine zr ?_|(first|refine zf ca ?_|refine zf cb ?_|refine zf cc ?_)|refine⟨by omega,?_⟩|(refine zb ?_ ?_<;>intro hg<;>(try rw[hg])<;>try simp only[NM]at hg)|omega|simp -dsimp (disch:=try exact zo)only[go_sem]|contradiction|rfl)
theorem c213 (u v:Geo.V) (hu:QV 8388608 u) (hv:QV 8388608 v):CallOK prog 213 [.agg (eV u.x u.y u.z),.agg (eV v.x v.y v.z)] [] (.agg (eQ (Geo.dot u v))) []:=by
 refine zs func213 22 [.cell 4 41] results213 ?_
 simp only[aD,Nat.reduceAdd]
 obtain⟨u1,u2,u3⟩:=hu.mono (show 8388608≤67108864 by decide)
 obtain⟨v1,v2,v3⟩:=hv.mono (show 8388608≤67108864 by decide)
 have p1:=(hu.x.mul hv.x).mono (show 8388608+8388608≤67108864 by decide)
 have p2:=(hu.y.mul hv.y).mono (show 8388608+8388608≤67108864 by decide)
 have p3:=(hu.z.mul hv.z).mono (show 8388608+8388608≤67108864 by decide)
 have q1:=((hu.x.mul hv.x).add (hu.y.mul hv.y)).mono (show 8388608+8388608+(8388608+8388608)+1≤67108864 by decide)
 have zq:Qs 67108864 0:=⟨by show (Zm 0).size≤_;rw[eD];exact Nat.zero_le _,by show (nb 1).size≤_;rw[sT];decide⟩
 have c64z:CallOK prog 64 [.agg [.lit (.bool false),.lit (.string ⟨#[]⟩),.lit (.string ⟨#[]⟩)],.agg (eQ (u.x*v.x))] [] (.agg (eQ (u.x*v.x))) []:=by
  have:=c64 0 zq _ p1
  rwa [yU,Rat.zero_add]at this
 unfold Geo.dot
 clear hu hv zq
 repeat'(first|refine zg ?_|refine bQ 6 ?_|(refine zc ?_ ?_<;>intro hc<;>try simp only[NM]at hc)|refine zr ?_|(refine zf (qZ _ (by assumption) _ (by assumption)) ?_)|(first|refine zf c64z ?_|refine zf (c64 _ (by assumption) _ (by assumption)) ?_)|refine⟨by omega,?_⟩|(refine zb ?_ ?_<;>intro hg<;>(try rw[hg])<;>try simp only[NM]at hg)|omega|simp -dsimp (disch:=try exact zo)only[go_sem]|contradiction|rfl)
def bY (a b c d:Rat):Int:=1*(a.den:Int)*(b.den:Int)*(c.den:Int)*(d.den:Int)
def mkH (a b c d:Rat):Pl:=j4 (a.num*(bY a b c d / (a.den:Int))) (b.num*(bY a b c d / (b.den:Int))) (c.num*(bY a b c d / (c.den:Int))) (d.num*(bY a b c d / (d.den:Int)))
theorem c90q (z:Int) (g:Nat) (hg:0<g) (hd:(g:Int)∣z) (h:(Zm z).size≤268435456) (hgs:(Zm (g:Int)).size≤268435456):CallOK prog 90 [.agg (eZ z),.agg (eZ (g:Int))] [] (.tup [.agg (eZ (z / (g:Int))),.agg (eZ 0),.lit (.bool true)]) []:=by
 have:=iI z g hg hd h (by rw[← jB];exact hgs)
 rwa [← nT]at this
theorem b8s (a b c d:Rat):bY a b c d≠0:=by
 unfold bY
 exact Int.mul_ne_zero (Int.mul_ne_zero (Int.mul_ne_zero (Int.mul_ne_zero (by decide) (fW a)) (fW b)) (fW c)) (fW d)
theorem xE {B:Int} {g:Int} (hB:B≠0) (h:g∣B):B / g≠0:=by
 obtain⟨k,rfl⟩:=h
 have hg:g≠0:=fun e=>hB (by rw[e];simp)
 rw[Int.mul_ediv_cancel_left _ hg]
 exact fun e=>hB (by rw[e];simp)
set_option maxRecDepth 20000 in
theorem c212 (a b c d:Rat) (ha:Qs 16777216 a) (hb:Qs 16777216 b) (hcx:Qs 16777216 c) (hd:Qs 16777216 d) (h0:¬ (a=0∧b=0∧c=0)):CallOK prog 212 [.agg (eV a b c),.agg (eQ d)] [] (.tup [.agg (eH (mkH a b c d)),.lit (.bool true)]) []:=by
 refine zs func212 78 [.cell 4 26,.tmp 5] results212 ?_
 simp only[aD,Nat.reduceAdd]
 have ra:=ha.num
 have rb:=hb.num
 have rc:=hcx.num
 have rd:=hd.num
 have sa:=ha.den'
 have sb:=hb.den'
 have sc:=hcx.den'
 have sd:=hd.den'
 have s1:(Zm 1).size≤1:=by rw[cI];decide
 have t1:=aR _ _ s1 sa
 have t2:=aR _ _ t1 sb
 have t3:=aR _ _ t2 sc
 have t4:=aR _ _ t3 sd
 have k1:=cH 1 (a.den:Int) (by omega) (by omega)
 have k2:=cH (1*(a.den:Int)) (b.den:Int) (by omega) (by omega)
 have k3:=cH (1*(a.den:Int)*(b.den:Int)) (c.den:Int) (by omega) (by omega)
 have k4:CallOK prog 112 [.agg (eZ (1*(a.den:Int)*(b.den:Int)*(c.den:Int))),.agg (eZ (d.den:Int))] [] (.agg (eZ (bY a b c d))) []:=cH (1*(a.den:Int)*(b.den:Int)*(c.den:Int)) (d.den:Int) (by omega) (by omega)
 have t5:(Zm (bY a b c d)).size≤67108865:=t4
 have v1:(a.den:Int)∣bY a b c d:=by unfold bY;exact Int.dvd_trans (Int.dvd_trans (Int.dvd_trans (Int.dvd_mul_left _ _) (Int.dvd_mul_right _ _)) (Int.dvd_mul_right _ _)) (Int.dvd_mul_right _ _)
 have v2:(b.den:Int)∣bY a b c d:=by unfold bY;exact Int.dvd_trans (Int.dvd_trans (Int.dvd_mul_left _ _) (Int.dvd_mul_right _ _)) (Int.dvd_mul_right _ _)
 have v3:(c.den:Int)∣bY a b c d:=by unfold bY;exact Int.dvd_trans (Int.dvd_mul_left _ _) (Int.dvd_mul_right _ _)
 have v4:(d.den:Int)∣bY a b c d:=by unfold bY;exact Int.dvd_mul_left _ _
 have d1:=c90q (bY a b c d) a.den (Nat.pos_of_ne_zero a.den_nz) v1 (by omega) (by omega)
 have d2:=c90q (bY a b c d) b.den (Nat.pos_of_ne_zero b.den_nz) v2 (by omega) (by omega)
 have d3:=c90q (bY a b c d) c.den (Nat.pos_of_ne_zero c.den_nz) v3 (by omega) (by omega)
 have d4:=c90q (bY a b c d) d.den (Nat.pos_of_ne_zero d.den_nz) v4 (by omega) (by omega)
 have hB:=b8s a b c d
 have n1:=xE hB v1
 have n2:=xE hB v2
 have n3:=xE hB v3
 have w1:=uI (bY a b c d) a.den
 have w2:=uI (bY a b c d) b.den
 have w3:=uI (bY a b c d) c.den
 have w4:=uI (bY a b c d) d.den
 have hz:¬ (a.num*(bY a b c d / (a.den:Int))=0∧b.num*(bY a b c d / (b.den:Int))=0∧c.num*(bY a b c d / (c.den:Int))=0):=by
  rintro⟨e1,e2,e3⟩
  exact h0 ⟨Rat.num_eq_zero.1 ((Int.mul_eq_zero.1 e1).resolve_right n1),Rat.num_eq_zero.1 ((Int.mul_eq_zero.1 e2).resolve_right n2),Rat.num_eq_zero.1 ((Int.mul_eq_zero.1 e3).resolve_right n3)⟩
 clear n1 n2 n3 hB v1 v2 v3 v4 t1 t2 t3 t4 h0
 unfold mkH
 generalize bY a b c d / (a.den:Int)=A at *
 generalize bY a b c d / (b.den:Int)=B at *
 generalize bY a b c d / (c.den:Int)=C at *
 generalize bY a b c d / (d.den:Int)=D at *
 generalize bY a b c d=N at *
 have x1:=aR a.num A ra (show _≤67108866 by omega)
 have x2:=aR b.num B rb (show _≤67108866 by omega)
 have x3:=aR c.num C rc (show _≤67108866 by omega)
 have x4:=aR d.num D rd (show _≤67108866 by omega)
 have m1:=cH a.num A (by omega) (by omega)
 have m2:=cH b.num B (by omega) (by omega)
 have m3:=cH c.num C (by omega) (by omega)
 have m4:=cH d.num D (by omega) (by omega)
 have cn:=c44z _ _ _ _ ⟨show (Zm (a.num*A)).size≤_ by omega,show (Zm (b.num*B)).size≤_ by omega,show (Zm (c.num*C)).size≤_ by omega,show (Zm (d.num*D)).size≤_ by omega⟩ hz
 replace ha:=ha.mono (show 16777216≤67108864 by decide)
 replace hb:=hb.mono (show 16777216≤67108864 by decide)
 replace hcx:=hcx.mono (show 16777216≤67108864 by decide)
 replace hd:=hd.mono (show 16777216≤67108864 by decide)
 clear x1 x2 x3 x4 w1 w2 w3 w4 ra rb rc rd sa sb sc sd s1 hz
 repeat'(first|refine zg ?_|refine bQ 6 ?_|(refine zc ?_ ?_<;>intro hc<;>try simp only[NM]at hc)|refine zr ?_|(first|refine zf (oF a ha) ?_|refine zf (oF b hb) ?_|refine zf (oF c hcx) ?_|refine zf (oF d hd) ?_)|(first|refine zf k1 ?_|refine zf k2 ?_|refine zf k3 ?_|refine zf k4 ?_|refine zf m1 ?_|refine zf m2 ?_|refine zf m3 ?_|refine zf m4 ?_)|(first|refine zf d1 ?_|refine zf d2 ?_|refine zf d3 ?_|refine zf d4 ?_)|(refine zf cn ?_)|(refine zf tL ?_)|refine⟨by omega,?_⟩|(refine zb ?_ ?_<;>intro hg<;>(try rw[hg])<;>try simp only[NM]at hg)|omega|simp -dsimp (disch:=try exact zo)only[go_sem]|contradiction|rfl)
def nP (a b c:Pt):Geo.V:=Geo.aA (tv b - tv a) (tv c - tv a)
def kX (a b c:Pt):Pl:=mkH (nP a b c).x (nP a b c).y (nP a b c).z (Geo.dot (nP a b c) (tv a))
theorem a8u (u v:Geo.V) (hu:QV 33554432 u) (hv:QV 33554432 v):CallOK prog 211 [.agg (eV u.x u.y u.z),.agg (eV v.x v.y v.z)] [] (.agg (eV (u - v).x (u - v).y (u - v).z)) []:=c211 u v hu hv
theorem q9 (a b c:Pt) (ha:CanP a) (hb:CanP b) (hcx:CanP c) (ba:BPt 65536 a) (bb:BPt 65536 b) (bc:BPt 65536 c) (h0:nP a b c≠⟨0,0,0⟩):CallOK prog 161 [.agg (eP a),.agg (eP b),.agg (eP c)] [] (.tup [.agg (eH (kX a b c)),.lit (.bool true)]) []:=by
 refine zs func161 32 [.cell 6 26,.tmp 7] results161 ?_
 simp only[aD,Nat.reduceAdd]
 have ca:=rA a ha (ba.mono (by decide))
 have cb:=rA b hb (bb.mono (by decide))
 have cc:=rA c hcx (bc.mono (by decide))
 have qa:=nV ha ba
 have qb:=nV hb bb
 have qc:=nV hcx bc
 have l1:=a8u _ _ (qb.mono (show _≤33554432 by decide)) (qa.mono (show _≤33554432 by decide))
 have l2:=a8u _ _ (qc.mono (show _≤33554432 by decide)) (qa.mono (show _≤33554432 by decide))
 have q1:=zB qb qa
 have q2:=zB qc qa
 have cx:=c210 _ _ (q1.mono (show _≤8388608 by decide)) (q2.mono (show _≤8388608 by decide))
 have q3:=b8v q1 q2
 have cd:=c213 _ _ (q3.mono (show _≤8388608 by decide)) (qa.mono (show _≤8388608 by decide))
 have q4:=zJ q3 qa
 have cm:=c212 _ _ _ _ (q3.x.mono (show _≤16777216 by decide)) (q3.y.mono (show _≤16777216 by decide)) (q3.z.mono (show _≤16777216 by decide)) (q4.mono (show _≤16777216 by decide)) (fun e=>h0 (Geo.V.ext e.1 e.2.1 e.2.2))
 change CallOK _ _ [.agg (eV (nP a b c).x (nP a b c).y (nP a b c).z),.agg (eQ (Geo.dot (nP a b c) (tv a)))] _ (.tup [.agg (eH (kX a b c)),_]) _ at cm
 change CallOK _ _ [.agg (eV (nP a b c).x (nP a b c).y (nP a b c).z),_] _ (.agg (eQ (Geo.dot (nP a b c) (tv a)))) _ at cd
 change CallOK _ _ _ _ (.agg (eV (nP a b c).x (nP a b c).y (nP a b c).z)) _ at cx
 clear qa qb qc q1 q2 q3 q4 h0 ha hb hcx ba bb bc
 generalize kX a b c=M at *
 generalize Geo.dot (nP a b c) (tv a)=E at *
 generalize nP a b c=N at *
 generalize tv b - tv a=U at *
 generalize tv c - tv a=W at *
 generalize tv a=A at *
 generalize tv b=B at *
 generalize tv c=C at *
 repeat'(first|refine zg ?_|(refine zc ?_ ?_<;>intro hc<;>try simp only[NM]at hc)|refine zr ?_|(first|refine zf ca ?_|refine zf cb ?_|refine zf cc ?_)|(first|refine zf l1 ?_|refine zf l2 ?_)|(refine zf cx ?_)|(refine zf cd ?_)|(refine zf cm ?_)|refine⟨by omega,?_⟩|(refine zb ?_ ?_<;>intro hg<;>(try rw[hg])<;>try simp only[NM]at hg)|omega|simp -dsimp (disch:=try exact zo)only[go_sem]|contradiction|rfl)
theorem qX (z:Int) (h:-1000≤z∧z≤1000):CallOK prog 87 [.lit (.int .i64 z)] [] (.agg (eZ z)) []:=c87 z (by omega) (by omega)
theorem c209 (x y z:Int) (hx:-1≤x∧x≤1) (hy:-1≤y∧y≤1) (hz:-1≤z∧z≤1):CallOK prog 209 [.lit (.int .i64 x),.lit (.int .i64 y),.lit (.int .i64 z)] [] (.agg (eP (wpt x y z))) []:=by
 refine zs func209 18 [.cell 6 51] results209 ?_
 simp only[aD,Nat.reduceAdd]
 unfold wpt
 repeat'(first|refine zg ?_|(refine zc ?_ ?_<;>intro hc<;>try simp only[NM]at hc)|refine zr ?_|(first|refine zf (qX (1000*x) (by omega)) ?_|refine zf (qX (1000*y) (by omega)) ?_|refine zf (qX (1000*z) (by omega)) ?_|refine zf tL ?_)|refine⟨by omega,?_⟩|(refine zb ?_ ?_<;>intro hg<;>(try rw[hg])<;>try simp only[NM]at hg)|omega|simp -dsimp (disch:=try exact zo)only[go_sem]|contradiction|rfl)
theorem mR (x y z:Int) (hx:-1≤x∧x≤1) (hy:-1≤y∧y≤1) (hz:-1≤z∧z≤1):CallOK prog 160 [.lit (.int .i64 x),.lit (.int .i64 y),.lit (.int .i64 z),.lit (.int .i64 0)] [] (.agg (eP (wpt x y z))) []:=by
 refine zs func160 22 [.cell 8 51] results160 ?_
 simp only[aD,Nat.reduceAdd]
 repeat'(first|refine zg ?_|refine bQ 6 ?_|(refine zc ?_ ?_<;>intro hc<;>try simp only[NM]at hc)|refine zr ?_|(refine zf (c209 x y z (by omega) (by omega) (by omega)) ?_)|refine⟨by omega,?_⟩|(refine zb ?_ ?_<;>intro hg<;>(try rw[hg])<;>try simp only[NM]at hg)|omega|simp -dsimp (disch:=try exact zo)only[go_sem]|contradiction|rfl)
theorem mQ (x y z:Int) (hx:-1≤x∧x≤1) (hy:-1≤y∧y≤1) (hz:-1≤z∧z≤1):CallOK prog 160 [.lit (.int .i64 x),.lit (.int .i64 y),.lit (.int .i64 z),.lit (.int .i64 1)] [] (.agg (eP (wpt z x y))) []:=by
 refine zs func160 22 [.cell 8 51] results160 ?_
 simp only[aD,Nat.reduceAdd]
 repeat'(first|refine zg ?_|refine bQ 6 ?_|(refine zc ?_ ?_<;>intro hc<;>try simp only[NM]at hc)|refine zr ?_|(refine zf (c209 z x y (by omega) (by omega) (by omega)) ?_)|refine⟨by omega,?_⟩|(refine zb ?_ ?_<;>intro hg<;>(try rw[hg])<;>try simp only[NM]at hg)|omega|simp -dsimp (disch:=try exact zo)only[go_sem]|contradiction|rfl)
theorem mO (x y z:Int) (hx:-1≤x∧x≤1) (hy:-1≤y∧y≤1) (hz:-1≤z∧z≤1):CallOK prog 160 [.lit (.int .i64 x),.lit (.int .i64 y),.lit (.int .i64 z),.lit (.int .i64 2)] [] (.agg (eP (wpt y z x))) []:=by
 refine zs func160 22 [.cell 8 51] results160 ?_
 simp only[aD,Nat.reduceAdd]
 repeat'(first|refine zg ?_|refine bQ 6 ?_|(refine zc ?_ ?_<;>intro hc<;>try simp only[NM]at hc)|refine zr ?_|(refine zf (c209 y z x (by omega) (by omega) (by omega)) ?_)|refine⟨by omega,?_⟩|(refine zb ?_ ?_<;>intro hg<;>(try rw[hg])<;>try simp only[NM]at hg)|omega|simp -dsimp (disch:=try exact zo)only[go_sem]|contradiction|rfl)
end Go.Proofs.Vx
