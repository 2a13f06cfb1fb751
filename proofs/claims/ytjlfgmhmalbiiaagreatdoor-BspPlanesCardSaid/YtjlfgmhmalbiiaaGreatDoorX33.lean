import Derived.Test.YtjlfgmhmalbiiaaGreatDoorX32
set_option linter.all false
set_option maxHeartbeats 40000000
open Int renaming dvd_mul_right → Ac, dvd_trans → Ae, dvd_mul_left → Ah, mul_ne_zero → Aj, mul_eq_zero → Ao
open List renaming length_map → Aa, getElem_mem → Ad, take_succ_eq_append_getElem → Ag, append_nil → Ai, length_filterMap_le → Ak, length_take → Al, take_of_length_le → Am, length_append → Aq, take_length → Ar, getElem_map → As, map_nil → At
open Nat renaming reduceAdd → Ab, pos_of_ne_zero → Af, zero_le → Ap, le_refl → Au, mod_lt → Av
open Rat renaming num_eq_zero → An
namespace Go.Proofs.Vx
open Go Go.Sx Go.Proofs Tryz
attribute [local irreducible] fnT CallOK CallFr AW aK callV aL aJ aI aM gcaseP hid
theorem c4r (b:Pl) (l:aE) (i:Nat) (h:i<l.length):bhR b (l.take (i+1))=bhR b (l.take i)++(if 3≤(bF (-1) b l[i].2).length then [(l[i].1,bF (-1) b l[i].2)]else []):=by
 unfold bhR
 rw[Ag h,List.filterMap_append]
 congr 1
 rw[List.filterMap_cons,List.filterMap_nil]
 split<;>rename_i q<;>split at q<;>simp_all
theorem b0i (b:Pl) (l:aE):(bhR b l).length≤l.length:=Ak _ _
def onL (b:Pl) (es:List (Pt × Pt)):List (Pt × Pt):=es.filter (onE b)
theorem a9h (b:Pl) (a c:List (Pt × Pt)):onL b (a++c)=onL b a++onL b c:=List.filter_append _ _
theorem c8g (l m:aE):esP (l++m)=esP l++esP m:=List.flatMap_append
theorem c8e (p:Pl) (vs:List Pt):esP [(p,vs)]=Geo.edges vs:=by unfold esP;simp
theorem b5x {α:Type} (vs:List α) (k:Nat) (h:k<vs.length):(Geo.edges vs).take (k+1)=(Geo.edges vs).take k++[(vs[k],vs[(k+1) % vs.length]'(Av _ (by omega)))]:=by
 have hl:k<(Geo.edges vs).length:=by rw[Geo.gA];exact h
 rw[Ag hl,wO vs k h hl]
theorem c6v (b:Pl) (x y:Pt):onL b [(x,y)]=if aC b x=0∧aC b y=0 then [(x,y)]else []:=by
 unfold onL onE
 by_cases h:aC b x=0∧aC b y=0<;>simp[h]
def mE (b:Pl) (H:List (Pt × Pt)) (P:List Pt) (k:Nat):List (Pt × Pt):=H++onL b ((Geo.edges P).take k)
theorem a9q (b:Pl) (H:List (Pt × Pt)) (P:List Pt):mE b H P 0=H:=Ai _
theorem d1d (b:Pl) (H:List (Pt × Pt)) (P:List Pt):mE b H P P.length=H++onL b (Geo.edges P):=by unfold mE;rw[Am (by rw[Geo.gA];exact Au _)]
theorem a9g (b:Pl) (es:List (Pt × Pt)):(onL b es).length≤es.length:=List.length_filter_le _ _
theorem d0v {p q:Pt} (h:p.x=q.x∧p.y=q.y∧p.z=q.z∧p.w=q.w):p=q:=by
 obtain⟨h1,h2,h3,h4⟩:=h
 cases p;cases q
 simp only at h1 h2 h3 h4
 subst h1 h2 h3 h4;rfl
theorem c8f {l:aE} {M:Nat} (h:∀ s∈l,s.2.length≤M):(esP l).length≤l.length*M:=by
 induction l with
 | nil=>simp[esP]
 | cons s l ih =>
  have h1:=ih fun t ht=>h t (by simp[ht])
  have h2:=h s (by simp)
  have e:(esP (s::l)).length=s.2.length+(esP l).length:=by unfold esP;rw[List.flatMap_cons,Aq,Geo.gA]
  rw[e,List.length_cons,Nat.succ_mul]
  omega
theorem bhR_M {b:Pl} {l:aE} {M:Nat} (h:∀ s∈l,s.2.length≤M):∀ s∈bhR b l,s.2.length≤2*M:=by
 intro s hs
 obtain⟨t,ht,e⟩:=List.mem_filterMap.1 hs
 split at e
 ·obtain rfl:=Option.some.inj e
  have h1:=pV (-1) b t.2
  have h2:=h t ht
  show (bF (-1) b t.2).length≤_
  omega
 ·contradiction
set_option maxRecDepth 20000 in
theorem c163 (l:aE) (b:Pl) (h:CellOK l) (hS:Geo.Spl (sds l) (tH b)) (hb:BPl 1048576 b) (hn:l.length≤4096) (hv:∀ s∈l,s.2.length≤65536∧∀ v∈s.2,BPt 1048576 v):CallOK prog 163 [.agg [.sl (eS l)],.agg (eH b)] [] (.agg [.sl (eS (jW b l))]) []:=by
 refine fF func163 rfl 131 rfl rfl (fO _) [.cell 4 33] (congrArg Array.toList results163) ?_
 simp only[aD,Ab]
 have hml:maxLen=9223372036854775807:=rfl
 have hl:(eS l).length=l.length:=Aa _
 have hz1:bhR b []=[]:=rfl
 have hz2:onL b []=[]:=rfl
 have hz3:esP []=[]:=rfl
 have hEn:∀ i,(onL b (esP (bhR b (l.take i)))).length≤536870912:=fun i=>by
  have h1:=a9g b (esP (bhR b (l.take i)))
  have h2:=c8f (bhR_M (b:=b) (l:=l.take i) (M:=65536) fun s hs=>(hv s (List.mem_of_mem_take hs)).1)
  have h3:=b0i b (l.take i)
  rw[Al]at h3
  have h4:(bhR b (l.take i)).length*(2*65536)≤4096*(2*65536):=Nat.mul_le_mul_right _ (by omega)
  omega
 repeat'(first|refine zk ?_|(refine zu ?_ ?_<;>intro hc)|(refine zv ?_ ?_<;>intro hg)|omega|simp -dsimp (disch:=try exact zo)only[go_sem,hl]|contradiction|rfl)
 refine AW.weak (jQ 12 0 9 _ (by decide) rfl (by simp) rfl (by simp)) ?_
 refine AW.loop (fun z:{i:Nat // i≤l.length}=>⟨[(8,.lit (.int .i64 z.1)),(6,.ref 14 0 (onL b (esP (bhR b (l.take z.1)))).length (onL b (esP (bhR b (l.take z.1)))).length),(7,.ref 15 0 (onL b (esP (bhR b (l.take z.1)))).length (onL b (esP (bhR b (l.take z.1)))).length),(2,.loc 8 0),(3,.loc 9 0),(4,.loc 10 0),(5,.loc 12 0)],[(12,.blk [.ref 19 0 (bhR b (l.take z.1)).length (bhR b (l.take z.1)).length]),(19,.vec 9 (eS (bhR b (l.take z.1)))),(14,.vec 8 (((onL b (esP (bhR b (l.take z.1)))).map (·.2)).map eP)),(15,.vec 8 (((onL b (esP (bhR b (l.take z.1)))).map (·.1)).map eP)),(8,.blk [.sl (eS l)]),(9,.blk (eH b)),(10,.blk [.lit (.slice none 0 0)])],60⟩) (fun z=>l.length - z.1) ⟨0,Ap _⟩ (aR (by refine⟨?_,?_,?_,?_⟩<;>simp -dsimp (disch:=try exact zo)only[go_sem,List.take_zero,hz1,hz2,hz3,At,List.length_nil,ZC])) ?_
 rintro⟨i,hi⟩
 dsimp only
 by_cases hlt:i<l.length
 ·have es1:=qU l i hlt
  have hst0:=c4r b l i hlt
  obtain⟨hvn,hvb⟩:=hv _ (Ad hlt)
  have hcan:=h.can _ (Ad hlt)
  have hBn:=b0i b (l.take i)
  rw[Al]at hBn
  have hHn:=hEn i
  clear h hS hv hEn
  generalize l[i]=sd at *
  obtain⟨sp,svs⟩:=sd
  dsimp only at es1 hst0 hvn hvb hcan
  have cc:=c214 b svs (by omega) hcan hvb hb
  have hPn:=pV (-1) b svs
  have hPb:=a0h (h:=-1) hb hvb
  generalize bF (-1) b svs=P at *
  generalize bhR b (l.take i)=B at *
  have hBl:(eS B).length=B.length:=Aa _
  have hBl2:(B++[(sp,P)]).length=B.length+1:=by simp
  have hBm:eS (B++[(sp,P)])=eS B++[eG sp P]:=by rw[b1n];rfl
  have hPl:(P.map eP).length=P.length:=Aa _
  have hfH0:onL b (esP (B++[(sp,P)]))=onL b (esP B)++onL b (Geo.edges P):=by rw[c8g,c8e,a9h]
  generalize hHe:onL b (esP B)=H at *
  simp only[eG]at es1
  have hHa:((H.map (·.2)).map eP).length=H.length:=by rw[Aa,Aa]
  have hHb:((H.map (·.1)).map eP).length=H.length:=by rw[Aa,Aa]
  clear hcan hvb
  by_cases h3:3≤P.length
  ·have k0:((P.length:Int)<3)=False:=eq_false (by omega)
   rw[if_pos h3]at hst0
   repeat'(first|refine zk ?_|(refine zu ?_ ?_<;>intro hc)|(refine zq cc ?_)|(refine zv ?_ ?_<;>intro hg)|omega|simp -dsimp (disch:=try exact zo)only[go_sem,hl,es1,ZT,zl,k0,hBl,hBm]|contradiction|rfl)
   refine AW.loop (fun z:{k:Nat // k≤P.length}=>⟨[(10,.lit (.int .i64 z.1)),(9,.sl (P.map eP)),(8,.lit (.int .i64 i)),(6,.ref 14 0 (mE b H P z.1).length (mE b H P z.1).length),(7,.ref 15 0 (mE b H P z.1).length (mE b H P z.1).length),(2,.loc 8 0),(3,.loc 9 0),(4,.loc 10 0),(5,.loc 12 0)],[(12,.blk [.ref 19 0 (B++[(sp,P)]).length (B++[(sp,P)]).length]),(19,.vec 9 (eS (B++[(sp,P)]))),(14,.vec 8 (((mE b H P z.1).map (·.2)).map eP)),(15,.vec 8 (((mE b H P z.1).map (·.1)).map eP)),(8,.blk [.sl (eS l)]),(9,.blk (eH b)),(10,.blk [.lit (.slice none 0 0)])],90⟩) (fun z=>P.length - z.1) ⟨0,Ap _⟩ (aR (by refine⟨?_,?_,?_,?_⟩<;>first|(simp -dsimp (disch:=try exact zo)only[go_sem,a9q,hBl2,hBm,hBl,ZC];done)|(simp -dsimp (disch:=try exact zo)only[go_sem,a9q,Int.cast_ofNat_Int];done))) ?_
   rintro⟨k,hk⟩
   dsimp only
   by_cases hkt:k<P.length
   ·have hmod:(k+1) % P.length<P.length:=Av _ (by omega)
    have hm:((k:Int)+1) % (P.length:Int)=(((k+1) % P.length:Nat):Int):=by rw[Int.natCast_emod,Int.natCast_add];rfl
    have ea:=eD P k hkt
    have ea2:=eD P _ hmod
    have hst:mE b H P (k+1)=mE b H P k++(if aC b P[k]=0∧aC b P[(k+1) % P.length]=0 then [(P[k],P[(k+1) % P.length])]else []):=by
     unfold mE;rw[b5x P k hkt,a9h,c6v,List.append_assoc]
    have ca:=c50 b P[k] (hb.mono (by decide)) ((hPb _ (Ad hkt)).mono (by decide))
    have cb:=c50 b P[(k+1) % P.length] (hb.mono (by decide)) ((hPb _ (Ad hmod)).mono (by decide))
    have hGn:(mE b H P k).length≤1073741824:=by
     unfold mE
     have h1:=a9g b ((Geo.edges P).take k)
     rw[Al]at h1
     rw[Aq]
     omega
    clear hPb hfH0 hHa hHb hHn
    generalize P[k]=x at *
    generalize P[(k+1) % P.length]=y at *
    generalize mE b H P k=G at *
    have hHa:((G.map (·.2)).map eP).length=G.length:=by rw[Aa,Aa]
    have hHb:((G.map (·.1)).map eP).length=G.length:=by rw[Aa,Aa]
    simp only[eP,e4]at ea ea2
    by_cases q1:aC b x=0
    ·have k1:=eq_true q1
     by_cases q2:aC b y=0
     ·have k2:=eq_true q2
      rw[if_pos ⟨q1,q2⟩]at hst
      have hHl:(mE b H P (k+1)).length=G.length+1:=by rw[hst];simp
      have hHx:((mE b H P (k+1)).map (·.2)).map eP=(G.map (·.2)).map eP++[eP y]:=by rw[hst];simp
      have hHy:((mE b H P (k+1)).map (·.1)).map eP=(G.map (·.1)).map eP++[eP x]:=by rw[hst];simp
      clear hst q1 q2
      repeat'(first|refine zk ?_|(refine zu ?_ ?_<;>intro hc)|(first|refine zf ca ?_|refine zf cb ?_)|(refine zv ?_ ?_<;>intro hg)|omega|simp -dsimp (disch:=try exact zo)only[go_sem,hPl,ea,ea2,hm,k1,k2,ZT,zl,hHa,hHb]|contradiction|rfl)
      all_goals exact AW.stop ⟨⟨k+1,by omega⟩,(aR (by refine⟨?_,?_,?_,?_⟩<;>first|(simp -dsimp (disch:=try exact zo)only[go_sem,hHl,hHx,hHy,zl,ZC];done)|(simp -dsimp (disch:=try exact zo)only[go_sem,hHl,ZC];done))),by dsimp only;omega⟩
     ·have k2:=eq_false q2
      rw[if_neg (fun e=>q2 e.2),Ai]at hst
      clear q1 q2
      repeat'(first|refine zk ?_|(refine zu ?_ ?_<;>intro hc)|(first|refine zf ca ?_|refine zf cb ?_)|(refine zv ?_ ?_<;>intro hg)|omega|simp -dsimp (disch:=try exact zo)only[go_sem,hPl,ea,ea2,hm,k1,k2,ZT,zl,hHa,hHb]|contradiction|rfl)
      all_goals exact AW.stop ⟨⟨k+1,by omega⟩,(aR (by refine⟨?_,?_,?_,?_⟩<;>simp -dsimp (disch:=try exact zo)only[go_sem,hst,ZC])),by dsimp only;omega⟩
    ·have k1:=eq_false q1
     have k2:True:=trivial
     rw[if_neg (fun e=>q1 e.1),Ai]at hst
     clear q1
     repeat'(first|refine zk ?_|(refine zu ?_ ?_<;>intro hc)|(first|refine zf ca ?_|refine zf cb ?_)|(refine zv ?_ ?_<;>intro hg)|omega|simp -dsimp (disch:=try exact zo)only[go_sem,hPl,ea,ea2,hm,k1,k2,ZT,zl,hHa,hHb]|contradiction|rfl)
     all_goals exact AW.stop ⟨⟨k+1,by omega⟩,(aR (by refine⟨?_,?_,?_,?_⟩<;>simp -dsimp (disch:=try exact zo)only[go_sem,hst,ZC])),by dsimp only;omega⟩
   ·have hkl:k=P.length:=by omega
    subst hkl
    have hfB:bhR b (l.take (i+1))=B++[(sp,P)]:=hst0
    have hfH:onL b (esP (B++[(sp,P)]))=mE b H P P.length:=by rw[hfH0,d1d]
    clear hPb hst0
    repeat'(first|refine zk ?_|(refine zu ?_ ?_<;>intro hc)|(refine zv ?_ ?_<;>intro hg)|omega|simp -dsimp (disch:=try exact zo)only[go_sem,hPl,zl]|contradiction|rfl)
    all_goals exact AW.stop ⟨⟨i+1,by omega⟩,(aR (by refine⟨?_,?_,?_,?_⟩<;>simp -dsimp (disch:=try exact zo)only[go_sem,hfH,hfB,ZC])),by dsimp only;omega⟩
  ·have k0:((P.length:Int)<3)=True:=eq_true (by omega)
   rw[if_neg h3,Ai]at hst0
   have hst:=hst0
   clear hst0 hPb
   repeat'(first|refine zk ?_|(refine zu ?_ ?_<;>intro hc)|(refine zq cc ?_)|(refine zv ?_ ?_<;>intro hg)|omega|simp -dsimp (disch:=try exact zo)only[go_sem,hl,es1,ZT,zl,k0,hBl,hBm]|contradiction|rfl)
   all_goals exact AW.stop ⟨⟨i+1,by omega⟩,(aR (by refine⟨?_,?_,?_,?_⟩<;>simp -dsimp (disch:=try exact zo)only[go_sem,hst,hHe,ZC])),by dsimp only;omega⟩
 ·have hil:i=l.length:=by omega
  subst hil
  rw[Ar]
  have hHn:=hEn l.length
  rw[Ar]at hHn
  rw[d2o h hS]at hHn ⊢
  have C:=uJ h hS
  have hbl:=rL (b:=b) h.toCanC
  have hBn:(bh b l).length≤l.length:=Ak _ _
  have hcl:=C.cl
  have hnx:=C.nx
  have hne:=C.ne
  have hcap:nS b (bh b l)=aW (nxP ((heP b l).map Geo.sw)) (heP b l).length (((heP b l).map (·.2)).headD P0):=rfl
  have hf0:=a6h (d:=P0) (show (heP b l).map (·.2)≠[] by simpa using hne)
  have hon:onL b (esP (bh b l))=heP b l:=rfl
  unfold jW
  rw[hon]at hHn ⊢
  rw[hcap]
  clear h hS hv hEn C hbl
  generalize nxP ((heP b l).map Geo.sw)=nx at *
  generalize heP b l=H at *
  generalize hfe:(H.map (·.2)).headD P0=f0 at *
  have ef0:((H.map (·.2)).map eP).getD 0 []=eP f0:=by
   cases H with
   | nil=>exact absurd rfl hne
   | cons e H=>rw[← hfe];rfl
  generalize bh b l=B at *
  have hBl:(eS B).length=B.length:=Aa _
  have hHa:((H.map (·.2)).map eP).length=H.length:=by rw[Aa,Aa]
  have hHb:((H.map (·.1)).map eP).length=H.length:=by rw[Aa,Aa]
  have hn0:0<H.length:=List.length_pos_iff.2 hne
  have k0:((H.length:Int)=0)=False:=eq_false (by omega)
  have hr1:aW nx 1 f0=[f0]:=rfl
  simp only[eP,e4]at ef0
  repeat'(first|refine zk ?_|(refine zu ?_ ?_<;>intro hc)|(refine zv ?_ ?_<;>intro hg)|omega|simp -dsimp (disch:=try exact zo)only[go_sem,hHa,hHb,zl,k0,ef0,hl]|contradiction|rfl)
  have hbB:eS (B++[(b,aW nx H.length f0)])=eS B++[eG b (aW nx H.length f0)]:=by rw[b1n];rfl
  rw[hbB]
  clear hcap hon hfe ef0 hlt hi hb
  refine AW.loop (fun z:{j:Nat // 1≤j∧j≤H.length}=>⟨[(13,.ref 71 0 z.1 z.1),(6,.ref 14 0 (H).length (H).length),(7,.ref 15 0 (H).length (H).length),(2,.loc 8 0),(3,.loc 9 0),(4,.loc 10 0),(5,.loc 12 0)],[(71,.vec 8 ((aW nx z.1 f0).map eP)),(12,.blk [.ref 19 0 (B).length (B).length]),(19,.vec 9 (eS (B))),(14,.vec 8 (((H).map (·.2)).map eP)),(15,.vec 8 (((H).map (·.1)).map eP)),(8,.blk [.sl (eS l)]),(9,.blk (eH b)),(10,.blk [.lit (.slice none 0 0)])],80⟩) (fun z=>H.length - z.1) ⟨1,Au _,hn0⟩ (aR (by refine⟨?_,?_,?_,?_⟩<;>simp -dsimp (disch:=try exact zo)only[go_sem,hr1,List.map_cons,At,ZC])) ?_
  rintro⟨j,hj1,hj⟩
  dsimp only
  have hRl:((aW nx j f0).map eP).length=j:=by rw[Aa,pL]
  by_cases hjt:j<H.length
  ·have hlm:itP nx (j - 1) f0∈H.map (·.2):=a9t hcl _ hf0
   have hRn:aW nx (j+1) f0=aW nx j f0++[nx (itP nx (j - 1) f0)]:=by
    have e1:=uA nx (j - 1) f0
    rw[show j - 1+1=j by omega]at e1
    rw[vU,e1]
   have el:((aW nx j f0).map eP).getD (j - 1) []=eP (itP nx (j - 1) f0):=by
    obtain⟨q,rfl⟩:∃ q,j=q+1:=⟨j - 1,by omega⟩
    rw[vU,List.map_append,List.getD_eq_getElem?_getD,List.getElem?_append_right (by simp[pL])]
    simp[pL]
   have hj1':((j:Int) - 1).toNat=j - 1:=by omega
   generalize hRR:aW nx j f0=R at *
   generalize itP nx (j - 1) f0=last at *
   simp only[eP,e4]at el
   clear hcl hf0 hbB
   repeat'(first|refine zk ?_|(refine zu ?_ ?_<;>intro hc)|(refine zv ?_ ?_<;>intro hg)|omega|simp -dsimp (disch:=try exact zo)only[go_sem,hHa,zl,hRl,k0]|contradiction|rfl)
   refine AW.loop (fun z:{i:Nat // i≤H.length∧∀ q,q<i→∀ h:q<H.length,H[q].2≠last}=>⟨[(14,.lit (.int .i64 z.1)),(13,.ref 71 0 j j),(6,.ref 14 0 (H).length (H).length),(7,.ref 15 0 (H).length (H).length),(2,.loc 8 0),(3,.loc 9 0),(4,.loc 10 0),(5,.loc 12 0)],[(71,.vec 8 (R.map eP)),(12,.blk [.ref 19 0 (B).length (B).length]),(19,.vec 9 (eS (B))),(14,.vec 8 (((H).map (·.2)).map eP)),(15,.vec 8 (((H).map (·.1)).map eP)),(8,.blk [.sl (eS l)]),(9,.blk (eH b)),(10,.blk [.lit (.slice none 0 0)])],100⟩) (fun z=>H.length - z.1) ⟨0,Ap _,fun q hq=>by omega⟩ (aR (by refine⟨?_,?_,?_,?_⟩<;>simp -dsimp (disch:=try exact zo)only[go_sem,ZC])) ?_
   rintro⟨i,hi,hbe⟩
   dsimp only
   by_cases hit:i<H.length
   ·have ea:((H.map (·.2)).map eP).getD i []=eP H[i].2:=by rw[eD _ i (by simpa using hit),As]
    have et:((H.map (·.1)).map eP).getD i []=eP H[i].1:=by rw[eD _ i (by simpa using hit),As]
    have hnxi:=hnx _ (Ad hit)
    by_cases e:H[i].2=last
    ·have hRn2:aW nx (j+1) f0=R++[H[i].1]:=by rw[hRn,← e,hnxi]
     have k1:(H[i].2.x=last.x∧H[i].2.y=last.y∧H[i].2.z=last.z∧H[i].2.w=last.w)=True:=eq_true (by rw[e];simp)
     have hRm:(aW nx (j+1) f0).map eP=R.map eP++[eP H[i].1]:=by rw[hRn2];simp
     clear hbe hnx hnxi hRn hRn2 hlm e
     generalize H[i].2=u at *
     generalize H[i].1=w at *
     simp only[eP,e4]at ea et
     repeat'(first|refine zk ?_|(refine zu ?_ ?_<;>intro hc)|(refine zv ?_ ?_<;>intro hg)|omega|simp -dsimp (disch:=try exact zo)only[go_sem,hHa,hHb,hRl,zl,ea,el,et,hj1',k1,ZT]|contradiction|rfl)
     all_goals exact AW.stop ⟨⟨j+1,by omega,by omega⟩,(aR (by refine⟨?_,?_,?_,?_⟩<;>first|(simp -dsimp (disch:=try exact zo)only[go_sem,hRm,hRl,zl,ZC];done)|(simp -dsimp (disch:=try exact zo)only[go_sem,ZC];done))),by dsimp only;omega⟩
    ·have k1:(H[i].2.x=last.x∧H[i].2.y=last.y∧H[i].2.z=last.z∧H[i].2.w=last.w)=False:=eq_false fun q=>e (d0v q)
     have hbe2:∀ q,q<i+1→∀ h:q<H.length,H[q].2≠last:=fun q hq h=>by
      by_cases q':q=i
      ·subst q';exact e
      ·exact hbe q (by omega) h
     clear hbe hnx hnxi hRn hlm e
     generalize H[i].2=u at *
     generalize H[i].1=w at *
     simp only[eP,e4]at ea et
     replace hbe2:=Hid.mk hbe2
     repeat'(first|refine zk ?_|(refine zu ?_ ?_<;>intro hc)|(refine zv ?_ ?_<;>intro hg)|omega|simp -dsimp (disch:=try exact zo)only[go_sem,hHa,hHb,hRl,zl,ea,el,et,hj1',k1,ZT]|contradiction|rfl)
     all_goals exact AW.stop ⟨⟨i+1,by omega,hbe2.out⟩,(aR (by refine⟨?_,?_,?_,?_⟩<;>simp -dsimp (disch:=try exact zo)only[go_sem,ZC])),by dsimp only;omega⟩
   ·exfalso
    obtain⟨e,he,q⟩:=List.mem_map.1 hlm
    obtain⟨t,ht,rfl⟩:=List.mem_iff_getElem.1 he
    exact hbe t (by omega) ht q
  ·have hjl:j=H.length:=by omega
   subst hjl
   generalize aW nx H.length f0=R at *
   refine AW.weak (lH 71 H.length 8 (R.map eP) (t:=[(13,.sl (R.map eP)),(6,.ref 14 0 (H).length (H).length),(7,.ref 15 0 (H).length (H).length),(2,.loc 8 0),(3,.loc 9 0),(4,.loc 10 0),(5,.loc 12 0)]) (o:=[(12,.blk [.ref 19 0 (B).length (B).length]),(19,.vec 9 (eS (B))),(14,.vec 8 (((H).map (·.2)).map eP)),(15,.vec 8 (((H).map (·.1)).map eP)),(8,.blk [.sl (eS l)]),(9,.blk (eH b)),(10,.blk [.lit (.slice none 0 0)])]) rfl hRl (by simp -dsimp (disch:=try exact zo)only[go_sem,and_self]) (by simp -dsimp (disch:=try exact zo)only[go_sem,and_self])) ?_
   clear hcl hnx hf0 hbB
   repeat'(first|refine zk ?_|(refine zu ?_ ?_<;>intro hc)|(refine zv ?_ ?_<;>intro hg)|omega|simp -dsimp (disch:=try exact zo)only[go_sem,hHa,hRl,zl,hBl,Am,Nat.zero_lt_succ]|contradiction|rfl)
end Go.Proofs.Vx
namespace Go.Proofs.Vx
open Go Go.Sx Go.Proofs Tryz
attribute [local irreducible] fnT CallOK CallFr AW aK callV aL aJ aI aM gcaseP hid
def ev (e:Pt × Pt):Value:=.agg #[.bool (Zn e.1.x),.string (Zm e.1.x),.bool (Zn e.1.y),.string (Zm e.1.y),.bool (Zn e.1.z),.string (Zm e.1.z),.bool (Zn e.1.w),.string (Zm e.1.w),.bool (Zn e.2.x),.string (Zm e.2.x),.bool (Zn e.2.y),.string (Zm e.2.y),.bool (Zn e.2.z),.string (Zm e.2.z),.bool (Zn e.2.w),.string (Zm e.2.w)]
end Go.Proofs.Vx
namespace Go.Sx
set_option linter.unusedVariables false
set_option linter.unusedSimpArgs false
inductive OT
 | fin
 | none
 | alt (j:Nat) (t r:OT)
def runT (P:Program) (nt:Nat) (ops:List Oper) (N:Nat):OT→AS→(AS→Prop)→Prop
 | .fin,S,K=>K S
 | .none,_,_=>True
 | .alt j t r,S,K=>aI P nt ops (ops.getD j default) (N+j) S (fun S' _=>runT P nt ops N t S' K) (tg _)∧runT P nt ops N r S K
theorem c1k (P:Program) (nt:Nat) (ops:List Oper) (N:Nat) (S:AS) (K:AS→Prop):runT P nt ops N .fin S K=K S:=rfl
theorem b7e (P:Program) (nt:Nat) (ops:List Oper) (N:Nat) (S:AS) (K:AS→Prop):runT P nt ops N .none S K=True:=rfl
theorem d0s (P:Program) (nt:Nat) (o0:Oper) (l:List Oper) (N:Nat) (t r:OT) (S:AS) (K:AS→Prop):runT P nt (o0::l) N (.alt 0 t r) S K=(aI P nt (o0::l) o0 (N+0) S (fun S' _=>runT P nt (o0::l) N t S' K) (tg _)∧runT P nt (o0::l) N r S K):=rfl
theorem d0r (P:Program) (nt:Nat) (o0 o1:Oper) (l:List Oper) (N:Nat) (t r:OT) (S:AS) (K:AS→Prop):runT P nt (o0::o1::l) N (.alt 1 t r) S K=(aI P nt (o0::o1::l) o1 (N+1) S (fun S' _=>runT P nt (o0::o1::l) N t S' K) (tg _)∧runT P nt (o0::o1::l) N r S K):=rfl
theorem d0q (P:Program) (nt:Nat) (o0 o1 o2:Oper) (l:List Oper) (N:Nat) (t r:OT) (S:AS) (K:AS→Prop):runT P nt (o0::o1::o2::l) N (.alt 2 t r) S K=(aI P nt (o0::o1::o2::l) o2 (N+2) S (fun S' _=>runT P nt (o0::o1::o2::l) N t S' K) (tg _)∧runT P nt (o0::o1::o2::l) N r S K):=rfl
theorem d0p (P:Program) (nt:Nat) (o0 o1 o2 o3:Oper) (l:List Oper) (N:Nat) (t r:OT) (S:AS) (K:AS→Prop):runT P nt (o0::o1::o2::o3::l) N (.alt 3 t r) S K=(aI P nt (o0::o1::o2::o3::l) o3 (N+3) S (fun S' _=>runT P nt (o0::o1::o2::o3::l) N t S' K) (tg _)∧runT P nt (o0::o1::o2::o3::l) N r S K):=rfl
theorem d0o (P:Program) (nt:Nat) (o0 o1 o2 o3 o4:Oper) (l:List Oper) (N:Nat) (t r:OT) (S:AS) (K:AS→Prop):runT P nt (o0::o1::o2::o3::o4::l) N (.alt 4 t r) S K=(aI P nt (o0::o1::o2::o3::o4::l) o4 (N+4) S (fun S' _=>runT P nt (o0::o1::o2::o3::o4::l) N t S' K) (tg _)∧runT P nt (o0::o1::o2::o3::o4::l) N r S K):=rfl
theorem d0n (P:Program) (nt:Nat) (o0 o1 o2 o3 o4 o5:Oper) (l:List Oper) (N:Nat) (t r:OT) (S:AS) (K:AS→Prop):runT P nt (o0::o1::o2::o3::o4::o5::l) N (.alt 5 t r) S K=(aI P nt (o0::o1::o2::o3::o4::o5::l) o5 (N+5) S (fun S' _=>runT P nt (o0::o1::o2::o3::o4::o5::l) N t S' K) (tg _)∧runT P nt (o0::o1::o2::o3::o4::o5::l) N r S K):=rfl
theorem d0m (P:Program) (nt:Nat) (o0 o1 o2 o3 o4 o5 o6:Oper) (l:List Oper) (N:Nat) (t r:OT) (S:AS) (K:AS→Prop):runT P nt (o0::o1::o2::o3::o4::o5::o6::l) N (.alt 6 t r) S K=(aI P nt (o0::o1::o2::o3::o4::o5::o6::l) o6 (N+6) S (fun S' _=>runT P nt (o0::o1::o2::o3::o4::o5::o6::l) N t S' K) (tg _)∧runT P nt (o0::o1::o2::o3::o4::o5::o6::l) N r S K):=rfl
attribute [go_sem] c1k b7e d0s d0r d0q d0p d0o d0n d0m
end Go.Sx
namespace Go.Proofs.Vx
open Go Go.Sx Go.Proofs Tryz
attribute [local irreducible] fnT CallOK CallFr AW aK callV aL aJ aI aM gcaseP hid
theorem b9s:arT prog 245=none∧slT prog 245=some (41,3):=by and_intros<;>kernel_rfl
attribute [go_sem] b9s
theorem c246a (u v:Geo.V) (hu:QV 8388608 u) (hv:QV 8388608 v):CallOK prog 246 [.agg (eV u.x u.y u.z),.agg (eV v.x v.y v.z),.lit (.int .i64 1),.lit (.int .i64 2)] [] (.agg (eQ (u.y*v.z - u.z*v.y))) []:=by
 refine zs func246 24 [.cell 8 41] results246 ?_
 simp only[aD,Ab]
 obtain⟨u1,u2,u3⟩:=hu.mono (show 8388608≤67108864 by decide)
 obtain⟨v1,v2,v3⟩:=hv.mono (show 8388608≤67108864 by decide)
 have p1:=(hu.y.mul hv.z).mono (show 8388608+8388608≤67108864 by decide)
 have p2:=(hu.z.mul hv.y).mono (show 8388608+8388608≤67108864 by decide)
 clear hu hv
 repeat'(first|refine zk ?_|(refine zu ?_ ?_<;>intro hc)|(refine zf (sN _ (by assumption) _ (by assumption)) ?_)|(refine zf (sM _ (by assumption) _ (by assumption)) ?_)|(refine zv ?_ ?_<;>intro hg)|omega|simp -dsimp (disch:=try exact zo)only[go_sem]|contradiction|rfl)
theorem c246b (u v:Geo.V) (hu:QV 8388608 u) (hv:QV 8388608 v):CallOK prog 246 [.agg (eV u.x u.y u.z),.agg (eV v.x v.y v.z),.lit (.int .i64 2),.lit (.int .i64 0)] [] (.agg (eQ (u.z*v.x - u.x*v.z))) []:=by
 refine zs func246 24 [.cell 8 41] results246 ?_
 simp only[aD,Ab]
 obtain⟨u1,u2,u3⟩:=hu.mono (show 8388608≤67108864 by decide)
 obtain⟨v1,v2,v3⟩:=hv.mono (show 8388608≤67108864 by decide)
 have p1:=(hu.z.mul hv.x).mono (show 8388608+8388608≤67108864 by decide)
 have p2:=(hu.x.mul hv.z).mono (show 8388608+8388608≤67108864 by decide)
 clear hu hv
 repeat'(first|refine zk ?_|(refine zu ?_ ?_<;>intro hc)|(refine zf (sN _ (by assumption) _ (by assumption)) ?_)|(refine zf (sM _ (by assumption) _ (by assumption)) ?_)|(refine zv ?_ ?_<;>intro hg)|omega|simp -dsimp (disch:=try exact zo)only[go_sem]|contradiction|rfl)
theorem c246c (u v:Geo.V) (hu:QV 8388608 u) (hv:QV 8388608 v):CallOK prog 246 [.agg (eV u.x u.y u.z),.agg (eV v.x v.y v.z),.lit (.int .i64 0),.lit (.int .i64 1)] [] (.agg (eQ (u.x*v.y - u.y*v.x))) []:=by
 refine zs func246 24 [.cell 8 41] results246 ?_
 simp only[aD,Ab]
 obtain⟨u1,u2,u3⟩:=hu.mono (show 8388608≤67108864 by decide)
 obtain⟨v1,v2,v3⟩:=hv.mono (show 8388608≤67108864 by decide)
 have p1:=(hu.x.mul hv.y).mono (show 8388608+8388608≤67108864 by decide)
 have p2:=(hu.y.mul hv.x).mono (show 8388608+8388608≤67108864 by decide)
 clear hu hv
 repeat'(first|refine zk ?_|(refine zu ?_ ?_<;>intro hc)|(refine zf (sN _ (by assumption) _ (by assumption)) ?_)|(refine zf (sM _ (by assumption) _ (by assumption)) ?_)|(refine zv ?_ ?_<;>intro hg)|omega|simp -dsimp (disch:=try exact zo)only[go_sem]|contradiction|rfl)
theorem c210 (u v:Geo.V) (hu:QV 8388608 u) (hv:QV 8388608 v):CallOK prog 210 [.agg (eV u.x u.y u.z),.agg (eV v.x v.y v.z)] [] (.agg (eV (Geo.aA u v).x (Geo.aA u v).y (Geo.aA u v).z)) []:=by
 refine zs func210 15 [.cell 4 103] results210 ?_
 simp only[aD,Ab]
 have ca:=c246a u v hu hv
 have cb:=c246b u v hu hv
 have cc:=c246c u v hu hv
 unfold Geo.aA
 dsimp only
 clear hu hv
 exact z1
theorem c213 (u v:Geo.V) (hu:QV 8388608 u) (hv:QV 8388608 v):CallOK prog 213 [.agg (eV u.x u.y u.z),.agg (eV v.x v.y v.z)] [] (.agg (eQ (Geo.dot u v))) []:=by
 refine zs func213 22 [.cell 4 41] results213 ?_
 simp only[aD,Ab]
 obtain⟨u1,u2,u3⟩:=hu.mono (show 8388608≤67108864 by decide)
 obtain⟨v1,v2,v3⟩:=hv.mono (show 8388608≤67108864 by decide)
 have p1:=(hu.x.mul hv.x).mono (show 8388608+8388608≤67108864 by decide)
 have p2:=(hu.y.mul hv.y).mono (show 8388608+8388608≤67108864 by decide)
 have p3:=(hu.z.mul hv.z).mono (show 8388608+8388608≤67108864 by decide)
 have q1:=((hu.x.mul hv.x).add (hu.y.mul hv.y)).mono (show 8388608+8388608+(8388608+8388608)+1≤67108864 by decide)
 have zq:Qs 67108864 0:=⟨by show (Zm 0).size≤_;rw[eF];exact Ap _,by show (nb 1).size≤_;rw[kI];decide⟩
 have c64z:CallOK prog 64 [.agg [.lit (.bool false),.lit (.string ⟨#[]⟩),.lit (.string ⟨#[]⟩)],.agg (eQ (u.x*v.x))] [] (.agg (eQ (u.x*v.x))) []:=by
  have:=c64 0 zq _ p1
  rwa [a1j,Rat.zero_add]at this
 unfold Geo.dot
 clear hu hv zq
 repeat'(first|refine zg ?_|refine cK 6 ?_|(refine zc ?_ ?_<;>intro hc<;>try simp only[NM]at hc)|refine zr ?_|(refine zf (sN _ (by assumption) _ (by assumption)) ?_)|(first|refine zf c64z ?_|refine zf (c64 _ (by assumption) _ (by assumption)) ?_)|refine⟨by omega,?_⟩|(refine zb ?_ ?_<;>intro hg<;>(try rw[hg])<;>try simp only[NM]at hg)|omega|simp -dsimp (disch:=try exact zo)only[go_sem]|contradiction|rfl)
def bW (a b c d:Rat):Int:=1*(a.den:Int)*(b.den:Int)*(c.den:Int)*(d.den:Int)
def mkH (a b c d:Rat):Pl:=kY (a.num*(bW a b c d / (a.den:Int))) (b.num*(bW a b c d / (b.den:Int))) (c.num*(bW a b c d / (c.den:Int))) (d.num*(bW a b c d / (d.den:Int)))
theorem c90q (z:Int) (g:Nat) (hg:0<g) (hd:(g:Int)∣z) (h:(Zm z).size≤268435456) (hgs:(Zm (g:Int)).size≤268435456):CallOK prog 90 [.agg (eZ z),.agg (eZ (g:Int))] [] (.tup [.agg (eZ (z / (g:Int))),.agg (eZ 0),.lit (.bool true)]) []:=by
 have:=i0 z g hg hd h (by rw[← jC];exact hgs)
 rwa [← oU]at this
theorem c4e (a b c d:Rat):bW a b c d≠0:=by
 unfold bW
 exact Aj (Aj (Aj (Aj (by decide) (fP a)) (fP b)) (fP c)) (fP d)
theorem zJ {B:Int} {g:Int} (hB:B≠0) (h:g∣B):B / g≠0:=by
 obtain⟨k,rfl⟩:=h
 have hg:g≠0:=fun e=>hB (by rw[e];simp)
 rw[Int.mul_ediv_cancel_left _ hg]
 exact fun e=>hB (by rw[e];simp)
set_option maxRecDepth 20000 in
theorem c212 (a b c d:Rat) (ha:Qs 16777216 a) (hb:Qs 16777216 b) (hcx:Qs 16777216 c) (hd:Qs 16777216 d) (h0:¬ (a=0∧b=0∧c=0)):CallOK prog 212 [.agg (eV a b c),.agg (eQ d)] [] (.tup [.agg (eH (mkH a b c d)),.lit (.bool true)]) []:=by
 refine zs func212 78 [.cell 4 26,.tmp 5] results212 ?_
 simp only[aD,Ab]
 have ra:=ha.num
 have rb:=hb.num
 have rc:=hcx.num
 have rd:=hd.num
 have sa:=ha.den'
 have sb:=hb.den'
 have sc:=hcx.den'
 have sd:=hd.den'
 have s1:(Zm 1).size≤1:=by rw[bX];decide
 have t1:=aP _ _ s1 sa
 have t2:=aP _ _ t1 sb
 have t3:=aP _ _ t2 sc
 have t4:=aP _ _ t3 sd
 have k1:=cU 1 (a.den:Int) (by omega) (by omega)
 have k2:=cU (1*(a.den:Int)) (b.den:Int) (by omega) (by omega)
 have k3:=cU (1*(a.den:Int)*(b.den:Int)) (c.den:Int) (by omega) (by omega)
 have k4:CallOK prog 112 [.agg (eZ (1*(a.den:Int)*(b.den:Int)*(c.den:Int))),.agg (eZ (d.den:Int))] [] (.agg (eZ (bW a b c d))) []:=cU (1*(a.den:Int)*(b.den:Int)*(c.den:Int)) (d.den:Int) (by omega) (by omega)
 have t5:(Zm (bW a b c d)).size≤67108865:=t4
 have v1:(a.den:Int)∣bW a b c d:=by unfold bW;exact Ae (Ae (Ae (Ah _ _) (Ac _ _)) (Ac _ _)) (Ac _ _)
 have v2:(b.den:Int)∣bW a b c d:=by unfold bW;exact Ae (Ae (Ah _ _) (Ac _ _)) (Ac _ _)
 have v3:(c.den:Int)∣bW a b c d:=by unfold bW;exact Ae (Ah _ _) (Ac _ _)
 have v4:(d.den:Int)∣bW a b c d:=by unfold bW;exact Ah _ _
 have d1:=c90q (bW a b c d) a.den (Af a.den_nz) v1 (by omega) (by omega)
 have d2:=c90q (bW a b c d) b.den (Af b.den_nz) v2 (by omega) (by omega)
 have d3:=c90q (bW a b c d) c.den (Af c.den_nz) v3 (by omega) (by omega)
 have d4:=c90q (bW a b c d) d.den (Af d.den_nz) v4 (by omega) (by omega)
 have hB:=c4e a b c d
 have n1:=zJ hB v1
 have n2:=zJ hB v2
 have n3:=zJ hB v3
 have w1:=wF (bW a b c d) a.den
 have w2:=wF (bW a b c d) b.den
 have w3:=wF (bW a b c d) c.den
 have w4:=wF (bW a b c d) d.den
 have hz:¬ (a.num*(bW a b c d / (a.den:Int))=0∧b.num*(bW a b c d / (b.den:Int))=0∧c.num*(bW a b c d / (c.den:Int))=0):=by
  rintro⟨e1,e2,e3⟩
  exact h0 ⟨An.1 ((Ao.1 e1).resolve_right n1),An.1 ((Ao.1 e2).resolve_right n2),An.1 ((Ao.1 e3).resolve_right n3)⟩
 clear n1 n2 n3 hB v1 v2 v3 v4 t1 t2 t3 t4 h0
 unfold mkH
 generalize bW a b c d / (a.den:Int)=A at *
 generalize bW a b c d / (b.den:Int)=B at *
 generalize bW a b c d / (c.den:Int)=C at *
 generalize bW a b c d / (d.den:Int)=D at *
 generalize bW a b c d=N at *
 have x1:=aP a.num A ra (show _≤67108866 by omega)
 have x2:=aP b.num B rb (show _≤67108866 by omega)
 have x3:=aP c.num C rc (show _≤67108866 by omega)
 have x4:=aP d.num D rd (show _≤67108866 by omega)
 have m1:=cU a.num A (by omega) (by omega)
 have m2:=cU b.num B (by omega) (by omega)
 have m3:=cU c.num C (by omega) (by omega)
 have m4:=cU d.num D (by omega) (by omega)
 have cn:=c44z _ _ _ _ ⟨show (Zm (a.num*A)).size≤_ by omega,show (Zm (b.num*B)).size≤_ by omega,show (Zm (c.num*C)).size≤_ by omega,show (Zm (d.num*D)).size≤_ by omega⟩ hz
 replace ha:=ha.mono (show 16777216≤67108864 by decide)
 replace hb:=hb.mono (show 16777216≤67108864 by decide)
 replace hcx:=hcx.mono (show 16777216≤67108864 by decide)
 replace hd:=hd.mono (show 16777216≤67108864 by decide)
 clear x1 x2 x3 x4 w1 w2 w3 w4 ra rb rc rd sa sb sc sd s1 hz
 try have zh0:=(pH a ha)
 try have zh1:=(pH b hb)
 try have zh2:=(pH c hcx)
 try have zh3:=(pH d hd)
 have zh4:=vG
 exact z1f
def nP (a b c:Pt):Geo.V:=Geo.aA (tv b - tv a) (tv c - tv a)
def mC (a b c:Pt):Pl:=mkH (nP a b c).x (nP a b c).y (nP a b c).z (Geo.dot (nP a b c) (tv a))
theorem b2y (u v:Geo.V) (hu:QV 33554432 u) (hv:QV 33554432 v):CallOK prog 211 [.agg (eV u.x u.y u.z),.agg (eV v.x v.y v.z)] [] (.agg (eV (u - v).x (u - v).y (u - v).z)) []:=c211 u v hu hv
theorem sO (a b c:Pt) (ha:CanP a) (hb:CanP b) (hcx:CanP c) (ba:BPt 65536 a) (bb:BPt 65536 b) (bc:BPt 65536 c) (h0:nP a b c≠⟨0,0,0⟩):CallOK prog 161 [.agg (eP a),.agg (eP b),.agg (eP c)] [] (.tup [.agg (eH (mC a b c)),.lit (.bool true)]) []:=by
 refine zs func161 32 [.cell 6 26,.tmp 7] results161 ?_
 simp only[aD,Ab]
 have ca:=sQ a ha (ba.mono (by decide))
 have cb:=sQ b hb (bb.mono (by decide))
 have cc:=sQ c hcx (bc.mono (by decide))
 have qa:=gZ ha ba
 have qb:=gZ hb bb
 have qc:=gZ hcx bc
 have l1:=b2y _ _ (qb.mono (show _≤33554432 by decide)) (qa.mono (show _≤33554432 by decide))
 have l2:=b2y _ _ (qc.mono (show _≤33554432 by decide)) (qa.mono (show _≤33554432 by decide))
 have q1:=uO qb qa
 have q2:=uO qc qa
 have cx:=c210 _ _ (q1.mono (show _≤8388608 by decide)) (q2.mono (show _≤8388608 by decide))
 have q3:=a0p q1 q2
 have cd:=c213 _ _ (q3.mono (show _≤8388608 by decide)) (qa.mono (show _≤8388608 by decide))
 have q4:=a2h q3 qa
 have cm:=c212 _ _ _ _ (q3.x.mono (show _≤16777216 by decide)) (q3.y.mono (show _≤16777216 by decide)) (q3.z.mono (show _≤16777216 by decide)) (q4.mono (show _≤16777216 by decide)) (fun e=>h0 (Geo.V.ext e.1 e.2.1 e.2.2))
 change CallOK _ _ [.agg (eV (nP a b c).x (nP a b c).y (nP a b c).z),.agg (eQ (Geo.dot (nP a b c) (tv a)))] _ (.tup [.agg (eH (mC a b c)),_]) _ at cm
 change CallOK _ _ [.agg (eV (nP a b c).x (nP a b c).y (nP a b c).z),_] _ (.agg (eQ (Geo.dot (nP a b c) (tv a)))) _ at cd
 change CallOK _ _ _ _ (.agg (eV (nP a b c).x (nP a b c).y (nP a b c).z)) _ at cx
 clear qa qb qc q1 q2 q3 q4 h0 ha hb hcx ba bb bc
 generalize mC a b c=M at *
 generalize Geo.dot (nP a b c) (tv a)=E at *
 generalize nP a b c=N at *
 generalize tv b - tv a=U at *
 generalize tv c - tv a=W at *
 generalize tv a=A at *
 generalize tv b=B at *
 generalize tv c=C at *
 exact z1
theorem sK (z:Int) (h:-1000≤z∧z≤1000):CallOK prog 87 [.lit (.int .i64 z)] [] (.agg (eZ z)) []:=c87 z (by omega) (by omega)
theorem c209 (x y z:Int) (hx:-1≤x∧x≤1) (hy:-1≤y∧y≤1) (hz:-1≤z∧z≤1):CallOK prog 209 [.lit (.int .i64 x),.lit (.int .i64 y),.lit (.int .i64 z)] [] (.agg (eP (wpt x y z))) []:=by
 refine zs func209 18 [.cell 6 51] results209 ?_
 simp only[aD,Ab]
 unfold wpt
 try have zh0:=(sK (1000*x) (by omega))
 try have zh1:=(sK (1000*y) (by omega))
 try have zh2:=(sK (1000*z) (by omega))
 have zh3:=vG
 exact z1
theorem nO (x y z:Int) (hx:-1≤x∧x≤1) (hy:-1≤y∧y≤1) (hz:-1≤z∧z≤1):CallOK prog 160 [.lit (.int .i64 x),.lit (.int .i64 y),.lit (.int .i64 z),.lit (.int .i64 0)] [] (.agg (eP (wpt x y z))) []:=by
 refine zs func160 22 [.cell 8 51] results160 ?_
 simp only[aD,Ab]
 try have zh0:=(c209 x y z (by omega) (by omega) (by omega))
 exact z1f
theorem nN (x y z:Int) (hx:-1≤x∧x≤1) (hy:-1≤y∧y≤1) (hz:-1≤z∧z≤1):CallOK prog 160 [.lit (.int .i64 x),.lit (.int .i64 y),.lit (.int .i64 z),.lit (.int .i64 1)] [] (.agg (eP (wpt z x y))) []:=by
 refine zs func160 22 [.cell 8 51] results160 ?_
 simp only[aD,Ab]
 try have zh0:=(c209 z x y (by omega) (by omega) (by omega))
 exact z1f
theorem nM (x y z:Int) (hx:-1≤x∧x≤1) (hy:-1≤y∧y≤1) (hz:-1≤z∧z≤1):CallOK prog 160 [.lit (.int .i64 x),.lit (.int .i64 y),.lit (.int .i64 z),.lit (.int .i64 2)] [] (.agg (eP (wpt y z x))) []:=by
 refine zs func160 22 [.cell 8 51] results160 ?_
 simp only[aD,Ab]
 try have zh0:=(c209 y z x (by omega) (by omega) (by omega))
 exact z1f
end Go.Proofs.Vx
