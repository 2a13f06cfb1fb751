import Derived.Test.YtjlfgmhmalbiiaaGreatDoorV31
set_option linter.all false
set_option maxHeartbeats 40000000
namespace Go.Proofs.Vx
open Go Go.Sx Go.Proofs Tryz
attribute [local irreducible] fnT CallOK CallFr AW aJ callV aL aI aH aM gcaseP hid
theorem b7d (b:Pl) (l:aD) (i:Nat) (h:i<l.length):aY b (l.take (i+1))=(aY b (l.take i)||l[i].2.any (fun v=>decide (aB b v<0))):=by
 unfold aY
 rw[List.take_succ_eq_append_getElem h,List.any_append]
 simp
theorem b6m (b:Pl) (l:aD) (i:Nat) (h:i<l.length):aX b (l.take (i+1))=(aX b (l.take i)||l[i].2.any (fun v=>decide (0<aB b v))):=by
 unfold aX
 rw[List.take_succ_eq_append_getElem h,List.any_append]
 simp
theorem c162 (l:aD) (b:Pl) (hb:BPl 268435456 b) (hn:l.length≤1048576) (hv:∀ s∈l,s.2.length≤268435456∧∀ v∈s.2,BPt 268435456 v):CallOK prog 162 [.agg [.sl (eS l)],.agg (eH b)] [] (.tup [.lit (.bool (aY b l)),.lit (.bool (aX b l))]) []:=by
 refine zs func162 52 [.tmp 4,.tmp 5] results162 ?_
 simp only[aC,Nat.reduceAdd]
 have hml:maxLen=9223372036854775807:=rfl
 have hl:(eS l).length=l.length:=List.length_map _
 have hz1:aY b []=false:=rfl
 have hz2:aX b []=false:=rfl
 repeat'(first|refine zk ?_|(refine zu ?_ ?_<;>intro hc)|(refine zv ?_ ?_<;>intro hg)|omega|simp -dsimp (disch:=try exact zo)only[go_sem,hl]|contradiction|rfl)
 refine AW.loop (fun z:{i:Nat // i≤l.length}=>⟨[(8,.lit (.int .i64 z.1)),(6,.lit (.bool (aY b (l.take z.1)))),(7,.lit (.bool (aX b (l.take z.1)))),(2,.loc 8 0),(3,.loc 9 0)],[(8,.blk [.sl (eS l)]),(9,.blk (eH b))],60⟩) (fun z=>l.length - z.1) ⟨0,Nat.zero_le _⟩ zw ?_
 rintro⟨i,hi⟩
 dsimp only
 by_cases hlt:i<l.length
 ·have es1:=p6 l i hlt
  have hS1:=b7d b l i hlt
  have hS2:=b6m b l i hlt
  obtain⟨hvn,hvb⟩:=hv _ (List.getElem_mem hlt)
  generalize hq:l[i]=sd at *
  obtain⟨sp,svs⟩:=sd
  dsimp only at es1 hS1 hS2 hvn hvb
  have hvl:(svs.map eP).length=svs.length:=List.length_map _
  generalize aY b (l.take i)=B0 at *
  generalize aX b (l.take i)=F0 at *
  simp only[eG]at es1
  clear hv hq
  repeat'(first|refine zk ?_|(refine zu ?_ ?_<;>intro hc)|(refine zv ?_ ?_<;>intro hg)|omega|simp -dsimp (disch:=try exact zo)only[go_sem,hl]|contradiction|rfl)
  refine AW.loop (fun z:{j:Nat // j≤svs.length}=>⟨[(9,.lit (.int .i64 z.1)),(8,.lit (.int .i64 i)),(6,.lit (.bool (B0||cP (fun v=>decide (aB b v<0)) svs z.1))),(7,.lit (.bool (F0||cP (fun v=>decide (0<aB b v)) svs z.1))),(2,.loc 8 0),(3,.loc 9 0)],[(8,.blk [.sl (eS l)]),(9,.blk (eH b))],80⟩) (fun z=>svs.length - z.1) ⟨0,Nat.zero_le _⟩ (aR (by refine⟨?_,?_,?_,?_⟩<;>simp -dsimp (disch:=try exact zo)only[go_sem,vW,Bool.or_false,ZC])) ?_
  rintro⟨j,hj⟩
  dsimp only
  by_cases hjt:j<svs.length
  ·have ea:=fD svs j hjt
   have hsb0:=mM (fun v=>decide (aB b v<0)) svs j hjt
   have hsf0:=mM (fun v=>decide (0<aB b v)) svs j hjt
   have ca:=c50 b svs[j] hb (hvb _ (List.getElem_mem hjt))
   have cb:True:=trivial
   clear hvb hS1 hS2
   generalize svs[j]=a at *
   have hsb:(B0||cP (fun v=>decide (aB b v<0)) svs (j+1))=((B0||cP (fun v=>decide (aB b v<0)) svs j)||decide (aB b a<0)):=by rw[hsb0,Bool.or_assoc]
   have hsf:(F0||cP (fun v=>decide (0<aB b v)) svs (j+1))=((F0||cP (fun v=>decide (0<aB b v)) svs j)||decide (0<aB b a)):=by rw[hsf0,Bool.or_assoc]
   generalize (B0||cP (fun v=>decide (aB b v<0)) svs j)=bb at *
   generalize (F0||cP (fun v=>decide (0<aB b v)) svs j)=ff at *
   clear hsb0 hsf0
   simp only[eP,e4]at ea
   generalize aB b a=sv at *
   by_cases q1:sv<0<;>by_cases q2:0<sv
   ·omega
   all_goals
    have k1:=(show (sv<0)=_∧(0<sv)=_ from⟨(by first|exact eq_true q1|exact eq_false q1),(by first|exact eq_true q2|exact eq_false q2)⟩)
    clear q1 q2
    obtain⟨k1,k2⟩:=k1
    simp only[k1,k2,decide_true,decide_false]at hsb hsf
    cases bb<;>cases ff<;>(try simp only[Bool.true_or,Bool.false_or,Bool.or_true,Bool.or_false]at hsb)<;>(try simp only[Bool.true_or,Bool.false_or,Bool.or_true,Bool.or_false]at hsf)
   all_goals
    repeat'(first|refine zk ?_|(refine zu ?_ ?_<;>intro hc)|(first|refine zf ca ?_|refine zf cb ?_)|(refine zv ?_ ?_<;>intro hg)|omega|simp -dsimp (disch:=try exact zo)only[go_sem,hl,es1,ea,k1,k2,ZT,zl,hvl]|contradiction|rfl)
   all_goals exact AW.stop ⟨⟨j+1,by omega⟩,zw,by dsimp only;omega⟩
  ·have hjl:j=svs.length:=by omega
   subst hjl
   rw[mQ,mQ,← hS1,← hS2]
   clear hvb
   repeat'(first|refine zk ?_|(refine zu ?_ ?_<;>intro hc)|(refine zv ?_ ?_<;>intro hg)|omega|simp -dsimp (disch:=try exact zo)only[go_sem,hl,es1,ZT,zl,hvl]|contradiction|rfl)
   all_goals exact AW.stop ⟨⟨i+1,by omega⟩,zw,by dsimp only;omega⟩
 ·have hil:i=l.length:=by omega
  subst hil
  rw[List.take_length]
  exact z1
theorem c214f (b:Pl) (vs:List Pt) (hn:vs.length≤268435456) (hcan:∀ v∈vs,CanP v) (hv:∀ v∈vs,BPt 1048576 v) (hb:BPl 1048576 b):CallFr prog 214 [.sl (vs.map eP),.agg (eH b)] 8 ((bB (-1) b vs).map eP):=by
 refine CallFr.flat func214 rfl 60 rfl rfl (n7 _) [.tmp 4] (congrArg Array.toList results214) ?_
 simp only[aC,Nat.reduceAdd]
 have hml:maxLen=9223372036854775807:=rfl
 have hl:(vs.map eP).length=vs.length:=List.length_map _
 repeat'(first|refine zk ?_|(refine zu ?_ ?_<;>intro hc)|(refine zv ?_ ?_<;>intro hg)|omega|simp -dsimp (disch:=try exact zo)only[go_sem,hl]|contradiction|rfl)
 refine AW.loop (fun z:{i:Nat // i≤vs.length}=>⟨[(6,.lit (.int .i64 z.1)),(5,.ref 10 0 (aU (-1) b vs z.1).length (aU (-1) b vs z.1).length),(3,.loc 8 0),(0,.sl (vs.map eP))],[(8,.blk (eH b)),(10,.vec 8 ((aU (-1) b vs z.1).map eP))],60⟩) (fun z=>vs.length - z.1) ⟨0,Nat.zero_le _⟩ (aR (by refine⟨?_,?_,?_,?_⟩<;>simp -dsimp (disch:=try exact zo)only[go_sem,vB,List.map_nil,List.length_nil,ZC])) ?_
 rintro⟨i,hi⟩
 dsimp only
 by_cases hlt:i<vs.length
 ·have hmod:(i+1) % vs.length<vs.length:=Nat.mod_lt _ (by omega)
  have hm:((i:Int)+1) % (vs.length:Int)=(((i+1) % vs.length:Nat):Int):=by rw[Int.natCast_emod,Int.natCast_add];rfl
  have ea:=fD vs i hlt
  have ea2:=fD vs _ hmod
  have hW:=vC (-1) b vs i hlt
  have hWn:=uR (-1) b vs i
  have ha:=hv _ (List.getElem_mem hlt)
  have ha2:=hv _ (List.getElem_mem hmod)
  have haw:=hcan _ (List.getElem_mem hlt)
  have ha2w:=hcan _ (List.getElem_mem hmod)
  generalize vs[i]=a at *
  generalize vs[(i+1) % vs.length]=a2 at *
  generalize aU (-1) b vs i=W at *
  simp only[eP,e4]at ea ea2
  have hs1:aB b a≤0↔aB b a≠1:=by have:=a5h (abv b a);unfold aB;omega
  have ca:=c50 b a (hb.mono (by decide)) (ha.mono (by decide))
  have cb:=c50 b a2 (hb.mono (by decide)) (ha2.mono (by decide))
  clear hv hcan
  by_cases q2:aB b a≤0
  ·by_cases q3:aB b a*aB b a2<0
   ·skip
    have k2:(aB b a≤0)=True:=eq_true q2
    have k3:(aB b a*aB b a2<0)=True:=eq_true q3
    have hpc:pc (-1) b a a2=[a,bQ b a a2]:=by unfold pc;rw[Int.neg_neg,if_pos (hs1.1 q2),if_pos q3];rfl
    rw[hpc]at hW
    have hWl:(aU (-1) b vs (i+1)).length=W.length+1+1:=by rw[hW];simp
    have hWm:(aU (-1) b vs (i+1)).map eP=W.map eP++[eP (a),eP (bQ b a a2)]:=by rw[hW];simp
    have cm:=c247 b a a2 hb haw ha2w ha ha2 q3
    clear hW hpc hs1 ha ha2 haw ha2w
    repeat'(first|refine zk ?_|(refine zu ?_ ?_<;>intro hc)|(first|refine zf ca ?_|refine zf cb ?_)|(refine zf cm ?_)|(refine zv ?_ ?_<;>intro hg)|omega|simp -dsimp (disch:=try exact zo)only[go_sem,hl,ea,ea2,k2,k3,hm,zl,eC,ZT,List.map_append]|contradiction|rfl)
    all_goals exact AW.stop ⟨⟨i+1,by omega⟩,(aR (by refine⟨?_,?_,?_,?_⟩<;>first|(simp -dsimp (disch:=try exact zo)only[go_sem,hWl,hWm,zl,ZC];done)|(simp -dsimp (disch:=try exact zo)only[go_sem,hWl,ZC];done))),by dsimp only;omega⟩
   ·skip
    have k2:(aB b a≤0)=True:=eq_true q2
    have k3:(aB b a*aB b a2<0)=False:=eq_false q3
    have hpc:pc (-1) b a a2=[a]:=by unfold pc;rw[Int.neg_neg,if_pos (hs1.1 q2),if_neg q3];rfl
    rw[hpc]at hW
    have hWl:(aU (-1) b vs (i+1)).length=W.length+1:=by rw[hW];simp
    have hWm:(aU (-1) b vs (i+1)).map eP=W.map eP++[eP (a)]:=by rw[hW];simp
    have cm:True:=trivial
    clear hW hpc hs1 ha ha2 haw ha2w
    repeat'(first|refine zk ?_|(refine zu ?_ ?_<;>intro hc)|(first|refine zf ca ?_|refine zf cb ?_)|(refine zf cm ?_)|(refine zv ?_ ?_<;>intro hg)|omega|simp -dsimp (disch:=try exact zo)only[go_sem,hl,ea,ea2,k2,k3,hm,zl,eC,ZT,List.map_append]|contradiction|rfl)
    all_goals exact AW.stop ⟨⟨i+1,by omega⟩,(aR (by refine⟨?_,?_,?_,?_⟩<;>first|(simp -dsimp (disch:=try exact zo)only[go_sem,hWl,hWm,zl,ZC];done)|(simp -dsimp (disch:=try exact zo)only[go_sem,hWl,ZC];done))),by dsimp only;omega⟩
  ·by_cases q3:aB b a*aB b a2<0
   ·skip
    have k2:(aB b a≤0)=False:=eq_false q2
    have k3:(aB b a*aB b a2<0)=True:=eq_true q3
    have hpc:pc (-1) b a a2=[bQ b a a2]:=by unfold pc;rw[Int.neg_neg,if_neg (fun h=>q2 (hs1.2 h)),if_pos q3];rfl
    rw[hpc]at hW
    have hWl:(aU (-1) b vs (i+1)).length=W.length+1:=by rw[hW];simp
    have hWm:(aU (-1) b vs (i+1)).map eP=W.map eP++[eP (bQ b a a2)]:=by rw[hW];simp
    have cm:=c247 b a a2 hb haw ha2w ha ha2 q3
    clear hW hpc hs1 ha ha2 haw ha2w
    repeat'(first|refine zk ?_|(refine zu ?_ ?_<;>intro hc)|(first|refine zf ca ?_|refine zf cb ?_)|(refine zf cm ?_)|(refine zv ?_ ?_<;>intro hg)|omega|simp -dsimp (disch:=try exact zo)only[go_sem,hl,ea,ea2,k2,k3,hm,zl,eC,ZT,List.map_append]|contradiction|rfl)
    all_goals exact AW.stop ⟨⟨i+1,by omega⟩,(aR (by refine⟨?_,?_,?_,?_⟩<;>first|(simp -dsimp (disch:=try exact zo)only[go_sem,hWl,hWm,zl,ZC];done)|(simp -dsimp (disch:=try exact zo)only[go_sem,hWl,ZC];done))),by dsimp only;omega⟩
   ·skip
    have k2:(aB b a≤0)=False:=eq_false q2
    have k3:(aB b a*aB b a2<0)=False:=eq_false q3
    have hpc:pc (-1) b a a2=[]:=by unfold pc;rw[Int.neg_neg,if_neg (fun h=>q2 (hs1.2 h)),if_neg q3];rfl
    rw[hpc]at hW
    have hWl:(aU (-1) b vs (i+1)).length=W.length:=by rw[hW];simp
    have hWm:(aU (-1) b vs (i+1)).map eP=W.map eP:=by rw[hW];simp
    have cm:True:=trivial
    clear hW hpc hs1 ha ha2 haw ha2w
    repeat'(first|refine zk ?_|(refine zu ?_ ?_<;>intro hc)|(first|refine zf ca ?_|refine zf cb ?_)|(refine zf cm ?_)|(refine zv ?_ ?_<;>intro hg)|omega|simp -dsimp (disch:=try exact zo)only[go_sem,hl,ea,ea2,k2,k3,hm,zl,eC,ZT,List.map_append]|contradiction|rfl)
    all_goals exact AW.stop ⟨⟨i+1,by omega⟩,(aR (by refine⟨?_,?_,?_,?_⟩<;>first|(simp -dsimp (disch:=try exact zo)only[go_sem,hWl,hWm,zl,ZC];done)|(simp -dsimp (disch:=try exact zo)only[go_sem,hWl,ZC];done))),by dsimp only;omega⟩
 ·have hil:i=vs.length:=by omega
  subst hil
  rw[vP]
  have hfin:True:=trivial
  repeat'(first|refine zj ?_|(refine zu ?_ ?_<;>intro hc)|(refine AW.ret (qC ?_);simp -dsimp (disch:=try exact zo)only[go_sem,hl,zl,hfin]<;>try (exact⟨_,rfl,rfl⟩))|(refine zv ?_ ?_<;>intro hg)|omega|simp -dsimp (disch:=try exact zo)only[go_sem,hl,zl,hfin]|contradiction)
theorem c214 (b:Pl) (vs:List Pt) (hn:vs.length≤268435456) (hcan:∀ v∈vs,CanP v) (hv:∀ v∈vs,BPt 1048576 v) (hb:BPl 1048576 b):CallOK prog 214 [.sl (vs.map eP),.agg (eH b)] [] (.sl ((bB (-1) b vs).map eP)) []:=(c214f b vs hn hcan hv hb).ok
end Go.Proofs.Vx
namespace Go.Proofs.Vx
open Go Go.Sx Go.Proofs Tryz
attribute [local irreducible] fnT CallOK CallFr AW aJ callV aL aI aH aM gcaseP hid
theorem c2d (b:Pl) (l:aD) (i:Nat) (h:i<l.length):bhR b (l.take (i+1))=bhR b (l.take i)++(if 3≤(bB (-1) b l[i].2).length then [(l[i].1,bB (-1) b l[i].2)]else []):=by
 unfold bhR
 rw[List.take_succ_eq_append_getElem h,List.filterMap_append]
 congr 1
 rw[List.filterMap_cons,List.filterMap_nil]
 split<;>rename_i q<;>split at q<;>simp_all
theorem a8j (b:Pl) (l:aD):(bhR b l).length≤l.length:=List.length_filterMap_le _ _
def onL (b:Pl) (es:List (Pt × Pt)):List (Pt × Pt):=es.filter (onE b)
theorem a7f (b:Pl) (a c:List (Pt × Pt)):onL b (a++c)=onL b a++onL b c:=List.filter_append _ _
theorem c5k (l m:aD):esP (l++m)=esP l++esP m:=List.flatMap_append
theorem c5i (p:Pl) (vs:List Pt):esP [(p,vs)]=Geo.edges vs:=by unfold esP;simp
theorem b4c {α:Type} (vs:List α) (k:Nat) (h:k<vs.length):(Geo.edges vs).take (k+1)=(Geo.edges vs).take k++[(vs[k],vs[(k+1) % vs.length]'(Nat.mod_lt _ (by omega)))]:=by
 have hl:k<(Geo.edges vs).length:=by rw[Geo.gJ];exact h
 rw[List.take_succ_eq_append_getElem hl,y9 vs k h hl]
theorem c4d (b:Pl) (x y:Pt):onL b [(x,y)]=if aB b x=0∧aB b y=0 then [(x,y)]else []:=by
 unfold onL onE
 by_cases h:aB b x=0∧aB b y=0<;>simp[h]
def mE (b:Pl) (H:List (Pt × Pt)) (P:List Pt) (k:Nat):List (Pt × Pt):=H++onL b ((Geo.edges P).take k)
theorem a7q (b:Pl) (H:List (Pt × Pt)) (P:List Pt):mE b H P 0=H:=List.append_nil _
theorem c8l (b:Pl) (H:List (Pt × Pt)) (P:List Pt):mE b H P P.length=H++onL b (Geo.edges P):=by unfold mE;rw[List.take_of_length_le (by rw[Geo.gJ];exact Nat.le_refl _)]
theorem a7e (b:Pl) (es:List (Pt × Pt)):(onL b es).length≤es.length:=List.length_filter_le _ _
theorem c8f {p q:Pt} (h:p.x=q.x∧p.y=q.y∧p.z=q.z∧p.w=q.w):p=q:=by
 obtain⟨h1,h2,h3,h4⟩:=h
 cases p;cases q
 simp only at h1 h2 h3 h4
 subst h1 h2 h3 h4;rfl
theorem c5j {l:aD} {M:Nat} (h:∀ s∈l,s.2.length≤M):(esP l).length≤l.length*M:=by
 induction l with
 | nil=>simp[esP]
 | cons s l ih =>
  have h1:=ih fun t ht=>h t (by simp[ht])
  have h2:=h s (by simp)
  have e:(esP (s::l)).length=s.2.length+(esP l).length:=by unfold esP;rw[List.flatMap_cons,List.length_append,Geo.gJ]
  rw[e,List.length_cons,Nat.succ_mul]
  omega
theorem bhR_M {b:Pl} {l:aD} {M:Nat} (h:∀ s∈l,s.2.length≤M):∀ s∈bhR b l,s.2.length≤2*M:=by
 intro s hs
 obtain⟨t,ht,e⟩:=List.mem_filterMap.1 hs
 split at e
 ·obtain rfl:=Option.some.inj e
  have h1:=pE (-1) b t.2
  have h2:=h t ht
  show (bB (-1) b t.2).length≤_
  omega
 ·contradiction
set_option maxRecDepth 20000 in
theorem c163 (l:aD) (b:Pl) (h:CellOK l) (hS:Geo.Spl (sds l) (tH b)) (hb:BPl 1048576 b) (hn:l.length≤4096) (hv:∀ s∈l,s.2.length≤65536∧∀ v∈s.2,BPt 1048576 v):CallOK prog 163 [.agg [.sl (eS l)],.agg (eH b)] [] (.agg [.sl (eS (jI b l))]) []:=by
 refine eA func163 rfl 131 rfl rfl (fG _) [.cell 4 33] (congrArg Array.toList results163) ?_
 simp only[aC,Nat.reduceAdd]
 have hml:maxLen=9223372036854775807:=rfl
 have hl:(eS l).length=l.length:=List.length_map _
 have hz1:bhR b []=[]:=rfl
 have hz2:onL b []=[]:=rfl
 have hz3:esP []=[]:=rfl
 have hEn:∀ i,(onL b (esP (bhR b (l.take i)))).length≤536870912:=fun i=>by
  have h1:=a7e b (esP (bhR b (l.take i)))
  have h2:=c5j (bhR_M (b:=b) (l:=l.take i) (M:=65536) fun s hs=>(hv s (List.mem_of_mem_take hs)).1)
  have h3:=a8j b (l.take i)
  rw[List.length_take]at h3
  have h4:(bhR b (l.take i)).length*(2*65536)≤4096*(2*65536):=Nat.mul_le_mul_right _ (by omega)
  omega
 repeat'(first|refine zk ?_|(refine zu ?_ ?_<;>intro hc)|(refine zv ?_ ?_<;>intro hg)|omega|simp -dsimp (disch:=try exact zo)only[go_sem,hl]|contradiction|rfl)
 refine AW.weak (iP 12 0 9 _ (by decide) rfl (by simp) rfl (by simp)) ?_
 refine AW.loop (fun z:{i:Nat // i≤l.length}=>⟨[(8,.lit (.int .i64 z.1)),(6,.ref 14 0 (onL b (esP (bhR b (l.take z.1)))).length (onL b (esP (bhR b (l.take z.1)))).length),(7,.ref 15 0 (onL b (esP (bhR b (l.take z.1)))).length (onL b (esP (bhR b (l.take z.1)))).length),(2,.loc 8 0),(3,.loc 9 0),(4,.loc 10 0),(5,.loc 12 0)],[(12,.blk [.ref 19 0 (bhR b (l.take z.1)).length (bhR b (l.take z.1)).length]),(19,.vec 9 (eS (bhR b (l.take z.1)))),(14,.vec 8 (((onL b (esP (bhR b (l.take z.1)))).map (·.2)).map eP)),(15,.vec 8 (((onL b (esP (bhR b (l.take z.1)))).map (·.1)).map eP)),(8,.blk [.sl (eS l)]),(9,.blk (eH b)),(10,.blk [.lit (.slice none 0 0)])],60⟩) (fun z=>l.length - z.1) ⟨0,Nat.zero_le _⟩ (aR (by refine⟨?_,?_,?_,?_⟩<;>simp -dsimp (disch:=try exact zo)only[go_sem,List.take_zero,hz1,hz2,hz3,List.map_nil,List.length_nil,ZC])) ?_
 rintro⟨i,hi⟩
 dsimp only
 by_cases hlt:i<l.length
 ·have es1:=p6 l i hlt
  have hst0:=c2d b l i hlt
  obtain⟨hvn,hvb⟩:=hv _ (List.getElem_mem hlt)
  have hcan:=h.can _ (List.getElem_mem hlt)
  have hBn:=a8j b (l.take i)
  rw[List.length_take]at hBn
  have hHn:=hEn i
  clear h hS hv hEn
  generalize l[i]=sd at *
  obtain⟨sp,svs⟩:=sd
  dsimp only at es1 hst0 hvn hvb hcan
  have cc:=c214 b svs (by omega) hcan hvb hb
  have hPn:=pE (-1) b svs
  have hPb:=zI (h:=-1) hb hvb
  generalize bB (-1) b svs=P at *
  generalize bhR b (l.take i)=B at *
  have hBl:(eS B).length=B.length:=List.length_map _
  have hBl2:(B++[(sp,P)]).length=B.length+1:=by simp
  have hBm:eS (B++[(sp,P)])=eS B++[eG sp P]:=by rw[a9p];rfl
  have hPl:(P.map eP).length=P.length:=List.length_map _
  have hfH0:onL b (esP (B++[(sp,P)]))=onL b (esP B)++onL b (Geo.edges P):=by rw[c5k,c5i,a7f]
  generalize hHe:onL b (esP B)=H at *
  simp only[eG]at es1
  have hHa:((H.map (·.2)).map eP).length=H.length:=by rw[List.length_map,List.length_map]
  have hHb:((H.map (·.1)).map eP).length=H.length:=by rw[List.length_map,List.length_map]
  clear hcan hvb
  by_cases h3:3≤P.length
  ·have k0:((P.length:Int)<3)=False:=eq_false (by omega)
   rw[if_pos h3]at hst0
   repeat'(first|refine zk ?_|(refine zu ?_ ?_<;>intro hc)|(refine zq cc ?_)|(refine zv ?_ ?_<;>intro hg)|omega|simp -dsimp (disch:=try exact zo)only[go_sem,hl,es1,ZT,zl,k0,hBl,hBm]|contradiction|rfl)
   refine AW.loop (fun z:{k:Nat // k≤P.length}=>⟨[(10,.lit (.int .i64 z.1)),(9,.sl (P.map eP)),(8,.lit (.int .i64 i)),(6,.ref 14 0 (mE b H P z.1).length (mE b H P z.1).length),(7,.ref 15 0 (mE b H P z.1).length (mE b H P z.1).length),(2,.loc 8 0),(3,.loc 9 0),(4,.loc 10 0),(5,.loc 12 0)],[(12,.blk [.ref 19 0 (B++[(sp,P)]).length (B++[(sp,P)]).length]),(19,.vec 9 (eS (B++[(sp,P)]))),(14,.vec 8 (((mE b H P z.1).map (·.2)).map eP)),(15,.vec 8 (((mE b H P z.1).map (·.1)).map eP)),(8,.blk [.sl (eS l)]),(9,.blk (eH b)),(10,.blk [.lit (.slice none 0 0)])],90⟩) (fun z=>P.length - z.1) ⟨0,Nat.zero_le _⟩ (aR (by refine⟨?_,?_,?_,?_⟩<;>first|(simp -dsimp (disch:=try exact zo)only[go_sem,a7q,hBl2,hBm,hBl,ZC];done)|(simp -dsimp (disch:=try exact zo)only[go_sem,a7q,Int.cast_ofNat_Int];done))) ?_
   rintro⟨k,hk⟩
   dsimp only
   by_cases hkt:k<P.length
   ·have hmod:(k+1) % P.length<P.length:=Nat.mod_lt _ (by omega)
    have hm:((k:Int)+1) % (P.length:Int)=(((k+1) % P.length:Nat):Int):=by rw[Int.natCast_emod,Int.natCast_add];rfl
    have ea:=fD P k hkt
    have ea2:=fD P _ hmod
    have hst:mE b H P (k+1)=mE b H P k++(if aB b P[k]=0∧aB b P[(k+1) % P.length]=0 then [(P[k],P[(k+1) % P.length])]else []):=by
     unfold mE;rw[b4c P k hkt,a7f,c4d,List.append_assoc]
    have ca:=c50 b P[k] (hb.mono (by decide)) ((hPb _ (List.getElem_mem hkt)).mono (by decide))
    have cb:=c50 b P[(k+1) % P.length] (hb.mono (by decide)) ((hPb _ (List.getElem_mem hmod)).mono (by decide))
    have hGn:(mE b H P k).length≤1073741824:=by
     unfold mE
     have h1:=a7e b ((Geo.edges P).take k)
     rw[List.length_take]at h1
     rw[List.length_append]
     omega
    clear hPb hfH0 hHa hHb hHn
    generalize P[k]=x at *
    generalize P[(k+1) % P.length]=y at *
    generalize mE b H P k=G at *
    have hHa:((G.map (·.2)).map eP).length=G.length:=by rw[List.length_map,List.length_map]
    have hHb:((G.map (·.1)).map eP).length=G.length:=by rw[List.length_map,List.length_map]
    simp only[eP,e4]at ea ea2
    by_cases q1:aB b x=0
    ·have k1:=eq_true q1
     by_cases q2:aB b y=0
     ·have k2:=eq_true q2
      rw[if_pos ⟨q1,q2⟩]at hst
      have hHl:(mE b H P (k+1)).length=G.length+1:=by rw[hst];simp
      have hHx:((mE b H P (k+1)).map (·.2)).map eP=(G.map (·.2)).map eP++[eP y]:=by rw[hst];simp
      have hHy:((mE b H P (k+1)).map (·.1)).map eP=(G.map (·.1)).map eP++[eP x]:=by rw[hst];simp
      clear hst q1 q2
      repeat'(first|refine zk ?_|(refine zu ?_ ?_<;>intro hc)|(first|refine zf ca ?_|refine zf cb ?_)|(refine zv ?_ ?_<;>intro hg)|omega|simp -dsimp (disch:=try exact zo)only[go_sem,hPl,ea,ea2,hm,k1,k2,ZT,zl,hHa,hHb]|contradiction|rfl)
      all_goals exact AW.stop ⟨⟨k+1,by omega⟩,(aR (by refine⟨?_,?_,?_,?_⟩<;>first|(simp -dsimp (disch:=try exact zo)only[go_sem,hHl,hHx,hHy,zl,ZC];done)|(simp -dsimp (disch:=try exact zo)only[go_sem,hHl,ZC];done))),by dsimp only;omega⟩
     ·have k2:=eq_false q2
      rw[if_neg (fun e=>q2 e.2),List.append_nil]at hst
      clear q1 q2
      repeat'(first|refine zk ?_|(refine zu ?_ ?_<;>intro hc)|(first|refine zf ca ?_|refine zf cb ?_)|(refine zv ?_ ?_<;>intro hg)|omega|simp -dsimp (disch:=try exact zo)only[go_sem,hPl,ea,ea2,hm,k1,k2,ZT,zl,hHa,hHb]|contradiction|rfl)
      all_goals exact AW.stop ⟨⟨k+1,by omega⟩,(aR (by refine⟨?_,?_,?_,?_⟩<;>simp -dsimp (disch:=try exact zo)only[go_sem,hst,ZC])),by dsimp only;omega⟩
    ·have k1:=eq_false q1
     have k2:True:=trivial
     rw[if_neg (fun e=>q1 e.1),List.append_nil]at hst
     clear q1
     repeat'(first|refine zk ?_|(refine zu ?_ ?_<;>intro hc)|(first|refine zf ca ?_|refine zf cb ?_)|(refine zv ?_ ?_<;>intro hg)|omega|simp -dsimp (disch:=try exact zo)only[go_sem,hPl,ea,ea2,hm,k1,k2,ZT,zl,hHa,hHb]|contradiction|rfl)
     all_goals exact AW.stop ⟨⟨k+1,by omega⟩,(aR (by refine⟨?_,?_,?_,?_⟩<;>simp -dsimp (disch:=try exact zo)only[go_sem,hst,ZC])),by dsimp only;omega⟩
   ·have hkl:k=P.length:=by omega
    subst hkl
    have hfB:bhR b (l.take (i+1))=B++[(sp,P)]:=hst0
    have hfH:onL b (esP (B++[(sp,P)]))=mE b H P P.length:=by rw[hfH0,c8l]
    clear hPb hst0
    repeat'(first|refine zk ?_|(refine zu ?_ ?_<;>intro hc)|(refine zv ?_ ?_<;>intro hg)|omega|simp -dsimp (disch:=try exact zo)only[go_sem,hPl,zl]|contradiction|rfl)
    all_goals exact AW.stop ⟨⟨i+1,by omega⟩,(aR (by refine⟨?_,?_,?_,?_⟩<;>simp -dsimp (disch:=try exact zo)only[go_sem,hfH,hfB,ZC])),by dsimp only;omega⟩
  ·have k0:((P.length:Int)<3)=True:=eq_true (by omega)
   rw[if_neg h3,List.append_nil]at hst0
   have hst:=hst0
   clear hst0 hPb
   repeat'(first|refine zk ?_|(refine zu ?_ ?_<;>intro hc)|(refine zq cc ?_)|(refine zv ?_ ?_<;>intro hg)|omega|simp -dsimp (disch:=try exact zo)only[go_sem,hl,es1,ZT,zl,k0,hBl,hBm]|contradiction|rfl)
   all_goals exact AW.stop ⟨⟨i+1,by omega⟩,(aR (by refine⟨?_,?_,?_,?_⟩<;>simp -dsimp (disch:=try exact zo)only[go_sem,hst,hHe,ZC])),by dsimp only;omega⟩
 ·have hil:i=l.length:=by omega
  subst hil
  rw[List.take_length]
  have hHn:=hEn l.length
  rw[List.take_length]at hHn
  rw[c9w h hS]at hHn ⊢
  have C:=tI h hS
  have hbl:=qR (b:=b) h.toCanC
  have hBn:(bh b l).length≤l.length:=List.length_filterMap_le _ _
  have hcl:=C.cl
  have hnx:=C.nx
  have hne:=C.ne
  have hcap:nI b (bh b l)=aW (nxP ((heP b l).map Geo.sw)) (heP b l).length (((heP b l).map (·.2)).headD P0):=rfl
  have hf0:=a4v (d:=P0) (show (heP b l).map (·.2)≠[] by simpa using hne)
  have hon:onL b (esP (bh b l))=heP b l:=rfl
  unfold jI
  rw[hon]at hHn ⊢
  rw[hcap]
  clear h hS hv hEn C hbl
  generalize nxP ((heP b l).map Geo.sw)=nx at *
  generalize heP b l=H at *
  generalize hfe:(H.map (·.2)).headD P0=f0 at *
  have ef0:((H.map (·.2)).map eP).getD 0 []=eP f0:=by
   cases H with
   | nil=>exact absurd rfl hne
   | cons e H=>rw[← hfe];rfl
  generalize bh b l=B at *
  have hBl:(eS B).length=B.length:=List.length_map _
  have hHa:((H.map (·.2)).map eP).length=H.length:=by rw[List.length_map,List.length_map]
  have hHb:((H.map (·.1)).map eP).length=H.length:=by rw[List.length_map,List.length_map]
  have hn0:0<H.length:=List.length_pos_iff.2 hne
  have k0:((H.length:Int)=0)=False:=eq_false (by omega)
  have hr1:aW nx 1 f0=[f0]:=rfl
  simp only[eP,e4]at ef0
  repeat'(first|refine zk ?_|(refine zu ?_ ?_<;>intro hc)|(refine zv ?_ ?_<;>intro hg)|omega|simp -dsimp (disch:=try exact zo)only[go_sem,hHa,hHb,zl,k0,ef0,hl]|contradiction|rfl)
  have hbB:eS (B++[(b,aW nx H.length f0)])=eS B++[eG b (aW nx H.length f0)]:=by rw[a9p];rfl
  rw[hbB]
  clear hcap hon hfe ef0 hlt hi hb
  refine AW.loop (fun z:{j:Nat // 1≤j∧j≤H.length}=>⟨[(13,.ref 71 0 z.1 z.1),(6,.ref 14 0 (H).length (H).length),(7,.ref 15 0 (H).length (H).length),(2,.loc 8 0),(3,.loc 9 0),(4,.loc 10 0),(5,.loc 12 0)],[(71,.vec 8 ((aW nx z.1 f0).map eP)),(12,.blk [.ref 19 0 (B).length (B).length]),(19,.vec 9 (eS (B))),(14,.vec 8 (((H).map (·.2)).map eP)),(15,.vec 8 (((H).map (·.1)).map eP)),(8,.blk [.sl (eS l)]),(9,.blk (eH b)),(10,.blk [.lit (.slice none 0 0)])],80⟩) (fun z=>H.length - z.1) ⟨1,Nat.le_refl _,hn0⟩ (aR (by refine⟨?_,?_,?_,?_⟩<;>simp -dsimp (disch:=try exact zo)only[go_sem,hr1,List.map_cons,List.map_nil,ZC])) ?_
  rintro⟨j,hj1,hj⟩
  dsimp only
  have hRl:((aW nx j f0).map eP).length=j:=by rw[List.length_map,oZ]
  by_cases hjt:j<H.length
  ·have hlm:itP nx (j - 1) f0∈H.map (·.2):=a7t hcl _ hf0
   have hRn:aW nx (j+1) f0=aW nx j f0++[nx (itP nx (j - 1) f0)]:=by
    have e1:=sZ nx (j - 1) f0
    rw[show j - 1+1=j by omega]at e1
    rw[u6,e1]
   have el:((aW nx j f0).map eP).getD (j - 1) []=eP (itP nx (j - 1) f0):=by
    obtain⟨q,rfl⟩:∃ q,j=q+1:=⟨j - 1,by omega⟩
    rw[u6,List.map_append,List.getD_eq_getElem?_getD,List.getElem?_append_right (by simp[oZ])]
    simp[oZ]
   have hj1':((j:Int) - 1).toNat=j - 1:=by omega
   generalize hRR:aW nx j f0=R at *
   generalize itP nx (j - 1) f0=last at *
   simp only[eP,e4]at el
   clear hcl hf0 hbB
   repeat'(first|refine zk ?_|(refine zu ?_ ?_<;>intro hc)|(refine zv ?_ ?_<;>intro hg)|omega|simp -dsimp (disch:=try exact zo)only[go_sem,hHa,zl,hRl,k0]|contradiction|rfl)
   refine AW.loop (fun z:{i:Nat // i≤H.length∧∀ q,q<i→∀ h:q<H.length,H[q].2≠last}=>⟨[(14,.lit (.int .i64 z.1)),(13,.ref 71 0 j j),(6,.ref 14 0 (H).length (H).length),(7,.ref 15 0 (H).length (H).length),(2,.loc 8 0),(3,.loc 9 0),(4,.loc 10 0),(5,.loc 12 0)],[(71,.vec 8 (R.map eP)),(12,.blk [.ref 19 0 (B).length (B).length]),(19,.vec 9 (eS (B))),(14,.vec 8 (((H).map (·.2)).map eP)),(15,.vec 8 (((H).map (·.1)).map eP)),(8,.blk [.sl (eS l)]),(9,.blk (eH b)),(10,.blk [.lit (.slice none 0 0)])],100⟩) (fun z=>H.length - z.1) ⟨0,Nat.zero_le _,fun q hq=>by omega⟩ (aR (by refine⟨?_,?_,?_,?_⟩<;>simp -dsimp (disch:=try exact zo)only[go_sem,ZC])) ?_
   rintro⟨i,hi,hbe⟩
   dsimp only
   by_cases hit:i<H.length
   ·have ea:((H.map (·.2)).map eP).getD i []=eP H[i].2:=by rw[fD _ i (by simpa using hit),List.getElem_map]
    have et:((H.map (·.1)).map eP).getD i []=eP H[i].1:=by rw[fD _ i (by simpa using hit),List.getElem_map]
    have hnxi:=hnx _ (List.getElem_mem hit)
    by_cases e:H[i].2=last
    ·have hRn2:aW nx (j+1) f0=R++[H[i].1]:=by rw[hRn,← e,hnxi]
     have k1:(H[i].2.x=last.x∧H[i].2.y=last.y∧H[i].2.z=last.z∧H[i].2.w=last.w)=True:=eq_true (by rw[e];simp)
     have hRm:(aW nx (j+1) f0).map eP=R.map eP++[eP H[i].1]:=by rw[hRn2];simp
     clear hbe hnx hnxi hRn hRn2 hlm e
     generalize H[i].2=u at *
     generalize H[i].1=w at *
     simp only[eP,e4]at ea et
     repeat'(first|refine zk ?_|(refine zu ?_ ?_<;>intro hc)|(refine zv ?_ ?_<;>intro hg)|omega|simp -dsimp (disch:=try exact zo)only[go_sem,hHa,hHb,hRl,zl,ea,el,et,hj1',k1,ZT]|contradiction|rfl)
     all_goals exact AW.stop ⟨⟨j+1,by omega,by omega⟩,(aR (by refine⟨?_,?_,?_,?_⟩<;>first|(simp -dsimp (disch:=try exact zo)only[go_sem,hRm,hRl,zl,ZC];done)|(simp -dsimp (disch:=try exact zo)only[go_sem,ZC];done))),by dsimp only;omega⟩
    ·have k1:(H[i].2.x=last.x∧H[i].2.y=last.y∧H[i].2.z=last.z∧H[i].2.w=last.w)=False:=eq_false fun q=>e (c8f q)
     have hbe2:∀ q,q<i+1→∀ h:q<H.length,H[q].2≠last:=fun q hq h=>by
      by_cases q':q=i
      ·subst q';exact e
      ·exact hbe q (by omega) h
     clear hbe hnx hnxi hRn hlm e
     generalize H[i].2=u at *
     generalize H[i].1=w at *
     simp only[eP,e4]at ea et
     replace hbe2:=Hid.mk hbe2
     repeat'(first|refine zk ?_|(refine zu ?_ ?_<;>intro hc)|(refine zv ?_ ?_<;>intro hg)|omega|simp -dsimp (disch:=try exact zo)only[go_sem,hHa,hHb,hRl,zl,ea,el,et,hj1',k1,ZT]|contradiction|rfl)
     all_goals exact AW.stop ⟨⟨i+1,by omega,hbe2.out⟩,(aR (by refine⟨?_,?_,?_,?_⟩<;>simp -dsimp (disch:=try exact zo)only[go_sem,ZC])),by dsimp only;omega⟩
   ·exfalso
    obtain⟨e,he,q⟩:=List.mem_map.1 hlm
    obtain⟨t,ht,rfl⟩:=List.mem_iff_getElem.1 he
    exact hbe t (by omega) ht q
  ·have hjl:j=H.length:=by omega
   subst hjl
   generalize aW nx H.length f0=R at *
   refine AW.weak (kJ 71 H.length 8 (R.map eP) (t:=[(13,.sl (R.map eP)),(6,.ref 14 0 (H).length (H).length),(7,.ref 15 0 (H).length (H).length),(2,.loc 8 0),(3,.loc 9 0),(4,.loc 10 0),(5,.loc 12 0)]) (o:=[(12,.blk [.ref 19 0 (B).length (B).length]),(19,.vec 9 (eS (B))),(14,.vec 8 (((H).map (·.2)).map eP)),(15,.vec 8 (((H).map (·.1)).map eP)),(8,.blk [.sl (eS l)]),(9,.blk (eH b)),(10,.blk [.lit (.slice none 0 0)])]) rfl hRl (by simp -dsimp (disch:=try exact zo)only[go_sem,and_self]) (by simp -dsimp (disch:=try exact zo)only[go_sem,and_self])) ?_
   clear hcl hnx hf0 hbB
   repeat'(first|refine zk ?_|(refine zu ?_ ?_<;>intro hc)|(refine zv ?_ ?_<;>intro hg)|omega|simp -dsimp (disch:=try exact zo)only[go_sem,hHa,hRl,zl,hBl,List.take_of_length_le,Nat.zero_lt_succ]|contradiction|rfl)
end Go.Proofs.Vx
namespace Go.Proofs.Vx
open Go Go.Sx Go.Proofs Tryz
attribute [local irreducible] fnT CallOK CallFr AW aJ callV aL aI aH aM gcaseP hid
def ev (e:Pt × Pt):Value:=.agg #[.bool (Zn e.1.x),.string (Zm e.1.x),.bool (Zn e.1.y),.string (Zm e.1.y),.bool (Zn e.1.z),.string (Zm e.1.z),.bool (Zn e.1.w),.string (Zm e.1.w),.bool (Zn e.2.x),.string (Zm e.2.x),.bool (Zn e.2.y),.string (Zm e.2.y),.bool (Zn e.2.z),.string (Zm e.2.z),.bool (Zn e.2.w),.string (Zm e.2.w)]
end Go.Proofs.Vx
namespace Go.Sx
set_option linter.unusedVariables false
set_option linter.unusedSimpArgs false
inductive OT
 | fin
 | none
 | alt (j:Nat) (t r:OT)
def runT (P:Program) (nt:Nat) (ops:List Oper) (N:Nat):OT→AS→(AS→Prop)→Prop
 | .fin,S,K=>K S
 | .none,_,_=>True
 | .alt j t r,S,K=>aH P nt ops (ops.getD j default) (N+j) S (fun S' _=>runT P nt ops N t S' K) (tg _)∧runT P nt ops N r S K
theorem b8u (P:Program) (nt:Nat) (ops:List Oper) (N:Nat) (S:AS) (K:AS→Prop):runT P nt ops N .fin S K=K S:=rfl
theorem b5c (P:Program) (nt:Nat) (ops:List Oper) (N:Nat) (S:AS) (K:AS→Prop):runT P nt ops N .none S K=True:=rfl
theorem c8c (P:Program) (nt:Nat) (o0:Oper) (l:List Oper) (N:Nat) (t r:OT) (S:AS) (K:AS→Prop):runT P nt (o0::l) N (.alt 0 t r) S K=(aH P nt (o0::l) o0 (N+0) S (fun S' _=>runT P nt (o0::l) N t S' K) (tg _)∧runT P nt (o0::l) N r S K):=rfl
theorem c8b (P:Program) (nt:Nat) (o0 o1:Oper) (l:List Oper) (N:Nat) (t r:OT) (S:AS) (K:AS→Prop):runT P nt (o0::o1::l) N (.alt 1 t r) S K=(aH P nt (o0::o1::l) o1 (N+1) S (fun S' _=>runT P nt (o0::o1::l) N t S' K) (tg _)∧runT P nt (o0::o1::l) N r S K):=rfl
theorem c8a (P:Program) (nt:Nat) (o0 o1 o2:Oper) (l:List Oper) (N:Nat) (t r:OT) (S:AS) (K:AS→Prop):runT P nt (o0::o1::o2::l) N (.alt 2 t r) S K=(aH P nt (o0::o1::o2::l) o2 (N+2) S (fun S' _=>runT P nt (o0::o1::o2::l) N t S' K) (tg _)∧runT P nt (o0::o1::o2::l) N r S K):=rfl
theorem c7z (P:Program) (nt:Nat) (o0 o1 o2 o3:Oper) (l:List Oper) (N:Nat) (t r:OT) (S:AS) (K:AS→Prop):runT P nt (o0::o1::o2::o3::l) N (.alt 3 t r) S K=(aH P nt (o0::o1::o2::o3::l) o3 (N+3) S (fun S' _=>runT P nt (o0::o1::o2::o3::l) N t S' K) (tg _)∧runT P nt (o0::o1::o2::o3::l) N r S K):=rfl
theorem c7y (P:Program) (nt:Nat) (o0 o1 o2 o3 o4:Oper) (l:List Oper) (N:Nat) (t r:OT) (S:AS) (K:AS→Prop):runT P nt (o0::o1::o2::o3::o4::l) N (.alt 4 t r) S K=(aH P nt (o0::o1::o2::o3::o4::l) o4 (N+4) S (fun S' _=>runT P nt (o0::o1::o2::o3::o4::l) N t S' K) (tg _)∧runT P nt (o0::o1::o2::o3::o4::l) N r S K):=rfl
theorem c7x (P:Program) (nt:Nat) (o0 o1 o2 o3 o4 o5:Oper) (l:List Oper) (N:Nat) (t r:OT) (S:AS) (K:AS→Prop):runT P nt (o0::o1::o2::o3::o4::o5::l) N (.alt 5 t r) S K=(aH P nt (o0::o1::o2::o3::o4::o5::l) o5 (N+5) S (fun S' _=>runT P nt (o0::o1::o2::o3::o4::o5::l) N t S' K) (tg _)∧runT P nt (o0::o1::o2::o3::o4::o5::l) N r S K):=rfl
theorem c7w (P:Program) (nt:Nat) (o0 o1 o2 o3 o4 o5 o6:Oper) (l:List Oper) (N:Nat) (t r:OT) (S:AS) (K:AS→Prop):runT P nt (o0::o1::o2::o3::o4::o5::o6::l) N (.alt 6 t r) S K=(aH P nt (o0::o1::o2::o3::o4::o5::o6::l) o6 (N+6) S (fun S' _=>runT P nt (o0::o1::o2::o3::o4::o5::o6::l) N t S' K) (tg _)∧runT P nt (o0::o1::o2::o3::o4::o5::o6::l) N r S K):=rfl
attribute [go_sem] b8u b5c c8c c8b c8a c7z c7y c7x c7w
end Go.Sx
