import Derived.Test.YtjlfgmhmalbiiaaGreatDoorV26
set_option linter.all false
set_option maxHeartbeats 40000000
namespace Go.Proofs.Vx
open Go Go.Sx Go.Proofs Tryz
attribute [local irreducible] fnT CallOK CallFr AW aJ callV aL aI aH aM gcaseP hid
theorem c6r:fnT prog 69=true:=by kernel_rfl
theorem a8o:fnT prog 71=true:=by kernel_rfl
theorem m9 {A V i : Nat} {ob : Nat → AV} {E : Eff → Prop} {l m : aD} {arg : AV} (hAV : A ≠ V) (hin : ∀ K, In K arg) (hc : CallOK prog 69 [.loc A 0, arg] [(A, .blk [.ref V 0 l.length l.length]), (V, .vec 9 (eS l))] (.tup []) [(A, .blk [.ref V 0 m.length m.length]), (V, .vec 9 (eS m))])
  (h1:ob A=.blk [.ref V 0 l.length l.length]) (h2:ob V=.vec 9 (eS l)) (h:E ⟨.tup [],[(A,.blk [.ref V 0 m.length m.length]),(V,.vec 9 (eS m))],[A,V]⟩):callV prog 69 [.loc A 0,arg] i ob E:=by
 refine kK _ _ _ c6r hc ?_ ?_ ?_ ?_ (.tup _ (by simp)) ?_ ?_ ?_ h
 ·intro p hp
  simp only[zM,or_false]at hp
  rcases hp with rfl|rfl
  ·exact h1
  ·exact h2
 ·intro x hx
  simp only[zM,or_false]at hx
  rcases hx with rfl|rfl
  ·exact .loc _ _ (by simp)
  ·exact hin _
 ·intro p hp
  simp only[zM,or_false]at hp
  rcases hp with rfl|rfl
  ·intro c hc
   simp only[zM,or_false]at hc
   subst hc
   exact .ref _ _ _ _ (by simp)
  ·exact fun e he c hc=>of_eq_true (lL _) e he c hc
 ·simp[hAV]
 ·intro p hp
  simp only[zM,or_false]at hp
  rcases hp with rfl|rfl
  ·refine⟨by simp,fun c hc=>?_⟩
   simp only[zM,or_false]at hc
   subst hc
   exact .ref _ _ _ _ (by simp)
  ·exact⟨by simp,fun e he c hc=>of_eq_true (lL _) e he c hc⟩
 ·simp
 ·intro p hp
  simp only[zM,or_false]at hp
  rcases hp with rfl|rfl<;>rfl
theorem inG0 (K:Nat→Prop):In K (.agg eG0):=.agg _ (by intro c hc;simp only[zM,or_false]at hc;rcases hc with rfl|rfl|rfl|rfl|rfl|rfl|rfl|rfl|rfl<;>exact .lit _)
theorem a9o (l:aD) (p:Pl) (vs:List Pt):eS (l++[(p,vs)])=eS l++[eG p vs]:=List.map_append
theorem b1i {es:List (List AV)} {L:Nat} (h:es.length=L):(if 0<L then AV.sl (es.take L)else if L=0 then AV.sl []else AV.any)=AV.sl es:=by
 split
 ·rw[List.take_of_length_le (by omega)]
 ·have:L=0:=by omega
  subst this
  rw[if_pos rfl,List.eq_nil_of_length_eq_zero h]
theorem c21c (l : aD) (b : Pl) (hb : BPl 1073741824 b) (hn : l.length ≤ 1048576) (hv : ∀ s ∈ l, s.2.length ≤ 268435456 ∧ ∀ v ∈ s.2, CanP v ∧ BPt 1073741824 v) (hm : (bA l).length ≤ 268435456) (hM131 : ∀ s ∈ l, s.2.length ≤ 131072) (hn4 : l.length ≤ 1024) (hcap : (cV b (cM (-1) b l)).1.length ≤ 268435456) (hcap2 : (cV (aT b) (cM 1 b l)).1.length ≤ 268435456) (hkb : ∀ h, ∀ s ∈ cM h b l, s.2.length ≤ 1048576 ∧ ∀ v ∈ s.2, BPt 1073741824 v) (hf : aX b l = true) (hbh : aY b l = true) :
  CallOK prog 21 [.agg [.sl (eS l)],.agg (eH b)] [] (.tup [.agg [.sl (eS (cM (-1) b l++[(b,b7 b (cM (-1) b l))]))],.agg [.sl (eS (cM 1 b l++[(aT b,b7 (aT b) (cM 1 b l))]))]]) []:=by
 refine eA func21 rfl 84 rfl rfl (by simp -dsimp (disch:=try exact zo)only[go_sem]) [.cell 4 33,.cell 5 33] (congrArg Array.toList results21) ?_
 simp only[aC,Nat.reduceAdd]
 have hml:maxLen=9223372036854775807:=rfl
 have hl:(eS l).length=l.length:=List.length_map _
 repeat'(first|refine zk ?_|(refine zu ?_ ?_<;>intro hc)|(refine zq (c27 l hn hv hm) ?_)|(refine zv ?_ ?_<;>intro hg)|omega|simp -dsimp (disch:=try exact zo)only[go_sem,hl,zl]|contradiction|rfl)
 have hV:=yB l
 have hfA:(eF l).any (fun v=>decide (0<aB b v))=aX b l:=pB l _
 have hbA:(eF l).any (fun v=>decide (aB b v<0))=aY b l:=pB l _
 have hvb:∀ v∈eF l,BPt 1073741824 v:=fun v hvm=>by
  obtain⟨s,hs,hvm⟩:=sF.1 hvm
  exact ((hv s hs).2 v hvm).2
 generalize eF l=vs at *
 have hvl:(vs.map eP).length=vs.length:=List.length_map _
 refine AW.loop (fun z:{i:Nat // i≤vs.length}=>⟨[(21,.lit (.int .i64 z.1)),(20,.lit (.int .i64 vs.length)),(19,.sl (vs.map eP)),(6,.lit (.bool (cP (fun v=>decide (aB b v<0)) vs z.1))),(7,.lit (.bool (cP (fun v=>decide (0<aB b v)) vs z.1))),(2,.loc 8 0),(3,.loc 9 0),(4,.loc 10 0),(5,.loc 11 0)],[(8,.blk [.sl (eS l)]),(9,.blk (eH b)),(10,.blk [.lit (.slice none 0 0)]),(11,.blk [.lit (.slice none 0 0)])],60⟩) (fun z=>vs.length - z.1) ⟨0,Nat.zero_le _⟩ (aR (by refine⟨?_,?_,?_,?_⟩<;>simp -dsimp (disch:=try exact zo)only[go_sem,vW,ZC])) ?_
 rintro⟨i,hi⟩
 dsimp only
 by_cases hlt:i<vs.length
 ·clear hfA hbA
  have ea:=fD vs i hlt
  have hsb:=mM (fun v=>decide (aB b v<0)) vs i hlt
  have hsf:=mM (fun v=>decide (0<aB b v)) vs i hlt
  have ha:=hvb _ (List.getElem_mem hlt)
  clear hv hvb
  generalize vs[i]=a at *
  simp only[eP,e4]at ea
  generalize cP (fun v=>decide (aB b v<0)) vs i=bb at *
  generalize cP (fun v=>decide (0<aB b v)) vs i=ff at *
  by_cases q1:aB b a<0<;>by_cases q2:0<aB b a
  ·omega
  all_goals
   have k1:=(show (aB b a<0)=_∧(0<aB b a)=_ from⟨(by first|exact eq_true q1|exact eq_false q1),(by first|exact eq_true q2|exact eq_false q2)⟩)
   clear q1 q2
   obtain⟨k1,k2⟩:=k1
   simp only[k1,k2,decide_true,decide_false]at hsb hsf
   cases bb<;>cases ff<;>(try simp only[Bool.true_or,Bool.false_or,Bool.or_true,Bool.or_false]at hsb)<;>(try simp only[Bool.true_or,Bool.false_or,Bool.or_true,Bool.or_false]at hsf)
  all_goals
   repeat'(first|refine zk ?_|(refine zu ?_ ?_<;>intro hc)|(refine zf (c34 b a hb ha) ?_)|(refine zv ?_ ?_<;>intro hg)|omega|simp -dsimp (disch:=try exact zo)only[go_sem,hl,hvl,ea,k1,k2,zl,ZT]|contradiction|rfl)
  all_goals exact AW.stop ⟨⟨i+1,by omega⟩,zw,by dsimp only;omega⟩
 ·have hil:i=vs.length:=by omega
  subst hil
  rw[mQ,mQ,hfA,hbA]
  rw[hf,hbh]
  clear hvb hvl hfA hbA hV hi hlt
  repeat'(first|refine zk ?_|(refine zu ?_ ?_<;>intro hc)|(refine zv ?_ ?_<;>intro hg)|omega|simp -dsimp (disch:=try exact zo)only[go_sem,hl,zl]|contradiction|rfl)
  have hk0:cM (-1) b []=[]:=rfl
  have hk1:cM 1 b []=[]:=rfl
  have hz:eS []=[]:=rfl
  refine AW.loop (fun z:{i:Nat // i≤l.length}=>⟨[(52,.lit (.int .i64 z.1)),(51,.lit (.int .i64 l.length)),(13,.clo 69 []),(11,.loc 67 0),(12,.loc 68 0),(50,.sl (eS l)),(2,.loc 8 0),(3,.loc 9 0),(4,.loc 10 0),(5,.loc 11 0)],[(67,.blk [.ref 74 0 (cM (-1) b (l.take z.1)).length (cM (-1) b (l.take z.1)).length]),(74,.vec 9 (eS (cM (-1) b (l.take z.1)))),(68,.blk [.ref 75 0 (cM 1 b (l.take z.1)).length (cM 1 b (l.take z.1)).length]),(75,.vec 9 (eS (cM 1 b (l.take z.1)))),(9,.blk (eH b)),(10,.blk [.lit (.slice none 0 0)]),(11,.blk [.lit (.slice none 0 0)])],110⟩) (fun z=>l.length - z.1) ⟨0,Nat.zero_le _⟩ (Weak.trans (iP 67 0 9 _ (by decide) rfl (by simp) rfl (by simp)) (Weak.trans (iP 68 0 9 _ (by decide) rfl (by simp) rfl (by simp)) (aR (by refine⟨?_,?_,?_,?_⟩<;>simp -dsimp (disch:=try exact zo)only[go_sem,List.take_zero,hk0,hk1,hz,List.length_nil,ZC])))) ?_
  rintro⟨i,hi⟩
  dsimp only
  by_cases hlt:i<l.length
  ·have es1:=p6 l i hlt
   have hL2:=a4o (-1) b l i hlt
   have hM2:=a4o 1 b l i hlt
   have hLn:=wI (-1) b (l.take i)
   have hMn:=wI 1 b (l.take i)
   have htl:(l.take i).length≤l.length:=List.length_take_le' _ _
   have hvs:=hv _ (List.getElem_mem hlt)
   have hMs:=hM131 _ (List.getElem_mem hlt)
   generalize l[i]=sd at *
   obtain⟨sp,svs⟩:=sd
   dsimp only at es1 hL2 hM2 hvs hMs
   generalize cM (-1) b (l.take i)=L at *
   generalize cM 1 b (l.take i)=M at *
   have hlL:(eS L).length=L.length:=List.length_map _
   have hlM:(eS M).length=M.length:=List.length_map _
   have c70x:=c70 sp b svs hvs.1 (fun v hvm=>(hvs.2 v hvm).1) (fun v hvm=>(hvs.2 v hvm).2) hb
   have hin70:∀ K,∀ x∈[prt (-1) sp b svs,prt 1 sp b svs],In K x:=fun K x hx=>by
    simp only[zM,or_false]at hx
    rcases hx with rfl|rfl<;>exact xC _ _ _ _
   have hin70:=hin70 (fun _=>False)
   have pa:=pE (-1) b svs
   have pb:=pE 1 b svs
   simp only[eG]at es1
   unfold prt at c70x hin70
   clear hv hm hcap hcap2 hkb hvs hf hbh
   cases hA:bE (-1) b svs svs.length<;>cases hB:bE 1 b svs svs.length
   ·have hL:True:=trivial
    have hM:True:=trivial
    simp only[hA,hB,reduceIte,Bool.false_eq_true,List.append_nil]at hL2 hM2 c70x hin70
    repeat'(first|refine zk ?_|(refine zu ?_ ?_<;>intro hc)|(refine zp c70x (by simp -dsimp (disch:=try exact zo)only[go_sem]) (.tup _ hin70) ?_)|(first|(refine m9 (by decide) (fun _=>inG0 _) (xU (by decide) L (by omega)) rfl rfl ?_)|(refine m9 (by decide) (fun _=>inG0 _) (xU (by decide) M (by omega)) rfl rfl ?_))|(refine zv ?_ ?_<;>intro hg)|omega|simp -dsimp (disch:=try exact zo)only[go_sem,hl,es1,zl,ZT,hlL,hlM]|contradiction|rfl)
    all_goals exact AW.stop ⟨⟨i+1,by omega⟩,(aR (by refine⟨?_,?_,?_,?_⟩<;>first|(simp -dsimp (disch:=try exact zo)only[go_sem,hL2,hM2,List.length_append,ZC,hlL,hlM,zl];done)|(simp -dsimp (disch:=try exact zo)only[go_sem,ZC];done))),by dsimp only;omega⟩
   ·have hL:True:=trivial
    have hM:=wS (h:=1) (by decide) hB
    simp only[hA,hB,reduceIte,Bool.false_eq_true,List.append_nil]at hL2 hM2 c70x hin70
    repeat'(first|refine zk ?_|(refine zu ?_ ?_<;>intro hc)|(refine zp c70x (by simp -dsimp (disch:=try exact zo)only[go_sem]) (.tup _ hin70) ?_)|(first|(refine m9 (by decide) (fun _=>inG0 _) (xU (by decide) L (by omega)) rfl rfl ?_)|(refine m9 (by decide) (fun _=>(gM _ _).in) (xV (by decide) M (by omega) sp (bB (1) b svs) hM (by omega)) rfl rfl ?_))|(refine zv ?_ ?_<;>intro hg)|omega|simp -dsimp (disch:=try exact zo)only[go_sem,hl,es1,zl,ZT,hlL,hlM]|contradiction|rfl)
    all_goals exact AW.stop ⟨⟨i+1,by omega⟩,(aR (by refine⟨?_,?_,?_,?_⟩<;>first|(simp -dsimp (disch:=try exact zo)only[go_sem,hL2,hM2,List.length_append,ZC,hlL,hlM,zl];done)|(simp -dsimp (disch:=try exact zo)only[go_sem,ZC];done))),by dsimp only;omega⟩
   ·have hL:=wS (h:=-1) (by decide) hA
    have hM:True:=trivial
    simp only[hA,hB,reduceIte,Bool.false_eq_true,List.append_nil]at hL2 hM2 c70x hin70
    repeat'(first|refine zk ?_|(refine zu ?_ ?_<;>intro hc)|(refine zp c70x (by simp -dsimp (disch:=try exact zo)only[go_sem]) (.tup _ hin70) ?_)|(first|(refine m9 (by decide) (fun _=>(gM _ _).in) (xV (by decide) L (by omega) sp (bB (-1) b svs) hL (by omega)) rfl rfl ?_)|(refine m9 (by decide) (fun _=>inG0 _) (xU (by decide) M (by omega)) rfl rfl ?_))|(refine zv ?_ ?_<;>intro hg)|omega|simp -dsimp (disch:=try exact zo)only[go_sem,hl,es1,zl,ZT,hlL,hlM]|contradiction|rfl)
    all_goals exact AW.stop ⟨⟨i+1,by omega⟩,(aR (by refine⟨?_,?_,?_,?_⟩<;>first|(simp -dsimp (disch:=try exact zo)only[go_sem,hL2,hM2,List.length_append,ZC,hlL,hlM,zl];done)|(simp -dsimp (disch:=try exact zo)only[go_sem,ZC];done))),by dsimp only;omega⟩
   ·have hL:=wS (h:=-1) (by decide) hA
    have hM:=wS (h:=1) (by decide) hB
    simp only[hA,hB,reduceIte,Bool.false_eq_true,List.append_nil]at hL2 hM2 c70x hin70
    repeat'(first|refine zk ?_|(refine zu ?_ ?_<;>intro hc)|(refine zp c70x (by simp -dsimp (disch:=try exact zo)only[go_sem]) (.tup _ hin70) ?_)|(first|(refine m9 (by decide) (fun _=>(gM _ _).in) (xV (by decide) L (by omega) sp (bB (-1) b svs) hL (by omega)) rfl rfl ?_)|(refine m9 (by decide) (fun _=>(gM _ _).in) (xV (by decide) M (by omega) sp (bB (1) b svs) hM (by omega)) rfl rfl ?_))|(refine zv ?_ ?_<;>intro hg)|omega|simp -dsimp (disch:=try exact zo)only[go_sem,hl,es1,zl,ZT,hlL,hlM]|contradiction|rfl)
    all_goals exact AW.stop ⟨⟨i+1,by omega⟩,(aR (by refine⟨?_,?_,?_,?_⟩<;>first|(simp -dsimp (disch:=try exact zo)only[go_sem,hL2,hM2,List.length_append,ZC,hlL,hlM,zl];done)|(simp -dsimp (disch:=try exact zo)only[go_sem,ZC];done))),by dsimp only;omega⟩
  ·have hil:i=l.length:=by omega
   subst hil
   rw[List.take_length]
   have hLn:=wI (-1) b l
   have hMn:=wI 1 b l
   have kL:=hkb (-1)
   have kM:=hkb 1
   clear hv hm hf hbh hkb
   generalize cM (-1) b l=L at *
   generalize cM 1 b l=M at *
   have hlL:(eS L).length=L.length:=List.length_map _
   have hlM:(eS M).length=M.length:=List.length_map _
   have cA:=c71 L b hb (by omega) kL hcap
   have cB:=c71 M (aT b) hb.neg (by omega) kM hcap2
   have hbwL:=b1i hlL
   have hbwM:=b1i hlM
   have hbL:eS L++[eG b (b7 b L)]=eS (L++[(b,b7 b L)]):=(a9o _ _ _).symm
   have hbM:eS M++[eG (aT b) (b7 (aT b) M)]=eS (M++[(aT b,b7 (aT b) M)]):=(a9o _ _ _).symm
   have hfL:(eS (L++[(b,b7 b L)])).take (L.length+1)=eS (L++[(b,b7 b L)]):=List.take_of_length_le (by simp)
   have hfM:(eS (M++[(aT b,b7 (aT b) M)])).take (M.length+1)=eS (M++[(aT b,b7 (aT b) M)]):=List.take_of_length_le (by simp)
   have hpL:(0<L.length+1)=True:=by simp
   have hpM:(0<M.length+1)=True:=by simp
   generalize b7 b L=cl at *
   generalize b7 (aT b) M=cm at *
   clear kL kM hcap hcap2
   repeat'(first|refine zk ?_|(refine zu ?_ ?_<;>intro hc)|(first|refine fV _ a8o (by simp -dsimp (disch:=try exact zo)only[go_sem,hlL,hbwL,hbwM];exact cA) (by simp -dsimp (disch:=try exact zo)only[go_sem,hlL,hbwL]) (gM _ _).in ?_|refine fV _ a8o (by simp -dsimp (disch:=try exact zo)only[go_sem,hlM,hbwL,hbwM];exact cB) (by simp -dsimp (disch:=try exact zo)only[go_sem,hlM,hbwM]) (gM _ _).in ?_)|(refine zf (c22 b hb) ?_)|(refine zv ?_ ?_<;>intro hg)|omega|simp -dsimp (disch:=try exact zo)only[go_sem,hl,zl,hlL,hlM,hbL,hbM,hfL,hfM,hpL,hpM]|contradiction|rfl)
end Go.Proofs.Vx
namespace Go.Proofs.Vx
open Go Go.Sx Go.Proofs Tryz
attribute [local irreducible] fnT CallOK CallFr AW aJ callV aL aI aH aM gcaseP hid
theorem b2v {S M:Nat} {l:aD} (h:∀ s∈l,s.2.length≤M) (hn:l.length≤S):(bA l).length≤S*M:=by
 have key:(bA l).length≤l.length*M:=by
  clear hn
  induction l with
  | nil=>simp[bA]
  | cons s l ih =>
   have h1:=h s (by simp)
   have h2:=ih fun t ht=>h t (by simp[ht])
   simp only[bA,List.flatMap_cons,List.length_append,List.length_cons,Nat.add_mul,Nat.one_mul]at h2 ⊢
   omega
 exact Nat.le_trans key (Nat.mul_le_mul_right _ hn)
abbrev BdC (l:aD):Prop:=Bd 64 4096 100000 l
theorem hv_of {l:aD} (hc:CanC l) (h:BdC l):∀ s∈l,s.2.length≤268435456∧∀ v∈s.2,CanP v∧BPt 1073741824 v:=fun s hs=>⟨Nat.le_trans (h.m s hs) (by decide),fun v hv=>⟨hc.can s hs v hv,(h.k s hs v hv).mono (by decide)⟩⟩
theorem c21x (l:aD) (b:Pl) (hc:OkC l) (h:BdC l) (hb:BPl 100000 b):CallOK prog 21 [.agg [.sl (eS l)],.agg (eH b)] [] (.tup [.agg [.sl (eS (aO b l).1)],.agg [.sl (eS (aO b l).2)]]) []:=by
 have hb':=hb.mono (show 100000≤1073741824 by decide)
 have hn:l.length≤1048576:=Nat.le_trans h.n (by decide)
 have hm:(bA l).length≤268435456:=Nat.le_trans (b2v h.m h.n) (by decide)
 have hv:=hv_of hc.can h
 by_cases hf:aX b l=false
 ·have e:aO b l=(l,[]):=by unfold aO;rw[if_pos hf]
  rw[e]
  exact (c21a l b hb' hn hv hm hf).wk fun g v=>wF (fun v h=>h) fun v h=>vO h
 ·have hf':aX b l=true:=by simpa using hf
  by_cases hbh:aY b l=false
  ·have e:aO b l=([],l):=by unfold aO;rw[if_neg hf,if_pos hbh]
   rw[e]
   exact (c21b l b hb' hn hv hm hf' hbh).wk fun g v=>wF (fun v h=>vO h) fun v h=>h
  ·have hb2:aY b l=true:=by simpa using hbh
   have hco:CellOK l:=hc.elim (fun e=>by subst e;simp[aX]at hf') id
   have e:aO b l=(g9 b l,g9 (aT b) l):=by unfold aO;rw[if_neg hf,if_neg hbh]
   have S1:=fY hco hf' hb2
   have S2:=fY (b:=aT b) hco (by rw[kQ];exact hb2) (by rw[mI];exact hf')
   have B1:=a2b h hb
   have B2:=a2b h hb.neg
   have k2:=c0i (b:=b) hco.toCanC
   have C1:=(tG hco S1).2.2.2
   have C2:=(tG hco S2).2.2.2
   have:=c21c l b hb' hn hv hm (fun s hs=>Nat.le_trans (h.m s hs) (by decide)) (Nat.le_trans h.n (by decide)) (by rw[a7s];have:=B1.n;omega) (by rw[k2];have:=B2.n;omega) (by
    intro hh s hs
    have hp:s.2.length≤2*4096∧∀ v∈s.2,BPt (100000+2*100000+4) v:=by
     obtain⟨t,ht,e⟩:=List.mem_filterMap.1 hs
     by_cases hq:bE hh b t.2 t.2.length=true
     ·rw[if_pos hq]at e
      obtain rfl:=Option.some.inj e
      refine⟨?_,zI hb (h.k t ht)⟩
      have:=pE hh b t.2
      have:=h.m t ht
      show (bB hh b t.2).length≤_
      omega
     ·rw[if_neg hq]at e;contradiction
    exact⟨Nat.le_trans hp.1 (by decide),fun v hv=>(hp.2 v hv).mono (by decide)⟩) hf' hb2
   rw[e]
   rw[a7s,k2]at this
   exact this
end Go.Proofs.Vx
namespace Go.Proofs.Vx
open Go Go.Sx Go.Proofs Tryz
attribute [local irreducible] fnT CallOK CallFr AW aJ callV aL aI aH aM gcaseP hid
theorem qD (p:Pt):Rat.divInt p.x p.w=(tv p).x∧Rat.divInt p.y p.w=(tv p).y∧Rat.divInt p.z p.w=(tv p).z:=⟨Rat.divInt_eq_div _ _,Rat.divInt_eq_div _ _,Rat.divInt_eq_div _ _⟩
structure QV (k:Nat) (v:Geo.V):Prop where
 x:Qs k v.x
 y:Qs k v.y
 z:Qs k v.z
theorem QV.mono {k l:Nat} {v:Geo.V} (h:QV k v) (hl:k≤l):QV l v:=⟨h.x.mono hl,h.y.mono hl,h.z.mono hl⟩
theorem oJ {p:Pt} {k:Nat} (hc:CanP p) (h:BPt k p):QV k (tv p):=by
 have hw:p.w≠0:=by have:=hc.w;omega
 refine⟨?_,?_,?_⟩
 ·rw[← (qD p).1];exact Qs.divInt hw h.out.a h.out.d
 ·rw[← (qD p).2.1];exact Qs.divInt hw h.out.b h.out.d
 ·rw[← (qD p).2.2];exact Qs.divInt hw h.out.c h.out.d
theorem a0y {a b:Geo.V} {k:Nat} (ha:QV k a) (hb:QV k b):QV (2*k+1) (a - b):=by
 refine⟨(ha.x.sub hb.x).mono (by omega),(ha.y.sub hb.y).mono (by omega),(ha.z.sub hb.z).mono (by omega)⟩
theorem c1o {a b:Geo.V} {k:Nat} (ha:QV k a) (hb:QV k b):QV (4*k+1) (Geo.aA a b) :=
 ⟨((ha.y.mul hb.z).sub (ha.z.mul hb.y)).mono (by omega),((ha.z.mul hb.x).sub (ha.x.mul hb.z)).mono (by omega),((ha.x.mul hb.y).sub (ha.y.mul hb.x)).mono (by omega)⟩
theorem c9z {a b:Geo.V} {k l:Nat} (ha:QV k a) (hb:QV l b):QV (k+l+1) (a+b):=⟨ha.x.add hb.x,ha.y.add hb.y,ha.z.add hb.z⟩
end Go.Proofs.Vx
namespace Go.Proofs.Vx
open Go Go.Sx Go.Proofs Tryz
attribute [local irreducible] fnT CallOK CallFr AW aJ callV aL aI aH aM gcaseP hid
theorem b7r:agT prog 140=some true∧agT prog 141=some true∧arT prog 140=some (3,1,false)∧arT prog 141=some (4,3,true)∧bI prog 140=false∧bI prog 141=false∧szT prog 140=some 3∧szT prog 141=some 12∧zeT prog 140=some [.lit (.int .i64 0),.lit (.int .i64 0),.lit (.int .i64 0)]:=by and_intros<;>kernel_rfl
attribute [go_sem] b7r
theorem c2z (a b c:Int):CanP (wpt a b c):=⟨by show (0:Int)<1;decide,by show g4 (1000*a) (1000*b) (1000*c) 1=1;unfold g4;exact Nat.gcd_one_right _⟩
theorem mkW (a b c:Int):mkP ((a*1000:Int):Rat) ((b*1000:Int):Rat) ((c*1000:Int):Rat)=wpt a b c:=by
 refine lI (a0i _ _ _) (c2z a b c) ?_
 rw[a0v]
 have e:∀ x:Int,((x*1000:Int):Rat)=((1000*x:Int):Rat) / ((1:Int):Rat):=fun x=>by
  rw[Int.mul_comm]
  have:((1:Int):Rat)=1:=rfl
  rw[this]
  grind
 rw[e a,e b,e c]
 rfl
theorem i0 {a:Int} (h:a=1∨a=-1):-9223372036854775808≤a*1000∧a*1000<9223372036854775808:=by omega
theorem iZ {a:Int} (h:a=1∨a=-1):IntKind.i64.wrap (a*1000)=a*1000:=wrap64 (by omega) (by omega)
theorem i4 {a:Int} (h:a=1∨a=-1):Qs 1073741824 ((a*1000:Int):Rat):=by
 refine⟨?_,by show (nb 1).size≤_;rw[tQ];decide⟩
 rcases h with rfl|rfl
 ·exact Nat.le_trans ((cJ 1000 2).2 (by decide)) (by decide)
 ·exact Nat.le_trans ((cJ (-1000) 2).2 (by decide)) (by decide)
set_option maxRecDepth 20000 in
theorem rV (p:Pl) (a0 b0 c0 a1 b1 c1 a2 b2 c2 a3 b3 c3:Int) (ha0:a0=1∨a0=-1) (hb0:b0=1∨b0=-1) (hc0:c0=1∨c0=-1) (ha1:a1=1∨a1=-1) (hb1:b1=1∨b1=-1) (hc1:c1=1∨c1=-1) (ha2:a2=1∨a2=-1) (hb2:b2=1∨b2=-1) (hc2:c2=1∨c2=-1) (ha3:a3=1∨a3=-1) (hb3:b3=1∨b3=-1) (hc3:c3=1∨c3=-1):CallNw prog 122 [.agg (eH p),.agg [.lit (.int .i64 a0),.lit (.int .i64 b0),.lit (.int .i64 c0),.lit (.int .i64 a1),.lit (.int .i64 b1),.lit (.int .i64 c1),.lit (.int .i64 a2),.lit (.int .i64 b2),.lit (.int .i64 c2),.lit (.int .i64 a3),.lit (.int .i64 b3),.lit (.int .i64 c3)]] (.agg (eG p [wpt a0 b0 c0,wpt a1 b1 c1,wpt a2 b2 c2,wpt a3 b3 c3])):=by
 refine CallNw.flat func122 rfl 37 rfl rfl (gM _ _) [.cell 4 58] (congrArg Array.toList results122) ?_
 simp only[aC,Nat.reduceAdd]
 have hml:maxLen=9223372036854775807:=rfl
 have qa0:=i4 ha0
 have ra0:=i0 ha0
 have wa0:=iZ ha0
 clear ha0
 have qb0:=i4 hb0
 have rb0:=i0 hb0
 have wb0:=iZ hb0
 clear hb0
 have qc0:=i4 hc0
 have rc0:=i0 hc0
 have wc0:=iZ hc0
 clear hc0
 have qa1:=i4 ha1
 have ra1:=i0 ha1
 have wa1:=iZ ha1
 clear ha1
 have qb1:=i4 hb1
 have rb1:=i0 hb1
 have wb1:=iZ hb1
 clear hb1
 have qc1:=i4 hc1
 have rc1:=i0 hc1
 have wc1:=iZ hc1
 clear hc1
 have qa2:=i4 ha2
 have ra2:=i0 ha2
 have wa2:=iZ ha2
 clear ha2
 have qb2:=i4 hb2
 have rb2:=i0 hb2
 have wb2:=iZ hb2
 clear hb2
 have qc2:=i4 hc2
 have rc2:=i0 hc2
 have wc2:=iZ hc2
 clear hc2
 have qa3:=i4 ha3
 have ra3:=i0 ha3
 have wa3:=iZ ha3
 clear ha3
 have qb3:=i4 hb3
 have rb3:=i0 hb3
 have wb3:=iZ hb3
 clear hb3
 have qc3:=i4 hc3
 have rc3:=i0 hc3
 have wc3:=iZ hc3
 clear hc3
 repeat'(first|refine zk ?_|(refine zu ?_ ?_<;>intro hc)|(refine zv ?_ ?_<;>intro hg)|omega|simp -dsimp (disch:=try exact zo)only[go_sem]|contradiction|rfl)
 refine AW.weak (iP 13 8 8 _ (by decide) rfl (by simp) rfl (by simp)) ?_
 refine AW.weak (show Weak _ ⟨[(14,.lit (.int .i64 0)),(13,.agg [.lit (.int .i64 a0),.lit (.int .i64 b0),.lit (.int .i64 c0),.lit (.int .i64 a1),.lit (.int .i64 b1),.lit (.int .i64 c1),.lit (.int .i64 a2),.lit (.int .i64 b2),.lit (.int .i64 c2),.lit (.int .i64 a3),.lit (.int .i64 b3),.lit (.int .i64 c3)]),(5,.loc 13 0),(4,.loc 10 0)],[(13,.blk [.lit (.bool (Zn p.a)),.lit (.string (Zm p.a)),.lit (.bool (Zn p.b)),.lit (.string (Zm p.b)),.lit (.bool (Zn p.c)),.lit (.string (Zm p.c)),.lit (.bool (Zn p.d)),.lit (.string (Zm p.d)),.ref 17 0 0 0]),(17,.vec 8 ([]:List (List AV))),(10,.blk eG0)],30⟩from zw) ?_
 repeat'(first|refine zg ?_|refine dJ 6 ?_|(refine zc ?_ ?_<;>intro hc<;>try simp only[NM]at hc)|refine zn ?_|(first|refine zf (c68 (a0*1000) ra0) ?_|refine zf (c68 (b0*1000) rb0) ?_|refine zf (c68 (c0*1000) rc0) ?_|refine zf (c68 (a1*1000) ra1) ?_|refine zf (c68 (b1*1000) rb1) ?_|refine zf (c68 (c1*1000) rc1) ?_|refine zf (c68 (a2*1000) ra2) ?_|refine zf (c68 (b2*1000) rb2) ?_|refine zf (c68 (c2*1000) rc2) ?_|refine zf (c68 (a3*1000) ra3) ?_|refine zf (c68 (b3*1000) rb3) ?_|refine zf (c68 (c3*1000) rc3) ?_)|(refine zf (c96 _ _ _ (by assumption) (by assumption) (by assumption)) ?_)|refine⟨by omega,?_⟩|(refine zb ?_ ?_<;>intro hg<;>(try rw[hg])<;>try simp only[NM]at hg)|omega|simp -dsimp (disch:=try exact zo)only[go_sem,mkW,wa0,wb0,wc0,wa1,wb1,wc1,wa2,wb2,wc2,wa3,wb3,wc3]|contradiction|rfl)
end Go.Proofs.Vx
namespace Go.Proofs.Vx
open Go Go.Sx Go.Proofs Tryz
attribute [local irreducible] fnT CallOK CallFr AW aJ callV aL aI aH aM gcaseP hid
theorem b7q:arT prog 145=none∧slT prog 145=some (140,3)∧bI prog 145=false:=by and_intros<;>kernel_rfl
attribute [go_sem] b7q
set_option maxRecDepth 20000 in
theorem c121 (a0 b0 c0 a1 b1 c1 a2 b2 c2 a3 b3 c3:Int):CallOK prog 121 [.bs 0 0 3 4] [(0,.blk [.lit (.int .i64 a0),.lit (.int .i64 b0),.lit (.int .i64 c0),.lit (.int .i64 a1),.lit (.int .i64 b1),.lit (.int .i64 c1),.lit (.int .i64 a2),.lit (.int .i64 b2),.lit (.int .i64 c2),.lit (.int .i64 a3),.lit (.int .i64 b3),.lit (.int .i64 c3)])] (.tup []) [(0,.blk [.lit (.int .i64 a3),.lit (.int .i64 b3),.lit (.int .i64 c3),.lit (.int .i64 a2),.lit (.int .i64 b2),.lit (.int .i64 c2),.lit (.int .i64 a1),.lit (.int .i64 b1),.lit (.int .i64 c1),.lit (.int .i64 a0),.lit (.int .i64 b0),.lit (.int .i64 c0)])]:=by
 refine fB func121 rfl 28 rfl rfl (by simp) (.tup _ (by simp)) (by
  intro q hq
  simp only[zM,or_false]at hq
  subst hq
  refine⟨by simp,fun c hc=>?_⟩
  simp only[zM,or_false]at hc
  rcases hc with rfl|rfl|rfl|rfl|rfl|rfl|rfl|rfl|rfl|rfl|rfl|rfl<;>exact .lit _) [] (congrArg Array.toList results121) ?_
 simp only[aC,Nat.reduceAdd]
 repeat'(first|refine zg ?_|refine dJ 6 ?_|(refine zc ?_ ?_<;>intro hc<;>first|simp only[NM]at hc|omega|skip)|refine zr ?_|(refine AW.nil (b5 ?_ ?_)<;>simp -dsimp (disch:=try exact zo)only[go_sem])|refine⟨by omega,?_⟩|(refine zb ?_ ?_<;>intro hg<;>(try rw[hg])<;>try simp only[NM]at hg)|omega|simp -dsimp (disch:=try exact zo)only[go_sem,Int.cast_ofNat_Int]|contradiction|rfl)
end Go.Proofs.Vx
namespace Go.Proofs.Vx
open Go Go.Sx Go.Proofs Tryz
attribute [local irreducible] fnT CallOK CallFr AW aJ callV aL aI aH aM gcaseP hid
theorem b7p:arT prog 139=none∧arT prog 142=some (2,1,false)∧arT prog 143=some (4,2,true)∧plT prog 142=some [(0,1),(1,1)]∧plT prog 143=some [(0,2),(2,2),(4,2),(6,2)]∧slT prog 139=some (2,1)∧slT prog 140=none∧slT prog 141=none∧slT prog 142=none∧bI prog 139=false∧bI prog 143=false∧szT prog 142=some 2∧szT prog 2=some 1∧zeT prog 141=some [.lit (.int .i64 0),.lit (.int .i64 0),.lit (.int .i64 0),.lit (.int .i64 0),.lit (.int .i64 0),.lit (.int .i64 0),.lit (.int .i64 0),.lit (.int .i64 0),.lit (.int .i64 0),.lit (.int .i64 0),.lit (.int .i64 0),.lit (.int .i64 0)]∧zeT prog 142=some [.lit (.int .i64 0),.lit (.int .i64 0)]∧zeT prog 143=some [.lit (.int .i64 0),.lit (.int .i64 0),.lit (.int .i64 0),.lit (.int .i64 0),.lit (.int .i64 0),.lit (.int .i64 0),.lit (.int .i64 0),.lit (.int .i64 0)]∧zeT prog 2=some [.lit (.int .i64 0)]:=by and_intros<;>kernel_rfl
attribute [go_sem] b7p
theorem zY:fnT prog 121=true:=by kernel_rfl
theorem pS:fnT prog 122=true:=by kernel_rfl
set_option maxRecDepth 20000 in
theorem c57:CallOK prog 57 [] [] (.agg [.sl (eS aK)]) []:=by
 refine eA func57 rfl 77 rfl rfl (by simp -dsimp (disch:=try exact zo)only[go_sem]) [.cell 0 33] (congrArg Array.toList results57) ?_
 simp only[aC,Nat.reduceAdd]
 have hml:maxLen=9223372036854775807:=rfl
 repeat'(first|refine zg ?_|(refine zc ?_ ?_<;>intro hc<;>try simp only[NM]at hc)|refine zr ?_|(first|refine zf (c67 1000 (by decide)) ?_|refine zf (c67 (-1) (by decide)) ?_|refine zf (c67 1 (by decide)) ?_)|refine⟨by omega,?_⟩|(refine zb ?_ ?_<;>intro hg<;>(try rw[hg])<;>try simp only[NM]at hg)|omega|simp -dsimp (disch:=try exact zo)only[go_sem]|contradiction|rfl)
 refine AW.weak (iP 9 0 9 _ (by decide) rfl (by simp) rfl (by simp)) ?_
 have hwl:eS (List.take 6 aK)=eS aK:=rfl
 have hz:eS (aK.take 0)=[]:=rfl
 refine AW.loop (fun z:{i:Nat // i≤3}=>⟨[(11,.lit (.int .i64 z.1)),(2,.loc 11 0),(1,.loc 9 0),(0,.loc 8 0)],[(11,.blk (eZ 1000)),(9,.blk [.ref 14 0 (2*z.1) (2*z.1)]),(14,.vec 9 (eS (aK.take (2*z.1)))),(8,.blk [.lit (.slice none 0 0)])],30⟩) (fun z=>3 - z.1) ⟨0,Nat.zero_le _⟩ (aR (by refine⟨?_,?_,?_,?_⟩<;>simp -dsimp (disch:=try exact zo)only[go_sem,Nat.mul_zero,hz,ZC])) ?_
 rintro⟨i,hi⟩
 dsimp only
 rcases (show i=0∨i=1∨i=2∨i=3 by omega)with rfl|rfl|rfl|rfl
 ·have hE:eS (List.take 2 aK)=eS (List.take 0 aK)++[eG ⟨-1,0,0,1000⟩ [wpt (-1) (-1) (1),wpt (-1) (1) (1),wpt (-1) (1) (-1),wpt (-1) (-1) (-1)]]++[eG ⟨1,0,0,1000⟩ [wpt (1) (-1) (-1),wpt (1) (1) (-1),wpt (1) (1) (1),wpt (1) (-1) (1)]]:=rfl
  have hlE:(eS (List.take 0 aK)).length=0:=rfl
  have he0:AV.agg [.lit (.bool (Zn (-1))),.lit (.string (Zm (-1))),.lit (.bool false),.lit (.string ⟨#[]⟩),.lit (.bool false),.lit (.string ⟨#[]⟩),.lit (.bool (Zn (1000))),.lit (.string (Zm (1000)))]=.agg (eH ⟨-1,0,0,1000⟩):=by simp only[eH,e4,lG,eU]
  have w0:=rV ⟨-1,0,0,1000⟩ (-1) (-1) (1) (-1) (1) (1) (-1) (1) (-1) (-1) (-1) (-1) (by decide) (by decide) (by decide) (by decide) (by decide) (by decide) (by decide) (by decide) (by decide) (by decide) (by decide) (by decide)
  have he1:AV.agg [.lit (.bool (Zn (1))),.lit (.string (Zm (1))),.lit (.bool false),.lit (.string ⟨#[]⟩),.lit (.bool false),.lit (.string ⟨#[]⟩),.lit (.bool (Zn (1000))),.lit (.string (Zm (1000)))]=.agg (eH ⟨1,0,0,1000⟩):=by simp only[eH,e4,lG,eU]
  have w1:=rV ⟨1,0,0,1000⟩ (1) (-1) (-1) (1) (1) (-1) (1) (1) (1) (1) (-1) (1) (by decide) (by decide) (by decide) (by decide) (by decide) (by decide) (by decide) (by decide) (by decide) (by decide) (by decide) (by decide)
  simp only[Nat.reduceMul]
  generalize eS (List.take 0 aK)=E at *
  repeat'(first|refine zg ?_|refine dJ 6 ?_|(refine zc ?_ ?_<;>intro hc<;>first|simp only[NM]at hc|omega|skip)|refine zr ?_|(first|refine zf (c67 1000 (by decide)) ?_|refine zf (c67 (-1) (by decide)) ?_|refine zf (c67 1 (by decide)) ?_)|(refine mH _ _ _ _ zY (o9 (c121 _ _ _ _ _ _ _ _ _ _ _ _) (by simp -dsimp (disch:=try exact zo)only[go_sem]) (by simp -dsimp (disch:=try exact zo)only[go_sem]) (.tup _ (by simp)) (by simp[jL]) _) rfl (by simp[x7]) (by simp -dsimp (disch:=try exact zo)only[go_sem]) (by simp -dsimp (disch:=try exact zo)only[go_sem]) (.tup _ (by simp)) rfl ?_)|(first|refine fV _ pS (by simp -dsimp (disch:=try exact zo)only[go_sem];rw[he0];exact w0) (by simp -dsimp (disch:=try exact zo)only[go_sem]) (gM _ _).in ?_|refine fV _ pS (by simp -dsimp (disch:=try exact zo)only[go_sem];rw[he1];exact w1) (by simp -dsimp (disch:=try exact zo)only[go_sem]) (gM _ _).in ?_)|refine⟨by omega,?_⟩|(refine zb ?_ ?_<;>intro hg<;>(try rw[hg])<;>try simp only[NM]at hg)|omega|simp -dsimp (disch:=try exact zo)only[go_sem,Int.cast_ofNat_Int,hlE,Int.reduceMod,Int.reduceTMod]|rfl)
  all_goals exact AW.stop ⟨⟨1,by omega⟩,(mW (by simp -dsimp (disch:=try exact zo)only[go_sem,Int.cast_ofNat_Int]) (by simp -dsimp (disch:=try exact zo)only[go_sem,hE,Int.cast_ofNat_Int];try rfl) (by decide) (by simp -dsimp (disch:=try exact zo)only[go_sem,Int.cast_ofNat_Int]) (by simp -dsimp (disch:=try exact zo)only[go_sem,Int.cast_ofNat_Int])),by dsimp only;omega⟩
 ·have hE:eS (List.take 4 aK)=eS (List.take 2 aK)++[eG ⟨0,-1,0,1000⟩ [wpt (1) (-1) (-1),wpt (1) (-1) (1),wpt (-1) (-1) (1),wpt (-1) (-1) (-1)]]++[eG ⟨0,1,0,1000⟩ [wpt (-1) (1) (-1),wpt (-1) (1) (1),wpt (1) (1) (1),wpt (1) (1) (-1)]]:=rfl
  have hlE:(eS (List.take 2 aK)).length=2:=rfl
  have he0:AV.agg [.lit (.bool false),.lit (.string ⟨#[]⟩),.lit (.bool (Zn (-1))),.lit (.string (Zm (-1))),.lit (.bool false),.lit (.string ⟨#[]⟩),.lit (.bool (Zn (1000))),.lit (.string (Zm (1000)))]=.agg (eH ⟨0,-1,0,1000⟩):=by simp only[eH,e4,lG,eU]
  have w0:=rV ⟨0,-1,0,1000⟩ (1) (-1) (-1) (1) (-1) (1) (-1) (-1) (1) (-1) (-1) (-1) (by decide) (by decide) (by decide) (by decide) (by decide) (by decide) (by decide) (by decide) (by decide) (by decide) (by decide) (by decide)
  have he1:AV.agg [.lit (.bool false),.lit (.string ⟨#[]⟩),.lit (.bool (Zn (1))),.lit (.string (Zm (1))),.lit (.bool false),.lit (.string ⟨#[]⟩),.lit (.bool (Zn (1000))),.lit (.string (Zm (1000)))]=.agg (eH ⟨0,1,0,1000⟩):=by simp only[eH,e4,lG,eU]
  have w1:=rV ⟨0,1,0,1000⟩ (-1) (1) (-1) (-1) (1) (1) (1) (1) (1) (1) (1) (-1) (by decide) (by decide) (by decide) (by decide) (by decide) (by decide) (by decide) (by decide) (by decide) (by decide) (by decide) (by decide)
  simp only[Nat.reduceMul]
  generalize eS (List.take 2 aK)=E at *
  repeat'(first|refine zg ?_|refine dJ 6 ?_|(refine zc ?_ ?_<;>intro hc<;>first|simp only[NM]at hc|omega|skip)|refine zr ?_|(first|refine zf (c67 1000 (by decide)) ?_|refine zf (c67 (-1) (by decide)) ?_|refine zf (c67 1 (by decide)) ?_)|(refine mH _ _ _ _ zY (o9 (c121 _ _ _ _ _ _ _ _ _ _ _ _) (by simp -dsimp (disch:=try exact zo)only[go_sem]) (by simp -dsimp (disch:=try exact zo)only[go_sem]) (.tup _ (by simp)) (by simp[jL]) _) rfl (by simp[x7]) (by simp -dsimp (disch:=try exact zo)only[go_sem]) (by simp -dsimp (disch:=try exact zo)only[go_sem]) (.tup _ (by simp)) rfl ?_)|(first|refine fV _ pS (by simp -dsimp (disch:=try exact zo)only[go_sem];rw[he0];exact w0) (by simp -dsimp (disch:=try exact zo)only[go_sem]) (gM _ _).in ?_|refine fV _ pS (by simp -dsimp (disch:=try exact zo)only[go_sem];rw[he1];exact w1) (by simp -dsimp (disch:=try exact zo)only[go_sem]) (gM _ _).in ?_)|refine⟨by omega,?_⟩|(refine zb ?_ ?_<;>intro hg<;>(try rw[hg])<;>try simp only[NM]at hg)|omega|simp -dsimp (disch:=try exact zo)only[go_sem,Int.cast_ofNat_Int,hlE,Int.reduceMod,Int.reduceTMod]|rfl)
  all_goals exact AW.stop ⟨⟨2,by omega⟩,(mW (by simp -dsimp (disch:=try exact zo)only[go_sem,Int.cast_ofNat_Int]) (by simp -dsimp (disch:=try exact zo)only[go_sem,hE,Int.cast_ofNat_Int];try rfl) (by decide) (by simp -dsimp (disch:=try exact zo)only[go_sem,Int.cast_ofNat_Int]) (by simp -dsimp (disch:=try exact zo)only[go_sem,Int.cast_ofNat_Int])),by dsimp only;omega⟩
 ·have hE:eS (List.take 6 aK)=eS (List.take 4 aK)++[eG ⟨0,0,-1,1000⟩ [wpt (-1) (1) (-1),wpt (1) (1) (-1),wpt (1) (-1) (-1),wpt (-1) (-1) (-1)]]++[eG ⟨0,0,1,1000⟩ [wpt (-1) (-1) (1),wpt (1) (-1) (1),wpt (1) (1) (1),wpt (-1) (1) (1)]]:=rfl
  have hlE:(eS (List.take 4 aK)).length=4:=rfl
  have he0:AV.agg [.lit (.bool false),.lit (.string ⟨#[]⟩),.lit (.bool false),.lit (.string ⟨#[]⟩),.lit (.bool (Zn (-1))),.lit (.string (Zm (-1))),.lit (.bool (Zn (1000))),.lit (.string (Zm (1000)))]=.agg (eH ⟨0,0,-1,1000⟩):=by simp only[eH,e4,lG,eU]
  have w0:=rV ⟨0,0,-1,1000⟩ (-1) (1) (-1) (1) (1) (-1) (1) (-1) (-1) (-1) (-1) (-1) (by decide) (by decide) (by decide) (by decide) (by decide) (by decide) (by decide) (by decide) (by decide) (by decide) (by decide) (by decide)
  have he1:AV.agg [.lit (.bool false),.lit (.string ⟨#[]⟩),.lit (.bool false),.lit (.string ⟨#[]⟩),.lit (.bool (Zn (1))),.lit (.string (Zm (1))),.lit (.bool (Zn (1000))),.lit (.string (Zm (1000)))]=.agg (eH ⟨0,0,1,1000⟩):=by simp only[eH,e4,lG,eU]
  have w1:=rV ⟨0,0,1,1000⟩ (-1) (-1) (1) (1) (-1) (1) (1) (1) (1) (-1) (1) (1) (by decide) (by decide) (by decide) (by decide) (by decide) (by decide) (by decide) (by decide) (by decide) (by decide) (by decide) (by decide)
  simp only[Nat.reduceMul]
  generalize eS (List.take 4 aK)=E at *
  repeat'(first|refine zg ?_|refine dJ 6 ?_|(refine zc ?_ ?_<;>intro hc<;>first|simp only[NM]at hc|omega|skip)|refine zr ?_|(first|refine zf (c67 1000 (by decide)) ?_|refine zf (c67 (-1) (by decide)) ?_|refine zf (c67 1 (by decide)) ?_)|(refine mH _ _ _ _ zY (o9 (c121 _ _ _ _ _ _ _ _ _ _ _ _) (by simp -dsimp (disch:=try exact zo)only[go_sem]) (by simp -dsimp (disch:=try exact zo)only[go_sem]) (.tup _ (by simp)) (by simp[jL]) _) rfl (by simp[x7]) (by simp -dsimp (disch:=try exact zo)only[go_sem]) (by simp -dsimp (disch:=try exact zo)only[go_sem]) (.tup _ (by simp)) rfl ?_)|(first|refine fV _ pS (by simp -dsimp (disch:=try exact zo)only[go_sem];rw[he0];exact w0) (by simp -dsimp (disch:=try exact zo)only[go_sem]) (gM _ _).in ?_|refine fV _ pS (by simp -dsimp (disch:=try exact zo)only[go_sem];rw[he1];exact w1) (by simp -dsimp (disch:=try exact zo)only[go_sem]) (gM _ _).in ?_)|refine⟨by omega,?_⟩|(refine zb ?_ ?_<;>intro hg<;>(try rw[hg])<;>try simp only[NM]at hg)|omega|simp -dsimp (disch:=try exact zo)only[go_sem,Int.cast_ofNat_Int,hlE,Int.reduceMod,Int.reduceTMod]|rfl)
  all_goals exact AW.stop ⟨⟨3,by omega⟩,(mW (by simp -dsimp (disch:=try exact zo)only[go_sem,Int.cast_ofNat_Int]) (by simp -dsimp (disch:=try exact zo)only[go_sem,hE,Int.cast_ofNat_Int];try rfl) (by decide) (by simp -dsimp (disch:=try exact zo)only[go_sem,Int.cast_ofNat_Int]) (by simp -dsimp (disch:=try exact zo)only[go_sem,Int.cast_ofNat_Int])),by dsimp only;omega⟩
 ·exact z1
end Go.Proofs.Vx
namespace Go.Sx
set_option linter.unusedVariables false
def w8:List Int→Int
 | []=>0
 | d::t=>d+256*w8 t
def gI (xs:List Int):Prop:=∀ x∈xs,0≤x∧x<256
theorem nT (n:Nat):(256:Int) ^ (n+1)=256*256 ^ n:=by rw[Int.pow_succ,Int.mul_comm]
theorem zK (n:Nat):((256 ^ n:Nat):Int)=(256:Int) ^ n:=Int.natCast_pow 256 n
theorem zJ (n:Nat):(0:Int)<256 ^ n:=Int.pow_pos (by decide)
theorem a4b (a b:List Int):w8 (a++b)=w8 a+256 ^ a.length*w8 b:=by
 induction a with
 | nil=>simp[w8]
 | cons x a ih =>
  simp only[List.cons_append,w8,ih,List.length_cons,nT,Int.mul_add,Int.mul_assoc]
  omega
theorem a8w (n:Nat):w8 (List.replicate n 0)=0:=by
 induction n with
 | zero=>rfl
 | succ n ih=>simp[List.replicate_succ,w8,ih]
theorem a8v {xs:List Int} {i:Nat} (h:i<xs.length) (d:Int):w8 (xs.set i d)=w8 xs+(d - xs.getD i 0)*256 ^ i:=by
 induction xs generalizing i with
 | nil=>simp at h
 | cons x xs ih =>
  cases i with
  | zero=>simp[w8];omega
  | succ i =>
   have:=ih (i:=i) (by simpa using h)
   simp only[List.set_cons_succ,w8,this,List.getD_cons_succ,nT,Int.mul_add,Int.mul_left_comm (256:Int)]
   omega
theorem a6h {xs:List Int} (h:gI xs) {i:Nat} {d:Int} (hd:0≤d∧d<256):gI (xs.set i d):=fun x hx=>by
 rcases List.mem_or_eq_of_mem_set hx with hx|rfl
 ·exact h x hx
 ·exact hd
theorem pN {xs:List Int} (h:gI xs) {d:Int} (hd:0≤d∧d<256):gI (xs++[d]):=fun x hx=>by
 rcases List.mem_append.1 hx with hx|hx
 ·exact h x hx
 ·obtain rfl:x=d:=by simpa using hx
  exact hd
theorem a4z {xs:List Int} (h:gI xs) (i:Nat):0≤xs.getD i 0∧xs.getD i 0<256:=by
 rw[List.getD_eq_getElem?_getD]
 by_cases hi:i<xs.length
 ·rw[List.getElem?_eq_getElem hi];exact h _ (List.getElem_mem hi)
 ·rw[List.getElem?_eq_none (by omega)];decide
theorem b0e {xs:List Int} (h:gI xs):0≤w8 xs∧w8 xs<256 ^ xs.length:=by
 induction xs with
 | nil=>decide
 | cons x xs ih =>
  obtain⟨i1,i2⟩:=ih fun y hy=>h y (by simp[hy])
  have:=h x (by simp)
  simp only[w8,List.length_cons,nT]
  omega
theorem c4f {xs:List Int} (h:gI xs):(nvL (ofI xs):Int)=w8 xs:=by
 induction xs with
 | nil=>rfl
 | cons x xs ih =>
  have ih:=ih fun y hy=>h y (by simp[hy])
  have hx:=h x (by simp)
  have e:(UInt8.ofNat x.toNat).toNat=x.toNat:=by
   rw[UInt8.toNat_ofNat'];exact Nat.mod_eq_of_lt (by omega)
  simp only[ofI,List.map_cons,nvL,w8,e]at ih ⊢
  rw[← ih]
  omega
def bM (m:ByteArray) (i:Nat):Int:=((nv m % 256 ^ i:Nat):Int)
theorem vR (m:ByteArray):bM m 0=0:=by simp[bM,Nat.mod_one]
theorem pK {m:ByteArray} {i:Nat} (h:m.size≤i):bM m i=(nv m:Int):=by
 unfold bM
 rw[Nat.mod_eq_of_lt (Nat.lt_of_lt_of_le (eW m) (Nat.pow_le_pow_right (by decide) h))]
theorem pF (m:ByteArray) (i:Nat):bM m (i+1)=bM m i+bt m i*256 ^ i:=by
 unfold bM
 rw[j5]
 have h:nv m % 256 ^ (i+1)=nv m % 256 ^ i+256 ^ i*(nv m / 256 ^ i % 256):=by rw[Nat.pow_succ,Nat.mod_mul]
 rw[h,Int.natCast_add,Int.natCast_mul,zK,Int.mul_comm ((256:Int) ^ i)]
theorem a7r (m:ByteArray) (i:Nat):0≤bM m i∧bM m i<256 ^ i:=by
 unfold bM
 have h:=Nat.mod_lt (nv m) (Nat.pow_pos (n:=i) (show 0<256 by decide))
 have h2:=zK i
 omega
theorem b2l (m:ByteArray) (i:Nat):0≤bM m i:=(a7r m i).1
theorem a1o {m:ByteArray} {i:Nat} (h:m.size≤i):bt m i=0:=by
 unfold bt
 have:m.data.getD i 0=0:=by
  simp only[Array.getD_eq_getD_getElem?]
  rw[Array.getElem?_eq_none (by exact h)];rfl
 rw[this];rfl
def cF (m:ByteArray) (i:Nat):Nat:=nv m / 256 ^ i
theorem a3q (m:ByteArray):cF m 0=nv m:=by simp[cF]
theorem a4u {m:ByteArray} {i:Nat} (h:m.size≤i):cF m i=0:=Nat.div_eq_of_lt (Nat.lt_of_lt_of_le (eW m) (Nat.pow_le_pow_right (by decide) h))
theorem b3y (m:ByteArray) (i:Nat):cF m i=(bt m i).toNat+256*cF m (i+1):=by
 unfold cF
 rw[j5,Int.toNat_natCast,Nat.pow_succ,← Nat.div_div_eq_div_mul]
 omega
end Go.Sx
