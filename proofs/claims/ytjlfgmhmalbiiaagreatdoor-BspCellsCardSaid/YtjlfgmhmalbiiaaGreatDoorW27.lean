import Derived.Test.YtjlfgmhmalbiiaaGreatDoorW26
set_option linter.all false
set_option maxHeartbeats 40000000
open Array renaming toList → Am
open Bool renaming false_eq_true → Af, false_or → Av, or_false → Aw, true_or → Ax, or_true → Ay
open Int renaming cast_ofNat_Int → Aa, reduceTMod → An, reduceMod → Aq, mul_comm → Az, mul_add → A4
open List renaming take → Ac, length_append → Ad, length_map → Ae, take_of_length_le → Ag, getElem_mem → Ah, append_nil → Ai, length_cons → Al
open Nat renaming le_trans → Ab, reduceAdd → Ak, pow_le_pow_right → Ao, reduceMul → Ap, lt_of_lt_of_le → Ar, mod_eq_of_lt → As, zero_le → At, pow_succ → A3
open Rat renaming divInt_eq_div → Aj, divInt → Au
namespace Go.Proofs.Vx
open Go Go.Sx Go.Proofs Tryz
attribute [local irreducible] fnT CallOK CallFr AW aI callV aL aJ aH aK gcaseP hid
theorem c7r:fnT prog 69=true:=by kernel_rfl
theorem a9a:fnT prog 71=true:=by kernel_rfl
theorem nB {A V i : Nat} {ob : Nat → AV} {E : Eff → Prop} {l m : aC} {arg : AV} (hAV : A ≠ V) (hin : ∀ K, In K arg) (hc : CallOK prog 69 [.loc A 0, arg] [(A, .blk [.ref V 0 l.length l.length]), (V, .vec 9 (eS l))] (.tup []) [(A, .blk [.ref V 0 m.length m.length]), (V, .vec 9 (eS m))])
  (h1:ob A=.blk [.ref V 0 l.length l.length]) (h2:ob V=.vec 9 (eS l)) (h:E ⟨.tup [],[(A,.blk [.ref V 0 m.length m.length]),(V,.vec 9 (eS m))],[A,V]⟩):callV prog 69 [.loc A 0,arg] i ob E:=by
 refine kP _ _ _ c7r hc ?_ ?_ ?_ ?_ (.tup _ (by simp)) ?_ ?_ ?_ h
 ·intro p hp
  simp only[zM,or_false]at hp
  rcases hp with rfl|rfl
  ·exact h1
  ·exact h2
 ·intro x hx
  simp only[zM,or_false]at hx
  rcases hx with rfl|rfl
  ·exact .loc _ _ (by simp)
  ·exact hin _
 ·intro p hp
  simp only[zM,or_false]at hp
  rcases hp with rfl|rfl
  ·intro c hc
   simp only[zM,or_false]at hc
   subst hc
   exact .ref _ _ _ _ (by simp)
  ·exact fun e he c hc=>of_eq_true (lS _) e he c hc
 ·simp[hAV]
 ·intro p hp
  simp only[zM,or_false]at hp
  rcases hp with rfl|rfl
  ·refine⟨by simp,fun c hc=>?_⟩
   simp only[zM,or_false]at hc
   subst hc
   exact .ref _ _ _ _ (by simp)
  ·exact⟨by simp,fun e he c hc=>of_eq_true (lS _) e he c hc⟩
 ·simp
 ·intro p hp
  simp only[zM,or_false]at hp
  rcases hp with rfl|rfl<;>rfl
theorem inG0 (K:Nat→Prop):In K (.agg eG0):=.agg _ (by intro c hc;simp only[zM,or_false]at hc;rcases hc with rfl|rfl|rfl|rfl|rfl|rfl|rfl|rfl|rfl<;>exact .lit _)
theorem b0d (l:aC) (p:Pl) (vs:List Pt):eS (l++[(p,vs)])=eS l++[eG p vs]:=List.map_append
theorem b2c {es:List (List AV)} {L:Nat} (h:es.length=L):(if 0<L then AV.sl (es.take L)else if L=0 then AV.sl []else AV.any)=AV.sl es:=by
 split
 ·rw[Ag (by omega)]
 ·have:L=0:=by omega
  subst this
  rw[if_pos rfl,List.eq_nil_of_length_eq_zero h]
theorem c21c (l : aC) (b : Pl) (hb : BPl 1073741824 b) (hn : l.length ≤ 1048576) (hv : ∀ s ∈ l, s.2.length ≤ 268435456 ∧ ∀ v ∈ s.2, CanP v ∧ BPt 1073741824 v) (hm : (bB l).length ≤ 268435456) (hM131 : ∀ s ∈ l, s.2.length ≤ 131072) (hn4 : l.length ≤ 1024) (hcap : (cU b (cH (-1) b l)).1.length ≤ 268435456) (hcap2 : (cU (aW b) (cH 1 b l)).1.length ≤ 268435456) (hkb : ∀ h, ∀ s ∈ cH h b l, s.2.length ≤ 1048576 ∧ ∀ v ∈ s.2, BPt 1073741824 v) (hf : aY b l = true) (hbh : aZ b l = true) :
  CallOK prog 21 [.agg [.sl (eS l)],.agg (eH b)] [] (.tup [.agg [.sl (eS (cH (-1) b l++[(b,b6 b (cH (-1) b l))]))],.agg [.sl (eS (cH 1 b l++[(aW b,b6 (aW b) (cH 1 b l))]))]]) []:=by
 refine fV func21 rfl 84 rfl rfl (by simp -dsimp (disch:=try exact zo)only[go_sem]) [.cell 4 33,.cell 5 33] (congrArg Am results21) ?_
 simp only[aD,Ak]
 have hml:maxLen=9223372036854775807:=rfl
 have hl:(eS l).length=l.length:=Ae _
 repeat'(first|refine zk ?_|(refine zu ?_ ?_<;>intro hc)|(refine zq (c27 l hn hv hm) ?_)|(refine zv ?_ ?_<;>intro hg)|omega|simp -dsimp (disch:=try exact zo)only[go_sem,hl,zl]|contradiction|rfl)
 have hV:=u5 l
 have hfA:(bX l).any (fun v=>decide (0<aB b v))=aY b l:=pI l _
 have hbA:(bX l).any (fun v=>decide (aB b v<0))=aZ b l:=pI l _
 have hvb:∀ v∈bX l,BPt 1073741824 v:=fun v hvm=>by
  obtain⟨s,hs,hvm⟩:=nX.1 hvm
  exact ((hv s hs).2 v hvm).2
 generalize bX l=vs at *
 have hvl:(vs.map eP).length=vs.length:=Ae _
 refine AW.loop (fun z:{i:Nat // i≤vs.length}=>⟨[(21,.lit (.int .i64 z.1)),(20,.lit (.int .i64 vs.length)),(19,.sl (vs.map eP)),(6,.lit (.bool (cM (fun v=>decide (aB b v<0)) vs z.1))),(7,.lit (.bool (cM (fun v=>decide (0<aB b v)) vs z.1))),(2,.loc 8 0),(3,.loc 9 0),(4,.loc 10 0),(5,.loc 11 0)],[(8,.blk [.sl (eS l)]),(9,.blk (eH b)),(10,.blk [.lit (.slice none 0 0)]),(11,.blk [.lit (.slice none 0 0)])],60⟩) (fun z=>vs.length - z.1) ⟨0,At _⟩ (aQ (by refine⟨?_,?_,?_,?_⟩<;>simp -dsimp (disch:=try exact zo)only[go_sem,wA,ZC])) ?_
 rintro⟨i,hi⟩
 dsimp only
 by_cases hlt:i<vs.length
 ·clear hfA hbA
  have ea:=cZ vs i hlt
  have hsb:=mQ (fun v=>decide (aB b v<0)) vs i hlt
  have hsf:=mQ (fun v=>decide (0<aB b v)) vs i hlt
  have ha:=hvb _ (Ah hlt)
  clear hv hvb
  generalize vs[i]=a at *
  simp only[eP,e4]at ea
  generalize cM (fun v=>decide (aB b v<0)) vs i=bb at *
  generalize cM (fun v=>decide (0<aB b v)) vs i=ff at *
  by_cases q1:aB b a<0<;>by_cases q2:0<aB b a
  ·omega
  all_goals
   have k1:=(show (aB b a<0)=_∧(0<aB b a)=_ from⟨(by first|exact eq_true q1|exact eq_false q1),(by first|exact eq_true q2|exact eq_false q2)⟩)
   clear q1 q2
   obtain⟨k1,k2⟩:=k1
   simp only[k1,k2,decide_true,decide_false]at hsb hsf
   cases bb<;>cases ff<;>(try simp only[Ax,Av,Ay,Aw]at hsb)<;>(try simp only[Ax,Av,Ay,Aw]at hsf)
  all_goals
   repeat'(first|refine zk ?_|(refine zu ?_ ?_<;>intro hc)|(refine zf (c34 b a hb ha) ?_)|(refine zv ?_ ?_<;>intro hg)|omega|simp -dsimp (disch:=try exact zo)only[go_sem,hl,hvl,ea,k1,k2,zl,ZT]|contradiction|rfl)
  all_goals exact AW.stop ⟨⟨i+1,by omega⟩,zw,by dsimp only;omega⟩
 ·have hil:i=vs.length:=by omega
  subst hil
  rw[mS,mS,hfA,hbA]
  rw[hf,hbh]
  clear hvb hvl hfA hbA hV hi hlt
  repeat'(first|refine zk ?_|(refine zu ?_ ?_<;>intro hc)|(refine zv ?_ ?_<;>intro hg)|omega|simp -dsimp (disch:=try exact zo)only[go_sem,hl,zl]|contradiction|rfl)
  have hk0:cH (-1) b []=[]:=rfl
  have hk1:cH 1 b []=[]:=rfl
  have hz:eS []=[]:=rfl
  refine AW.loop (fun z:{i:Nat // i≤l.length}=>⟨[(52,.lit (.int .i64 z.1)),(51,.lit (.int .i64 l.length)),(13,.clo 69 []),(11,.loc 67 0),(12,.loc 68 0),(50,.sl (eS l)),(2,.loc 8 0),(3,.loc 9 0),(4,.loc 10 0),(5,.loc 11 0)],[(67,.blk [.ref 74 0 (cH (-1) b (l.take z.1)).length (cH (-1) b (l.take z.1)).length]),(74,.vec 9 (eS (cH (-1) b (l.take z.1)))),(68,.blk [.ref 75 0 (cH 1 b (l.take z.1)).length (cH 1 b (l.take z.1)).length]),(75,.vec 9 (eS (cH 1 b (l.take z.1)))),(9,.blk (eH b)),(10,.blk [.lit (.slice none 0 0)]),(11,.blk [.lit (.slice none 0 0)])],110⟩) (fun z=>l.length - z.1) ⟨0,At _⟩ (Weak.trans (jT 67 0 9 _ (by decide) rfl (by simp) rfl (by simp)) (Weak.trans (jT 68 0 9 _ (by decide) rfl (by simp) rfl (by simp)) (aQ (by refine⟨?_,?_,?_,?_⟩<;>simp -dsimp (disch:=try exact zo)only[go_sem,List.take_zero,hk0,hk1,hz,List.length_nil,ZC])))) ?_
  rintro⟨i,hi⟩
  dsimp only
  by_cases hlt:i<l.length
  ·have es1:=oE l i hlt
   have hL2:=a4s (-1) b l i hlt
   have hM2:=a4s 1 b l i hlt
   have hLn:=wL (-1) b (l.take i)
   have hMn:=wL 1 b (l.take i)
   have htl:(l.take i).length≤l.length:=List.length_take_le' _ _
   have hvs:=hv _ (Ah hlt)
   have hMs:=hM131 _ (Ah hlt)
   generalize l[i]=sd at *
   obtain⟨sp,svs⟩:=sd
   dsimp only at es1 hL2 hM2 hvs hMs
   generalize cH (-1) b (l.take i)=L at *
   generalize cH 1 b (l.take i)=M at *
   have hlL:(eS L).length=L.length:=Ae _
   have hlM:(eS M).length=M.length:=Ae _
   have c70x:=c70 sp b svs hvs.1 (fun v hvm=>(hvs.2 v hvm).1) (fun v hvm=>(hvs.2 v hvm).2) hb
   have hin70:∀ K,∀ x∈[prt (-1) sp b svs,prt 1 sp b svs],In K x:=fun K x hx=>by
    simp only[zM,or_false]at hx
    rcases hx with rfl|rfl<;>exact xH _ _ _ _
   have hin70:=hin70 (fun _=>False)
   have pa:=pL (-1) b svs
   have pb:=pL 1 b svs
   simp only[eG]at es1
   unfold prt at c70x hin70
   clear hv hm hcap hcap2 hkb hvs hf hbh
   cases hA:bF (-1) b svs svs.length<;>cases hB:bF 1 b svs svs.length
   ·have hL:True:=trivial
    have hM:True:=trivial
    simp only[hA,hB,reduceIte,Af,Ai]at hL2 hM2 c70x hin70
    repeat'(first|refine zk ?_|(refine zu ?_ ?_<;>intro hc)|(refine zp c70x (by simp -dsimp (disch:=try exact zo)only[go_sem]) (.tup _ hin70) ?_)|(first|(refine nB (by decide) (fun _=>inG0 _) (xY (by decide) L (by omega)) rfl rfl ?_)|(refine nB (by decide) (fun _=>inG0 _) (xY (by decide) M (by omega)) rfl rfl ?_))|(refine zv ?_ ?_<;>intro hg)|omega|simp -dsimp (disch:=try exact zo)only[go_sem,hl,es1,zl,ZT,hlL,hlM]|contradiction|rfl)
    all_goals exact AW.stop ⟨⟨i+1,by omega⟩,(aQ (by refine⟨?_,?_,?_,?_⟩<;>first|(simp -dsimp (disch:=try exact zo)only[go_sem,hL2,hM2,Ad,ZC,hlL,hlM,zl];done)|(simp -dsimp (disch:=try exact zo)only[go_sem,ZC];done))),by dsimp only;omega⟩
   ·have hL:True:=trivial
    have hM:=wZ (h:=1) (by decide) hB
    simp only[hA,hB,reduceIte,Af,Ai]at hL2 hM2 c70x hin70
    repeat'(first|refine zk ?_|(refine zu ?_ ?_<;>intro hc)|(refine zp c70x (by simp -dsimp (disch:=try exact zo)only[go_sem]) (.tup _ hin70) ?_)|(first|(refine nB (by decide) (fun _=>inG0 _) (xY (by decide) L (by omega)) rfl rfl ?_)|(refine nB (by decide) (fun _=>(gJ _ _).in) (xZ (by decide) M (by omega) sp (bC (1) b svs) hM (by omega)) rfl rfl ?_))|(refine zv ?_ ?_<;>intro hg)|omega|simp -dsimp (disch:=try exact zo)only[go_sem,hl,es1,zl,ZT,hlL,hlM]|contradiction|rfl)
    all_goals exact AW.stop ⟨⟨i+1,by omega⟩,(aQ (by refine⟨?_,?_,?_,?_⟩<;>first|(simp -dsimp (disch:=try exact zo)only[go_sem,hL2,hM2,Ad,ZC,hlL,hlM,zl];done)|(simp -dsimp (disch:=try exact zo)only[go_sem,ZC];done))),by dsimp only;omega⟩
   ·have hL:=wZ (h:=-1) (by decide) hA
    have hM:True:=trivial
    simp only[hA,hB,reduceIte,Af,Ai]at hL2 hM2 c70x hin70
    repeat'(first|refine zk ?_|(refine zu ?_ ?_<;>intro hc)|(refine zp c70x (by simp -dsimp (disch:=try exact zo)only[go_sem]) (.tup _ hin70) ?_)|(first|(refine nB (by decide) (fun _=>(gJ _ _).in) (xZ (by decide) L (by omega) sp (bC (-1) b svs) hL (by omega)) rfl rfl ?_)|(refine nB (by decide) (fun _=>inG0 _) (xY (by decide) M (by omega)) rfl rfl ?_))|(refine zv ?_ ?_<;>intro hg)|omega|simp -dsimp (disch:=try exact zo)only[go_sem,hl,es1,zl,ZT,hlL,hlM]|contradiction|rfl)
    all_goals exact AW.stop ⟨⟨i+1,by omega⟩,(aQ (by refine⟨?_,?_,?_,?_⟩<;>first|(simp -dsimp (disch:=try exact zo)only[go_sem,hL2,hM2,Ad,ZC,hlL,hlM,zl];done)|(simp -dsimp (disch:=try exact zo)only[go_sem,ZC];done))),by dsimp only;omega⟩
   ·have hL:=wZ (h:=-1) (by decide) hA
    have hM:=wZ (h:=1) (by decide) hB
    simp only[hA,hB,reduceIte,Af,Ai]at hL2 hM2 c70x hin70
    repeat'(first|refine zk ?_|(refine zu ?_ ?_<;>intro hc)|(refine zp c70x (by simp -dsimp (disch:=try exact zo)only[go_sem]) (.tup _ hin70) ?_)|(first|(refine nB (by decide) (fun _=>(gJ _ _).in) (xZ (by decide) L (by omega) sp (bC (-1) b svs) hL (by omega)) rfl rfl ?_)|(refine nB (by decide) (fun _=>(gJ _ _).in) (xZ (by decide) M (by omega) sp (bC (1) b svs) hM (by omega)) rfl rfl ?_))|(refine zv ?_ ?_<;>intro hg)|omega|simp -dsimp (disch:=try exact zo)only[go_sem,hl,es1,zl,ZT,hlL,hlM]|contradiction|rfl)
    all_goals exact AW.stop ⟨⟨i+1,by omega⟩,(aQ (by refine⟨?_,?_,?_,?_⟩<;>first|(simp -dsimp (disch:=try exact zo)only[go_sem,hL2,hM2,Ad,ZC,hlL,hlM,zl];done)|(simp -dsimp (disch:=try exact zo)only[go_sem,ZC];done))),by dsimp only;omega⟩
  ·have hil:i=l.length:=by omega
   subst hil
   rw[List.take_length]
   have hLn:=wL (-1) b l
   have hMn:=wL 1 b l
   have kL:=hkb (-1)
   have kM:=hkb 1
   clear hv hm hf hbh hkb
   generalize cH (-1) b l=L at *
   generalize cH 1 b l=M at *
   have hlL:(eS L).length=L.length:=Ae _
   have hlM:(eS M).length=M.length:=Ae _
   have cA:=c71 L b hb (by omega) kL hcap
   have cB:=c71 M (aW b) hb.neg (by omega) kM hcap2
   have hbwL:=b2c hlL
   have hbwM:=b2c hlM
   have hbL:eS L++[eG b (b6 b L)]=eS (L++[(b,b6 b L)]):=(b0d _ _ _).symm
   have hbM:eS M++[eG (aW b) (b6 (aW b) M)]=eS (M++[(aW b,b6 (aW b) M)]):=(b0d _ _ _).symm
   have hfL:(eS (L++[(b,b6 b L)])).take (L.length+1)=eS (L++[(b,b6 b L)]):=Ag (by simp)
   have hfM:(eS (M++[(aW b,b6 (aW b) M)])).take (M.length+1)=eS (M++[(aW b,b6 (aW b) M)]):=Ag (by simp)
   have hpL:(0<L.length+1)=True:=by simp
   have hpM:(0<M.length+1)=True:=by simp
   generalize b6 b L=cl at *
   generalize b6 (aW b) M=cm at *
   clear kL kM hcap hcap2
   repeat'(first|refine zk ?_|(refine zu ?_ ?_<;>intro hc)|(first|refine fY _ a9a (by simp -dsimp (disch:=try exact zo)only[go_sem,hlL,hbwL,hbwM];exact cA) (by simp -dsimp (disch:=try exact zo)only[go_sem,hlL,hbwL]) (gJ _ _).in ?_|refine fY _ a9a (by simp -dsimp (disch:=try exact zo)only[go_sem,hlM,hbwL,hbwM];exact cB) (by simp -dsimp (disch:=try exact zo)only[go_sem,hlM,hbwM]) (gJ _ _).in ?_)|(refine zf (c22 b hb) ?_)|(refine zv ?_ ?_<;>intro hg)|omega|simp -dsimp (disch:=try exact zo)only[go_sem,hl,zl,hlL,hlM,hbL,hbM,hfL,hfM,hpL,hpM]|contradiction|rfl)
end Go.Proofs.Vx
namespace Go.Proofs.Vx
open Go Go.Sx Go.Proofs Tryz
attribute [local irreducible] fnT CallOK CallFr AW aI callV aL aJ aH aK gcaseP hid
theorem yM {S M:Nat} {l:aC} (h:∀ s∈l,s.2.length≤M) (hn:l.length≤S):(bB l).length≤S*M:=by
 have key:(bB l).length≤l.length*M:=by
  clear hn
  induction l with
  | nil=>simp[bB]
  | cons s l ih =>
   have h1:=h s (by simp)
   have h2:=ih fun t ht=>h t (by simp[ht])
   simp only[bB,List.flatMap_cons,Ad,Al,Nat.add_mul,Nat.one_mul]at h2 ⊢
   omega
 exact Ab key (Nat.mul_le_mul_right _ hn)
abbrev BdC (l:aC):Prop:=Bd 64 4096 100000 l
theorem b1p {l:aC} (hc:CanC l) (h:BdC l):∀ s∈l,s.2.length≤268435456∧∀ v∈s.2,CanP v∧BPt 1073741824 v:=fun s hs=>⟨Ab (h.m s hs) (by decide),fun v hv=>⟨hc.can s hs v hv,(h.k s hs v hv).mono (by decide)⟩⟩
theorem c27x (l:aC) (hc:CanC l) (h:BdC l):CallOK prog 27 [.agg [.sl (eS l)]] [] (.sl ((bX l).map eP)) [] :=
 c27 l (Ab h.n (by decide)) (b1p hc h) (Ab (yM h.m h.n) (by decide))
theorem c21x (l:aC) (b:Pl) (hc:OkC l) (h:BdC l) (hb:BPl 100000 b):CallOK prog 21 [.agg [.sl (eS l)],.agg (eH b)] [] (.tup [.agg [.sl (eS (aP b l).1)],.agg [.sl (eS (aP b l).2)]]) []:=by
 have hb':=hb.mono (show 100000≤1073741824 by decide)
 have hn:l.length≤1048576:=Ab h.n (by decide)
 have hm:(bB l).length≤268435456:=Ab (yM h.m h.n) (by decide)
 have hv:=b1p hc.can h
 by_cases hf:aY b l=false
 ·have e:aP b l=(l,[]):=by unfold aP;rw[if_pos hf]
  rw[e]
  exact (c21a l b hb' hn hv hm hf).wk fun g v=>wI (fun v h=>h) fun v h=>vS h
 ·have hf':aY b l=true:=by simpa using hf
  by_cases hbh:aZ b l=false
  ·have e:aP b l=([],l):=by unfold aP;rw[if_neg hf,if_pos hbh]
   rw[e]
   exact (c21b l b hb' hn hv hm hf' hbh).wk fun g v=>wI (fun v h=>vS h) fun v h=>h
  ·have hb2:aZ b l=true:=by simpa using hbh
   have hco:CellOK l:=hc.elim (fun e=>by subst e;simp[aY]at hf') id
   have e:aP b l=(iK b l,iK (aW b) l):=by unfold aP;rw[if_neg hf,if_neg hbh]
   have S1:=gA hco hf' hb2
   have S2:=gA (b:=aW b) hco (by rw[kT];exact hb2) (by rw[mK];exact hf')
   have B1:=a2d h hb
   have B2:=a2d h hb.neg
   have k2:=c1k (b:=b) hco.toCanC
   have C1:=(tS hco S1).2.2.2
   have C2:=(tS hco S2).2.2.2
   have:=c21c l b hb' hn hv hm (fun s hs=>Ab (h.m s hs) (by decide)) (Ab h.n (by decide)) (by rw[a8b];have:=B1.n;omega) (by rw[k2];have:=B2.n;omega) (by
    intro hh s hs
    have hp:s.2.length≤2*4096∧∀ v∈s.2,BPt (100000+2*100000+4) v:=by
     obtain⟨t,ht,e⟩:=List.mem_filterMap.1 hs
     by_cases hq:bF hh b t.2 t.2.length=true
     ·rw[if_pos hq]at e
      obtain rfl:=Option.some.inj e
      refine⟨?_,zJ hb (h.k t ht)⟩
      have:=pL hh b t.2
      have:=h.m t ht
      show (bC hh b t.2).length≤_
      omega
     ·rw[if_neg hq]at e;contradiction
    exact⟨Ab hp.1 (by decide),fun v hv=>(hp.2 v hv).mono (by decide)⟩) hf' hb2
   rw[e]
   rw[a8b,k2]at this
   exact this
end Go.Proofs.Vx
namespace Go.Proofs.Vx
open Go Go.Sx Go.Proofs Tryz
attribute [local irreducible] fnT CallOK CallFr AW aI callV aL aJ aH aK gcaseP hid
theorem qH (p:Pt):Au p.x p.w=(tv p).x∧Au p.y p.w=(tv p).y∧Au p.z p.w=(tv p).z:=⟨Aj _ _,Aj _ _,Aj _ _⟩
structure QV (k:Nat) (v:Geo.V):Prop where
 x:Qs k v.x
 y:Qs k v.y
 z:Qs k v.z
theorem QV.mono {k l:Nat} {v:Geo.V} (h:QV k v) (hl:k≤l):QV l v:=⟨h.x.mono hl,h.y.mono hl,h.z.mono hl⟩
theorem oQ {p:Pt} {k:Nat} (hc:CanP p) (h:BPt k p):QV k (tv p):=by
 have hw:p.w≠0:=by have:=hc.w;omega
 refine⟨?_,?_,?_⟩
 ·rw[← (qH p).1];exact Qs.divInt hw h.out.a h.out.d
 ·rw[← (qH p).2.1];exact Qs.divInt hw h.out.b h.out.d
 ·rw[← (qH p).2.2];exact Qs.divInt hw h.out.c h.out.d
theorem a1d {a b:Geo.V} {k:Nat} (ha:QV k a) (hb:QV k b):QV (2*k+1) (a - b):=by
 refine⟨(ha.x.sub hb.x).mono (by omega),(ha.y.sub hb.y).mono (by omega),(ha.z.sub hb.z).mono (by omega)⟩
theorem c2r {a b:Geo.V} {k:Nat} (ha:QV k a) (hb:QV k b):QV (4*k+1) (Geo.aA a b) :=
 ⟨((ha.y.mul hb.z).sub (ha.z.mul hb.y)).mono (by omega),((ha.z.mul hb.x).sub (ha.x.mul hb.z)).mono (by omega),((ha.x.mul hb.y).sub (ha.y.mul hb.x)).mono (by omega)⟩
theorem d0u {a b:Geo.V} {k l:Nat} (ha:QV k a) (hb:QV l b):QV (k+l+1) (a+b):=⟨ha.x.add hb.x,ha.y.add hb.y,ha.z.add hb.z⟩
end Go.Proofs.Vx
namespace Go.Proofs.Vx
open Go Go.Sx Go.Proofs Tryz
attribute [local irreducible] fnT CallOK CallFr AW aI callV aL aJ aH aK gcaseP hid
theorem b8o:agT prog 140=some true∧agT prog 141=some true∧arT prog 140=some (3,1,false)∧arT prog 141=some (4,3,true)∧bH prog 140=false∧bH prog 141=false∧szT prog 140=some 3∧szT prog 141=some 12∧zeT prog 140=some [.lit (.int .i64 0),.lit (.int .i64 0),.lit (.int .i64 0)]:=by and_intros<;>kernel_rfl
attribute [go_sem] b8o
theorem c3y (a b c:Int):CanP (wpt a b c):=⟨by show (0:Int)<1;decide,by show g4 (1000*a) (1000*b) (1000*c) 1=1;unfold g4;exact Nat.gcd_one_right _⟩
theorem mkW (a b c:Int):mkP ((a*1000:Int):Rat) ((b*1000:Int):Rat) ((c*1000:Int):Rat)=wpt a b c:=by
 refine iE (a0m _ _ _) (c3y a b c) ?_
 rw[a1a]
 have e:∀ x:Int,((x*1000:Int):Rat)=((1000*x:Int):Rat) / ((1:Int):Rat):=fun x=>by
  rw[Az]
  have:((1:Int):Rat)=1:=rfl
  rw[this]
  grind
 rw[e a,e b,e c]
 rfl
theorem i0 {a:Int} (h:a=1∨a=-1):-9223372036854775808≤a*1000∧a*1000<9223372036854775808:=by omega
theorem iZ {a:Int} (h:a=1∨a=-1):IntKind.i64.wrap (a*1000)=a*1000:=wrap64 (by omega) (by omega)
theorem i4 {a:Int} (h:a=1∨a=-1):Qs 1073741824 ((a*1000:Int):Rat):=by
 refine⟨?_,by show (nb 1).size≤_;rw[uB];decide⟩
 rcases h with rfl|rfl
 ·exact Ab ((cO 1000 2).2 (by decide)) (by decide)
 ·exact Ab ((cO (-1000) 2).2 (by decide)) (by decide)
set_option maxRecDepth 20000 in
theorem r7 (p:Pl) (a0 b0 c0 a1 b1 c1 a2 b2 c2 a3 b3 c3:Int) (ha0:a0=1∨a0=-1) (hb0:b0=1∨b0=-1) (hc0:c0=1∨c0=-1) (ha1:a1=1∨a1=-1) (hb1:b1=1∨b1=-1) (hc1:c1=1∨c1=-1) (ha2:a2=1∨a2=-1) (hb2:b2=1∨b2=-1) (hc2:c2=1∨c2=-1) (ha3:a3=1∨a3=-1) (hb3:b3=1∨b3=-1) (hc3:c3=1∨c3=-1):CallNw prog 122 [.agg (eH p),.agg [.lit (.int .i64 a0),.lit (.int .i64 b0),.lit (.int .i64 c0),.lit (.int .i64 a1),.lit (.int .i64 b1),.lit (.int .i64 c1),.lit (.int .i64 a2),.lit (.int .i64 b2),.lit (.int .i64 c2),.lit (.int .i64 a3),.lit (.int .i64 b3),.lit (.int .i64 c3)]] (.agg (eG p [wpt a0 b0 c0,wpt a1 b1 c1,wpt a2 b2 c2,wpt a3 b3 c3])):=by
 refine CallNw.flat func122 rfl 37 rfl rfl (gJ _ _) [.cell 4 58] (congrArg Am results122) ?_
 simp only[aD,Ak]
 have hml:maxLen=9223372036854775807:=rfl
 have qa0:=i4 ha0
 have ra0:=i0 ha0
 have wa0:=iZ ha0
 clear ha0
 have qb0:=i4 hb0
 have rb0:=i0 hb0
 have wb0:=iZ hb0
 clear hb0
 have qc0:=i4 hc0
 have rc0:=i0 hc0
 have wc0:=iZ hc0
 clear hc0
 have qa1:=i4 ha1
 have ra1:=i0 ha1
 have wa1:=iZ ha1
 clear ha1
 have qb1:=i4 hb1
 have rb1:=i0 hb1
 have wb1:=iZ hb1
 clear hb1
 have qc1:=i4 hc1
 have rc1:=i0 hc1
 have wc1:=iZ hc1
 clear hc1
 have qa2:=i4 ha2
 have ra2:=i0 ha2
 have wa2:=iZ ha2
 clear ha2
 have qb2:=i4 hb2
 have rb2:=i0 hb2
 have wb2:=iZ hb2
 clear hb2
 have qc2:=i4 hc2
 have rc2:=i0 hc2
 have wc2:=iZ hc2
 clear hc2
 have qa3:=i4 ha3
 have ra3:=i0 ha3
 have wa3:=iZ ha3
 clear ha3
 have qb3:=i4 hb3
 have rb3:=i0 hb3
 have wb3:=iZ hb3
 clear hb3
 have qc3:=i4 hc3
 have rc3:=i0 hc3
 have wc3:=iZ hc3
 clear hc3
 repeat'(first|refine zk ?_|(refine zu ?_ ?_<;>intro hc)|(refine zv ?_ ?_<;>intro hg)|omega|simp -dsimp (disch:=try exact zo)only[go_sem]|contradiction|rfl)
 refine AW.weak (jT 13 8 8 _ (by decide) rfl (by simp) rfl (by simp)) ?_
 refine AW.weak (show Weak _ ⟨[(14,.lit (.int .i64 0)),(13,.agg [.lit (.int .i64 a0),.lit (.int .i64 b0),.lit (.int .i64 c0),.lit (.int .i64 a1),.lit (.int .i64 b1),.lit (.int .i64 c1),.lit (.int .i64 a2),.lit (.int .i64 b2),.lit (.int .i64 c2),.lit (.int .i64 a3),.lit (.int .i64 b3),.lit (.int .i64 c3)]),(5,.loc 13 0),(4,.loc 10 0)],[(13,.blk [.lit (.bool (Zn p.a)),.lit (.string (Zm p.a)),.lit (.bool (Zn p.b)),.lit (.string (Zm p.b)),.lit (.bool (Zn p.c)),.lit (.string (Zm p.c)),.lit (.bool (Zn p.d)),.lit (.string (Zm p.d)),.ref 17 0 0 0]),(17,.vec 8 ([]:List (List AV))),(10,.blk eG0)],30⟩from zw) ?_
 repeat'(first|refine zg ?_|refine dG 6 ?_|(refine zc ?_ ?_<;>intro hc<;>try simp only[NM]at hc)|refine zn ?_|(first|refine zf (c68 (a0*1000) ra0) ?_|refine zf (c68 (b0*1000) rb0) ?_|refine zf (c68 (c0*1000) rc0) ?_|refine zf (c68 (a1*1000) ra1) ?_|refine zf (c68 (b1*1000) rb1) ?_|refine zf (c68 (c1*1000) rc1) ?_|refine zf (c68 (a2*1000) ra2) ?_|refine zf (c68 (b2*1000) rb2) ?_|refine zf (c68 (c2*1000) rc2) ?_|refine zf (c68 (a3*1000) ra3) ?_|refine zf (c68 (b3*1000) rb3) ?_|refine zf (c68 (c3*1000) rc3) ?_)|(refine zf (c96 _ _ _ (by assumption) (by assumption) (by assumption)) ?_)|refine⟨by omega,?_⟩|(refine zb ?_ ?_<;>intro hg<;>(try rw[hg])<;>try simp only[NM]at hg)|omega|simp -dsimp (disch:=try exact zo)only[go_sem,mkW,wa0,wb0,wc0,wa1,wb1,wc1,wa2,wb2,wc2,wa3,wb3,wc3]|contradiction|rfl)
end Go.Proofs.Vx
namespace Go.Proofs.Vx
open Go Go.Sx Go.Proofs Tryz
attribute [local irreducible] fnT CallOK CallFr AW aI callV aL aJ aH aK gcaseP hid
theorem b8n:arT prog 145=none∧slT prog 145=some (140,3)∧bH prog 145=false:=by and_intros<;>kernel_rfl
attribute [go_sem] b8n
set_option maxRecDepth 20000 in
theorem c121 (a0 b0 c0 a1 b1 c1 a2 b2 c2 a3 b3 c3:Int):CallOK prog 121 [.bs 0 0 3 4] [(0,.blk [.lit (.int .i64 a0),.lit (.int .i64 b0),.lit (.int .i64 c0),.lit (.int .i64 a1),.lit (.int .i64 b1),.lit (.int .i64 c1),.lit (.int .i64 a2),.lit (.int .i64 b2),.lit (.int .i64 c2),.lit (.int .i64 a3),.lit (.int .i64 b3),.lit (.int .i64 c3)])] (.tup []) [(0,.blk [.lit (.int .i64 a3),.lit (.int .i64 b3),.lit (.int .i64 c3),.lit (.int .i64 a2),.lit (.int .i64 b2),.lit (.int .i64 c2),.lit (.int .i64 a1),.lit (.int .i64 b1),.lit (.int .i64 c1),.lit (.int .i64 a0),.lit (.int .i64 b0),.lit (.int .i64 c0)])]:=by
 refine fC func121 rfl 28 rfl rfl (by simp) (.tup _ (by simp)) (by
  intro q hq
  simp only[zM,or_false]at hq
  subst hq
  refine⟨by simp,fun c hc=>?_⟩
  simp only[zM,or_false]at hc
  rcases hc with rfl|rfl|rfl|rfl|rfl|rfl|rfl|rfl|rfl|rfl|rfl|rfl<;>exact .lit _) [] (congrArg Am results121) ?_
 simp only[aD,Ak]
 repeat'(first|refine zg ?_|refine dG 6 ?_|(refine zc ?_ ?_<;>intro hc<;>first|simp only[NM]at hc|omega|skip)|refine zr ?_|(refine AW.nil (bW ?_ ?_)<;>simp -dsimp (disch:=try exact zo)only[go_sem])|refine⟨by omega,?_⟩|(refine zb ?_ ?_<;>intro hg<;>(try rw[hg])<;>try simp only[NM]at hg)|omega|simp -dsimp (disch:=try exact zo)only[go_sem,Aa]|contradiction|rfl)
end Go.Proofs.Vx
namespace Go.Proofs.Vx
open Go Go.Sx Go.Proofs Tryz
attribute [local irreducible] fnT CallOK CallFr AW aI callV aL aJ aH aK gcaseP hid
theorem b8m:arT prog 139=none∧arT prog 142=some (2,1,false)∧arT prog 143=some (4,2,true)∧plT prog 142=some [(0,1),(1,1)]∧plT prog 143=some [(0,2),(2,2),(4,2),(6,2)]∧slT prog 139=some (2,1)∧slT prog 140=none∧slT prog 141=none∧slT prog 142=none∧bH prog 139=false∧bH prog 143=false∧szT prog 142=some 2∧szT prog 2=some 1∧zeT prog 141=some [.lit (.int .i64 0),.lit (.int .i64 0),.lit (.int .i64 0),.lit (.int .i64 0),.lit (.int .i64 0),.lit (.int .i64 0),.lit (.int .i64 0),.lit (.int .i64 0),.lit (.int .i64 0),.lit (.int .i64 0),.lit (.int .i64 0),.lit (.int .i64 0)]∧zeT prog 142=some [.lit (.int .i64 0),.lit (.int .i64 0)]∧zeT prog 143=some [.lit (.int .i64 0),.lit (.int .i64 0),.lit (.int .i64 0),.lit (.int .i64 0),.lit (.int .i64 0),.lit (.int .i64 0),.lit (.int .i64 0),.lit (.int .i64 0)]∧zeT prog 2=some [.lit (.int .i64 0)]:=by and_intros<;>kernel_rfl
attribute [go_sem] b8m
theorem z7:fnT prog 121=true:=by kernel_rfl
theorem pX:fnT prog 122=true:=by kernel_rfl
set_option maxRecDepth 20000 in
theorem c57:CallOK prog 57 [] [] (.agg [.sl (eS aN)]) []:=by
 refine fV func57 rfl 77 rfl rfl (by simp -dsimp (disch:=try exact zo)only[go_sem]) [.cell 0 33] (congrArg Am results57) ?_
 simp only[aD,Ak]
 have hml:maxLen=9223372036854775807:=rfl
 repeat'(first|refine zg ?_|(refine zc ?_ ?_<;>intro hc<;>try simp only[NM]at hc)|refine zr ?_|(first|refine zf (c67 1000 (by decide)) ?_|refine zf (c67 (-1) (by decide)) ?_|refine zf (c67 1 (by decide)) ?_)|refine⟨by omega,?_⟩|(refine zb ?_ ?_<;>intro hg<;>(try rw[hg])<;>try simp only[NM]at hg)|omega|simp -dsimp (disch:=try exact zo)only[go_sem]|contradiction|rfl)
 refine AW.weak (jT 9 0 9 _ (by decide) rfl (by simp) rfl (by simp)) ?_
 have hwl:eS (Ac 6 aN)=eS aN:=rfl
 have hz:eS (aN.take 0)=[]:=rfl
 refine AW.loop (fun z:{i:Nat // i≤3}=>⟨[(11,.lit (.int .i64 z.1)),(2,.loc 11 0),(1,.loc 9 0),(0,.loc 8 0)],[(11,.blk (eZ 1000)),(9,.blk [.ref 14 0 (2*z.1) (2*z.1)]),(14,.vec 9 (eS (aN.take (2*z.1)))),(8,.blk [.lit (.slice none 0 0)])],30⟩) (fun z=>3 - z.1) ⟨0,At _⟩ (aQ (by refine⟨?_,?_,?_,?_⟩<;>simp -dsimp (disch:=try exact zo)only[go_sem,Nat.mul_zero,hz,ZC])) ?_
 rintro⟨i,hi⟩
 dsimp only
 rcases (show i=0∨i=1∨i=2∨i=3 by omega)with rfl|rfl|rfl|rfl
 ·have hE:eS (Ac 2 aN)=eS (Ac 0 aN)++[eG ⟨-1,0,0,1000⟩ [wpt (-1) (-1) (1),wpt (-1) (1) (1),wpt (-1) (1) (-1),wpt (-1) (-1) (-1)]]++[eG ⟨1,0,0,1000⟩ [wpt (1) (-1) (-1),wpt (1) (1) (-1),wpt (1) (1) (1),wpt (1) (-1) (1)]]:=rfl
  have hlE:(eS (Ac 0 aN)).length=0:=rfl
  have he0:AV.agg [.lit (.bool (Zn (-1))),.lit (.string (Zm (-1))),.lit (.bool false),.lit (.string ⟨#[]⟩),.lit (.bool false),.lit (.string ⟨#[]⟩),.lit (.bool (Zn (1000))),.lit (.string (Zm (1000)))]=.agg (eH ⟨-1,0,0,1000⟩):=by simp only[eH,e4,lI,dY]
  have w0:=r7 ⟨-1,0,0,1000⟩ (-1) (-1) (1) (-1) (1) (1) (-1) (1) (-1) (-1) (-1) (-1) (by decide) (by decide) (by decide) (by decide) (by decide) (by decide) (by decide) (by decide) (by decide) (by decide) (by decide) (by decide)
  have he1:AV.agg [.lit (.bool (Zn (1))),.lit (.string (Zm (1))),.lit (.bool false),.lit (.string ⟨#[]⟩),.lit (.bool false),.lit (.string ⟨#[]⟩),.lit (.bool (Zn (1000))),.lit (.string (Zm (1000)))]=.agg (eH ⟨1,0,0,1000⟩):=by simp only[eH,e4,lI,dY]
  have w1:=r7 ⟨1,0,0,1000⟩ (1) (-1) (-1) (1) (1) (-1) (1) (1) (1) (1) (-1) (1) (by decide) (by decide) (by decide) (by decide) (by decide) (by decide) (by decide) (by decide) (by decide) (by decide) (by decide) (by decide)
  simp only[Ap]
  generalize eS (Ac 0 aN)=E at *
  repeat'(first|refine zg ?_|refine dG 6 ?_|(refine zc ?_ ?_<;>intro hc<;>first|simp only[NM]at hc|omega|skip)|refine zr ?_|(first|refine zf (c67 1000 (by decide)) ?_|refine zf (c67 (-1) (by decide)) ?_|refine zf (c67 1 (by decide)) ?_)|(refine mH _ _ _ _ z7 (pG (c121 _ _ _ _ _ _ _ _ _ _ _ _) (by simp -dsimp (disch:=try exact zo)only[go_sem]) (by simp -dsimp (disch:=try exact zo)only[go_sem]) (.tup _ (by simp)) (by simp[jO]) _) rfl (by simp[x9]) (by simp -dsimp (disch:=try exact zo)only[go_sem]) (by simp -dsimp (disch:=try exact zo)only[go_sem]) (.tup _ (by simp)) rfl ?_)|(first|refine fY _ pX (by simp -dsimp (disch:=try exact zo)only[go_sem];rw[he0];exact w0) (by simp -dsimp (disch:=try exact zo)only[go_sem]) (gJ _ _).in ?_|refine fY _ pX (by simp -dsimp (disch:=try exact zo)only[go_sem];rw[he1];exact w1) (by simp -dsimp (disch:=try exact zo)only[go_sem]) (gJ _ _).in ?_)|refine⟨by omega,?_⟩|(refine zb ?_ ?_<;>intro hg<;>(try rw[hg])<;>try simp only[NM]at hg)|omega|simp -dsimp (disch:=try exact zo)only[go_sem,Aa,hlE,Aq,An]|rfl)
  all_goals exact AW.stop ⟨⟨1,by omega⟩,(mZ (by simp -dsimp (disch:=try exact zo)only[go_sem,Aa]) (by simp -dsimp (disch:=try exact zo)only[go_sem,hE,Aa];try rfl) (by decide) (by simp -dsimp (disch:=try exact zo)only[go_sem,Aa]) (by simp -dsimp (disch:=try exact zo)only[go_sem,Aa])),by dsimp only;omega⟩
 ·have hE:eS (Ac 4 aN)=eS (Ac 2 aN)++[eG ⟨0,-1,0,1000⟩ [wpt (1) (-1) (-1),wpt (1) (-1) (1),wpt (-1) (-1) (1),wpt (-1) (-1) (-1)]]++[eG ⟨0,1,0,1000⟩ [wpt (-1) (1) (-1),wpt (-1) (1) (1),wpt (1) (1) (1),wpt (1) (1) (-1)]]:=rfl
  have hlE:(eS (Ac 2 aN)).length=2:=rfl
  have he0:AV.agg [.lit (.bool false),.lit (.string ⟨#[]⟩),.lit (.bool (Zn (-1))),.lit (.string (Zm (-1))),.lit (.bool false),.lit (.string ⟨#[]⟩),.lit (.bool (Zn (1000))),.lit (.string (Zm (1000)))]=.agg (eH ⟨0,-1,0,1000⟩):=by simp only[eH,e4,lI,dY]
  have w0:=r7 ⟨0,-1,0,1000⟩ (1) (-1) (-1) (1) (-1) (1) (-1) (-1) (1) (-1) (-1) (-1) (by decide) (by decide) (by decide) (by decide) (by decide) (by decide) (by decide) (by decide) (by decide) (by decide) (by decide) (by decide)
  have he1:AV.agg [.lit (.bool false),.lit (.string ⟨#[]⟩),.lit (.bool (Zn (1))),.lit (.string (Zm (1))),.lit (.bool false),.lit (.string ⟨#[]⟩),.lit (.bool (Zn (1000))),.lit (.string (Zm (1000)))]=.agg (eH ⟨0,1,0,1000⟩):=by simp only[eH,e4,lI,dY]
  have w1:=r7 ⟨0,1,0,1000⟩ (-1) (1) (-1) (-1) (1) (1) (1) (1) (1) (1) (1) (-1) (by decide) (by decide) (by decide) (by decide) (by decide) (by decide) (by decide) (by decide) (by decide) (by decide) (by decide) (by decide)
  simp only[Ap]
  generalize eS (Ac 2 aN)=E at *
  repeat'(first|refine zg ?_|refine dG 6 ?_|(refine zc ?_ ?_<;>intro hc<;>first|simp only[NM]at hc|omega|skip)|refine zr ?_|(first|refine zf (c67 1000 (by decide)) ?_|refine zf (c67 (-1) (by decide)) ?_|refine zf (c67 1 (by decide)) ?_)|(refine mH _ _ _ _ z7 (pG (c121 _ _ _ _ _ _ _ _ _ _ _ _) (by simp -dsimp (disch:=try exact zo)only[go_sem]) (by simp -dsimp (disch:=try exact zo)only[go_sem]) (.tup _ (by simp)) (by simp[jO]) _) rfl (by simp[x9]) (by simp -dsimp (disch:=try exact zo)only[go_sem]) (by simp -dsimp (disch:=try exact zo)only[go_sem]) (.tup _ (by simp)) rfl ?_)|(first|refine fY _ pX (by simp -dsimp (disch:=try exact zo)only[go_sem];rw[he0];exact w0) (by simp -dsimp (disch:=try exact zo)only[go_sem]) (gJ _ _).in ?_|refine fY _ pX (by simp -dsimp (disch:=try exact zo)only[go_sem];rw[he1];exact w1) (by simp -dsimp (disch:=try exact zo)only[go_sem]) (gJ _ _).in ?_)|refine⟨by omega,?_⟩|(refine zb ?_ ?_<;>intro hg<;>(try rw[hg])<;>try simp only[NM]at hg)|omega|simp -dsimp (disch:=try exact zo)only[go_sem,Aa,hlE,Aq,An]|rfl)
  all_goals exact AW.stop ⟨⟨2,by omega⟩,(mZ (by simp -dsimp (disch:=try exact zo)only[go_sem,Aa]) (by simp -dsimp (disch:=try exact zo)only[go_sem,hE,Aa];try rfl) (by decide) (by simp -dsimp (disch:=try exact zo)only[go_sem,Aa]) (by simp -dsimp (disch:=try exact zo)only[go_sem,Aa])),by dsimp only;omega⟩
 ·have hE:eS (Ac 6 aN)=eS (Ac 4 aN)++[eG ⟨0,0,-1,1000⟩ [wpt (-1) (1) (-1),wpt (1) (1) (-1),wpt (1) (-1) (-1),wpt (-1) (-1) (-1)]]++[eG ⟨0,0,1,1000⟩ [wpt (-1) (-1) (1),wpt (1) (-1) (1),wpt (1) (1) (1),wpt (-1) (1) (1)]]:=rfl
  have hlE:(eS (Ac 4 aN)).length=4:=rfl
  have he0:AV.agg [.lit (.bool false),.lit (.string ⟨#[]⟩),.lit (.bool false),.lit (.string ⟨#[]⟩),.lit (.bool (Zn (-1))),.lit (.string (Zm (-1))),.lit (.bool (Zn (1000))),.lit (.string (Zm (1000)))]=.agg (eH ⟨0,0,-1,1000⟩):=by simp only[eH,e4,lI,dY]
  have w0:=r7 ⟨0,0,-1,1000⟩ (-1) (1) (-1) (1) (1) (-1) (1) (-1) (-1) (-1) (-1) (-1) (by decide) (by decide) (by decide) (by decide) (by decide) (by decide) (by decide) (by decide) (by decide) (by decide) (by decide) (by decide)
  have he1:AV.agg [.lit (.bool false),.lit (.string ⟨#[]⟩),.lit (.bool false),.lit (.string ⟨#[]⟩),.lit (.bool (Zn (1))),.lit (.string (Zm (1))),.lit (.bool (Zn (1000))),.lit (.string (Zm (1000)))]=.agg (eH ⟨0,0,1,1000⟩):=by simp only[eH,e4,lI,dY]
  have w1:=r7 ⟨0,0,1,1000⟩ (-1) (-1) (1) (1) (-1) (1) (1) (1) (1) (-1) (1) (1) (by decide) (by decide) (by decide) (by decide) (by decide) (by decide) (by decide) (by decide) (by decide) (by decide) (by decide) (by decide)
  simp only[Ap]
  generalize eS (Ac 4 aN)=E at *
  repeat'(first|refine zg ?_|refine dG 6 ?_|(refine zc ?_ ?_<;>intro hc<;>first|simp only[NM]at hc|omega|skip)|refine zr ?_|(first|refine zf (c67 1000 (by decide)) ?_|refine zf (c67 (-1) (by decide)) ?_|refine zf (c67 1 (by decide)) ?_)|(refine mH _ _ _ _ z7 (pG (c121 _ _ _ _ _ _ _ _ _ _ _ _) (by simp -dsimp (disch:=try exact zo)only[go_sem]) (by simp -dsimp (disch:=try exact zo)only[go_sem]) (.tup _ (by simp)) (by simp[jO]) _) rfl (by simp[x9]) (by simp -dsimp (disch:=try exact zo)only[go_sem]) (by simp -dsimp (disch:=try exact zo)only[go_sem]) (.tup _ (by simp)) rfl ?_)|(first|refine fY _ pX (by simp -dsimp (disch:=try exact zo)only[go_sem];rw[he0];exact w0) (by simp -dsimp (disch:=try exact zo)only[go_sem]) (gJ _ _).in ?_|refine fY _ pX (by simp -dsimp (disch:=try exact zo)only[go_sem];rw[he1];exact w1) (by simp -dsimp (disch:=try exact zo)only[go_sem]) (gJ _ _).in ?_)|refine⟨by omega,?_⟩|(refine zb ?_ ?_<;>intro hg<;>(try rw[hg])<;>try simp only[NM]at hg)|omega|simp -dsimp (disch:=try exact zo)only[go_sem,Aa,hlE,Aq,An]|rfl)
  all_goals exact AW.stop ⟨⟨3,by omega⟩,(mZ (by simp -dsimp (disch:=try exact zo)only[go_sem,Aa]) (by simp -dsimp (disch:=try exact zo)only[go_sem,hE,Aa];try rfl) (by decide) (by simp -dsimp (disch:=try exact zo)only[go_sem,Aa]) (by simp -dsimp (disch:=try exact zo)only[go_sem,Aa])),by dsimp only;omega⟩
 ·exact z1
end Go.Proofs.Vx
namespace Go.Sx
set_option linter.unusedVariables false
def w8:List Int→Int
 | []=>0
 | d::t=>d+256*w8 t
def gG (xs:List Int):Prop:=∀ x∈xs,0≤x∧x<256
theorem nZ (n:Nat):(256:Int) ^ (n+1)=256*256 ^ n:=by rw[Int.pow_succ,Int.mul_comm]
theorem zL (n:Nat):((256 ^ n:Nat):Int)=(256:Int) ^ n:=Int.natCast_pow 256 n
theorem zK (n:Nat):(0:Int)<256 ^ n:=Int.pow_pos (by decide)
theorem a4e (a b:List Int):w8 (a++b)=w8 a+256 ^ a.length*w8 b:=by
 induction a with
 | nil=>simp[w8]
 | cons x a ih =>
  simp only[List.cons_append,w8,ih,Al,nZ,A4,Int.mul_assoc]
  omega
theorem a9i (n:Nat):w8 (List.replicate n 0)=0:=by
 induction n with
 | zero=>rfl
 | succ n ih=>simp[List.replicate_succ,w8,ih]
theorem a9h {xs:List Int} {i:Nat} (h:i<xs.length) (d:Int):w8 (xs.set i d)=w8 xs+(d - xs.getD i 0)*256 ^ i:=by
 induction xs generalizing i with
 | nil=>simp at h
 | cons x xs ih =>
  cases i with
  | zero=>simp[w8];omega
  | succ i =>
   have:=ih (i:=i) (by simpa using h)
   simp only[List.set_cons_succ,w8,this,List.getD_cons_succ,nZ,A4,Int.mul_left_comm (256:Int)]
   omega
theorem a6m {xs:List Int} (h:gG xs) {i:Nat} {d:Int} (hd:0≤d∧d<256):gG (xs.set i d):=fun x hx=>by
 rcases List.mem_or_eq_of_mem_set hx with hx|rfl
 ·exact h x hx
 ·exact hd
theorem pS {xs:List Int} (h:gG xs) {d:Int} (hd:0≤d∧d<256):gG (xs++[d]):=fun x hx=>by
 rcases List.mem_append.1 hx with hx|hx
 ·exact h x hx
 ·obtain rfl:x=d:=by simpa using hx
  exact hd
theorem a5a {xs:List Int} (h:gG xs) (i:Nat):0≤xs.getD i 0∧xs.getD i 0<256:=by
 rw[List.getD_eq_getElem?_getD]
 by_cases hi:i<xs.length
 ·rw[List.getElem?_eq_getElem hi];exact h _ (Ah hi)
 ·rw[List.getElem?_eq_none (by omega)];decide
theorem b0v {xs:List Int} (h:gG xs):0≤w8 xs∧w8 xs<256 ^ xs.length:=by
 induction xs with
 | nil=>decide
 | cons x xs ih =>
  obtain⟨i1,i2⟩:=ih fun y hy=>h y (by simp[hy])
  have:=h x (by simp)
  simp only[w8,Al,nZ]
  omega
theorem c5e {xs:List Int} (h:gG xs):(nvL (ofI xs):Int)=w8 xs:=by
 induction xs with
 | nil=>rfl
 | cons x xs ih =>
  have ih:=ih fun y hy=>h y (by simp[hy])
  have hx:=h x (by simp)
  have e:(UInt8.ofNat x.toNat).toNat=x.toNat:=by
   rw[UInt8.toNat_ofNat'];exact As (by omega)
  simp only[ofI,List.map_cons,nvL,w8,e]at ih ⊢
  rw[← ih]
  omega
def bM (m:ByteArray) (i:Nat):Int:=((nv m % 256 ^ i:Nat):Int)
theorem vV (m:ByteArray):bM m 0=0:=by simp[bM,Nat.mod_one]
theorem pQ {m:ByteArray} {i:Nat} (h:m.size≤i):bM m i=(nv m:Int):=by
 unfold bM
 rw[As (Ar (eW m) (Ao (by decide) h))]
theorem pM (m:ByteArray) (i:Nat):bM m (i+1)=bM m i+bt m i*256 ^ i:=by
 unfold bM
 rw[j5]
 have h:nv m % 256 ^ (i+1)=nv m % 256 ^ i+256 ^ i*(nv m / 256 ^ i % 256):=by rw[A3,Nat.mod_mul]
 rw[h,Int.natCast_add,Int.natCast_mul,zL,Az ((256:Int) ^ i)]
theorem a8a (m:ByteArray) (i:Nat):0≤bM m i∧bM m i<256 ^ i:=by
 unfold bM
 have h:=Nat.mod_lt (nv m) (Nat.pow_pos (n:=i) (show 0<256 by decide))
 have h2:=zL i
 omega
theorem b3f (m:ByteArray) (i:Nat):0≤bM m i:=(a8a m i).1
theorem a1s {m:ByteArray} {i:Nat} (h:m.size≤i):bt m i=0:=by
 unfold bt
 have:m.data.getD i 0=0:=by
  simp only[Array.getD_eq_getD_getElem?]
  rw[Array.getElem?_eq_none (by exact h)];rfl
 rw[this];rfl
def cC (m:ByteArray) (i:Nat):Nat:=nv m / 256 ^ i
theorem a3t (m:ByteArray):cC m 0=nv m:=by simp[cC]
theorem a4y {m:ByteArray} {i:Nat} (h:m.size≤i):cC m i=0:=Nat.div_eq_of_lt (Ar (eW m) (Ao (by decide) h))
theorem b4p (m:ByteArray) (i:Nat):cC m i=(bt m i).toNat+256*cC m (i+1):=by
 unfold cC
 rw[j5,Int.toNat_natCast,A3,← Nat.div_div_eq_div_mul]
 omega
end Go.Sx
