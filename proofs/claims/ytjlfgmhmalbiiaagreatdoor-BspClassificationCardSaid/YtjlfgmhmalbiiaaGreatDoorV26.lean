import Derived.Test.YtjlfgmhmalbiiaaGreatDoorV25
set_option linter.all false
set_option maxHeartbeats 40000000
namespace Go.Proofs.Vx
open Go Go.Sx Go.Proofs Tryz
attribute [local irreducible] fnT CallOK CallFr AW aO callV aP aN aM aQ gcaseP hid
theorem b5f:agT prog 33=some true∧plT prog 33=some [(0,1)]∧szT prog 33=some 1∧zeT prog 31=some [.lit (.slice none 0 0)]∧zeT prog 33=some [.lit (.slice none 0 0)]:=by and_intros<;>kernel_rfl
attribute [go_sem] b5f
theorem a7z {A V : Nat} (hAV : A ≠ V) {l m : aF} {arg : AV} (ha : ∀ σ, rnA σ arg = arg) (hk : ∀ K, gW K arg) (h : CallOK prog 69 [.loc 0 0, arg] [(0, .blk [.ref 1 0 l.length l.length]), (1, .vec 9 (eS l))] (.tup []) [(0, .blk [.ref 1 0 m.length m.length]), (1, .vec 9 (eS m))]) :
  CallOK prog 69 [.loc A 0,arg] [(A,.blk [.ref V 0 l.length l.length]),(V,.vec 9 (eS l))] (.tup []) [(A,.blk [.ref V 0 m.length m.length]),(V,.vec 9 (eS m))]:=by
 have key:=CallOK.renG (fun i=>if i=0 then A else V) (fun j=>if j=A then 0 else 1) h (by
  intro p hp
  simp only[zM,or_false]at hp
  rcases hp with rfl|rfl
  ·simp
  ·simp[hAV.symm]) (by
  intro p hp
  simp only[zM,or_false]at hp
  rcases hp with rfl|rfl
  ·intro c hc
   simp only[zM,or_false]at hc
   subst hc
   simp[gW,fH]
  ·intro e he c hc
   exact of_eq_true (aG _) e he c hc) (by
  intro p hp
  simp only[zM,or_false]at hp
  rcases hp with rfl|rfl
  ·refine⟨by simp,fun c hc=>?_⟩
   simp only[zM,or_false]at hc
   subst hc
   simp[gW,fH]
  ·exact⟨by simp,fun e he c hc=>of_eq_true (aG _) e he c hc⟩) (.tup _ (by simp)) (by
  intro x hx
  simp only[zM,or_false]at hx
  rcases hx with rfl|rfl
  ·simp[gW,fH]
  ·exact hk _)
 have e1:[AV.loc 0 0,arg].map (rnA (fun i=>if i=0 then A else V))=[AV.loc A 0,arg]:=by
  rw[List.map_cons,List.map_cons,List.map_nil,ha];rfl
 have e2:∀ m:aF,rnL (fun i=>if i=0 then A else V) [(0,AV.blk [.ref 1 0 m.length m.length]),(1,AV.vec 9 (eS m))]=[(A,AV.blk [.ref V 0 m.length m.length]),(V,AV.vec 9 (eS m))]:=fun m=>rfl
 rw[e1,e2,e2]at key
 exact key
theorem wF {A V : Nat} (hAV : A ≠ V) (l : aF) (hn : l.length ≤ 1048576) (p : Pl) (vs : List Pt) (h0 : vs ≠ []) (hvn : vs.length ≤ 268435456) :
  CallOK prog 69 [.loc A 0,.agg (eG p vs)] [(A,.blk [.ref V 0 l.length l.length]),(V,.vec 9 (eS l))] (.tup []) [(A,.blk [.ref V 0 (l++[(p,vs)]).length (l++[(p,vs)]).length]),(V,.vec 9 (eS (l++[(p,vs)])))] :=
 a7z hAV (fun _=>rfl) (fun _=>(gG p vs).in) (c69a l hn p vs h0 hvn)
theorem wB {A V : Nat} (hAV : A ≠ V) (l : aF) (hn : l.length ≤ 1048576) :
  CallOK prog 69 [.loc A 0,.agg eG0] [(A,.blk [.ref V 0 l.length l.length]),(V,.vec 9 (eS l))] (.tup []) [(A,.blk [.ref V 0 l.length l.length]),(V,.vec 9 (eS l))] :=
 a7z hAV (fun _=>rfl) (fun _=>.agg _ (by intro c hc;simp only[zM,or_false]at hc;rcases hc with rfl|rfl|rfl|rfl|rfl|rfl|rfl|rfl|rfl<;>exact .lit _)) (c69b l hn)
theorem a7i (l m:aF):eS (l++m)=eS l++eS m:=List.map_append
theorem c21a (l : aF) (b : Pl) (hb : BPl 1073741824 b) (hn : l.length ≤ 1048576) (hv : ∀ s ∈ l, s.2.length ≤ 268435456 ∧ ∀ v ∈ s.2, CanP v ∧ BPt 1073741824 v) (hm : (bC l).length ≤ 268435456) (hf : bI b l = false) :
  CallOK prog 21 [.agg [.sl (eS l)],.agg (eH b)] [] (.tup [.agg [.sl (eS l)],.agg [.lit (.slice none 0 0)]]) []:=by
 refine fN func21 rfl 84 rfl rfl (by simp -dsimp (disch:=try exact zo)only[go_sem,aG]) [.cell 4 33,.cell 5 33] (congrArg Array.toList results21) ?_
 simp only[aD,Nat.reduceAdd]
 have hml:maxLen=9223372036854775807:=rfl
 have hl:(eS l).length=l.length:=List.length_map _
 repeat'(first|refine zg ?_|(refine zc ?_ ?_<;>intro hc<;>try simp only[NM]at hc)|refine zr ?_|(refine zp (c27 l hn hv hm) (by simp -dsimp (disch:=try exact zo)only[go_sem,aG]) (by rw[gJ,aC];trivial) ?_)|refine⟨by omega,?_⟩|(refine zb ?_ ?_<;>intro hg<;>(try rw[hg])<;>try simp only[NM]at hg)|omega|simp -dsimp (disch:=try exact zo)only[go_sem,hl,zl,aG,aC]|contradiction|rfl)
 have hV:=wO l
 have hfA:(Sx.d9 l).any (fun v=>decide (0<aB b v))=bI b l:=oO l _
 have hbA:(Sx.d9 l).any (fun v=>decide (aB b v<0))=bJ b l:=oO l _
 have hvb:∀ v∈Sx.d9 l,BPt 1073741824 v:=fun v hvm=>by
  obtain⟨s,hs,hvm⟩:=rR.1 hvm
  exact ((hv s hs).2 v hvm).2
 generalize Sx.d9 l=vs at *
 have hvl:(vs.map eP).length=vs.length:=List.length_map _
 refine AW.loop (fun z:{i:Nat // i≤vs.length}=>⟨[(21,.lit (.int .i64 z.1)),(20,.lit (.int .i64 vs.length)),(19,.sl (vs.map eP)),(6,.lit (.bool (cN (fun v=>decide (aB b v<0)) vs z.1))),(7,.lit (.bool (cN (fun v=>decide (0<aB b v)) vs z.1))),(2,.loc 8 0),(3,.loc 9 0),(4,.loc 10 0),(5,.loc 11 0)],[(8,.blk [.sl (eS l)]),(9,.blk (eH b)),(10,.blk [.lit (.slice none 0 0)]),(11,.blk [.lit (.slice none 0 0)])],60⟩) (fun z=>vs.length - z.1) ⟨0,Nat.zero_le _⟩ (aH (by refine⟨?_,?_,?_,?_⟩<;>simp -dsimp (disch:=try exact zo)only[go_sem,aG,aC,uR,ZC])) ?_
 rintro⟨i,hi⟩
 dsimp only
 by_cases hlt:i<vs.length
 ·clear hfA hbA
  have ea:=fB vs i hlt
  have hsb:=lZ (fun v=>decide (aB b v<0)) vs i hlt
  have hsf:=lZ (fun v=>decide (0<aB b v)) vs i hlt
  have ha:=hvb _ (List.getElem_mem hlt)
  clear hv hvb
  generalize vs[i]=a at *
  simp only[eP,e4]at ea
  generalize cN (fun v=>decide (aB b v<0)) vs i=bb at *
  generalize cN (fun v=>decide (0<aB b v)) vs i=ff at *
  by_cases q1:aB b a<0<;>by_cases q2:0<aB b a
  ·omega
  all_goals
   have k1:=(show (aB b a<0)=_∧(0<aB b a)=_ from⟨(by first|exact eq_true q1|exact eq_false q1),(by first|exact eq_true q2|exact eq_false q2)⟩)
   clear q1 q2
   obtain⟨k1,k2⟩:=k1
   simp only[k1,k2,decide_true,decide_false]at hsb hsf
   cases bb<;>cases ff<;>(try simp only[Bool.true_or,Bool.false_or,Bool.or_true,Bool.or_false]at hsb)<;>(try simp only[Bool.true_or,Bool.false_or,Bool.or_true,Bool.or_false]at hsf)
  all_goals
   repeat'(first|refine zg ?_|(refine zc ?_ ?_<;>intro hc<;>first|simp only[NM]at hc|omega|skip)|refine zr ?_|(refine zf (c34 b a hb ha) ?_)|refine⟨by omega,?_⟩|(refine zb ?_ ?_<;>intro hg<;>(try rw[hg])<;>try simp only[NM]at hg)|omega|simp -dsimp (disch:=try exact zo)only[go_sem,hl,hvl,ea,k1,k2,zl,ZT,aG,aC]|contradiction|rfl)
  all_goals exact AW.stop ⟨⟨i+1,by omega⟩,(aH (by refine⟨?_,?_,?_,?_⟩<;>simp -dsimp (disch:=try exact zo)only[go_sem,aG,aC,hsf,hsb,ZC])),by dsimp only;omega⟩
 ·have hil:i=vs.length:=by omega
  subst hil
  rw[l6,l6,hfA,hbA]
  rw[hf]
  repeat'(first|refine zg ?_|(refine zc ?_ ?_<;>intro hc<;>first|simp only[NM]at hc|omega|skip)|refine zr ?_|refine⟨by omega,?_⟩|(refine zb ?_ ?_<;>intro hg<;>(try rw[hg])<;>try simp only[NM]at hg)|omega|simp -dsimp (disch:=try exact zo)only[go_sem,hl,zl,aG,aC]|contradiction|rfl)
theorem c21b (l : aF) (b : Pl) (hb : BPl 1073741824 b) (hn : l.length ≤ 1048576) (hv : ∀ s ∈ l, s.2.length ≤ 268435456 ∧ ∀ v ∈ s.2, CanP v ∧ BPt 1073741824 v) (hm : (bC l).length ≤ 268435456) (hf : bI b l = true) (hbh : bJ b l = false) :
  CallOK prog 21 [.agg [.sl (eS l)],.agg (eH b)] [] (.tup [.agg [.lit (.slice none 0 0)],.agg [.sl (eS l)]]) []:=by
 refine fN func21 rfl 84 rfl rfl (by simp -dsimp (disch:=try exact zo)only[go_sem,aG]) [.cell 4 33,.cell 5 33] (congrArg Array.toList results21) ?_
 simp only[aD,Nat.reduceAdd]
 have hml:maxLen=9223372036854775807:=rfl
 have hl:(eS l).length=l.length:=List.length_map _
 repeat'(first|refine zg ?_|(refine zc ?_ ?_<;>intro hc<;>try simp only[NM]at hc)|refine zr ?_|(refine zp (c27 l hn hv hm) (by simp -dsimp (disch:=try exact zo)only[go_sem,aG]) (by rw[gJ,aC];trivial) ?_)|refine⟨by omega,?_⟩|(refine zb ?_ ?_<;>intro hg<;>(try rw[hg])<;>try simp only[NM]at hg)|omega|simp -dsimp (disch:=try exact zo)only[go_sem,hl,zl,aG,aC]|contradiction|rfl)
 have hV:=wO l
 have hfA:(Sx.d9 l).any (fun v=>decide (0<aB b v))=bI b l:=oO l _
 have hbA:(Sx.d9 l).any (fun v=>decide (aB b v<0))=bJ b l:=oO l _
 have hvb:∀ v∈Sx.d9 l,BPt 1073741824 v:=fun v hvm=>by
  obtain⟨s,hs,hvm⟩:=rR.1 hvm
  exact ((hv s hs).2 v hvm).2
 generalize Sx.d9 l=vs at *
 have hvl:(vs.map eP).length=vs.length:=List.length_map _
 refine AW.loop (fun z:{i:Nat // i≤vs.length}=>⟨[(21,.lit (.int .i64 z.1)),(20,.lit (.int .i64 vs.length)),(19,.sl (vs.map eP)),(6,.lit (.bool (cN (fun v=>decide (aB b v<0)) vs z.1))),(7,.lit (.bool (cN (fun v=>decide (0<aB b v)) vs z.1))),(2,.loc 8 0),(3,.loc 9 0),(4,.loc 10 0),(5,.loc 11 0)],[(8,.blk [.sl (eS l)]),(9,.blk (eH b)),(10,.blk [.lit (.slice none 0 0)]),(11,.blk [.lit (.slice none 0 0)])],60⟩) (fun z=>vs.length - z.1) ⟨0,Nat.zero_le _⟩ (aH (by refine⟨?_,?_,?_,?_⟩<;>simp -dsimp (disch:=try exact zo)only[go_sem,aG,aC,uR,ZC])) ?_
 rintro⟨i,hi⟩
 dsimp only
 by_cases hlt:i<vs.length
 ·clear hfA hbA
  have ea:=fB vs i hlt
  have hsb:=lZ (fun v=>decide (aB b v<0)) vs i hlt
  have hsf:=lZ (fun v=>decide (0<aB b v)) vs i hlt
  have ha:=hvb _ (List.getElem_mem hlt)
  clear hv hvb
  generalize vs[i]=a at *
  simp only[eP,e4]at ea
  generalize cN (fun v=>decide (aB b v<0)) vs i=bb at *
  generalize cN (fun v=>decide (0<aB b v)) vs i=ff at *
  by_cases q1:aB b a<0<;>by_cases q2:0<aB b a
  ·omega
  all_goals
   have k1:=(show (aB b a<0)=_∧(0<aB b a)=_ from⟨(by first|exact eq_true q1|exact eq_false q1),(by first|exact eq_true q2|exact eq_false q2)⟩)
   clear q1 q2
   obtain⟨k1,k2⟩:=k1
   simp only[k1,k2,decide_true,decide_false]at hsb hsf
   cases bb<;>cases ff<;>(try simp only[Bool.true_or,Bool.false_or,Bool.or_true,Bool.or_false]at hsb)<;>(try simp only[Bool.true_or,Bool.false_or,Bool.or_true,Bool.or_false]at hsf)
  all_goals
   repeat'(first|refine zg ?_|(refine zc ?_ ?_<;>intro hc<;>first|simp only[NM]at hc|omega|skip)|refine zr ?_|(refine zf (c34 b a hb ha) ?_)|refine⟨by omega,?_⟩|(refine zb ?_ ?_<;>intro hg<;>(try rw[hg])<;>try simp only[NM]at hg)|omega|simp -dsimp (disch:=try exact zo)only[go_sem,hl,hvl,ea,k1,k2,zl,ZT,aG,aC]|contradiction|rfl)
  all_goals exact AW.stop ⟨⟨i+1,by omega⟩,(aH (by refine⟨?_,?_,?_,?_⟩<;>simp -dsimp (disch:=try exact zo)only[go_sem,aG,aC,hsf,hsb,ZC])),by dsimp only;omega⟩
 ·have hil:i=vs.length:=by omega
  subst hil
  rw[l6,l6,hfA,hbA]
  rw[hf,hbh]
  repeat'(first|refine zg ?_|(refine zc ?_ ?_<;>intro hc<;>first|simp only[NM]at hc|omega|skip)|refine zr ?_|refine⟨by omega,?_⟩|(refine zb ?_ ?_<;>intro hg<;>(try rw[hg])<;>try simp only[NM]at hg)|omega|simp -dsimp (disch:=try exact zo)only[go_sem,hl,zl,aG,aC]|contradiction|rfl)
end Go.Proofs.Vx
namespace Go.Proofs.Vx
open Go Go.Sx Go.Proofs Tryz
attribute [local irreducible] fnT CallOK CallFr AW aO callV aP aN aM aQ gcaseP hid
theorem c3k:fnT prog 69=true:=by kernel_rfl
theorem a6g:fnT prog 71=true:=by kernel_rfl
theorem mH {A V i : Nat} {ob : Nat → AV} {E : Eff → Prop} {l m : aF} {arg : AV} (hAV : A ≠ V) (hin : ∀ K, In K arg) (hc : CallOK prog 69 [.loc A 0, arg] [(A, .blk [.ref V 0 l.length l.length]), (V, .vec 9 (eS l))] (.tup []) [(A, .blk [.ref V 0 m.length m.length]), (V, .vec 9 (eS m))])
  (h1:ob A=.blk [.ref V 0 l.length l.length]) (h2:ob V=.vec 9 (eS l)) (h:E ⟨.tup [],[(A,.blk [.ref V 0 m.length m.length]),(V,.vec 9 (eS m))],[A,V]⟩):callV prog 69 [.loc A 0,arg] i ob E:=by
 refine kA _ _ _ c3k hc ?_ ?_ ?_ ?_ (.tup _ (by simp)) ?_ ?_ ?_ h
 ·intro p hp
  simp only[zM,or_false]at hp
  rcases hp with rfl|rfl
  ·exact h1
  ·exact h2
 ·intro x hx
  simp only[zM,or_false]at hx
  rcases hx with rfl|rfl
  ·exact .loc _ _ (by simp)
  ·exact hin _
 ·intro p hp
  simp only[zM,or_false]at hp
  rcases hp with rfl|rfl
  ·intro c hc
   simp only[zM,or_false]at hc
   subst hc
   exact .ref _ _ _ _ (by simp)
  ·exact fun e he c hc=>of_eq_true (aG _) e he c hc
 ·simp[hAV]
 ·intro p hp
  simp only[zM,or_false]at hp
  rcases hp with rfl|rfl
  ·refine⟨by simp,fun c hc=>?_⟩
   simp only[zM,or_false]at hc
   subst hc
   exact .ref _ _ _ _ (by simp)
  ·exact⟨by simp,fun e he c hc=>of_eq_true (aG _) e he c hc⟩
 ·simp
 ·intro p hp
  simp only[zM,or_false]at hp
  rcases hp with rfl|rfl<;>rfl
theorem inG0 (K:Nat→Prop):In K (.agg eG0):=.agg _ (by intro c hc;simp only[zM,or_false]at hc;rcases hc with rfl|rfl|rfl|rfl|rfl|rfl|rfl|rfl|rfl<;>exact .lit _)
theorem a7h (l:aF) (p:Pl) (vs:List Pt):eS (l++[(p,vs)])=eS l++[eG p vs]:=List.map_append
theorem a8y {es:List (List AV)} {L:Nat} (h:es.length=L):(if 0<L then AV.sl (es.take L)else if L=0 then AV.sl []else AV.any)=AV.sl es:=by
 split
 ·rw[List.take_of_length_le (by omega)]
 ·have:L=0:=by omega
  subst this
  rw[if_pos rfl,List.eq_nil_of_length_eq_zero h]
theorem c21c (l : aF) (b : Pl) (hb : BPl 1073741824 b) (hn : l.length ≤ 1048576) (hv : ∀ s ∈ l, s.2.length ≤ 268435456 ∧ ∀ v ∈ s.2, CanP v ∧ BPt 1073741824 v) (hm : (bC l).length ≤ 268435456) (hM131 : ∀ s ∈ l, s.2.length ≤ 131072) (hn4 : l.length ≤ 1024) (hcap : (cU b (cK (-1) b l)).1.length ≤ 268435456) (hcap2 : (cU (bH b) (cK 1 b l)).1.length ≤ 268435456) (hkb : ∀ h, ∀ s ∈ cK h b l, s.2.length ≤ 1048576 ∧ ∀ v ∈ s.2, BPt 1073741824 v) (hf : bI b l = true) (hbh : bJ b l = true) :
  CallOK prog 21 [.agg [.sl (eS l)],.agg (eH b)] [] (.tup [.agg [.sl (eS (cK (-1) b l++[(b,b8 b (cK (-1) b l))]))],.agg [.sl (eS (cK 1 b l++[(bH b,b8 (bH b) (cK 1 b l))]))]]) []:=by
 refine fN func21 rfl 84 rfl rfl (by simp -dsimp (disch:=try exact zo)only[go_sem,aG]) [.cell 4 33,.cell 5 33] (congrArg Array.toList results21) ?_
 simp only[aD,Nat.reduceAdd]
 have hml:maxLen=9223372036854775807:=rfl
 have hl:(eS l).length=l.length:=List.length_map _
 repeat'(first|refine zg ?_|(refine zc ?_ ?_<;>intro hc<;>try simp only[NM]at hc)|refine zr ?_|(refine zp (c27 l hn hv hm) (by simp -dsimp (disch:=try exact zo)only[go_sem,aG]) (by rw[gJ,aC];trivial) ?_)|refine⟨by omega,?_⟩|(refine zb ?_ ?_<;>intro hg<;>(try rw[hg])<;>try simp only[NM]at hg)|omega|simp -dsimp (disch:=try exact zo)only[go_sem,hl,zl,aG,aC]|contradiction|rfl)
 have hV:=wO l
 have hfA:(Sx.d9 l).any (fun v=>decide (0<aB b v))=bI b l:=oO l _
 have hbA:(Sx.d9 l).any (fun v=>decide (aB b v<0))=bJ b l:=oO l _
 have hvb:∀ v∈Sx.d9 l,BPt 1073741824 v:=fun v hvm=>by
  obtain⟨s,hs,hvm⟩:=rR.1 hvm
  exact ((hv s hs).2 v hvm).2
 generalize Sx.d9 l=vs at *
 have hvl:(vs.map eP).length=vs.length:=List.length_map _
 refine AW.loop (fun z:{i:Nat // i≤vs.length}=>⟨[(21,.lit (.int .i64 z.1)),(20,.lit (.int .i64 vs.length)),(19,.sl (vs.map eP)),(6,.lit (.bool (cN (fun v=>decide (aB b v<0)) vs z.1))),(7,.lit (.bool (cN (fun v=>decide (0<aB b v)) vs z.1))),(2,.loc 8 0),(3,.loc 9 0),(4,.loc 10 0),(5,.loc 11 0)],[(8,.blk [.sl (eS l)]),(9,.blk (eH b)),(10,.blk [.lit (.slice none 0 0)]),(11,.blk [.lit (.slice none 0 0)])],60⟩) (fun z=>vs.length - z.1) ⟨0,Nat.zero_le _⟩ (aH (by refine⟨?_,?_,?_,?_⟩<;>simp -dsimp (disch:=try exact zo)only[go_sem,aG,aC,uR,ZC])) ?_
 rintro⟨i,hi⟩
 dsimp only
 by_cases hlt:i<vs.length
 ·clear hfA hbA
  have ea:=fB vs i hlt
  have hsb:=lZ (fun v=>decide (aB b v<0)) vs i hlt
  have hsf:=lZ (fun v=>decide (0<aB b v)) vs i hlt
  have ha:=hvb _ (List.getElem_mem hlt)
  clear hv hvb
  generalize vs[i]=a at *
  simp only[eP,e4]at ea
  generalize cN (fun v=>decide (aB b v<0)) vs i=bb at *
  generalize cN (fun v=>decide (0<aB b v)) vs i=ff at *
  by_cases q1:aB b a<0<;>by_cases q2:0<aB b a
  ·omega
  all_goals
   have k1:=(show (aB b a<0)=_∧(0<aB b a)=_ from⟨(by first|exact eq_true q1|exact eq_false q1),(by first|exact eq_true q2|exact eq_false q2)⟩)
   clear q1 q2
   obtain⟨k1,k2⟩:=k1
   simp only[k1,k2,decide_true,decide_false]at hsb hsf
   cases bb<;>cases ff<;>(try simp only[Bool.true_or,Bool.false_or,Bool.or_true,Bool.or_false]at hsb)<;>(try simp only[Bool.true_or,Bool.false_or,Bool.or_true,Bool.or_false]at hsf)
  all_goals
   repeat'(first|refine zg ?_|(refine zc ?_ ?_<;>intro hc<;>first|simp only[NM]at hc|omega|skip)|refine zr ?_|(refine zf (c34 b a hb ha) ?_)|refine⟨by omega,?_⟩|(refine zb ?_ ?_<;>intro hg<;>(try rw[hg])<;>try simp only[NM]at hg)|omega|simp -dsimp (disch:=try exact zo)only[go_sem,hl,hvl,ea,k1,k2,zl,ZT,aG,aC]|contradiction|rfl)
  all_goals exact AW.stop ⟨⟨i+1,by omega⟩,(aH (by refine⟨?_,?_,?_,?_⟩<;>simp -dsimp (disch:=try exact zo)only[go_sem,aG,aC,hsf,hsb,ZC])),by dsimp only;omega⟩
 ·have hil:i=vs.length:=by omega
  subst hil
  rw[l6,l6,hfA,hbA]
  rw[hf,hbh]
  clear hvb hvl hfA hbA hV hi hlt
  repeat'(first|refine zg ?_|(refine zc ?_ ?_<;>intro hc<;>first|simp only[NM]at hc|omega|skip)|refine zr ?_|refine⟨by omega,?_⟩|(refine zb ?_ ?_<;>intro hg<;>(try rw[hg])<;>try simp only[NM]at hg)|omega|simp -dsimp (disch:=try exact zo)only[go_sem,hl,zl,aG,aC]|contradiction|rfl)
  have hk0:cK (-1) b []=[]:=rfl
  have hk1:cK 1 b []=[]:=rfl
  have hz:eS []=[]:=rfl
  refine AW.loop (fun z:{i:Nat // i≤l.length}=>⟨[(52,.lit (.int .i64 z.1)),(51,.lit (.int .i64 l.length)),(13,.clo 69 []),(11,.loc 67 0),(12,.loc 68 0),(50,.sl (eS l)),(2,.loc 8 0),(3,.loc 9 0),(4,.loc 10 0),(5,.loc 11 0)],[(67,.blk [.ref 74 0 (cK (-1) b (l.take z.1)).length (cK (-1) b (l.take z.1)).length]),(74,.vec 9 (eS (cK (-1) b (l.take z.1)))),(68,.blk [.ref 75 0 (cK 1 b (l.take z.1)).length (cK 1 b (l.take z.1)).length]),(75,.vec 9 (eS (cK 1 b (l.take z.1)))),(9,.blk (eH b)),(10,.blk [.lit (.slice none 0 0)]),(11,.blk [.lit (.slice none 0 0)])],110⟩) (fun z=>l.length - z.1) ⟨0,Nat.zero_le _⟩ (Weak.trans (jK 67 0 9 _ (by decide) rfl (by simp) rfl (by simp)) (Weak.trans (jK 68 0 9 _ (by decide) rfl (by simp) rfl (by simp)) (aH (by refine⟨?_,?_,?_,?_⟩<;>simp -dsimp (disch:=try exact zo)only[go_sem,List.take_zero,hk0,hk1,hz,aG,aC,List.length_nil,ZC])))) ?_
  rintro⟨i,hi⟩
  dsimp only
  by_cases hlt:i<l.length
  ·have es1:=sL l i hlt
   have hL2:=a2j (-1) b l i hlt
   have hM2:=a2j 1 b l i hlt
   have hLn:=uY (-1) b (l.take i)
   have hMn:=uY 1 b (l.take i)
   have htl:(l.take i).length≤l.length:=List.length_take_le' _ _
   have hvs:=hv _ (List.getElem_mem hlt)
   have hMs:=hM131 _ (List.getElem_mem hlt)
   generalize l[i]=sd at *
   obtain⟨sp,svs⟩:=sd
   dsimp only at es1 hL2 hM2 hvs hMs
   generalize cK (-1) b (l.take i)=L at *
   generalize cK 1 b (l.take i)=M at *
   have hlL:(eS L).length=L.length:=List.length_map _
   have hlM:(eS M).length=M.length:=List.length_map _
   have c70x:=c70 sp b svs hvs.1 (fun v hvm=>(hvs.2 v hvm).1) (fun v hvm=>(hvs.2 v hvm).2) hb
   have hin70:∀ K,∀ x∈[prt (-1) sp b svs,prt 1 sp b svs],In K x:=fun K x hx=>by
    simp only[zM,or_false]at hx
    rcases hx with rfl|rfl<;>exact vO _ _ _ _
   have hin70:=hin70 (fun _=>False)
   have pa:=oR (-1) b svs
   have pb:=oR 1 b svs
   simp only[eG]at es1
   unfold prt at c70x hin70
   clear hv hm hcap hcap2 hkb hvs hf hbh
   cases hA:bG (-1) b svs svs.length<;>cases hB:bG 1 b svs svs.length
   ·have hL:True:=trivial
    have hM:True:=trivial
    simp only[hA,hB,reduceIte,Bool.false_eq_true,List.append_nil]at hL2 hM2 c70x hin70
    repeat'(first|refine zg ?_|(refine zc ?_ ?_<;>intro hc<;>first|simp only[NM]at hc|omega|skip)|refine zr ?_|(refine zp c70x (by simp -dsimp (disch:=try exact zo)only[go_sem,aC]) (.tup _ hin70) ?_)|(first|(refine mH (by decide) (fun _=>inG0 _) (wB (by decide) L (by omega)) rfl rfl ?_)|(refine mH (by decide) (fun _=>inG0 _) (wB (by decide) M (by omega)) rfl rfl ?_))|refine⟨by omega,?_⟩|(refine zb ?_ ?_<;>intro hg<;>(try rw[hg])<;>try simp only[NM]at hg)|omega|simp -dsimp (disch:=try exact zo)only[go_sem,hl,es1,zl,ZT,aG,aC,hlL,hlM]|contradiction|rfl)
    all_goals exact AW.stop ⟨⟨i+1,by omega⟩,(aH (by refine⟨?_,?_,?_,?_⟩<;>first|(simp -dsimp (disch:=try exact zo)only[go_sem,hL2,hM2,List.length_append,ZC,hlL,hlM,zl];done)|(simp -dsimp (disch:=try exact zo)only[go_sem,aG,aC,ZC];done))),by dsimp only;omega⟩
   ·have hL:True:=trivial
    have hM:=vE (h:=1) (by decide) hB
    simp only[hA,hB,reduceIte,Bool.false_eq_true,List.append_nil]at hL2 hM2 c70x hin70
    repeat'(first|refine zg ?_|(refine zc ?_ ?_<;>intro hc<;>first|simp only[NM]at hc|omega|skip)|refine zr ?_|(refine zp c70x (by simp -dsimp (disch:=try exact zo)only[go_sem,aC]) (.tup _ hin70) ?_)|(first|(refine mH (by decide) (fun _=>inG0 _) (wB (by decide) L (by omega)) rfl rfl ?_)|(refine mH (by decide) (fun _=>(gG _ _).in) (wF (by decide) M (by omega) sp (bD (1) b svs) hM (by omega)) rfl rfl ?_))|refine⟨by omega,?_⟩|(refine zb ?_ ?_<;>intro hg<;>(try rw[hg])<;>try simp only[NM]at hg)|omega|simp -dsimp (disch:=try exact zo)only[go_sem,hl,es1,zl,ZT,aG,aC,hlL,hlM]|contradiction|rfl)
    all_goals exact AW.stop ⟨⟨i+1,by omega⟩,(aH (by refine⟨?_,?_,?_,?_⟩<;>first|(simp -dsimp (disch:=try exact zo)only[go_sem,hL2,hM2,List.length_append,ZC,hlL,hlM,zl];done)|(simp -dsimp (disch:=try exact zo)only[go_sem,aG,aC,ZC];done))),by dsimp only;omega⟩
   ·have hL:=vE (h:=-1) (by decide) hA
    have hM:True:=trivial
    simp only[hA,hB,reduceIte,Bool.false_eq_true,List.append_nil]at hL2 hM2 c70x hin70
    repeat'(first|refine zg ?_|(refine zc ?_ ?_<;>intro hc<;>first|simp only[NM]at hc|omega|skip)|refine zr ?_|(refine zp c70x (by simp -dsimp (disch:=try exact zo)only[go_sem,aC]) (.tup _ hin70) ?_)|(first|(refine mH (by decide) (fun _=>(gG _ _).in) (wF (by decide) L (by omega) sp (bD (-1) b svs) hL (by omega)) rfl rfl ?_)|(refine mH (by decide) (fun _=>inG0 _) (wB (by decide) M (by omega)) rfl rfl ?_))|refine⟨by omega,?_⟩|(refine zb ?_ ?_<;>intro hg<;>(try rw[hg])<;>try simp only[NM]at hg)|omega|simp -dsimp (disch:=try exact zo)only[go_sem,hl,es1,zl,ZT,aG,aC,hlL,hlM]|contradiction|rfl)
    all_goals exact AW.stop ⟨⟨i+1,by omega⟩,(aH (by refine⟨?_,?_,?_,?_⟩<;>first|(simp -dsimp (disch:=try exact zo)only[go_sem,hL2,hM2,List.length_append,ZC,hlL,hlM,zl];done)|(simp -dsimp (disch:=try exact zo)only[go_sem,aG,aC,ZC];done))),by dsimp only;omega⟩
   ·have hL:=vE (h:=-1) (by decide) hA
    have hM:=vE (h:=1) (by decide) hB
    simp only[hA,hB,reduceIte,Bool.false_eq_true,List.append_nil]at hL2 hM2 c70x hin70
    repeat'(first|refine zg ?_|(refine zc ?_ ?_<;>intro hc<;>first|simp only[NM]at hc|omega|skip)|refine zr ?_|(refine zp c70x (by simp -dsimp (disch:=try exact zo)only[go_sem,aC]) (.tup _ hin70) ?_)|(first|(refine mH (by decide) (fun _=>(gG _ _).in) (wF (by decide) L (by omega) sp (bD (-1) b svs) hL (by omega)) rfl rfl ?_)|(refine mH (by decide) (fun _=>(gG _ _).in) (wF (by decide) M (by omega) sp (bD (1) b svs) hM (by omega)) rfl rfl ?_))|refine⟨by omega,?_⟩|(refine zb ?_ ?_<;>intro hg<;>(try rw[hg])<;>try simp only[NM]at hg)|omega|simp -dsimp (disch:=try exact zo)only[go_sem,hl,es1,zl,ZT,aG,aC,hlL,hlM]|contradiction|rfl)
    all_goals exact AW.stop ⟨⟨i+1,by omega⟩,(aH (by refine⟨?_,?_,?_,?_⟩<;>first|(simp -dsimp (disch:=try exact zo)only[go_sem,hL2,hM2,List.length_append,ZC,hlL,hlM,zl];done)|(simp -dsimp (disch:=try exact zo)only[go_sem,aG,aC,ZC];done))),by dsimp only;omega⟩
  ·have hil:i=l.length:=by omega
   subst hil
   rw[List.take_length]
   have hLn:=uY (-1) b l
   have hMn:=uY 1 b l
   have kL:=hkb (-1)
   have kM:=hkb 1
   clear hv hm hf hbh hkb
   generalize cK (-1) b l=L at *
   generalize cK 1 b l=M at *
   have hlL:(eS L).length=L.length:=List.length_map _
   have hlM:(eS M).length=M.length:=List.length_map _
   have cA:=c71 L b hb (by omega) kL hcap
   have cB:=c71 M (bH b) hb.neg (by omega) kM hcap2
   have hbwL:=a8y hlL
   have hbwM:=a8y hlM
   have hbL:eS L++[eG b (b8 b L)]=eS (L++[(b,b8 b L)]):=(a7h _ _ _).symm
   have hbM:eS M++[eG (bH b) (b8 (bH b) M)]=eS (M++[(bH b,b8 (bH b) M)]):=(a7h _ _ _).symm
   have hfL:(eS (L++[(b,b8 b L)])).take (L.length+1)=eS (L++[(b,b8 b L)]):=List.take_of_length_le (by simp)
   have hfM:(eS (M++[(bH b,b8 (bH b) M)])).take (M.length+1)=eS (M++[(bH b,b8 (bH b) M)]):=List.take_of_length_le (by simp)
   have hpL:(0<L.length+1)=True:=by simp
   have hpM:(0<M.length+1)=True:=by simp
   generalize b8 b L=cl at *
   generalize b8 (bH b) M=cm at *
   clear kL kM hcap hcap2
   repeat'(first|refine zg ?_|(refine zc ?_ ?_<;>intro hc<;>first|simp only[NM]at hc|omega|skip)|refine zr ?_|(first|refine fQ _ a6g (by simp -dsimp (disch:=try exact zo)only[go_sem,hlL,hbwL,hbwM];exact cA) (by simp -dsimp (disch:=try exact zo)only[go_sem,aG,hlL,hbwL]) (gG _ _).in ?_|refine fQ _ a6g (by simp -dsimp (disch:=try exact zo)only[go_sem,hlM,hbwL,hbwM];exact cB) (by simp -dsimp (disch:=try exact zo)only[go_sem,aG,hlM,hbwM]) (gG _ _).in ?_)|(refine zf (c22 b hb) ?_)|refine⟨by omega,?_⟩|(refine zb ?_ ?_<;>intro hg<;>(try rw[hg])<;>try simp only[NM]at hg)|omega|simp -dsimp (disch:=try exact zo)only[go_sem,hl,zl,aG,aC,hlL,hlM,hbL,hbM,hfL,hfM,hpL,hpM]|contradiction|rfl)
end Go.Proofs.Vx
namespace Go.Proofs.Vx
open Go Go.Sx Go.Proofs Tryz
attribute [local irreducible] fnT CallOK CallFr AW aO callV aP aN aM aQ gcaseP hid
theorem b0j {S M:Nat} {l:aF} (h:∀ s∈l,s.2.length≤M) (hn:l.length≤S):(bC l).length≤S*M:=by
 have key:(bC l).length≤l.length*M:=by
  clear hn
  induction l with
  | nil=>simp[bC]
  | cons s l ih =>
   have h1:=h s (by simp)
   have h2:=ih fun t ht=>h t (by simp[ht])
   simp only[bC,List.flatMap_cons,List.length_append,List.length_cons,Nat.add_mul,Nat.one_mul]at h2 ⊢
   omega
 exact Nat.le_trans key (Nat.mul_le_mul_right _ hn)
abbrev BdC (l:aF):Prop:=Bd 64 4096 100000 l
theorem hv_of {l:aF} (hc:CanC l) (h:BdC l):∀ s∈l,s.2.length≤268435456∧∀ v∈s.2,CanP v∧BPt 1073741824 v:=fun s hs=>⟨Nat.le_trans (h.m s hs) (by decide),fun v hv=>⟨hc.can s hs v hv,(h.k s hs v hv).mono (by decide)⟩⟩
theorem c21x (l:aF) (b:Pl) (hc:OkC l) (h:BdC l) (hb:BPl 100000 b):CallOK prog 21 [.agg [.sl (eS l)],.agg (eH b)] [] (.tup [.agg [.sl (eS (aS b l).1)],.agg [.sl (eS (aS b l).2)]]) []:=by
 have hb':=hb.mono (show 100000≤1073741824 by decide)
 have hn:l.length≤1048576:=Nat.le_trans h.n (by decide)
 have hm:(bC l).length≤268435456:=Nat.le_trans (b0j h.m h.n) (by decide)
 have hv:=hv_of hc.can h
 by_cases hf:bI b l=false
 ·have e:aS b l=(l,[]):=by unfold aS;rw[if_pos hf]
  rw[e]
  exact (c21a l b hb' hn hv hm hf).wk fun g v=>uV (fun v h=>h) fun v h=>uL h
 ·have hf':bI b l=true:=by simpa using hf
  by_cases hbh:bJ b l=false
  ·have e:aS b l=([],l):=by unfold aS;rw[if_neg hf,if_pos hbh]
   rw[e]
   exact (c21b l b hb' hn hv hm hf' hbh).wk fun g v=>uV (fun v h=>uL h) fun v h=>h
  ·have hb2:bJ b l=true:=by simpa using hbh
   have hco:CellOK l:=hc.elim (fun e=>by subst e;simp[bI]at hf') id
   have e:aS b l=(iR b l,iR (bH b) l):=by unfold aS;rw[if_neg hf,if_neg hbh]
   have S1:=gP hco hf' hb2
   have S2:=gP (b:=bH b) hco (by rw[nD];exact hb2) (by rw[nA];exact hf')
   have B1:=zZ h hb
   have B2:=zZ h hb.neg
   have k2:=b7r (b:=b) hco.toCanC
   have C1:=(sM hco S1).2.2.2
   have C2:=(sM hco S2).2.2.2
   have:=c21c l b hb' hn hv hm (fun s hs=>Nat.le_trans (h.m s hs) (by decide)) (Nat.le_trans h.n (by decide)) (by rw[a5m];have:=B1.n;omega) (by rw[k2];have:=B2.n;omega) (by
    intro hh s hs
    have hp:s.2.length≤2*4096∧∀ v∈s.2,BPt (100000+2*100000+4) v:=by
     obtain⟨t,ht,e⟩:=List.mem_filterMap.1 hs
     by_cases hq:bG hh b t.2 t.2.length=true
     ·rw[if_pos hq]at e
      obtain rfl:=Option.some.inj e
      refine⟨?_,xY hb (h.k t ht)⟩
      have:=oR hh b t.2
      have:=h.m t ht
      show (bD hh b t.2).length≤_
      omega
     ·rw[if_neg hq]at e;contradiction
    exact⟨Nat.le_trans hp.1 (by decide),fun v hv=>(hp.2 v hv).mono (by decide)⟩) hf' hb2
   rw[e]
   rw[a5m,k2]at this
   exact this
end Go.Proofs.Vx
namespace Go.Proofs.Vx
open Go Go.Sx Go.Proofs Tryz
attribute [local irreducible] fnT CallOK CallFr AW aO callV aP aN aM aQ gcaseP hid
theorem pN (p:Pt):Rat.divInt p.x p.w=(tv p).x∧Rat.divInt p.y p.w=(tv p).y∧Rat.divInt p.z p.w=(tv p).z:=⟨Rat.divInt_eq_div _ _,Rat.divInt_eq_div _ _,Rat.divInt_eq_div _ _⟩
structure QV (k:Nat) (v:Geo.V):Prop where
 x:Qs k v.x
 y:Qs k v.y
 z:Qs k v.z
theorem QV.mono {k l:Nat} {v:Geo.V} (h:QV k v) (hl:k≤l):QV l v:=⟨h.x.mono hl,h.y.mono hl,h.z.mono hl⟩
theorem nV {p:Pt} {k:Nat} (hc:CanP p) (h:BPt k p):QV k (tv p):=by
 have hw:p.w≠0:=by have:=hc.w;omega
 refine⟨?_,?_,?_⟩
 ·rw[← (pN p).1];exact Qs.divInt hw h.out.a h.out.d
 ·rw[← (pN p).2.1];exact Qs.divInt hw h.out.b h.out.d
 ·rw[← (pN p).2.2];exact Qs.divInt hw h.out.c h.out.d
theorem zB {a b:Geo.V} {k:Nat} (ha:QV k a) (hb:QV k b):QV (2*k+1) (a - b):=by
 refine⟨(ha.x.sub hb.x).mono (by omega),(ha.y.sub hb.y).mono (by omega),(ha.z.sub hb.z).mono (by omega)⟩
theorem b8v {a b:Geo.V} {k:Nat} (ha:QV k a) (hb:QV k b):QV (4*k+1) (Geo.aA a b) :=
 ⟨((ha.y.mul hb.z).sub (ha.z.mul hb.y)).mono (by omega),((ha.z.mul hb.x).sub (ha.x.mul hb.z)).mono (by omega),((ha.x.mul hb.y).sub (ha.y.mul hb.x)).mono (by omega)⟩
theorem c6h {a b:Geo.V} {k l:Nat} (ha:QV k a) (hb:QV l b):QV (k+l+1) (a+b):=⟨ha.x.add hb.x,ha.y.add hb.y,ha.z.add hb.z⟩
end Go.Proofs.Vx
namespace Go.Proofs.Vx
open Go Go.Sx Go.Proofs Tryz
attribute [local irreducible] fnT CallOK CallFr AW aO callV aP aN aM aQ gcaseP hid
theorem b5e:agT prog 140=some true∧agT prog 141=some true∧arT prog 140=some (3,1,false)∧arT prog 141=some (4,3,true)∧bM prog 140=false∧bM prog 141=false∧szT prog 140=some 3∧szT prog 141=some 12∧zeT prog 140=some [.lit (.int .i64 0),.lit (.int .i64 0),.lit (.int .i64 0)]:=by and_intros<;>kernel_rfl
attribute [go_sem] b5e
theorem c0b (a b c:Int):CanP (wpt a b c):=⟨by show (0:Int)<1;decide,by show g4 (1000*a) (1000*b) (1000*c) 1=1;unfold g4;exact Nat.gcd_one_right _⟩
theorem mkW (a b c:Int):mkP ((a*1000:Int):Rat) ((b*1000:Int):Rat) ((c*1000:Int):Rat)=wpt a b c:=by
 refine kT (yR _ _ _) (c0b a b c) ?_
 rw[y9]
 have e:∀ x:Int,((x*1000:Int):Rat)=((1000*x:Int):Rat) / ((1:Int):Rat):=fun x=>by
  rw[Int.mul_comm]
  have:((1:Int):Rat)=1:=rfl
  rw[this]
  grind
 rw[e a,e b,e c]
 rfl
theorem iU {a:Int} (h:a=1∨a=-1):-9223372036854775808≤a*1000∧a*1000<9223372036854775808:=by omega
theorem iS {a:Int} (h:a=1∨a=-1):IntKind.i64.wrap (a*1000)=a*1000:=wrap64 (by omega) (by omega)
theorem iV {a:Int} (h:a=1∨a=-1):Qs 1073741824 ((a*1000:Int):Rat):=by
 refine⟨?_,by show (nb 1).size≤_;rw[sT];decide⟩
 rcases h with rfl|rfl
 ·exact Nat.le_trans ((cI 1000 2).2 (by decide)) (by decide)
 ·exact Nat.le_trans ((cI (-1000) 2).2 (by decide)) (by decide)
set_option maxRecDepth 20000 in
theorem rB (p:Pl) (a0 b0 c0 a1 b1 c1 a2 b2 c2 a3 b3 c3:Int) (ha0:a0=1∨a0=-1) (hb0:b0=1∨b0=-1) (hc0:c0=1∨c0=-1) (ha1:a1=1∨a1=-1) (hb1:b1=1∨b1=-1) (hc1:c1=1∨c1=-1) (ha2:a2=1∨a2=-1) (hb2:b2=1∨b2=-1) (hc2:c2=1∨c2=-1) (ha3:a3=1∨a3=-1) (hb3:b3=1∨b3=-1) (hc3:c3=1∨c3=-1):CallNw prog 122 [.agg (eH p),.agg [.lit (.int .i64 a0),.lit (.int .i64 b0),.lit (.int .i64 c0),.lit (.int .i64 a1),.lit (.int .i64 b1),.lit (.int .i64 c1),.lit (.int .i64 a2),.lit (.int .i64 b2),.lit (.int .i64 c2),.lit (.int .i64 a3),.lit (.int .i64 b3),.lit (.int .i64 c3)]] (.agg (eG p [wpt a0 b0 c0,wpt a1 b1 c1,wpt a2 b2 c2,wpt a3 b3 c3])):=by
 refine CallNw.flat func122 rfl 37 rfl rfl (gG _ _) [.cell 4 58] (congrArg Array.toList results122) ?_
 simp only[aD,Nat.reduceAdd]
 have hml:maxLen=9223372036854775807:=rfl
 have qa0:=iV ha0
 have ra0:=iU ha0
 have wa0:=iS ha0
 clear ha0
 have qb0:=iV hb0
 have rb0:=iU hb0
 have wb0:=iS hb0
 clear hb0
 have qc0:=iV hc0
 have rc0:=iU hc0
 have wc0:=iS hc0
 clear hc0
 have qa1:=iV ha1
 have ra1:=iU ha1
 have wa1:=iS ha1
 clear ha1
 have qb1:=iV hb1
 have rb1:=iU hb1
 have wb1:=iS hb1
 clear hb1
 have qc1:=iV hc1
 have rc1:=iU hc1
 have wc1:=iS hc1
 clear hc1
 have qa2:=iV ha2
 have ra2:=iU ha2
 have wa2:=iS ha2
 clear ha2
 have qb2:=iV hb2
 have rb2:=iU hb2
 have wb2:=iS hb2
 clear hb2
 have qc2:=iV hc2
 have rc2:=iU hc2
 have wc2:=iS hc2
 clear hc2
 have qa3:=iV ha3
 have ra3:=iU ha3
 have wa3:=iS ha3
 clear ha3
 have qb3:=iV hb3
 have rb3:=iU hb3
 have wb3:=iS hb3
 clear hb3
 have qc3:=iV hc3
 have rc3:=iU hc3
 have wc3:=iS hc3
 clear hc3
 repeat'(first|refine zg ?_|(refine zc ?_ ?_<;>intro hc<;>try simp only[NM]at hc)|refine zr ?_|refine⟨by omega,?_⟩|(refine zb ?_ ?_<;>intro hg<;>(try rw[hg])<;>try simp only[NM]at hg)|omega|simp -dsimp (disch:=try exact zo)only[go_sem]|contradiction|rfl)
 refine AW.weak (jK 13 8 8 _ (by decide) rfl (by simp) rfl (by simp)) ?_
 refine AW.weak (show Weak _ ⟨[(14,.lit (.int .i64 0)),(13,.agg [.lit (.int .i64 a0),.lit (.int .i64 b0),.lit (.int .i64 c0),.lit (.int .i64 a1),.lit (.int .i64 b1),.lit (.int .i64 c1),.lit (.int .i64 a2),.lit (.int .i64 b2),.lit (.int .i64 c2),.lit (.int .i64 a3),.lit (.int .i64 b3),.lit (.int .i64 c3)]),(5,.loc 13 0),(4,.loc 10 0)],[(13,.blk [.lit (.bool (Zn p.a)),.lit (.string (Zm p.a)),.lit (.bool (Zn p.b)),.lit (.string (Zm p.b)),.lit (.bool (Zn p.c)),.lit (.string (Zm p.c)),.lit (.bool (Zn p.d)),.lit (.string (Zm p.d)),.ref 17 0 0 0]),(17,.vec 8 ([]:List (List AV))),(10,.blk eG0)],30⟩from (aH (by refine⟨?_,?_,?_,?_⟩<;>simp -dsimp (disch:=try exact zo)only[go_sem,ZC]))) ?_
 repeat'(first|refine zg ?_|refine bQ 6 ?_|(refine zc ?_ ?_<;>intro hc<;>try simp only[NM]at hc)|refine zn ?_|(first|refine zf (c68 (a0*1000) ra0) ?_|refine zf (c68 (b0*1000) rb0) ?_|refine zf (c68 (c0*1000) rc0) ?_|refine zf (c68 (a1*1000) ra1) ?_|refine zf (c68 (b1*1000) rb1) ?_|refine zf (c68 (c1*1000) rc1) ?_|refine zf (c68 (a2*1000) ra2) ?_|refine zf (c68 (b2*1000) rb2) ?_|refine zf (c68 (c2*1000) rc2) ?_|refine zf (c68 (a3*1000) ra3) ?_|refine zf (c68 (b3*1000) rb3) ?_|refine zf (c68 (c3*1000) rc3) ?_)|(refine zf (c96 _ _ _ (by assumption) (by assumption) (by assumption)) ?_)|refine⟨by omega,?_⟩|(refine zb ?_ ?_<;>intro hg<;>(try rw[hg])<;>try simp only[NM]at hg)|omega|simp -dsimp (disch:=try exact zo)only[go_sem,mkW,wa0,wb0,wc0,wa1,wb1,wc1,wa2,wb2,wc2,wa3,wb3,wc3]|contradiction|rfl)
end Go.Proofs.Vx
namespace Go.Proofs.Vx
open Go Go.Sx Go.Proofs Tryz
attribute [local irreducible] fnT CallOK CallFr AW aO callV aP aN aM aQ gcaseP hid
theorem b5d:arT prog 145=none∧slT prog 145=some (140,3)∧bM prog 145=false:=by and_intros<;>kernel_rfl
attribute [go_sem] b5d
set_option maxRecDepth 20000 in
theorem c121 (a0 b0 c0 a1 b1 c1 a2 b2 c2 a3 b3 c3:Int):CallOK prog 121 [.bs 0 0 3 4] [(0,.blk [.lit (.int .i64 a0),.lit (.int .i64 b0),.lit (.int .i64 c0),.lit (.int .i64 a1),.lit (.int .i64 b1),.lit (.int .i64 c1),.lit (.int .i64 a2),.lit (.int .i64 b2),.lit (.int .i64 c2),.lit (.int .i64 a3),.lit (.int .i64 b3),.lit (.int .i64 c3)])] (.tup []) [(0,.blk [.lit (.int .i64 a3),.lit (.int .i64 b3),.lit (.int .i64 c3),.lit (.int .i64 a2),.lit (.int .i64 b2),.lit (.int .i64 c2),.lit (.int .i64 a1),.lit (.int .i64 b1),.lit (.int .i64 c1),.lit (.int .i64 a0),.lit (.int .i64 b0),.lit (.int .i64 c0)])]:=by
 refine e9 func121 rfl 28 rfl rfl (by simp) (.tup _ (by simp)) (by
  intro q hq
  simp only[zM,or_false]at hq
  subst hq
  refine⟨by simp,fun c hc=>?_⟩
  simp only[zM,or_false]at hc
  rcases hc with rfl|rfl|rfl|rfl|rfl|rfl|rfl|rfl|rfl|rfl|rfl|rfl<;>exact .lit _) [] (congrArg Array.toList results121) ?_
 simp only[aD,Nat.reduceAdd]
 repeat'(first|refine zg ?_|refine bQ 6 ?_|(refine zc ?_ ?_<;>intro hc<;>first|simp only[NM]at hc|omega|skip)|refine zr ?_|(refine AW.nil (b6 ?_ ?_)<;>simp -dsimp (disch:=try exact zo)only[go_sem])|refine⟨by omega,?_⟩|(refine zb ?_ ?_<;>intro hg<;>(try rw[hg])<;>try simp only[NM]at hg)|omega|simp -dsimp (disch:=try exact zo)only[go_sem,Int.cast_ofNat_Int]|contradiction|rfl)
end Go.Proofs.Vx
