import Derived.Test.YtjlfgmhmalbiiaaGreatDoorX26
set_option linter.all false
set_option maxHeartbeats 40000000
open Array renaming toList → Ar
open Bool renaming false_or → Ag, or_false → Ah, false_eq_true → Ai, true_or → Aj, or_true → Ak
open List renaming getElem_mem → Aa, length_map → Ab, take_succ_eq_append_getElem → Ad, take_of_length_le → Ae, length_append → Af, append_nil → Am, filterMap_cons → An, take_length → Aq, any_eq_true → As, map_append → At, map_cons → Aw
open Nat renaming le_trans → Ac, zero_le → Al, reduceAdd → Ap, mod_lt → Av
open Rat renaming divInt_eq_div → Ao, divInt → Au
namespace Go.Sx
set_option linter.unusedVariables false
theorem CallOK.wk {P:Program} {f:Nat} {args:List AV} {pre post:List (Nat × AV)} {r r':AV} (h:CallOK P f args pre r post) (hr:∀ g v,Rel g r v→Rel g r' v):CallOK P f args pre r' post:=by
 intro g vals h1 h2 h3
 refine (h g vals h1 h2 h3).mono ?_
 rintro e w' ⟨v,g',k1,k2,k3,k4,k5,k6⟩
 exact⟨v,g',k1,k2,k3,k4,k5,hr _ _ k6⟩
theorem c6n {g:Gh} {v:Value} (h:Rel g (.lit (.slice none 0 0)) v):Rel g (.sl []) v:=by cases h;exact .slnil
theorem wI {g:Gh} {v:Value} (h:Rel g (.agg [.lit (.slice none 0 0)]) v):Rel g (.agg [.sl []]) v:=by
 cases h with
 | agg _ vs hs h1 h =>
  refine .agg _ _ hs h1 fun i h2 h3=>?_
  have hi:i=0:=by simpa using h2
  subst hi
  exact c6n (h 0 (by simp) h3)
theorem wZ {g:Gh} {a b a' b':AV} {v:Value} (ha:∀ v,Rel g a v→Rel g a' v) (hb:∀ v,Rel g b v→Rel g b' v) (h:Rel g (.tup [a,b]) v):Rel g (.tup [a',b']) v:=by
 cases h with
 | tup _ vs hs h =>
  refine .tup _ _ hs fun i h2 h3=>?_
  match i,h2 with
  | 0,_=>exact ha _ (h 0 (by simp) h3)
  | 1,_=>exact hb _ (h 1 (by simp) h3)
def cP (h:Int) (b:Pl) (l:aE):aE:=l.filterMap fun s=>if bH h b s.2 s.2.length then some (s.1,bF h b s.2)else none
theorem a9s (b:Pl) (l:aE):cP (-1) b l=bh b l:=rfl
theorem c2y {b:Pl} {l:aE} (h:CanC l):cP 1 b l=bh (aY b) l:=by
 unfold cP bh
 induction l with
 | nil=>rfl
 | cons s l ih =>
  rw[An,An,b6y,b7r (h.w (s:=s) (by simp)),ih ⟨fun t ht=>h.can t (by simp[ht])⟩]
theorem a5z (h:Int) (b:Pl) (l:aE) (i:Nat) (hi:i<l.length):cP h b (l.take (i+1))=cP h b (l.take i)++(if bH h b l[i].2 l[i].2.length then [(l[i].1,bF h b l[i].2)]else []):=by
 unfold cP
 rw[Ad hi,List.filterMap_append]
 congr 1
 simp only[An,List.filterMap_nil]
 split<;>simp_all
theorem w7 (h:Int) (b:Pl) (l:aE):(cP h b l).length≤l.length:=List.length_filterMap_le _ _
theorem xI {h:Int} (hh:h≠0) {b:Pl} {vs:List Pt} (hs:bH h b vs vs.length=true):bF h b vs≠[]:=by
 unfold bH at hs
 rw[Aq]at hs
 obtain⟨v,hv,e⟩:=As.1 hs
 have e:=of_decide_eq_true e
 rw[← Geo.i7 vs]at hv
 obtain⟨ed,he,rfl⟩:=List.mem_map.1 hv
 intro hn
 have:ed.1∈bF h b vs:=List.mem_flatMap.2 ⟨ed,he,List.mem_append_left _ (by rw[if_pos (by omega)];simp)⟩
 rw[hn]at this
 simp at this
theorem pR (l:aE) (f:Pt→Bool):(eX l).any f=l.any fun s=>s.2.any f:=by
 apply Bool.eq_iff_iff.2
 simp only[As]
 constructor
 ·rintro⟨v,hv,h⟩
  obtain⟨s,hs,hv⟩:=tK.1 hv
  exact⟨s,hs,v,hv,h⟩
 ·rintro⟨s,hs,v,hv,h⟩
  exact⟨v,tK.2 ⟨s,hs,hv⟩,h⟩
def cV (f:Pt→Bool) (vs:List Pt) (i:Nat):Bool:=(vs.take i).any f
theorem wR (f:Pt→Bool) (vs:List Pt):cV f vs 0=false:=rfl
theorem m0 (f:Pt→Bool) (vs:List Pt) (i:Nat) (hi:i<vs.length):cV f vs (i+1)=(cV f vs i||f vs[i]):=by
 unfold cV
 rw[Ad hi,List.any_append]
 simp
theorem m9 (f:Pt→Bool) (vs:List Pt):cV f vs vs.length=vs.any f:=by unfold cV;rw[Aq]
theorem yU (l:aE):(eX l).length≤(bE l).length:=by unfold eX;rw[n7];exact a2j _
end Go.Sx
namespace Go.Proofs.Vx
open Go Go.Sx Go.Proofs Tryz
attribute [local irreducible] fnT CallOK CallFr AW aK callV aL aJ aI aM gcaseP hid
theorem c0c:agT prog 33=some true∧plT prog 33=some [(0,1)]∧szT prog 33=some 1∧zeT prog 31=some [.lit (.slice none 0 0)]∧zeT prog 33=some [.lit (.slice none 0 0)]:=by and_intros<;>kernel_rfl
attribute [go_sem] c0c
theorem b2f {A V : Nat} (hAV : A ≠ V) {l m : aE} {arg : AV} (ha : ∀ σ, rnA σ arg = arg) (hk : ∀ K, iJ K arg) (h : CallOK prog 69 [.loc 0 0, arg] [(0, .blk [.ref 1 0 l.length l.length]), (1, .vec 9 (eS l))] (.tup []) [(0, .blk [.ref 1 0 m.length m.length]), (1, .vec 9 (eS m))]) :
  CallOK prog 69 [.loc A 0,arg] [(A,.blk [.ref V 0 l.length l.length]),(V,.vec 9 (eS l))] (.tup []) [(A,.blk [.ref V 0 m.length m.length]),(V,.vec 9 (eS m))]:=by
 have key:=CallOK.renG (fun i=>if i=0 then A else V) (fun j=>if j=A then 0 else 1) h (by
  intro p hp
  simp only[zM,or_false]at hp
  rcases hp with rfl|rfl
  ·simp
  ·simp[hAV.symm]) (by
  intro p hp
  simp only[zM,or_false]at hp
  rcases hp with rfl|rfl
  ·intro c hc
   simp only[zM,or_false]at hc
   subst hc
   simp[iJ,fU]
  ·intro e he c hc
   exact of_eq_true (mD _) e he c hc) (by
  intro p hp
  simp only[zM,or_false]at hp
  rcases hp with rfl|rfl
  ·refine⟨by simp,fun c hc=>?_⟩
   simp only[zM,or_false]at hc
   subst hc
   simp[iJ,fU]
  ·exact⟨by simp,fun e he c hc=>of_eq_true (mD _) e he c hc⟩) (.tup _ (by simp)) (by
  intro x hx
  simp only[zM,or_false]at hx
  rcases hx with rfl|rfl
  ·simp[iJ,fU]
  ·exact hk _)
 have e1:[AV.loc 0 0,arg].map (rnA (fun i=>if i=0 then A else V))=[AV.loc A 0,arg]:=by
  rw[Aw,Aw,List.map_nil,ha];rfl
 have e2:∀ m:aE,rnL (fun i=>if i=0 then A else V) [(0,AV.blk [.ref 1 0 m.length m.length]),(1,AV.vec 9 (eS m))]=[(A,AV.blk [.ref V 0 m.length m.length]),(V,AV.vec 9 (eS m))]:=fun m=>rfl
 rw[e1,e2,e2]at key
 exact key
theorem yM {A V : Nat} (hAV : A ≠ V) (l : aE) (hn : l.length ≤ 1048576) (p : Pl) (vs : List Pt) (h0 : vs ≠ []) (hvn : vs.length ≤ 268435456) :
  CallOK prog 69 [.loc A 0,.agg (eG p vs)] [(A,.blk [.ref V 0 l.length l.length]),(V,.vec 9 (eS l))] (.tup []) [(A,.blk [.ref V 0 (l++[(p,vs)]).length (l++[(p,vs)]).length]),(V,.vec 9 (eS (l++[(p,vs)])))] :=
 b2f hAV (fun _=>rfl) (fun _=>(gX p vs).in) (c69a l hn p vs h0 hvn)
theorem yL {A V : Nat} (hAV : A ≠ V) (l : aE) (hn : l.length ≤ 1048576) :
  CallOK prog 69 [.loc A 0,.agg eG0] [(A,.blk [.ref V 0 l.length l.length]),(V,.vec 9 (eS l))] (.tup []) [(A,.blk [.ref V 0 l.length l.length]),(V,.vec 9 (eS l))] :=
 b2f hAV (fun _=>rfl) (fun _=>.agg _ (by intro c hc;simp only[zM,or_false]at hc;rcases hc with rfl|rfl|rfl|rfl|rfl|rfl|rfl|rfl|rfl<;>exact .lit _)) (c69b l hn)
theorem b1n (l m:aE):eS (l++m)=eS l++eS m:=At
theorem c21a (l : aE) (b : Pl) (hb : BPl 1073741824 b) (hn : l.length ≤ 1048576) (hv : ∀ s ∈ l, s.2.length ≤ 268435456 ∧ ∀ v ∈ s.2, CanP v ∧ BPt 1073741824 v) (hm : (bE l).length ≤ 268435456) (hf : bC b l = false) :
  CallOK prog 21 [.agg [.sl (eS l)],.agg (eH b)] [] (.tup [.agg [.sl (eS l)],.agg [.lit (.slice none 0 0)]]) []:=by
 refine fF func21 rfl 84 rfl rfl (by simp -dsimp (disch:=try exact zo)only[go_sem]) [.cell 4 33,.cell 5 33] (congrArg Ar results21) ?_
 simp only[aD,Ap]
 have hml:maxLen=9223372036854775807:=rfl
 have hl:(eS l).length=l.length:=Ab _
 repeat'(first|refine zk ?_|(refine zu ?_ ?_<;>intro hc)|(refine zq (c27 l hn hv hm) ?_)|(refine zv ?_ ?_<;>intro hg)|omega|simp -dsimp (disch:=try exact zo)only[go_sem,hl,zl]|contradiction|rfl)
 have hV:=yU l
 have hfA:(eX l).any (fun v=>decide (0<aC b v))=bC b l:=pR l _
 have hbA:(eX l).any (fun v=>decide (aC b v<0))=bD b l:=pR l _
 have hvb:∀ v∈eX l,BPt 1073741824 v:=fun v hvm=>by
  obtain⟨s,hs,hvm⟩:=tK.1 hvm
  exact ((hv s hs).2 v hvm).2
 generalize eX l=vs at *
 have hvl:(vs.map eP).length=vs.length:=Ab _
 refine AW.loop (fun z:{i:Nat // i≤vs.length}=>⟨[(21,.lit (.int .i64 z.1)),(20,.lit (.int .i64 vs.length)),(19,.sl (vs.map eP)),(6,.lit (.bool (cV (fun v=>decide (aC b v<0)) vs z.1))),(7,.lit (.bool (cV (fun v=>decide (0<aC b v)) vs z.1))),(2,.loc 8 0),(3,.loc 9 0),(4,.loc 10 0),(5,.loc 11 0)],[(8,.blk [.sl (eS l)]),(9,.blk (eH b)),(10,.blk [.lit (.slice none 0 0)]),(11,.blk [.lit (.slice none 0 0)])],60⟩) (fun z=>vs.length - z.1) ⟨0,Al _⟩ (aR (by refine⟨?_,?_,?_,?_⟩<;>simp -dsimp (disch:=try exact zo)only[go_sem,wR,ZC])) ?_
 rintro⟨i,hi⟩
 dsimp only
 by_cases hlt:i<vs.length
 ·clear hfA hbA
  have ea:=eD vs i hlt
  have hsb:=m0 (fun v=>decide (aC b v<0)) vs i hlt
  have hsf:=m0 (fun v=>decide (0<aC b v)) vs i hlt
  have ha:=hvb _ (Aa hlt)
  clear hv hvb
  generalize vs[i]=a at *
  simp only[eP,e4]at ea
  generalize cV (fun v=>decide (aC b v<0)) vs i=bb at *
  generalize cV (fun v=>decide (0<aC b v)) vs i=ff at *
  by_cases q1:aC b a<0<;>by_cases q2:0<aC b a
  ·omega
  all_goals
   have k1:=(show (aC b a<0)=_∧(0<aC b a)=_ from⟨(by first|exact eq_true q1|exact eq_false q1),(by first|exact eq_true q2|exact eq_false q2)⟩)
   clear q1 q2
   obtain⟨k1,k2⟩:=k1
   simp only[k1,k2,decide_true,decide_false]at hsb hsf
   cases bb<;>cases ff<;>(try simp only[Aj,Ag,Ak,Ah]at hsb)<;>(try simp only[Aj,Ag,Ak,Ah]at hsf)
  all_goals
   repeat'(first|refine zk ?_|(refine zu ?_ ?_<;>intro hc)|(refine zf (c34 b a hb ha) ?_)|(refine zv ?_ ?_<;>intro hg)|omega|simp -dsimp (disch:=try exact zo)only[go_sem,hl,hvl,ea,k1,k2,zl,ZT]|contradiction|rfl)
  all_goals exact AW.stop ⟨⟨i+1,by omega⟩,zw,by dsimp only;omega⟩
 ·have hil:i=vs.length:=by omega
  subst hil
  rw[m9,m9,hfA,hbA]
  rw[hf]
  exact z1
theorem c21b (l : aE) (b : Pl) (hb : BPl 1073741824 b) (hn : l.length ≤ 1048576) (hv : ∀ s ∈ l, s.2.length ≤ 268435456 ∧ ∀ v ∈ s.2, CanP v ∧ BPt 1073741824 v) (hm : (bE l).length ≤ 268435456) (hf : bC b l = true) (hbh : bD b l = false) :
  CallOK prog 21 [.agg [.sl (eS l)],.agg (eH b)] [] (.tup [.agg [.lit (.slice none 0 0)],.agg [.sl (eS l)]]) []:=by
 refine fF func21 rfl 84 rfl rfl (by simp -dsimp (disch:=try exact zo)only[go_sem]) [.cell 4 33,.cell 5 33] (congrArg Ar results21) ?_
 simp only[aD,Ap]
 have hml:maxLen=9223372036854775807:=rfl
 have hl:(eS l).length=l.length:=Ab _
 repeat'(first|refine zk ?_|(refine zu ?_ ?_<;>intro hc)|(refine zq (c27 l hn hv hm) ?_)|(refine zv ?_ ?_<;>intro hg)|omega|simp -dsimp (disch:=try exact zo)only[go_sem,hl,zl]|contradiction|rfl)
 have hV:=yU l
 have hfA:(eX l).any (fun v=>decide (0<aC b v))=bC b l:=pR l _
 have hbA:(eX l).any (fun v=>decide (aC b v<0))=bD b l:=pR l _
 have hvb:∀ v∈eX l,BPt 1073741824 v:=fun v hvm=>by
  obtain⟨s,hs,hvm⟩:=tK.1 hvm
  exact ((hv s hs).2 v hvm).2
 generalize eX l=vs at *
 have hvl:(vs.map eP).length=vs.length:=Ab _
 refine AW.loop (fun z:{i:Nat // i≤vs.length}=>⟨[(21,.lit (.int .i64 z.1)),(20,.lit (.int .i64 vs.length)),(19,.sl (vs.map eP)),(6,.lit (.bool (cV (fun v=>decide (aC b v<0)) vs z.1))),(7,.lit (.bool (cV (fun v=>decide (0<aC b v)) vs z.1))),(2,.loc 8 0),(3,.loc 9 0),(4,.loc 10 0),(5,.loc 11 0)],[(8,.blk [.sl (eS l)]),(9,.blk (eH b)),(10,.blk [.lit (.slice none 0 0)]),(11,.blk [.lit (.slice none 0 0)])],60⟩) (fun z=>vs.length - z.1) ⟨0,Al _⟩ (aR (by refine⟨?_,?_,?_,?_⟩<;>simp -dsimp (disch:=try exact zo)only[go_sem,wR,ZC])) ?_
 rintro⟨i,hi⟩
 dsimp only
 by_cases hlt:i<vs.length
 ·clear hfA hbA
  have ea:=eD vs i hlt
  have hsb:=m0 (fun v=>decide (aC b v<0)) vs i hlt
  have hsf:=m0 (fun v=>decide (0<aC b v)) vs i hlt
  have ha:=hvb _ (Aa hlt)
  clear hv hvb
  generalize vs[i]=a at *
  simp only[eP,e4]at ea
  generalize cV (fun v=>decide (aC b v<0)) vs i=bb at *
  generalize cV (fun v=>decide (0<aC b v)) vs i=ff at *
  by_cases q1:aC b a<0<;>by_cases q2:0<aC b a
  ·omega
  all_goals
   have k1:=(show (aC b a<0)=_∧(0<aC b a)=_ from⟨(by first|exact eq_true q1|exact eq_false q1),(by first|exact eq_true q2|exact eq_false q2)⟩)
   clear q1 q2
   obtain⟨k1,k2⟩:=k1
   simp only[k1,k2,decide_true,decide_false]at hsb hsf
   cases bb<;>cases ff<;>(try simp only[Aj,Ag,Ak,Ah]at hsb)<;>(try simp only[Aj,Ag,Ak,Ah]at hsf)
  all_goals
   repeat'(first|refine zk ?_|(refine zu ?_ ?_<;>intro hc)|(refine zf (c34 b a hb ha) ?_)|(refine zv ?_ ?_<;>intro hg)|omega|simp -dsimp (disch:=try exact zo)only[go_sem,hl,hvl,ea,k1,k2,zl,ZT]|contradiction|rfl)
  all_goals exact AW.stop ⟨⟨i+1,by omega⟩,zw,by dsimp only;omega⟩
 ·have hil:i=vs.length:=by omega
  subst hil
  rw[m9,m9,hfA,hbA]
  rw[hf,hbh]
  exact z1
end Go.Proofs.Vx
namespace Go.Proofs.Vx
open Go Go.Sx Go.Proofs Tryz
attribute [local irreducible] fnT CallOK CallFr AW aK callV aL aJ aI aM gcaseP hid
theorem c9l:fnT prog 69=true:=by kernel_rfl
theorem b0o:fnT prog 71=true:=by kernel_rfl
theorem nI {A V i : Nat} {ob : Nat → AV} {E : Eff → Prop} {l m : aE} {arg : AV} (hAV : A ≠ V) (hin : ∀ K, In K arg) (hc : CallOK prog 69 [.loc A 0, arg] [(A, .blk [.ref V 0 l.length l.length]), (V, .vec 9 (eS l))] (.tup []) [(A, .blk [.ref V 0 m.length m.length]), (V, .vec 9 (eS m))])
  (h1:ob A=.blk [.ref V 0 l.length l.length]) (h2:ob V=.vec 9 (eS l)) (h:E ⟨.tup [],[(A,.blk [.ref V 0 m.length m.length]),(V,.vec 9 (eS m))],[A,V]⟩):callV prog 69 [.loc A 0,arg] i ob E:=by
 refine lI _ _ _ c9l hc ?_ ?_ ?_ ?_ (.tup _ (by simp)) ?_ ?_ ?_ h
 ·intro p hp
  simp only[zM,or_false]at hp
  rcases hp with rfl|rfl
  ·exact h1
  ·exact h2
 ·intro x hx
  simp only[zM,or_false]at hx
  rcases hx with rfl|rfl
  ·exact .loc _ _ (by simp)
  ·exact hin _
 ·intro p hp
  simp only[zM,or_false]at hp
  rcases hp with rfl|rfl
  ·intro c hc
   simp only[zM,or_false]at hc
   subst hc
   exact .ref _ _ _ _ (by simp)
  ·exact fun e he c hc=>of_eq_true (mD _) e he c hc
 ·simp[hAV]
 ·intro p hp
  simp only[zM,or_false]at hp
  rcases hp with rfl|rfl
  ·refine⟨by simp,fun c hc=>?_⟩
   simp only[zM,or_false]at hc
   subst hc
   exact .ref _ _ _ _ (by simp)
  ·exact⟨by simp,fun e he c hc=>of_eq_true (mD _) e he c hc⟩
 ·simp
 ·intro p hp
  simp only[zM,or_false]at hp
  rcases hp with rfl|rfl<;>rfl
theorem inG0 (K:Nat→Prop):In K (.agg eG0):=.agg _ (by intro c hc;simp only[zM,or_false]at hc;rcases hc with rfl|rfl|rfl|rfl|rfl|rfl|rfl|rfl|rfl<;>exact .lit _)
theorem b1m (l:aE) (p:Pl) (vs:List Pt):eS (l++[(p,vs)])=eS l++[eG p vs]:=At
theorem b3d {es:List (List AV)} {L:Nat} (h:es.length=L):(if 0<L then AV.sl (es.take L)else if L=0 then AV.sl []else AV.any)=AV.sl es:=by
 split
 ·rw[Ae (by omega)]
 ·have:L=0:=by omega
  subst this
  rw[if_pos rfl,List.eq_nil_of_length_eq_zero h]
theorem c21c (l : aE) (b : Pl) (hb : BPl 1073741824 b) (hn : l.length ≤ 1048576) (hv : ∀ s ∈ l, s.2.length ≤ 268435456 ∧ ∀ v ∈ s.2, CanP v ∧ BPt 1073741824 v) (hm : (bE l).length ≤ 268435456) (hM131 : ∀ s ∈ l, s.2.length ≤ 131072) (hn4 : l.length ≤ 1024) (hcap : (c7 b (cP (-1) b l)).1.length ≤ 268435456) (hcap2 : (c7 (aY b) (cP 1 b l)).1.length ≤ 268435456) (hkb : ∀ h, ∀ s ∈ cP h b l, s.2.length ≤ 1048576 ∧ ∀ v ∈ s.2, BPt 1073741824 v) (hf : bC b l = true) (hbh : bD b l = true) :
  CallOK prog 21 [.agg [.sl (eS l)],.agg (eH b)] [] (.tup [.agg [.sl (eS (cP (-1) b l++[(b,cD b (cP (-1) b l))]))],.agg [.sl (eS (cP 1 b l++[(aY b,cD (aY b) (cP 1 b l))]))]]) []:=by
 refine fF func21 rfl 84 rfl rfl (by simp -dsimp (disch:=try exact zo)only[go_sem]) [.cell 4 33,.cell 5 33] (congrArg Ar results21) ?_
 simp only[aD,Ap]
 have hml:maxLen=9223372036854775807:=rfl
 have hl:(eS l).length=l.length:=Ab _
 repeat'(first|refine zk ?_|(refine zu ?_ ?_<;>intro hc)|(refine zq (c27 l hn hv hm) ?_)|(refine zv ?_ ?_<;>intro hg)|omega|simp -dsimp (disch:=try exact zo)only[go_sem,hl,zl]|contradiction|rfl)
 have hV:=yU l
 have hfA:(eX l).any (fun v=>decide (0<aC b v))=bC b l:=pR l _
 have hbA:(eX l).any (fun v=>decide (aC b v<0))=bD b l:=pR l _
 have hvb:∀ v∈eX l,BPt 1073741824 v:=fun v hvm=>by
  obtain⟨s,hs,hvm⟩:=tK.1 hvm
  exact ((hv s hs).2 v hvm).2
 generalize eX l=vs at *
 have hvl:(vs.map eP).length=vs.length:=Ab _
 refine AW.loop (fun z:{i:Nat // i≤vs.length}=>⟨[(21,.lit (.int .i64 z.1)),(20,.lit (.int .i64 vs.length)),(19,.sl (vs.map eP)),(6,.lit (.bool (cV (fun v=>decide (aC b v<0)) vs z.1))),(7,.lit (.bool (cV (fun v=>decide (0<aC b v)) vs z.1))),(2,.loc 8 0),(3,.loc 9 0),(4,.loc 10 0),(5,.loc 11 0)],[(8,.blk [.sl (eS l)]),(9,.blk (eH b)),(10,.blk [.lit (.slice none 0 0)]),(11,.blk [.lit (.slice none 0 0)])],60⟩) (fun z=>vs.length - z.1) ⟨0,Al _⟩ (aR (by refine⟨?_,?_,?_,?_⟩<;>simp -dsimp (disch:=try exact zo)only[go_sem,wR,ZC])) ?_
 rintro⟨i,hi⟩
 dsimp only
 by_cases hlt:i<vs.length
 ·clear hfA hbA
  have ea:=eD vs i hlt
  have hsb:=m0 (fun v=>decide (aC b v<0)) vs i hlt
  have hsf:=m0 (fun v=>decide (0<aC b v)) vs i hlt
  have ha:=hvb _ (Aa hlt)
  clear hv hvb
  generalize vs[i]=a at *
  simp only[eP,e4]at ea
  generalize cV (fun v=>decide (aC b v<0)) vs i=bb at *
  generalize cV (fun v=>decide (0<aC b v)) vs i=ff at *
  by_cases q1:aC b a<0<;>by_cases q2:0<aC b a
  ·omega
  all_goals
   have k1:=(show (aC b a<0)=_∧(0<aC b a)=_ from⟨(by first|exact eq_true q1|exact eq_false q1),(by first|exact eq_true q2|exact eq_false q2)⟩)
   clear q1 q2
   obtain⟨k1,k2⟩:=k1
   simp only[k1,k2,decide_true,decide_false]at hsb hsf
   cases bb<;>cases ff<;>(try simp only[Aj,Ag,Ak,Ah]at hsb)<;>(try simp only[Aj,Ag,Ak,Ah]at hsf)
  all_goals
   repeat'(first|refine zk ?_|(refine zu ?_ ?_<;>intro hc)|(refine zf (c34 b a hb ha) ?_)|(refine zv ?_ ?_<;>intro hg)|omega|simp -dsimp (disch:=try exact zo)only[go_sem,hl,hvl,ea,k1,k2,zl,ZT]|contradiction|rfl)
  all_goals exact AW.stop ⟨⟨i+1,by omega⟩,zw,by dsimp only;omega⟩
 ·have hil:i=vs.length:=by omega
  subst hil
  rw[m9,m9,hfA,hbA]
  rw[hf,hbh]
  clear hvb hvl hfA hbA hV hi hlt
  repeat'(first|refine zk ?_|(refine zu ?_ ?_<;>intro hc)|(refine zv ?_ ?_<;>intro hg)|omega|simp -dsimp (disch:=try exact zo)only[go_sem,hl,zl]|contradiction|rfl)
  have hk0:cP (-1) b []=[]:=rfl
  have hk1:cP 1 b []=[]:=rfl
  have hz:eS []=[]:=rfl
  refine AW.loop (fun z:{i:Nat // i≤l.length}=>⟨[(52,.lit (.int .i64 z.1)),(51,.lit (.int .i64 l.length)),(13,.clo 69 []),(11,.loc 67 0),(12,.loc 68 0),(50,.sl (eS l)),(2,.loc 8 0),(3,.loc 9 0),(4,.loc 10 0),(5,.loc 11 0)],[(67,.blk [.ref 74 0 (cP (-1) b (l.take z.1)).length (cP (-1) b (l.take z.1)).length]),(74,.vec 9 (eS (cP (-1) b (l.take z.1)))),(68,.blk [.ref 75 0 (cP 1 b (l.take z.1)).length (cP 1 b (l.take z.1)).length]),(75,.vec 9 (eS (cP 1 b (l.take z.1)))),(9,.blk (eH b)),(10,.blk [.lit (.slice none 0 0)]),(11,.blk [.lit (.slice none 0 0)])],110⟩) (fun z=>l.length - z.1) ⟨0,Al _⟩ (Weak.trans (jQ 67 0 9 _ (by decide) rfl (by simp) rfl (by simp)) (Weak.trans (jQ 68 0 9 _ (by decide) rfl (by simp) rfl (by simp)) (aR (by refine⟨?_,?_,?_,?_⟩<;>simp -dsimp (disch:=try exact zo)only[go_sem,List.take_zero,hk0,hk1,hz,List.length_nil,ZC])))) ?_
  rintro⟨i,hi⟩
  dsimp only
  by_cases hlt:i<l.length
  ·have es1:=qU l i hlt
   have hL2:=a5z (-1) b l i hlt
   have hM2:=a5z 1 b l i hlt
   have hLn:=w7 (-1) b (l.take i)
   have hMn:=w7 1 b (l.take i)
   have htl:(l.take i).length≤l.length:=List.length_take_le' _ _
   have hvs:=hv _ (Aa hlt)
   have hMs:=hM131 _ (Aa hlt)
   generalize l[i]=sd at *
   obtain⟨sp,svs⟩:=sd
   dsimp only at es1 hL2 hM2 hvs hMs
   generalize cP (-1) b (l.take i)=L at *
   generalize cP 1 b (l.take i)=M at *
   have hlL:(eS L).length=L.length:=Ab _
   have hlM:(eS M).length=M.length:=Ab _
   have c70x:=c70 sp b svs hvs.1 (fun v hvm=>(hvs.2 v hvm).1) (fun v hvm=>(hvs.2 v hvm).2) hb
   have hin70:∀ K,∀ x∈[prt (-1) sp b svs,prt 1 sp b svs],In K x:=fun K x hx=>by
    simp only[zM,or_false]at hx
    rcases hx with rfl|rfl<;>exact xY _ _ _ _
   have hin70:=hin70 (fun _=>False)
   have pa:=pV (-1) b svs
   have pb:=pV 1 b svs
   simp only[eG]at es1
   unfold prt at c70x hin70
   clear hv hm hcap hcap2 hkb hvs hf hbh
   cases hA:bH (-1) b svs svs.length<;>cases hB:bH 1 b svs svs.length
   ·have hL:True:=trivial
    have hM:True:=trivial
    simp only[hA,hB,reduceIte,Ai,Am]at hL2 hM2 c70x hin70
    repeat'(first|refine zk ?_|(refine zu ?_ ?_<;>intro hc)|(refine zp c70x (by simp -dsimp (disch:=try exact zo)only[go_sem]) (.tup _ hin70) ?_)|(first|(refine nI (by decide) (fun _=>inG0 _) (yL (by decide) L (by omega)) rfl rfl ?_)|(refine nI (by decide) (fun _=>inG0 _) (yL (by decide) M (by omega)) rfl rfl ?_))|(refine zv ?_ ?_<;>intro hg)|omega|simp -dsimp (disch:=try exact zo)only[go_sem,hl,es1,zl,ZT,hlL,hlM]|contradiction|rfl)
    all_goals exact AW.stop ⟨⟨i+1,by omega⟩,(aR (by refine⟨?_,?_,?_,?_⟩<;>first|(simp -dsimp (disch:=try exact zo)only[go_sem,hL2,hM2,Af,ZC,hlL,hlM,zl];done)|(simp -dsimp (disch:=try exact zo)only[go_sem,ZC];done))),by dsimp only;omega⟩
   ·have hL:True:=trivial
    have hM:=xI (h:=1) (by decide) hB
    simp only[hA,hB,reduceIte,Ai,Am]at hL2 hM2 c70x hin70
    repeat'(first|refine zk ?_|(refine zu ?_ ?_<;>intro hc)|(refine zp c70x (by simp -dsimp (disch:=try exact zo)only[go_sem]) (.tup _ hin70) ?_)|(first|(refine nI (by decide) (fun _=>inG0 _) (yL (by decide) L (by omega)) rfl rfl ?_)|(refine nI (by decide) (fun _=>(gX _ _).in) (yM (by decide) M (by omega) sp (bF (1) b svs) hM (by omega)) rfl rfl ?_))|(refine zv ?_ ?_<;>intro hg)|omega|simp -dsimp (disch:=try exact zo)only[go_sem,hl,es1,zl,ZT,hlL,hlM]|contradiction|rfl)
    all_goals exact AW.stop ⟨⟨i+1,by omega⟩,(aR (by refine⟨?_,?_,?_,?_⟩<;>first|(simp -dsimp (disch:=try exact zo)only[go_sem,hL2,hM2,Af,ZC,hlL,hlM,zl];done)|(simp -dsimp (disch:=try exact zo)only[go_sem,ZC];done))),by dsimp only;omega⟩
   ·have hL:=xI (h:=-1) (by decide) hA
    have hM:True:=trivial
    simp only[hA,hB,reduceIte,Ai,Am]at hL2 hM2 c70x hin70
    repeat'(first|refine zk ?_|(refine zu ?_ ?_<;>intro hc)|(refine zp c70x (by simp -dsimp (disch:=try exact zo)only[go_sem]) (.tup _ hin70) ?_)|(first|(refine nI (by decide) (fun _=>(gX _ _).in) (yM (by decide) L (by omega) sp (bF (-1) b svs) hL (by omega)) rfl rfl ?_)|(refine nI (by decide) (fun _=>inG0 _) (yL (by decide) M (by omega)) rfl rfl ?_))|(refine zv ?_ ?_<;>intro hg)|omega|simp -dsimp (disch:=try exact zo)only[go_sem,hl,es1,zl,ZT,hlL,hlM]|contradiction|rfl)
    all_goals exact AW.stop ⟨⟨i+1,by omega⟩,(aR (by refine⟨?_,?_,?_,?_⟩<;>first|(simp -dsimp (disch:=try exact zo)only[go_sem,hL2,hM2,Af,ZC,hlL,hlM,zl];done)|(simp -dsimp (disch:=try exact zo)only[go_sem,ZC];done))),by dsimp only;omega⟩
   ·have hL:=xI (h:=-1) (by decide) hA
    have hM:=xI (h:=1) (by decide) hB
    simp only[hA,hB,reduceIte,Ai,Am]at hL2 hM2 c70x hin70
    repeat'(first|refine zk ?_|(refine zu ?_ ?_<;>intro hc)|(refine zp c70x (by simp -dsimp (disch:=try exact zo)only[go_sem]) (.tup _ hin70) ?_)|(first|(refine nI (by decide) (fun _=>(gX _ _).in) (yM (by decide) L (by omega) sp (bF (-1) b svs) hL (by omega)) rfl rfl ?_)|(refine nI (by decide) (fun _=>(gX _ _).in) (yM (by decide) M (by omega) sp (bF (1) b svs) hM (by omega)) rfl rfl ?_))|(refine zv ?_ ?_<;>intro hg)|omega|simp -dsimp (disch:=try exact zo)only[go_sem,hl,es1,zl,ZT,hlL,hlM]|contradiction|rfl)
    all_goals exact AW.stop ⟨⟨i+1,by omega⟩,(aR (by refine⟨?_,?_,?_,?_⟩<;>first|(simp -dsimp (disch:=try exact zo)only[go_sem,hL2,hM2,Af,ZC,hlL,hlM,zl];done)|(simp -dsimp (disch:=try exact zo)only[go_sem,ZC];done))),by dsimp only;omega⟩
  ·have hil:i=l.length:=by omega
   subst hil
   rw[Aq]
   have hLn:=w7 (-1) b l
   have hMn:=w7 1 b l
   have kL:=hkb (-1)
   have kM:=hkb 1
   clear hv hm hf hbh hkb
   generalize cP (-1) b l=L at *
   generalize cP 1 b l=M at *
   have hlL:(eS L).length=L.length:=Ab _
   have hlM:(eS M).length=M.length:=Ab _
   have cA:=c71 L b hb (by omega) kL hcap
   have cB:=c71 M (aY b) hb.neg (by omega) kM hcap2
   have hbwL:=b3d hlL
   have hbwM:=b3d hlM
   have hbL:eS L++[eG b (cD b L)]=eS (L++[(b,cD b L)]):=(b1m _ _ _).symm
   have hbM:eS M++[eG (aY b) (cD (aY b) M)]=eS (M++[(aY b,cD (aY b) M)]):=(b1m _ _ _).symm
   have hfL:(eS (L++[(b,cD b L)])).take (L.length+1)=eS (L++[(b,cD b L)]):=Ae (by simp)
   have hfM:(eS (M++[(aY b,cD (aY b) M)])).take (M.length+1)=eS (M++[(aY b,cD (aY b) M)]):=Ae (by simp)
   have hpL:(0<L.length+1)=True:=by simp
   have hpM:(0<M.length+1)=True:=by simp
   generalize cD b L=cl at *
   generalize cD (aY b) M=cm at *
   clear kL kM hcap hcap2
   repeat'(first|refine zk ?_|(refine zu ?_ ?_<;>intro hc)|(first|refine gM _ b0o (by simp -dsimp (disch:=try exact zo)only[go_sem,hlL,hbwL,hbwM];exact cA) (by simp -dsimp (disch:=try exact zo)only[go_sem,hlL,hbwL]) (gX _ _).in ?_|refine gM _ b0o (by simp -dsimp (disch:=try exact zo)only[go_sem,hlM,hbwL,hbwM];exact cB) (by simp -dsimp (disch:=try exact zo)only[go_sem,hlM,hbwM]) (gX _ _).in ?_)|(refine zf (c22 b hb) ?_)|(refine zv ?_ ?_<;>intro hg)|omega|simp -dsimp (disch:=try exact zo)only[go_sem,hl,zl,hlL,hlM,hbL,hbM,hfL,hfM,hpL,hpM]|contradiction|rfl)
end Go.Proofs.Vx
namespace Go.Proofs.Vx
open Go Go.Sx Go.Proofs Tryz
attribute [local irreducible] fnT CallOK CallFr AW aK callV aL aJ aI aM gcaseP hid
theorem b4s {S M:Nat} {l:aE} (h:∀ s∈l,s.2.length≤M) (hn:l.length≤S):(bE l).length≤S*M:=by
 have key:(bE l).length≤l.length*M:=by
  clear hn
  induction l with
  | nil=>simp[bE]
  | cons s l ih =>
   have h1:=h s (by simp)
   have h2:=ih fun t ht=>h t (by simp[ht])
   simp only[bE,List.flatMap_cons,Af,List.length_cons,Nat.add_mul,Nat.one_mul]at h2 ⊢
   omega
 exact Ac key (Nat.mul_le_mul_right _ hn)
abbrev BdC (l:aE):Prop:=Bd 64 4096 100000 l
theorem hv_of {l:aE} (hc:CanC l) (h:BdC l):∀ s∈l,s.2.length≤268435456∧∀ v∈s.2,CanP v∧BPt 1073741824 v:=fun s hs=>⟨Ac (h.m s hs) (by decide),fun v hv=>⟨hc.can s hs v hv,(h.k s hs v hv).mono (by decide)⟩⟩
theorem c21x (l:aE) (b:Pl) (hc:OkC l) (h:BdC l) (hb:BPl 100000 b):CallOK prog 21 [.agg [.sl (eS l)],.agg (eH b)] [] (.tup [.agg [.sl (eS (aQ b l).1)],.agg [.sl (eS (aQ b l).2)]]) []:=by
 have hb':=hb.mono (show 100000≤1073741824 by decide)
 have hn:l.length≤1048576:=Ac h.n (by decide)
 have hm:(bE l).length≤268435456:=Ac (b4s h.m h.n) (by decide)
 have hv:=hv_of hc.can h
 by_cases hf:bC b l=false
 ·have e:aQ b l=(l,[]):=by unfold aQ;rw[if_pos hf]
  rw[e]
  exact (c21a l b hb' hn hv hm hf).wk fun g v=>wZ (fun v h=>h) fun v h=>wI h
 ·have hf':bC b l=true:=by simpa using hf
  by_cases hbh:bD b l=false
  ·have e:aQ b l=([],l):=by unfold aQ;rw[if_neg hf,if_pos hbh]
   rw[e]
   exact (c21b l b hb' hn hv hm hf' hbh).wk fun g v=>wZ (fun v h=>wI h) fun v h=>h
  ·have hb2:bD b l=true:=by simpa using hbh
   have hco:CellOK l:=hc.elim (fun e=>by subst e;simp[bC]at hf') id
   have e:aQ b l=(jG b l,jG (aY b) l):=by unfold aQ;rw[if_neg hf,if_neg hbh]
   have S1:=gO hco hf' hb2
   have S2:=gO (b:=aY b) hco (by rw[lM];exact hb2) (by rw[lK];exact hf')
   have B1:=a3c h hb
   have B2:=a3c h hb.neg
   have k2:=c2y (b:=b) hco.toCanC
   have C1:=(uI hco S1).2.2.2
   have C2:=(uI hco S2).2.2.2
   have:=c21c l b hb' hn hv hm (fun s hs=>Ac (h.m s hs) (by decide)) (Ac h.n (by decide)) (by rw[a9s];have:=B1.n;omega) (by rw[k2];have:=B2.n;omega) (by
    intro hh s hs
    have hp:s.2.length≤2*4096∧∀ v∈s.2,BPt (100000+2*100000+4) v:=by
     obtain⟨t,ht,e⟩:=List.mem_filterMap.1 hs
     by_cases hq:bH hh b t.2 t.2.length=true
     ·rw[if_pos hq]at e
      obtain rfl:=Option.some.inj e
      refine⟨?_,a0h hb (h.k t ht)⟩
      have:=pV hh b t.2
      have:=h.m t ht
      show (bF hh b t.2).length≤_
      omega
     ·rw[if_neg hq]at e;contradiction
    exact⟨Ac hp.1 (by decide),fun v hv=>(hp.2 v hv).mono (by decide)⟩) hf' hb2
   rw[e]
   rw[a9s,k2]at this
   exact this
end Go.Proofs.Vx
namespace Go.Proofs.Vx
open Go Go.Sx Go.Proofs Tryz
attribute [local irreducible] fnT CallOK CallFr AW aK callV aL aJ aI aM gcaseP hid
theorem l8 (p:Pt):Au p.x p.w=(tv p).x∧Au p.y p.w=(tv p).y∧Au p.z p.w=(tv p).z:=⟨Ao _ _,Ao _ _,Ao _ _⟩
theorem c77t (p:Pt) (hcp:CanP p) (hp:BPt 1073741824 p):CallOK prog 77 [.agg (eP p)] [] (.agg (eV (tv p).x (tv p).y (tv p).z)) []:=by
 have h:=c77 p hcp ⟨Ac hp.out.a (by decide),Ac hp.out.b (by decide),Ac hp.out.c (by decide),Ac hp.out.d (by decide)⟩
 rw[(l8 p).1,(l8 p).2.1,(l8 p).2.2]at h
 exact h
structure QV (k:Nat) (v:Geo.V):Prop where
 x:Qs k v.x
 y:Qs k v.y
 z:Qs k v.z
theorem QV.mono {k l:Nat} {v:Geo.V} (h:QV k v) (hl:k≤l):QV l v:=⟨h.x.mono hl,h.y.mono hl,h.z.mono hl⟩
theorem gZ {p:Pt} {k:Nat} (hc:CanP p) (h:BPt k p):QV k (tv p):=by
 have hw:p.w≠0:=by have:=hc.w;omega
 refine⟨?_,?_,?_⟩
 ·rw[← (l8 p).1];exact Qs.divInt hw h.out.a h.out.d
 ·rw[← (l8 p).2.1];exact Qs.divInt hw h.out.b h.out.d
 ·rw[← (l8 p).2.2];exact Qs.divInt hw h.out.c h.out.d
theorem uO {a b:Geo.V} {k:Nat} (ha:QV k a) (hb:QV k b):QV (2*k+1) (a - b):=by
 refine⟨(ha.x.sub hb.x).mono (by omega),(ha.y.sub hb.y).mono (by omega),(ha.z.sub hb.z).mono (by omega)⟩
theorem a0p {a b:Geo.V} {k:Nat} (ha:QV k a) (hb:QV k b):QV (4*k+1) (Geo.aA a b) :=
 ⟨((ha.y.mul hb.z).sub (ha.z.mul hb.y)).mono (by omega),((ha.z.mul hb.x).sub (ha.x.mul hb.z)).mono (by omega),((ha.x.mul hb.y).sub (ha.y.mul hb.x)).mono (by omega)⟩
theorem a2n {a b:Geo.V} {k l:Nat} (ha:QV k a) (hb:QV l b):QV (k+l+1) (a+b):=⟨ha.x.add hb.x,ha.y.add hb.y,ha.z.add hb.z⟩
theorem qG {k:Nat} (hk:1≤k):QV k ⟨0,0,0⟩:=by
 have:Qs k 0:=⟨by show (Zm 0).size≤k;rw[eF];exact Al _,by show (nb 1).size≤k;rw[kI];exact hk⟩
 exact⟨this,this,this⟩
theorem oP:((2:Int):Rat)≠0:=by decide
theorem c9s:Qs 17179869184 ((2:Int):Rat):=⟨Ac ((bX 2 1).2 (by decide)) (by decide),by show (nb 1).size≤_;rw[kI];decide⟩
theorem Zz:Zn (0:Rat).num=false:=kD
theorem Zmz:Zm (0:Rat).num=⟨#[]⟩:=eF
theorem Qz:Qd 0=⟨#[]⟩:=by unfold Qd;rfl
def fD (vs:List Pt) (i:Nat):Geo.V:=jH (hd vs) ((Geo.edges (vs.map tv)).take i)
theorem b6b (vs:List Pt):fD vs 0=⟨0,0,0⟩:=rfl
theorem zL (vs:List Pt) (i:Nat) (h:i<vs.length):fD vs (i+1)=fD vs i+Geo.aA (tv vs[i] - hd vs) (tv (vs[(i+1) % vs.length]'(Av _ (by omega))) - hd vs):=by
 have hl:i<(Geo.edges vs).length:=by rw[Geo.gA];exact h
 unfold fD jH
 rw[Geo.zX,Ad (by simpa using hl),List.foldl_append]
 simp only[List.foldl_cons,List.foldl_nil,crA,List.getElem_map,wO vs i h hl]
theorem z7 (vs:List Pt):fD vs vs.length=jH (hd vs) (Geo.edges (vs.map tv)):=by
 unfold fD
 rw[Ae (by rw[Geo.gA];simp)]
def aB:Nat→Nat
 | 0=>1
 | n+1=>aB n+16006+1
theorem b3f (n:Nat):aB n=16007*n+1:=by
 induction n with
 | zero=>rfl
 | succ n ih=>rw[aB,ih];omega
theorem a8j {vs:List Pt} (hv:∀ v∈vs,CanP v∧BPt 2000 v) (i:Nat) (hi:i≤vs.length):QV (aB i) (fD vs i):=by
 induction i with
 | zero=>exact qG (Nat.le_refl _)
 | succ i ih =>
  have h:i<vs.length:=by omega
  rw[zL vs i h]
  have h0:QV 2000 (hd vs):=by
   cases vs with
   | nil=>simp at h
   | cons v vs=>exact gZ (hv v (by simp)).1 (hv v (by simp)).2
  have h1:∀ v∈vs,QV 4001 (tv v - hd vs):=fun v hvm=>(uO (gZ (hv v hvm).1 (hv v hvm).2) h0).mono (by omega)
  exact (a2n (ih (by omega)) (a0p (h1 _ (Aa h)) (h1 _ (Aa (Av _ (by omega)))))).mono (by rw[aB];omega)
theorem c78 (p:Pl) (vs:List Pt) (hn:vs.length≤1024) (hne:0<vs.length) (hv:∀ v∈vs,CanP v∧BPt 2000 v):CallOK prog 78 [.agg (eG p vs)] [] (.agg (eV (iH vs).x (iH vs).y (iH vs).z)) []:=by
 refine zs func78 93 [.cell 2 103] results78 ?_
 simp only[aD,Ap]
 have hml:maxLen=9223372036854775807:=rfl
 have hl:(vs.map eP).length=vs.length:=Ab _
 have e0:=eD vs 0 hne
 have hc0:=hv _ (Aa hne)
 have hh:hd vs=tv vs[0]:=by
  cases vs with
  | nil=>simp at hne
  | cons v vs=>rfl
 have hc0:CanP vs[0]∧BPt 1073741824 vs[0]:=⟨hc0.1,hc0.2.mono (by decide)⟩
 generalize hv0:vs[0]=v0 at *
 simp only[eP,e4]at e0
 repeat'(first|refine zk ?_|(refine zu ?_ ?_<;>intro hc)|(refine zf (c77t v0 hc0.1 hc0.2) ?_)|(refine zv ?_ ?_<;>intro hg)|omega|simp -dsimp (disch:=try exact zo)only[go_sem,hl,zl,e0]|contradiction|rfl)
 refine AW.loop (fun z:{i:Nat // i≤vs.length}=>⟨[(25,.lit (.int .i64 z.1)),(24,.lit (.int .i64 vs.length)),(1,.loc 8 0),(2,.loc 9 0),(3,.loc 10 0),(4,.loc 20 0)],[(8,.blk (eG p vs)),(9,.blk [.lit (.bool false),.lit (.string ⟨#[]⟩),.lit (.string ⟨#[]⟩),.lit (.bool false),.lit (.string ⟨#[]⟩),.lit (.string ⟨#[]⟩),.lit (.bool false),.lit (.string ⟨#[]⟩),.lit (.string ⟨#[]⟩)]),(10,.blk (eV (fD vs z.1).x (fD vs z.1).y (fD vs z.1).z)),(20,.blk (eV (hd vs).x (hd vs).y (hd vs).z))],60⟩) (fun z=>vs.length - z.1) ⟨0,Al _⟩ (aR (by refine⟨?_,?_,?_,?_⟩<;>simp -dsimp (disch:=try exact zo)only[go_sem,b6b,eV,Zz,Zmz,Qz,hh,ZC])) ?_
 rintro⟨i,hi⟩
 dsimp only
 have hs:=a8j hv i hi
 have hb:=b3f i
 by_cases hlt:i<vs.length
 ·have hmod:(i+1) % vs.length<vs.length:=Av _ (by omega)
  have hm:((i:Int)+1) % (vs.length:Int)=(((i+1) % vs.length:Nat):Int):=by rw[Int.natCast_emod,Int.natCast_add];rfl
  have ea:=eD vs i hlt
  have ea2:=eD vs _ hmod
  have hca:=hv _ (Aa hlt)
  have hca2:=hv _ (Aa hmod)
  have hst:=zL vs i hlt
  have hh0:QV 2000 (hd vs):=by rw[hh];exact gZ (hv v0 (hv0▸Aa hne)).1 (hv v0 (hv0▸Aa hne)).2
  generalize vs[i]=a at *
  generalize vs[(i+1) % vs.length]=a2 at *
  have ha:=gZ hca.1 hca.2
  have hr:=gZ hca2.1 hca2.2
  have hca:CanP a∧BPt 1073741824 a:=⟨hca.1,hca.2.mono (by decide)⟩
  have hca2:CanP a2∧BPt 1073741824 a2:=⟨hca2.1,hca2.2.mono (by decide)⟩
  simp only[eP,e4]at ea ea2
  have c1:=c77t a hca.1 hca.2
  have c2:=c77t a2 hca2.1 hca2.2
  have hX:(fD vs (i+1)).x=(fD vs i).x+(((tv a).y - (hd vs).y)*((tv a2).z - (hd vs).z) - ((tv a).z - (hd vs).z)*((tv a2).y - (hd vs).y)):=by rw[hst];rfl
  have hY:(fD vs (i+1)).y=(fD vs i).y+(((tv a).z - (hd vs).z)*((tv a2).x - (hd vs).x) - ((tv a).x - (hd vs).x)*((tv a2).z - (hd vs).z)):=by rw[hst];rfl
  have hZ:(fD vs (i+1)).z=(fD vs i).z+(((tv a).x - (hd vs).x)*((tv a2).y - (hd vs).y) - ((tv a).y - (hd vs).y)*((tv a2).x - (hd vs).x)):=by rw[hst];rfl
  clear hst hv hc0 hh
  obtain⟨s1,s2,s3⟩:=hs
  obtain⟨p1,p2,p3⟩:=ha
  obtain⟨r1,r2,r3⟩:=hr
  obtain⟨h1,h2,h3⟩:=hh0
  generalize (fD vs i).x=S1 at *
  generalize (fD vs i).y=S2 at *
  generalize (fD vs i).z=S3 at *
  generalize (tv a).x=P1 at *
  generalize (tv a).y=P2 at *
  generalize (tv a).z=P3 at *
  generalize (tv a2).x=R1 at *
  generalize (tv a2).y=R2 at *
  generalize (tv a2).z=R3 at *
  generalize (hd vs).x=H1 at *
  generalize (hd vs).y=H2 at *
  generalize (hd vs).z=H3 at *
  have p1':=p1.mono (show 2000≤1073741824 by decide)
  have r1':=r1.mono (show 2000≤1073741824 by decide)
  have h1':=h1.mono (show 2000≤1073741824 by decide)
  have p2':=p2.mono (show 2000≤1073741824 by decide)
  have r2':=r2.mono (show 2000≤1073741824 by decide)
  have h2':=h2.mono (show 2000≤1073741824 by decide)
  have p3':=p3.mono (show 2000≤1073741824 by decide)
  have r3':=r3.mono (show 2000≤1073741824 by decide)
  have h3':=h3.mono (show 2000≤1073741824 by decide)
  have d1:=p1.sub h1
  have g1:=r1.sub h1
  have d2:=p2.sub h2
  have g2:=r2.sub h2
  have d3:=p3.sub h3
  have g3:=r3.sub h3
  have m23:=d2.mul g3
  have m32:=d3.mul g2
  have m31:=d3.mul g1
  have m13:=d1.mul g3
  have m12:=d1.mul g2
  have m21:=d2.mul g1
  have n1:=(m23.sub m32).mono (show _≤17179869184 by omega)
  have s1':=s1.mono (show aB i≤17179869184 by omega)
  have n2:=(m31.sub m13).mono (show _≤17179869184 by omega)
  have s2':=s2.mono (show aB i≤17179869184 by omega)
  have n3:=(m12.sub m21).mono (show _≤17179869184 by omega)
  have s3':=s3.mono (show aB i≤17179869184 by omega)
  have m23':=m23.mono (show _≤17179869184 by omega)
  have m32':=m32.mono (show _≤17179869184 by omega)
  have m31':=m31.mono (show _≤17179869184 by omega)
  have m13':=m13.mono (show _≤17179869184 by omega)
  have m12':=m12.mono (show _≤17179869184 by omega)
  have m21':=m21.mono (show _≤17179869184 by omega)
  have d1':=d1.mono (show _≤17179869184 by omega)
  have g1':=g1.mono (show _≤17179869184 by omega)
  have d2':=d2.mono (show _≤17179869184 by omega)
  have g2':=g2.mono (show _≤17179869184 by omega)
  have d3':=d3.mono (show _≤17179869184 by omega)
  have g3':=g3.mono (show _≤17179869184 by omega)
  clear m23 m32 m31 m13 m12 m21 s1 s2 s3 p1 p2 p3 r1 r2 r3 h1 h2 h3
  clear d1 d2 d3 g1 g2 g3
  clear hb
  repeat'(first|refine zg ?_|refine cK 6 ?_|(refine zc ?_ ?_<;>intro hc<;>first|simp only[NM]at hc|omega|skip)|refine zr ?_|(first|refine zf c1 ?_|refine zf c2 ?_)|(refine zf (c145 _ _ _ _ _ _ (by assumption) (by assumption) (by assumption) (by assumption) (by assumption) (by assumption)) ?_)|(refine zq (gJ p vs i hlt (by omega)) ?_)|(refine zf (c79 _ _ (by assumption) (by assumption)) ?_)|(refine zf (c146 _ _ (by assumption) (by assumption)) ?_)|(refine zf (c25 _ _ (by assumption) (by assumption)) ?_)|refine⟨by omega,?_⟩|(refine zb ?_ ?_<;>intro hg<;>(try rw[hg])<;>try simp only[NM]at hg)|omega|simp -dsimp (disch:=try exact zo)only[go_sem,hl,zl,ZT,ea,ea2,e0,hm]|contradiction|rfl)
  all_goals exact AW.stop ⟨⟨i+1,by omega⟩,zw,by dsimp only;omega⟩
 ·have hil:i=vs.length:=by omega
  subst hil
  rw[z7]at hs ⊢
  have hr:iH vs=⟨(jH (hd vs) (Geo.edges (vs.map tv))).x / ((2:Int):Rat),(jH (hd vs) (Geo.edges (vs.map tv))).y / ((2:Int):Rat),(jH (hd vs) (Geo.edges (vs.map tv))).z / ((2:Int):Rat)⟩:=rfl
  rw[hr]
  clear hr hc0 hv
  generalize jH (hd vs) (Geo.edges (vs.map tv))=A at *
  dsimp only
  obtain⟨s1,s2,s3⟩:=hs
  have s1:=s1.mono (show aB vs.length≤17179869184 by omega)
  have s2:=s2.mono (show aB vs.length≤17179869184 by omega)
  have s3:=s3.mono (show aB vs.length≤17179869184 by omega)
  clear hb
  have q2:=c9s
  repeat'(first|refine zg ?_|refine cK 6 ?_|(refine zc ?_ ?_<;>intro hc<;>first|simp only[NM]at hc|omega|skip)|refine zr ?_|(refine zf (c68 2 (by decide)) ?_)|(refine zf (c80 _ _ (by assumption) (by assumption) oP) ?_)|refine⟨by omega,?_⟩|(refine zb ?_ ?_<;>intro hg<;>(try rw[hg])<;>try simp only[NM]at hg)|omega|simp -dsimp (disch:=try exact zo)only[go_sem,hl,zl]|contradiction|rfl)
end Go.Proofs.Vx
