import Derived.Test.YtjlfgmhmalbiiaaGreatDoorProg
import Derived.Test.YtjlfgmhmalbiiaaGreatDoorU11
import Derived.Test.YtjlfgmhmalbiiaaGreatDoorU20
import Derived.Test.YtjlfgmhmalbiiaaGreatDoorU25
set_option linter.all false
namespace Go.Sx
open Geo (H V Sd)
set_option linter.unusedVariables false
structure Bd (S M K:Nat) (l:PCell):Prop where
 n:l.length≤S
 m:∀ s∈l,s.2.length≤M
 k:∀ s∈l,∀ v∈s.2,BPt K v
 p:∀ s∈l,BPl (K+1048576) s.1
theorem Bd.mono {S M K S' M' K':Nat} {l:PCell} (h:Bd S M K l) (h1:S≤S') (h2:M≤M') (h3:K≤K'):Bd S' M' K' l :=
 ⟨Nat.le_trans h.n h1,fun s hs=>Nat.le_trans (h.m s hs) h2,fun s hs v hv=>(h.k s hs v hv).mono h3,fun s hs=>(h.p s hs).mono (Nat.add_le_add_right h3 _)⟩
theorem partI_len (h:Int) (b:Pl) (vs:List Pt):(partI h b vs).length≤2*vs.length:=by
 rw[← partT_all];exact partT_length h b vs vs.length
theorem partI_bs {h:Int} {b:Pl} {vs:List Pt} {k K:Nat} (hb:BPl k b) (hv:∀ v∈vs,BPt K v):∀ v∈partI h b vs,BPt (k+2*K+4) v:=by
 intro v hvm
 unfold partI at hvm
 obtain ⟨e,he,hvm⟩:=List.mem_flatMap.1 hvm
 unfold pc at hvm
 rcases List.mem_append.1 hvm with hvm|hvm
 ·split at hvm
  ·obtain rfl:v=e.1:=by simpa using hvm
   exact (hv _ (Geo.mem_fst he)).mono (by omega)
  ·simp at hvm
 ·split at hvm
  ·obtain rfl:v=_:=by simpa using hvm
   exact meet_bs hb (hv _ (Geo.mem_fst he)) (hv _ (Geo.mem_snd he))
  ·simp at hvm
theorem bh_bd {b:Pl} {l:PCell} {S M K k:Nat} (h:Bd S M K l) (hb:BPl k b):Bd S (2*M) (k+2*K+4) (bh b l):=by
 refine ⟨Nat.le_trans (List.length_filterMap_le _ _) h.n,fun s hs=>?_,fun s hs v hv=>?_,fun s hs=>?_⟩
 all_goals
  obtain ⟨t,ht,e⟩:=List.mem_filterMap.1 hs
  by_cases hq:someT (-1) b t.2 t.2.length=true
  rotate_left
  ·rw[if_neg hq]at e;contradiction
  rw[if_pos hq]at e
  obtain rfl:=Option.some.inj e
 ·have:=partI_len (-1) b t.2
  have:=h.m t ht
  show (partI (-1) b t.2).length≤_
  omega
 ·exact partI_bs hb (h.k t ht) v hv
 ·exact (h.p t ht).mono (by omega)
theorem capP_bs {b:Pl} {l:PCell} {K:Nat} (h:∀ s∈l,∀ v∈s.2,BPt K v):∀ v∈capP b l,BPt K v:=by
 have hI:MInv K (foldS b l):=by
  have f1:∀ (es:List (Pt × Pt)) (s:MS),MInv K s→(∀ e∈es,BPt K e.1∧BPt K e.2)→MInv K (foldE b s es):=by
   intro es
   induction es with
   | nil=>intro s h _;exact h
   | cons e es ih=>intro s h he;exact ih _ (h.step (he _ (by simp))) fun q hq=>he q (by simp[hq])
  rw[foldS_es]
  refine f1 _ _ ⟨by simp,by simp,BPt_zero K⟩ fun e he=>?_
  obtain ⟨s,hs,he⟩:=List.mem_flatMap.1 he
  exact ⟨h s hs _ (Geo.mem_fst he),h s hs _ (Geo.mem_snd he)⟩
 intro v hv
 unfold capP at hv
 have key:∀ n x,BPt K x→∀ v∈runP' (nxP (foldS b l).1) n x,BPt K v:=by
  intro n
  induction n with
  | zero=>intro x _ v hv;simp[runP']at hv
  | succ n ih =>
   intro x hx v hv
   rcases List.mem_cons.1 hv with rfl|hv
   ·exact hx
   ·exact ih _ (find_bt hI.bt) v hv
 exact key _ _ hI.fb v hv
theorem bcell_bd {b:Pl} {l:PCell} {S M K k:Nat} (hc:CellOK l) (hS:Geo.Spl (sds l) (tH b)) (h:Bd S M K l) (hb:BPl k b) (hSM:S≤2*M):Bd (S+1) (2*M) (k+2*K+4) (bcell b l):=by
 have h1:=bh_bd h hb
 have h2:=(cap_ok3 hc hS).2.2.1
 refine ⟨?_,fun s hs=>?_,fun s hs v hv=>?_,fun s hs=>?_⟩
 ·unfold bcell;rw[List.length_append];have:=h1.n;simp only[List.length_cons,List.length_nil];omega
 all_goals rcases List.mem_append.1 hs with hs|hs
 ·exact h1.m s hs
 ·obtain rfl:s=_:=by simpa using hs
  have:=h1.n
  show (capP b (bh b l)).length≤_
  omega
 ·exact h1.k s hs v hv
 ·obtain rfl:s=_:=by simpa using hs
  exact capP_bs h1.k v hv
 ·exact h1.p s hs
 ·obtain rfl:s=_:=by simpa using hs
  exact hb.mono (by omega)
theorem Bd.nil {S M K:Nat}:Bd S M K []:=⟨Nat.zero_le _,by simp,by simp,by simp⟩
theorem split_bd {b:Pl} {l:PCell} {S M K k:Nat} (hc:OkC l) (h:Bd S M K l) (hb:BPl k b) (hSM:S≤2*M):Bd (S+1) (2*M) (k+2*K+4) (splitP b l).1∧Bd (S+1) (2*M) (k+2*K+4) (splitP b l).2:=by
 rcases hc with rfl|hc
 ·exact ⟨Bd.nil,Bd.nil⟩
 ·have hm:=h.mono (S':=S+1) (M':=2*M) (K':=k+2*K+4) (by omega) (by omega) (by omega)
  unfold splitP
  by_cases hf:frontB b l=false
  ·rw[if_pos hf];exact ⟨hm,Bd.nil⟩
  ·rw[if_neg hf]
   by_cases hbb:behindB b l=false
   ·rw[if_pos hbb];exact ⟨Bd.nil,hm⟩
   ·rw[if_neg hbb]
    have hf':frontB b l=true:=by simpa using hf
    have hb':behindB b l=true:=by simpa using hbb
    exact ⟨bcell_bd hc (spl_of hc hf' hb') h hb hSM,bcell_bd hc (spl_of hc (by rw[front_neg];exact hb') (by rw[behind_neg];exact hf')) h hb.neg hSM⟩
theorem world_pl:∀ s∈worldP,BPl 2 s.1:=fun s hs=>by
 have:(worldP.all fun s=>decide ((Zm s.1.a).size≤2∧(Zm s.1.b).size≤2∧(Zm s.1.c).size≤2∧(Zm s.1.d).size≤2))=true:=by simp only[Zm_size];decide
 have h:=of_decide_eq_true (List.all_eq_true.1 this s hs)
 exact ⟨⟨h.1,h.2.1,h.2.2.1,h.2.2.2⟩⟩
theorem world_bd:Bd 6 4 2 worldP:=by
 refine ⟨by decide,by decide,fun s hs v hv=>?_,fun s hs=>?_⟩
 ·have:(worldP.all fun s=>s.2.all fun v=>decide ((Zm v.x).size≤2∧(Zm v.y).size≤2∧(Zm v.z).size≤2∧(Zm v.w).size≤2))=true:=by simp only[Zm_size];decide
  have h:=of_decide_eq_true (List.all_eq_true.1 (List.all_eq_true.1 this s hs) v hv)
  exact ⟨⟨h.1,h.2.1,h.2.2.1,h.2.2.2⟩⟩
 ·exact (world_pl s hs).mono (by decide)
end Go.Sx
namespace Go.Sx
set_option linter.unusedVariables false
theorem CallOK.wk {P:Program} {f:Nat} {args:List AV} {pre post:List (Nat × AV)} {r r':AV} (h:CallOK P f args pre r post) (hr:∀ g v,Rel g r v→Rel g r' v):CallOK P f args pre r' post:=by
 intro g vals h1 h2 h3
 refine (h g vals h1 h2 h3).mono ?_
 rintro e w' ⟨v,g',k1,k2,k3,k4,k5,k6⟩
 exact ⟨v,g',k1,k2,k3,k4,k5,hr _ _ k6⟩
theorem rel_nil {g:Gh} {v:Value} (h:Rel g (.lit (.slice none 0 0)) v):Rel g (.sl []) v:=by cases h;exact .slnil
theorem rel_cell0 {g:Gh} {v:Value} (h:Rel g (.agg [.lit (.slice none 0 0)]) v):Rel g (.agg [.sl []]) v:=by
 cases h with
 | agg _ vs hs h1 h =>
  refine .agg _ _ hs h1 fun i h2 h3=>?_
  have hi:i=0:=by simpa using h2
  subst hi
  exact rel_nil (h 0 (by simp) h3)
theorem rel_pair {g:Gh} {a b a' b':AV} {v:Value} (ha:∀ v,Rel g a v→Rel g a' v) (hb:∀ v,Rel g b v→Rel g b' v) (h:Rel g (.tup [a,b]) v):Rel g (.tup [a',b']) v:=by
 cases h with
 | tup _ vs hs h =>
  refine .tup _ _ hs fun i h2 h3=>?_
  match i,h2 with
  | 0,_=>exact ha _ (h 0 (by simp) h3)
  | 1,_=>exact hb _ (h 1 (by simp) h3)
def kept (h:Int) (b:Pl) (l:PCell):PCell:=l.filterMap fun s=>if someT h b s.2 s.2.length then some (s.1,partI h b s.2)else none
theorem kept_bh (b:Pl) (l:PCell):kept (-1) b l=bh b l:=rfl
theorem kept_bh' {b:Pl} {l:PCell} (h:CanC l):kept 1 b l=bh (negP b) l:=by
 unfold kept bh
 induction l with
 | nil=>rfl
 | cons s l ih =>
  rw[List.filterMap_cons,List.filterMap_cons,someT_neg,partI_neg (h.w (s:=s) (by simp)),ih ⟨fun t ht=>h.can t (by simp[ht])⟩]
theorem kept_succ (h:Int) (b:Pl) (l:PCell) (i:Nat) (hi:i<l.length):kept h b (l.take (i+1))=kept h b (l.take i)++(if someT h b l[i].2 l[i].2.length then [(l[i].1,partI h b l[i].2)]else []):=by
 unfold kept
 rw[List.take_succ_eq_append_getElem hi,List.filterMap_append]
 congr 1
 simp only[List.filterMap_cons,List.filterMap_nil]
 split<;>simp_all
theorem kept_len (h:Int) (b:Pl) (l:PCell):(kept h b l).length≤l.length:=List.length_filterMap_le _ _
theorem some_ne {h:Int} (hh:h≠0) {b:Pl} {vs:List Pt} (hs:someT h b vs vs.length=true):partI h b vs≠[]:=by
 unfold someT at hs
 rw[List.take_length]at hs
 obtain ⟨v,hv,e⟩:=List.any_eq_true.1 hs
 have e:=of_decide_eq_true e
 rw[← Geo.edges_fst vs]at hv
 obtain ⟨ed,he,rfl⟩:=List.mem_map.1 hv
 intro hn
 have:ed.1∈partI h b vs:=List.mem_flatMap.2 ⟨ed,he,List.mem_append_left _ (by rw[if_pos (by omega)];simp)⟩
 rw[hn]at this
 simp at this
theorem verts_any (l:PCell) (f:Pt→Bool):(vertsP l).any f=l.any fun s=>s.2.any f:=by
 apply Bool.eq_iff_iff.2
 simp only[List.any_eq_true]
 constructor
 ·rintro ⟨v,hv,h⟩
  obtain ⟨s,hs,hv⟩:=verts_mem.1 hv
  exact ⟨s,hs,v,hv,h⟩
 ·rintro ⟨s,hs,v,hv,h⟩
  exact ⟨v,verts_mem.2 ⟨s,hs,hv⟩,h⟩
def anyT (f:Pt→Bool) (vs:List Pt) (i:Nat):Bool:=(vs.take i).any f
theorem anyT_zero (f:Pt→Bool) (vs:List Pt):anyT f vs 0=false:=rfl
theorem anyT_succ (f:Pt→Bool) (vs:List Pt) (i:Nat) (hi:i<vs.length):anyT f vs (i+1)=(anyT f vs i||f vs[i]):=by
 unfold anyT
 rw[List.take_succ_eq_append_getElem hi,List.any_append]
 simp
theorem anyT_all (f:Pt→Bool) (vs:List Pt):anyT f vs vs.length=vs.any f:=by unfold anyT;rw[List.take_length]
theorem verts_len_le (l:PCell):(vertsP l).length≤(cornersP l).length:=by unfold vertsP;rw[sortP_len];exact dd_len _
end Go.Sx
namespace Go.Proofs.Vx
open Go Go.Sx Go.Proofs
attribute [local irreducible] fnT CallOK CallFr AW effV callV runP runO oneP oneO gcaseP hid
theorem yqq_Nx29:agT Tryz.prog 33=some true∧plT Tryz.prog 33=some [(0,1)]∧szT Tryz.prog 33=some 1∧zeT Tryz.prog 31=some [.lit (.slice none 0 0)]∧zeT Tryz.prog 33=some [.lit (.slice none 0 0)]:=by and_intros<;>kernel_rfl
attribute [go_sem] yqq_Nx29
theorem yfn_21:fnT Tryz.prog 21=true:=by kernel_rfl
theorem ren69 {A V : Nat} (hAV : A ≠ V) {l m : PCell} {arg : AV} (ha : ∀ σ, rnA σ arg = arg) (hk : ∀ K, topK K arg) (h : CallOK Tryz.prog 69 [.loc 0 0, arg] [(0, .blk [.ref 1 0 l.length l.length]), (1, .vec 9 (eS l))] (.tup []) [(0, .blk [.ref 1 0 m.length m.length]), (1, .vec 9 (eS m))]) :
  CallOK Tryz.prog 69 [.loc A 0,arg] [(A,.blk [.ref V 0 l.length l.length]),(V,.vec 9 (eS l))] (.tup []) [(A,.blk [.ref V 0 m.length m.length]),(V,.vec 9 (eS m))]:=by
 have key:=CallOK.renG (fun i=>if i=0 then A else V) (fun j=>if j=A then 0 else 1) h (by
  intro p hp
  simp only[List.mem_cons,List.not_mem_nil,or_false]at hp
  rcases hp with rfl|rfl
  ·simp
  ·simp[hAV.symm]) (by
  intro p hp
  simp only[List.mem_cons,List.not_mem_nil,or_false]at hp
  rcases hp with rfl|rfl
  ·intro c hc
   simp only[List.mem_cons,List.not_mem_nil,or_false]at hc
   subst hc
   simp[topK,top1]
  ·intro e he c hc
   exact of_eq_true (eS_in _) e he c hc) (by
  intro p hp
  simp only[List.mem_cons,List.not_mem_nil,or_false]at hp
  rcases hp with rfl|rfl
  ·refine ⟨by simp,fun c hc=>?_⟩
   simp only[List.mem_cons,List.not_mem_nil,or_false]at hc
   subst hc
   simp[topK,top1]
  ·exact ⟨by simp,fun e he c hc=>of_eq_true (eS_in _) e he c hc⟩) (.tup _ (by simp)) (by
  intro x hx
  simp only[List.mem_cons,List.not_mem_nil,or_false]at hx
  rcases hx with rfl|rfl
  ·simp[topK,top1]
  ·exact hk _)
 have e1:[AV.loc 0 0,arg].map (rnA (fun i=>if i=0 then A else V))=[AV.loc A 0,arg]:=by
  rw[List.map_cons,List.map_cons,List.map_nil,ha];rfl
 have e2:∀ m:PCell,rnL (fun i=>if i=0 then A else V) [(0,AV.blk [.ref 1 0 m.length m.length]),(1,AV.vec 9 (eS m))]=[(A,AV.blk [.ref V 0 m.length m.length]),(V,AV.vec 9 (eS m))]:=fun m=>rfl
 rw[e1,e2,e2]at key
 exact key
theorem c69aR {A V : Nat} (hAV : A ≠ V) (l : PCell) (hn : l.length ≤ 1048576) (p : Pl) (vs : List Pt) (h0 : vs ≠ []) (hvn : vs.length ≤ 268435456) :
  CallOK Tryz.prog 69 [.loc A 0,.agg (eG p vs)] [(A,.blk [.ref V 0 l.length l.length]),(V,.vec 9 (eS l))] (.tup []) [(A,.blk [.ref V 0 (l++[(p,vs)]).length (l++[(p,vs)]).length]),(V,.vec 9 (eS (l++[(p,vs)])))] :=
 ren69 hAV (fun _=>rfl) (fun _=>(capFlat p vs).in) (c69a l hn p vs h0 hvn)
theorem c69bR {A V : Nat} (hAV : A ≠ V) (l : PCell) (hn : l.length ≤ 1048576) :
  CallOK Tryz.prog 69 [.loc A 0,.agg eG0] [(A,.blk [.ref V 0 l.length l.length]),(V,.vec 9 (eS l))] (.tup []) [(A,.blk [.ref V 0 l.length l.length]),(V,.vec 9 (eS l))] :=
 ren69 hAV (fun _=>rfl) (fun _=>.agg _ (by intro c hc;simp only[List.mem_cons,List.not_mem_nil,or_false]at hc;rcases hc with rfl|rfl|rfl|rfl|rfl|rfl|rfl|rfl|rfl<;>exact .lit _)) (c69b l hn)
set_option maxHeartbeats 40000000 in
theorem c21a (l : PCell) (b : Pl) (hb : BPl 1073741824 b) (hn : l.length ≤ 1048576) (hv : ∀ s ∈ l, s.2.length ≤ 268435456 ∧ ∀ v ∈ s.2, CanP v ∧ BPt 1073741824 v) (hm : (cornersP l).length ≤ 268435456) (hf : frontB b l = false) :
  CallOK Tryz.prog 21 [.agg [.sl (eS l)],.agg (eH b)] [] (.tup [.agg [.sl (eS l)],.agg [.lit (.slice none 0 0)]]) []:=by
 refine CallOK.closed Tryz.func21 rfl 84 rfl rfl (by simp -dsimp (disch:=try exact zo) only[go_sem,eS_in]) [.cell 4 33,.cell 5 33] (congrArg Array.toList Tryz.results21) ?_
 simp only[startT,Nat.reduceAdd]
 have hml:maxLen=9223372036854775807:=rfl
 have hl:(eS l).length=l.length:=List.length_map _
 repeat' (first|refine zg ?_|(refine AW.cond rfl ?_ ?_<;>intro hc<;>try simp only[NM]at hc)|refine zr ?_|(refine callV.plain _ yfn_27 (c27 l hn hv hm) (by simp -dsimp (disch:=try exact zo) only[go_sem,eS_in]) (by rw[In_sl,eP_in];trivial) ?_)|refine ⟨by omega,?_⟩|(refine zb ?_ ?_<;>intro hg<;>(try rw[hg])<;>try simp only[NM]at hg)|omega|simp -dsimp (disch:=try exact zo) only[go_sem,hl,zl,eS_in,eP_in]|contradiction|rfl)
 have hV:=verts_len_le l
 have hfA:(vertsP l).any (fun v=>decide (0<sideP b v))=frontB b l:=verts_any l _
 have hbA:(vertsP l).any (fun v=>decide (sideP b v<0))=behindB b l:=verts_any l _
 have hvb:∀ v∈vertsP l,BPt 1073741824 v:=fun v hvm=>by
  obtain ⟨s,hs,hvm⟩:=verts_mem.1 hvm
  exact ((hv s hs).2 v hvm).2
 generalize vertsP l=vs at *
 have hvl:(vs.map eP).length=vs.length:=List.length_map _
 refine AW.loop (fun z:{i:Nat // i≤vs.length}=>⟨[(21,.lit (.int .i64 z.1)),(20,.lit (.int .i64 vs.length)),(19,.sl (vs.map eP)),(6,.lit (.bool (anyT (fun v=>decide (sideP b v<0)) vs z.1))),(7,.lit (.bool (anyT (fun v=>decide (0<sideP b v)) vs z.1))),(2,.loc 8 0),(3,.loc 9 0),(4,.loc 10 0),(5,.loc 11 0)],[(8,.blk [.sl (eS l)]),(9,.blk (eH b)),(10,.blk [.lit (.slice none 0 0)]),(11,.blk [.lit (.slice none 0 0)])],60⟩) (fun z=>vs.length - z.1) ⟨0,Nat.zero_le _⟩ (Weak.t4 (by refine ⟨?_,?_,?_,?_⟩<;>simp -dsimp (disch:=try exact zo) only[go_sem,eS_in,eP_in,anyT_zero,ZC])) ?_
 rintro ⟨i,hi⟩
 dsimp only
 by_cases hlt:i<vs.length
 ·clear hfA hbA
  have ea:=eP_getD vs i hlt
  have hsb:=anyT_succ (fun v=>decide (sideP b v<0)) vs i hlt
  have hsf:=anyT_succ (fun v=>decide (0<sideP b v)) vs i hlt
  have ha:=hvb _ (List.getElem_mem hlt)
  clear hv hvb
  generalize vs[i]=a at *
  simp only[eP,e4]at ea
  generalize anyT (fun v=>decide (sideP b v<0)) vs i=bb at *
  generalize anyT (fun v=>decide (0<sideP b v)) vs i=ff at *
  by_cases q1:sideP b a<0<;>by_cases q2:0<sideP b a
  ·omega
  all_goals
   have k1:=(show (sideP b a<0)=_∧(0<sideP b a)=_ from ⟨(by first|exact eq_true q1|exact eq_false q1),(by first|exact eq_true q2|exact eq_false q2)⟩)
   clear q1 q2
   obtain ⟨k1,k2⟩:=k1
   simp only[k1,k2,decide_true,decide_false]at hsb hsf
   cases bb<;>cases ff<;>(try simp only[Bool.true_or,Bool.false_or,Bool.or_true,Bool.or_false]at hsb)<;>(try simp only[Bool.true_or,Bool.false_or,Bool.or_true,Bool.or_false]at hsf)
  all_goals
   repeat' (first|refine zg ?_|(refine AW.cond rfl ?_ ?_<;>intro hc<;>first|simp only[NM]at hc|omega|skip)|refine zr ?_|(refine callV.flat _ yfn_34 (c34 b a hb ha) rfl rfl ?_)|refine ⟨by omega,?_⟩|(refine zb ?_ ?_<;>intro hg<;>(try rw[hg])<;>try simp only[NM]at hg)|omega|simp -dsimp (disch:=try exact zo) only[go_sem,hl,hvl,ea,k1,k2,zl,ZT,eS_in,eP_in]|contradiction|rfl)
  all_goals exact AW.stop ⟨⟨i+1,by omega⟩,(Weak.t4 (by refine ⟨?_,?_,?_,?_⟩<;>simp -dsimp (disch:=try exact zo) only[go_sem,eS_in,eP_in,hsf,hsb,ZC])),by dsimp only;omega⟩
 ·have hil:i=vs.length:=by omega
  subst hil
  rw[anyT_all,anyT_all,hfA,hbA]
  rw[hf]
  repeat' (first|refine zg ?_|(refine AW.cond rfl ?_ ?_<;>intro hc<;>first|simp only[NM]at hc|omega|skip)|refine zr ?_|refine ⟨by omega,?_⟩|(refine zb ?_ ?_<;>intro hg<;>(try rw[hg])<;>try simp only[NM]at hg)|omega|simp -dsimp (disch:=try exact zo) only[go_sem,hl,zl,eS_in,eP_in]|contradiction|rfl)
set_option maxHeartbeats 40000000 in
theorem c21b (l : PCell) (b : Pl) (hb : BPl 1073741824 b) (hn : l.length ≤ 1048576) (hv : ∀ s ∈ l, s.2.length ≤ 268435456 ∧ ∀ v ∈ s.2, CanP v ∧ BPt 1073741824 v) (hm : (cornersP l).length ≤ 268435456) (hf : frontB b l = true) (hbh : behindB b l = false) :
  CallOK Tryz.prog 21 [.agg [.sl (eS l)],.agg (eH b)] [] (.tup [.agg [.lit (.slice none 0 0)],.agg [.sl (eS l)]]) []:=by
 refine CallOK.closed Tryz.func21 rfl 84 rfl rfl (by simp -dsimp (disch:=try exact zo) only[go_sem,eS_in]) [.cell 4 33,.cell 5 33] (congrArg Array.toList Tryz.results21) ?_
 simp only[startT,Nat.reduceAdd]
 have hml:maxLen=9223372036854775807:=rfl
 have hl:(eS l).length=l.length:=List.length_map _
 repeat' (first|refine zg ?_|(refine AW.cond rfl ?_ ?_<;>intro hc<;>try simp only[NM]at hc)|refine zr ?_|(refine callV.plain _ yfn_27 (c27 l hn hv hm) (by simp -dsimp (disch:=try exact zo) only[go_sem,eS_in]) (by rw[In_sl,eP_in];trivial) ?_)|refine ⟨by omega,?_⟩|(refine zb ?_ ?_<;>intro hg<;>(try rw[hg])<;>try simp only[NM]at hg)|omega|simp -dsimp (disch:=try exact zo) only[go_sem,hl,zl,eS_in,eP_in]|contradiction|rfl)
 have hV:=verts_len_le l
 have hfA:(vertsP l).any (fun v=>decide (0<sideP b v))=frontB b l:=verts_any l _
 have hbA:(vertsP l).any (fun v=>decide (sideP b v<0))=behindB b l:=verts_any l _
 have hvb:∀ v∈vertsP l,BPt 1073741824 v:=fun v hvm=>by
  obtain ⟨s,hs,hvm⟩:=verts_mem.1 hvm
  exact ((hv s hs).2 v hvm).2
 generalize vertsP l=vs at *
 have hvl:(vs.map eP).length=vs.length:=List.length_map _
 refine AW.loop (fun z:{i:Nat // i≤vs.length}=>⟨[(21,.lit (.int .i64 z.1)),(20,.lit (.int .i64 vs.length)),(19,.sl (vs.map eP)),(6,.lit (.bool (anyT (fun v=>decide (sideP b v<0)) vs z.1))),(7,.lit (.bool (anyT (fun v=>decide (0<sideP b v)) vs z.1))),(2,.loc 8 0),(3,.loc 9 0),(4,.loc 10 0),(5,.loc 11 0)],[(8,.blk [.sl (eS l)]),(9,.blk (eH b)),(10,.blk [.lit (.slice none 0 0)]),(11,.blk [.lit (.slice none 0 0)])],60⟩) (fun z=>vs.length - z.1) ⟨0,Nat.zero_le _⟩ (Weak.t4 (by refine ⟨?_,?_,?_,?_⟩<;>simp -dsimp (disch:=try exact zo) only[go_sem,eS_in,eP_in,anyT_zero,ZC])) ?_
 rintro ⟨i,hi⟩
 dsimp only
 by_cases hlt:i<vs.length
 ·clear hfA hbA
  have ea:=eP_getD vs i hlt
  have hsb:=anyT_succ (fun v=>decide (sideP b v<0)) vs i hlt
  have hsf:=anyT_succ (fun v=>decide (0<sideP b v)) vs i hlt
  have ha:=hvb _ (List.getElem_mem hlt)
  clear hv hvb
  generalize vs[i]=a at *
  simp only[eP,e4]at ea
  generalize anyT (fun v=>decide (sideP b v<0)) vs i=bb at *
  generalize anyT (fun v=>decide (0<sideP b v)) vs i=ff at *
  by_cases q1:sideP b a<0<;>by_cases q2:0<sideP b a
  ·omega
  all_goals
   have k1:=(show (sideP b a<0)=_∧(0<sideP b a)=_ from ⟨(by first|exact eq_true q1|exact eq_false q1),(by first|exact eq_true q2|exact eq_false q2)⟩)
   clear q1 q2
   obtain ⟨k1,k2⟩:=k1
   simp only[k1,k2,decide_true,decide_false]at hsb hsf
   cases bb<;>cases ff<;>(try simp only[Bool.true_or,Bool.false_or,Bool.or_true,Bool.or_false]at hsb)<;>(try simp only[Bool.true_or,Bool.false_or,Bool.or_true,Bool.or_false]at hsf)
  all_goals
   repeat' (first|refine zg ?_|(refine AW.cond rfl ?_ ?_<;>intro hc<;>first|simp only[NM]at hc|omega|skip)|refine zr ?_|(refine callV.flat _ yfn_34 (c34 b a hb ha) rfl rfl ?_)|refine ⟨by omega,?_⟩|(refine zb ?_ ?_<;>intro hg<;>(try rw[hg])<;>try simp only[NM]at hg)|omega|simp -dsimp (disch:=try exact zo) only[go_sem,hl,hvl,ea,k1,k2,zl,ZT,eS_in,eP_in]|contradiction|rfl)
  all_goals exact AW.stop ⟨⟨i+1,by omega⟩,(Weak.t4 (by refine ⟨?_,?_,?_,?_⟩<;>simp -dsimp (disch:=try exact zo) only[go_sem,eS_in,eP_in,hsf,hsb,ZC])),by dsimp only;omega⟩
 ·have hil:i=vs.length:=by omega
  subst hil
  rw[anyT_all,anyT_all,hfA,hbA]
  rw[hf,hbh]
  repeat' (first|refine zg ?_|(refine AW.cond rfl ?_ ?_<;>intro hc<;>first|simp only[NM]at hc|omega|skip)|refine zr ?_|refine ⟨by omega,?_⟩|(refine zb ?_ ?_<;>intro hg<;>(try rw[hg])<;>try simp only[NM]at hg)|omega|simp -dsimp (disch:=try exact zo) only[go_sem,hl,zl,eS_in,eP_in]|contradiction|rfl)
end Go.Proofs.Vx
namespace Go.Proofs.Vx
open Go Go.Sx Go.Proofs
attribute [local irreducible] fnT CallOK CallFr AW effV callV runP runO oneP oneO gcaseP hid
theorem keepV {A V i : Nat} {ob : Nat → AV} {E : Eff → Prop} {l m : PCell} {arg : AV} (hAV : A ≠ V) (hin : ∀ K, In K arg) (hc : CallOK Tryz.prog 69 [.loc A 0, arg] [(A, .blk [.ref V 0 l.length l.length]), (V, .vec 9 (eS l))] (.tup []) [(A, .blk [.ref V 0 m.length m.length]), (V, .vec 9 (eS m))])
  (h1:ob A=.blk [.ref V 0 l.length l.length]) (h2:ob V=.vec 9 (eS l)) (h:E ⟨.tup [],[(A,.blk [.ref V 0 m.length m.length]),(V,.vec 9 (eS m))],[A,V]⟩):callV Tryz.prog 69 [.loc A 0,arg] i ob E:=by
 refine callV.inout _ _ _ yfn_69 hc ?_ ?_ ?_ ?_ (.tup _ (by simp)) ?_ ?_ ?_ h
 ·intro p hp
  simp only[List.mem_cons,List.not_mem_nil,or_false]at hp
  rcases hp with rfl|rfl
  ·exact h1
  ·exact h2
 ·intro x hx
  simp only[List.mem_cons,List.not_mem_nil,or_false]at hx
  rcases hx with rfl|rfl
  ·exact .loc _ _ (by simp)
  ·exact hin _
 ·intro p hp
  simp only[List.mem_cons,List.not_mem_nil,or_false]at hp
  rcases hp with rfl|rfl
  ·intro c hc
   simp only[List.mem_cons,List.not_mem_nil,or_false]at hc
   subst hc
   exact .ref _ _ _ _ (by simp)
  ·exact fun e he c hc=>of_eq_true (eS_in _) e he c hc
 ·simp[hAV]
 ·intro p hp
  simp only[List.mem_cons,List.not_mem_nil,or_false]at hp
  rcases hp with rfl|rfl
  ·refine ⟨by simp,fun c hc=>?_⟩
   simp only[List.mem_cons,List.not_mem_nil,or_false]at hc
   subst hc
   exact .ref _ _ _ _ (by simp)
  ·exact ⟨by simp,fun e he c hc=>of_eq_true (eS_in _) e he c hc⟩
 ·simp
 ·intro p hp
  simp only[List.mem_cons,List.not_mem_nil,or_false]at hp
  rcases hp with rfl|rfl<;>rfl
theorem inG0 (K:Nat→Prop):In K (.agg eG0):=.agg _ (by intro c hc;simp only[List.mem_cons,List.not_mem_nil,or_false]at hc;rcases hc with rfl|rfl|rfl|rfl|rfl|rfl|rfl|rfl|rfl<;>exact .lit _)
theorem eS_one (l:PCell) (p:Pl) (vs:List Pt):eS (l++[(p,vs)])=eS l++[eG p vs]:=List.map_append
theorem bw_tl {es:List (List AV)} {L:Nat} (h:es.length=L):(if 0<L then AV.sl (es.take L)else if L=0 then AV.sl []else AV.any)=AV.sl es:=by
 split
 ·rw[List.take_of_length_le (by omega)]
 ·have:L=0:=by omega
  subst this
  rw[if_pos rfl,List.eq_nil_of_length_eq_zero h]
set_option maxHeartbeats 40000000 in
theorem c21c (l : PCell) (b : Pl) (hb : BPl 1073741824 b) (hn : l.length ≤ 1048576) (hv : ∀ s ∈ l, s.2.length ≤ 268435456 ∧ ∀ v ∈ s.2, CanP v ∧ BPt 1073741824 v) (hm : (cornersP l).length ≤ 268435456) (hM131 : ∀ s ∈ l, s.2.length ≤ 131072) (hn4 : l.length ≤ 1024) (hcap : (foldS b (kept (-1) b l)).1.length ≤ 268435456) (hcap2 : (foldS (negP b) (kept 1 b l)).1.length ≤ 268435456) (hkb : ∀ h, ∀ s ∈ kept h b l, s.2.length ≤ 1048576 ∧ ∀ v ∈ s.2, BPt 1073741824 v) (hf : frontB b l = true) (hbh : behindB b l = true) :
  CallOK Tryz.prog 21 [.agg [.sl (eS l)],.agg (eH b)] [] (.tup [.agg [.sl (eS (kept (-1) b l++[(b,capP b (kept (-1) b l))]))],.agg [.sl (eS (kept 1 b l++[(negP b,capP (negP b) (kept 1 b l))]))]]) []:=by
 refine CallOK.closed Tryz.func21 rfl 84 rfl rfl (by simp -dsimp (disch:=try exact zo) only[go_sem,eS_in]) [.cell 4 33,.cell 5 33] (congrArg Array.toList Tryz.results21) ?_
 simp only[startT,Nat.reduceAdd]
 have hml:maxLen=9223372036854775807:=rfl
 have hl:(eS l).length=l.length:=List.length_map _
 repeat' (first|refine zg ?_|(refine AW.cond rfl ?_ ?_<;>intro hc<;>try simp only[NM]at hc)|refine zr ?_|(refine callV.plain _ yfn_27 (c27 l hn hv hm) (by simp -dsimp (disch:=try exact zo) only[go_sem,eS_in]) (by rw[In_sl,eP_in];trivial) ?_)|refine ⟨by omega,?_⟩|(refine zb ?_ ?_<;>intro hg<;>(try rw[hg])<;>try simp only[NM]at hg)|omega|simp -dsimp (disch:=try exact zo) only[go_sem,hl,zl,eS_in,eP_in]|contradiction|rfl)
 have hV:=verts_len_le l
 have hfA:(vertsP l).any (fun v=>decide (0<sideP b v))=frontB b l:=verts_any l _
 have hbA:(vertsP l).any (fun v=>decide (sideP b v<0))=behindB b l:=verts_any l _
 have hvb:∀ v∈vertsP l,BPt 1073741824 v:=fun v hvm=>by
  obtain ⟨s,hs,hvm⟩:=verts_mem.1 hvm
  exact ((hv s hs).2 v hvm).2
 generalize vertsP l=vs at *
 have hvl:(vs.map eP).length=vs.length:=List.length_map _
 refine AW.loop (fun z:{i:Nat // i≤vs.length}=>⟨[(21,.lit (.int .i64 z.1)),(20,.lit (.int .i64 vs.length)),(19,.sl (vs.map eP)),(6,.lit (.bool (anyT (fun v=>decide (sideP b v<0)) vs z.1))),(7,.lit (.bool (anyT (fun v=>decide (0<sideP b v)) vs z.1))),(2,.loc 8 0),(3,.loc 9 0),(4,.loc 10 0),(5,.loc 11 0)],[(8,.blk [.sl (eS l)]),(9,.blk (eH b)),(10,.blk [.lit (.slice none 0 0)]),(11,.blk [.lit (.slice none 0 0)])],60⟩) (fun z=>vs.length - z.1) ⟨0,Nat.zero_le _⟩ (Weak.t4 (by refine ⟨?_,?_,?_,?_⟩<;>simp -dsimp (disch:=try exact zo) only[go_sem,eS_in,eP_in,anyT_zero,ZC])) ?_
 rintro ⟨i,hi⟩
 dsimp only
 by_cases hlt:i<vs.length
 ·clear hfA hbA
  have ea:=eP_getD vs i hlt
  have hsb:=anyT_succ (fun v=>decide (sideP b v<0)) vs i hlt
  have hsf:=anyT_succ (fun v=>decide (0<sideP b v)) vs i hlt
  have ha:=hvb _ (List.getElem_mem hlt)
  clear hv hvb
  generalize vs[i]=a at *
  simp only[eP,e4]at ea
  generalize anyT (fun v=>decide (sideP b v<0)) vs i=bb at *
  generalize anyT (fun v=>decide (0<sideP b v)) vs i=ff at *
  by_cases q1:sideP b a<0<;>by_cases q2:0<sideP b a
  ·omega
  all_goals
   have k1:=(show (sideP b a<0)=_∧(0<sideP b a)=_ from ⟨(by first|exact eq_true q1|exact eq_false q1),(by first|exact eq_true q2|exact eq_false q2)⟩)
   clear q1 q2
   obtain ⟨k1,k2⟩:=k1
   simp only[k1,k2,decide_true,decide_false]at hsb hsf
   cases bb<;>cases ff<;>(try simp only[Bool.true_or,Bool.false_or,Bool.or_true,Bool.or_false]at hsb)<;>(try simp only[Bool.true_or,Bool.false_or,Bool.or_true,Bool.or_false]at hsf)
  all_goals
   repeat' (first|refine zg ?_|(refine AW.cond rfl ?_ ?_<;>intro hc<;>first|simp only[NM]at hc|omega|skip)|refine zr ?_|(refine callV.flat _ yfn_34 (c34 b a hb ha) rfl rfl ?_)|refine ⟨by omega,?_⟩|(refine zb ?_ ?_<;>intro hg<;>(try rw[hg])<;>try simp only[NM]at hg)|omega|simp -dsimp (disch:=try exact zo) only[go_sem,hl,hvl,ea,k1,k2,zl,ZT,eS_in,eP_in]|contradiction|rfl)
  all_goals exact AW.stop ⟨⟨i+1,by omega⟩,(Weak.t4 (by refine ⟨?_,?_,?_,?_⟩<;>simp -dsimp (disch:=try exact zo) only[go_sem,eS_in,eP_in,hsf,hsb,ZC])),by dsimp only;omega⟩
 ·have hil:i=vs.length:=by omega
  subst hil
  rw[anyT_all,anyT_all,hfA,hbA]
  rw[hf,hbh]
  clear hvb hvl hfA hbA hV hi hlt
  repeat' (first|refine zg ?_|(refine AW.cond rfl ?_ ?_<;>intro hc<;>first|simp only[NM]at hc|omega|skip)|refine zr ?_|refine ⟨by omega,?_⟩|(refine zb ?_ ?_<;>intro hg<;>(try rw[hg])<;>try simp only[NM]at hg)|omega|simp -dsimp (disch:=try exact zo) only[go_sem,hl,zl,eS_in,eP_in]|contradiction|rfl)
  have hk0:kept (-1) b []=[]:=rfl
  have hk1:kept 1 b []=[]:=rfl
  have hz:eS []=[]:=rfl
  refine AW.loop (fun z:{i:Nat // i≤l.length}=>⟨[(52,.lit (.int .i64 z.1)),(51,.lit (.int .i64 l.length)),(13,.clo 69 []),(11,.loc 67 0),(12,.loc 68 0),(50,.sl (eS l)),(2,.loc 8 0),(3,.loc 9 0),(4,.loc 10 0),(5,.loc 11 0)],[(67,.blk [.ref 74 0 (kept (-1) b (l.take z.1)).length (kept (-1) b (l.take z.1)).length]),(74,.vec 9 (eS (kept (-1) b (l.take z.1)))),(68,.blk [.ref 75 0 (kept 1 b (l.take z.1)).length (kept 1 b (l.take z.1)).length]),(75,.vec 9 (eS (kept 1 b (l.take z.1)))),(9,.blk (eH b)),(10,.blk [.lit (.slice none 0 0)]),(11,.blk [.lit (.slice none 0 0)])],110⟩) (fun z=>l.length - z.1) ⟨0,Nat.zero_le _⟩ (Weak.trans (Weak.nilB 67 0 9 _ (by decide) rfl (by simp) rfl (by simp)) (Weak.trans (Weak.nilB 68 0 9 _ (by decide) rfl (by simp) rfl (by simp)) (Weak.t4 (by refine ⟨?_,?_,?_,?_⟩<;>simp -dsimp (disch:=try exact zo) only[go_sem,List.take_zero,hk0,hk1,hz,eS_in,eP_in,List.length_nil,ZC])))) ?_
  rintro ⟨i,hi⟩
  dsimp only
  by_cases hlt:i<l.length
  ·have es1:=eS_getD l i hlt
   have hL2:=kept_succ (-1) b l i hlt
   have hM2:=kept_succ 1 b l i hlt
   have hLn:=kept_len (-1) b (l.take i)
   have hMn:=kept_len 1 b (l.take i)
   have htl:(l.take i).length≤l.length:=List.length_take_le' _ _
   have hvs:=hv _ (List.getElem_mem hlt)
   have hMs:=hM131 _ (List.getElem_mem hlt)
   generalize l[i]=sd at *
   obtain ⟨sp,svs⟩:=sd
   dsimp only at es1 hL2 hM2 hvs hMs
   generalize kept (-1) b (l.take i)=L at *
   generalize kept 1 b (l.take i)=M at *
   have hlL:(eS L).length=L.length:=List.length_map _
   have hlM:(eS M).length=M.length:=List.length_map _
   have c70x:=c70 sp b svs hvs.1 (fun v hvm=>(hvs.2 v hvm).1) (fun v hvm=>(hvs.2 v hvm).2) hb
   have hin70:∀ K,∀ x∈[prt (-1) sp b svs,prt 1 sp b svs],In K x:=fun K x hx=>by
    simp only[List.mem_cons,List.not_mem_nil,or_false]at hx
    rcases hx with rfl|rfl<;>exact prt_in _ _ _ _
   have hin70:=hin70 (fun _=>False)
   have pa:=partI_len (-1) b svs
   have pb:=partI_len 1 b svs
   simp only[eG]at es1
   unfold prt at c70x hin70
   clear hv hm hcap hcap2 hkb hvs hf hbh
   cases hA:someT (-1) b svs svs.length<;>cases hB:someT 1 b svs svs.length
   ·have hL:True:=trivial
    have hM:True:=trivial
    simp only[hA,hB,reduceIte,Bool.false_eq_true,List.append_nil]at hL2 hM2 c70x hin70
    repeat' (first|refine zg ?_|(refine AW.cond rfl ?_ ?_<;>intro hc<;>first|simp only[NM]at hc|omega|skip)|refine zr ?_|(refine callV.plain _ yfn_70 c70x (by simp -dsimp (disch:=try exact zo) only[go_sem,eP_in]) (.tup _ hin70) ?_)|(first|(refine keepV (by decide) (fun _=>inG0 _) (c69bR (by decide) L (by omega)) rfl rfl ?_)|(refine keepV (by decide) (fun _=>inG0 _) (c69bR (by decide) M (by omega)) rfl rfl ?_))|refine ⟨by omega,?_⟩|(refine zb ?_ ?_<;>intro hg<;>(try rw[hg])<;>try simp only[NM]at hg)|omega|simp -dsimp (disch:=try exact zo) only[go_sem,hl,es1,zl,ZT,eS_in,eP_in,hlL,hlM]|contradiction|rfl)
    all_goals exact AW.stop ⟨⟨i+1,by omega⟩,(Weak.t4 (by refine ⟨?_,?_,?_,?_⟩<;>first|(simp -dsimp (disch:=try exact zo) only[go_sem,hL2,hM2,List.length_append,ZC,hlL,hlM,zl];done)|(simp -dsimp (disch:=try exact zo) only[go_sem,eS_in,eP_in,ZC];done))),by dsimp only;omega⟩
   ·have hL:True:=trivial
    have hM:=some_ne (h:=1) (by decide) hB
    simp only[hA,hB,reduceIte,Bool.false_eq_true,List.append_nil]at hL2 hM2 c70x hin70
    repeat' (first|refine zg ?_|(refine AW.cond rfl ?_ ?_<;>intro hc<;>first|simp only[NM]at hc|omega|skip)|refine zr ?_|(refine callV.plain _ yfn_70 c70x (by simp -dsimp (disch:=try exact zo) only[go_sem,eP_in]) (.tup _ hin70) ?_)|(first|(refine keepV (by decide) (fun _=>inG0 _) (c69bR (by decide) L (by omega)) rfl rfl ?_)|(refine keepV (by decide) (fun _=>(capFlat _ _).in) (c69aR (by decide) M (by omega) sp (partI (1) b svs) hM (by omega)) rfl rfl ?_))|refine ⟨by omega,?_⟩|(refine zb ?_ ?_<;>intro hg<;>(try rw[hg])<;>try simp only[NM]at hg)|omega|simp -dsimp (disch:=try exact zo) only[go_sem,hl,es1,zl,ZT,eS_in,eP_in,hlL,hlM]|contradiction|rfl)
    all_goals exact AW.stop ⟨⟨i+1,by omega⟩,(Weak.t4 (by refine ⟨?_,?_,?_,?_⟩<;>first|(simp -dsimp (disch:=try exact zo) only[go_sem,hL2,hM2,List.length_append,ZC,hlL,hlM,zl];done)|(simp -dsimp (disch:=try exact zo) only[go_sem,eS_in,eP_in,ZC];done))),by dsimp only;omega⟩
   ·have hL:=some_ne (h:=-1) (by decide) hA
    have hM:True:=trivial
    simp only[hA,hB,reduceIte,Bool.false_eq_true,List.append_nil]at hL2 hM2 c70x hin70
    repeat' (first|refine zg ?_|(refine AW.cond rfl ?_ ?_<;>intro hc<;>first|simp only[NM]at hc|omega|skip)|refine zr ?_|(refine callV.plain _ yfn_70 c70x (by simp -dsimp (disch:=try exact zo) only[go_sem,eP_in]) (.tup _ hin70) ?_)|(first|(refine keepV (by decide) (fun _=>(capFlat _ _).in) (c69aR (by decide) L (by omega) sp (partI (-1) b svs) hL (by omega)) rfl rfl ?_)|(refine keepV (by decide) (fun _=>inG0 _) (c69bR (by decide) M (by omega)) rfl rfl ?_))|refine ⟨by omega,?_⟩|(refine zb ?_ ?_<;>intro hg<;>(try rw[hg])<;>try simp only[NM]at hg)|omega|simp -dsimp (disch:=try exact zo) only[go_sem,hl,es1,zl,ZT,eS_in,eP_in,hlL,hlM]|contradiction|rfl)
    all_goals exact AW.stop ⟨⟨i+1,by omega⟩,(Weak.t4 (by refine ⟨?_,?_,?_,?_⟩<;>first|(simp -dsimp (disch:=try exact zo) only[go_sem,hL2,hM2,List.length_append,ZC,hlL,hlM,zl];done)|(simp -dsimp (disch:=try exact zo) only[go_sem,eS_in,eP_in,ZC];done))),by dsimp only;omega⟩
   ·have hL:=some_ne (h:=-1) (by decide) hA
    have hM:=some_ne (h:=1) (by decide) hB
    simp only[hA,hB,reduceIte,Bool.false_eq_true,List.append_nil]at hL2 hM2 c70x hin70
    repeat' (first|refine zg ?_|(refine AW.cond rfl ?_ ?_<;>intro hc<;>first|simp only[NM]at hc|omega|skip)|refine zr ?_|(refine callV.plain _ yfn_70 c70x (by simp -dsimp (disch:=try exact zo) only[go_sem,eP_in]) (.tup _ hin70) ?_)|(first|(refine keepV (by decide) (fun _=>(capFlat _ _).in) (c69aR (by decide) L (by omega) sp (partI (-1) b svs) hL (by omega)) rfl rfl ?_)|(refine keepV (by decide) (fun _=>(capFlat _ _).in) (c69aR (by decide) M (by omega) sp (partI (1) b svs) hM (by omega)) rfl rfl ?_))|refine ⟨by omega,?_⟩|(refine zb ?_ ?_<;>intro hg<;>(try rw[hg])<;>try simp only[NM]at hg)|omega|simp -dsimp (disch:=try exact zo) only[go_sem,hl,es1,zl,ZT,eS_in,eP_in,hlL,hlM]|contradiction|rfl)
    all_goals exact AW.stop ⟨⟨i+1,by omega⟩,(Weak.t4 (by refine ⟨?_,?_,?_,?_⟩<;>first|(simp -dsimp (disch:=try exact zo) only[go_sem,hL2,hM2,List.length_append,ZC,hlL,hlM,zl];done)|(simp -dsimp (disch:=try exact zo) only[go_sem,eS_in,eP_in,ZC];done))),by dsimp only;omega⟩
  ·have hil:i=l.length:=by omega
   subst hil
   rw[List.take_length]
   have hLn:=kept_len (-1) b l
   have hMn:=kept_len 1 b l
   have kL:=hkb (-1)
   have kM:=hkb 1
   clear hv hm hf hbh hkb
   generalize kept (-1) b l=L at *
   generalize kept 1 b l=M at *
   have hlL:(eS L).length=L.length:=List.length_map _
   have hlM:(eS M).length=M.length:=List.length_map _
   have cA:=c71 L b hb (by omega) kL hcap
   have cB:=c71 M (negP b) hb.neg (by omega) kM hcap2
   have hbwL:=bw_tl hlL
   have hbwM:=bw_tl hlM
   have hbL:eS L++[eG b (capP b L)]=eS (L++[(b,capP b L)]):=(eS_one _ _ _).symm
   have hbM:eS M++[eG (negP b) (capP (negP b) M)]=eS (M++[(negP b,capP (negP b) M)]):=(eS_one _ _ _).symm
   have hfL:(eS (L++[(b,capP b L)])).take (L.length+1)=eS (L++[(b,capP b L)]):=List.take_of_length_le (by simp)
   have hfM:(eS (M++[(negP b,capP (negP b) M)])).take (M.length+1)=eS (M++[(negP b,capP (negP b) M)]):=List.take_of_length_le (by simp)
   have hpL:(0<L.length+1)=True:=by simp
   have hpM:(0<M.length+1)=True:=by simp
   generalize capP b L=cl at *
   generalize capP (negP b) M=cm at *
   clear kL kM hcap hcap2
   repeat' (first|refine zg ?_|(refine AW.cond rfl ?_ ?_<;>intro hc<;>first|simp only[NM]at hc|omega|skip)|refine zr ?_|(first|refine callV.new _ yfn_71 (by simp -dsimp (disch:=try exact zo) only[go_sem,hlL,hbwL,hbwM];exact cA) (by simp -dsimp (disch:=try exact zo) only[go_sem,eS_in,hlL,hbwL]) (capFlat _ _).in ?_|refine callV.new _ yfn_71 (by simp -dsimp (disch:=try exact zo) only[go_sem,hlM,hbwL,hbwM];exact cB) (by simp -dsimp (disch:=try exact zo) only[go_sem,eS_in,hlM,hbwM]) (capFlat _ _).in ?_)|(refine callV.flat _ yfn_22 (c22 b hb) rfl rfl ?_)|refine ⟨by omega,?_⟩|(refine zb ?_ ?_<;>intro hg<;>(try rw[hg])<;>try simp only[NM]at hg)|omega|simp -dsimp (disch:=try exact zo) only[go_sem,hl,zl,eS_in,eP_in,hlL,hlM,hbL,hbM,hfL,hfM,hpL,hpM]|contradiction|rfl)
end Go.Proofs.Vx
namespace Go.Proofs.Vx
open Go Go.Sx Go.Proofs
attribute [local irreducible] fnT CallOK CallFr AW effV callV runP runO oneP oneO gcaseP hid
theorem corners_len {S M:Nat} {l:PCell} (h:∀ s∈l,s.2.length≤M) (hn:l.length≤S):(cornersP l).length≤S*M:=by
 have key:(cornersP l).length≤l.length*M:=by
  clear hn
  induction l with
  | nil=>simp[cornersP]
  | cons s l ih =>
   have h1:=h s (by simp)
   have h2:=ih fun t ht=>h t (by simp[ht])
   simp only[cornersP,List.flatMap_cons,List.length_append,List.length_cons,Nat.add_mul,Nat.one_mul]at h2 ⊢
   omega
 exact Nat.le_trans key (Nat.mul_le_mul_right _ hn)
abbrev BdC (l:PCell):Prop:=Bd 64 4096 100000 l
theorem hv_of {l:PCell} (hc:CanC l) (h:BdC l):∀ s∈l,s.2.length≤268435456∧∀ v∈s.2,CanP v∧BPt 1073741824 v:=fun s hs=>⟨Nat.le_trans (h.m s hs) (by decide),fun v hv=>⟨hc.can s hs v hv,(h.k s hs v hv).mono (by decide)⟩⟩
theorem c27x (l:PCell) (hc:CanC l) (h:BdC l):CallOK Tryz.prog 27 [.agg [.sl (eS l)]] [] (.sl ((vertsP l).map eP)) [] :=
 c27 l (Nat.le_trans h.n (by decide)) (hv_of hc h) (Nat.le_trans (corners_len h.m h.n) (by decide))
theorem c21x (l:PCell) (b:Pl) (hc:OkC l) (h:BdC l) (hb:BPl 100000 b):CallOK Tryz.prog 21 [.agg [.sl (eS l)],.agg (eH b)] [] (.tup [.agg [.sl (eS (splitP b l).1)],.agg [.sl (eS (splitP b l).2)]]) []:=by
 have hb':=hb.mono (show 100000≤1073741824 by decide)
 have hn:l.length≤1048576:=Nat.le_trans h.n (by decide)
 have hm:(cornersP l).length≤268435456:=Nat.le_trans (corners_len h.m h.n) (by decide)
 have hv:=hv_of hc.can h
 by_cases hf:frontB b l=false
 ·have e:splitP b l=(l,[]):=by unfold splitP;rw[if_pos hf]
  rw[e]
  exact (c21a l b hb' hn hv hm hf).wk fun g v=>rel_pair (fun v h=>h) fun v h=>rel_cell0 h
 ·have hf':frontB b l=true:=by simpa using hf
  by_cases hbh:behindB b l=false
  ·have e:splitP b l=([],l):=by unfold splitP;rw[if_neg hf,if_pos hbh]
   rw[e]
   exact (c21b l b hb' hn hv hm hf' hbh).wk fun g v=>rel_pair (fun v h=>rel_cell0 h) fun v h=>h
  ·have hb2:behindB b l=true:=by simpa using hbh
   have hco:CellOK l:=hc.elim (fun e=>by subst e;simp[frontB]at hf') id
   have e:splitP b l=(bcell b l,bcell (negP b) l):=by unfold splitP;rw[if_neg hf,if_neg hbh]
   have S1:=spl_of hco hf' hb2
   have S2:=spl_of (b:=negP b) hco (by rw[front_neg];exact hb2) (by rw[behind_neg];exact hf')
   have B1:=bh_bd h hb
   have B2:=bh_bd h hb.neg
   have k2:=kept_bh' (b:=b) hco.toCanC
   have C1:=(cap_ok3 hco S1).2.2.2
   have C2:=(cap_ok3 hco S2).2.2.2
   have:=c21c l b hb' hn hv hm (fun s hs=>Nat.le_trans (h.m s hs) (by decide)) (Nat.le_trans h.n (by decide)) (by rw[kept_bh];have:=B1.n;omega) (by rw[k2];have:=B2.n;omega) (by
    intro hh s hs
    have hp:s.2.length≤2*4096∧∀ v∈s.2,BPt (100000+2*100000+4) v:=by
     obtain ⟨t,ht,e⟩:=List.mem_filterMap.1 hs
     by_cases hq:someT hh b t.2 t.2.length=true
     ·rw[if_pos hq]at e
      obtain rfl:=Option.some.inj e
      refine ⟨?_,partI_bs hb (h.k t ht)⟩
      have:=partI_len hh b t.2
      have:=h.m t ht
      show (partI hh b t.2).length≤_
      omega
     ·rw[if_neg hq]at e;contradiction
    exact ⟨Nat.le_trans hp.1 (by decide),fun v hv=>(hp.2 v hv).mono (by decide)⟩) hf' hb2
   rw[e]
   rw[kept_bh,k2]at this
   exact this
end Go.Proofs.Vx
