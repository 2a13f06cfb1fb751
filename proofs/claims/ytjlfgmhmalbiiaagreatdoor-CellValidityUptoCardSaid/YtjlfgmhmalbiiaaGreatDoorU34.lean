import Derived.Test.YtjlfgmhmalbiiaaGreatDoorProg
import Derived.Test.YtjlfgmhmalbiiaaGreatDoorU09
import Derived.Test.YtjlfgmhmalbiiaaGreatDoorU10
import Derived.Test.YtjlfgmhmalbiiaaGreatDoorU11
import Derived.Test.YtjlfgmhmalbiiaaGreatDoorU20
import Derived.Test.YtjlfgmhmalbiiaaGreatDoorU31
import Derived.Test.YtjlfgmhmalbiiaaGreatDoorU32
import Derived.Test.YtjlfgmhmalbiiaaGreatDoorU33
set_option linter.all false
namespace Go.Sx
set_option linter.unusedVariables false
set_option linter.unusedSimpArgs false
inductive OT
 | fin
 | none
 | alt (j:Nat) (t r:OT)
def OT.heads:OT→List Nat
 | .alt j _ r=>j::r.heads
 | _=>[]
def runT (P:Program) (nt:Nat) (ops:List Oper) (N:Nat):OT→AS→(AS→Prop)→Prop
 | .fin,S,K=>K S
 | .none,_,_=>True
 | .alt j t r,S,K=>oneP P nt ops (ops.getD j default) (N+j) S (fun S' _=>runT P nt ops N t S' K) (tg _)∧runT P nt ops N r S K
def covB (ops:Array Oper) (L:Array Bool):OT→Bool
 | .fin=>true
 | .none=>false
 | .alt j t r=>!(Region.ready .any ops L).isEmpty&&(Region.ready .any ops L).all (OT.alt j t r).heads.contains
def okT (ops:Array Oper):OT→Nat→Array Bool→Bool
 | .fin,_,L=>(Region.ready .any ops L).isEmpty
 | .none,_,_=>true
 | .alt j t r,0,L=>false
 | .alt j t r,f+1,L=>covB ops (L.setIfInBounds j true) t&&okT ops t f (L.setIfInBounds j true)&&okT ops r (f+1) L
theorem runT_sub {P : Program} {nt : Nat} {ops : Array Oper} {N f j : Nat} {L : Array Bool} {S : AS} {K : AS → Prop} : ∀ {t : OT}, j ∈ t.heads → okT ops t (f + 1) L = true → runT P nt ops.toList N t S K →
  ∃ u,covB ops (L.setIfInBounds j true) u=true∧okT ops u f (L.setIfInBounds j true)=true∧oneO P nt ops.toList (ops.toList.getD j default) (N+j) S fun S' _=>runT P nt ops.toList N u S' K:=by
 intro t
 induction t with
 | fin=>intro h;simp[OT.heads]at h
 | none=>intro h;simp[OT.heads]at h
 | alt i t r _ ih =>
  intro h ho hr
  simp only[okT,Bool.and_eq_true]at ho
  obtain ⟨⟨h1,h2⟩,h3⟩:=ho
  obtain ⟨r1,r2⟩:=hr
  by_cases e:j=i
  ·subst e
   exact ⟨t,h1,h2,r1⟩
  ·simp only[OT.heads,List.mem_cons,e,false_or]at h
   exact ih h h3 r2
theorem runT_any {c : Cx} {nt : Nat} {ops : Array Oper} {N : Nat} {K : AS → Prop} {Q : Exit → Act → World → Prop}
  (hK:∀ S' a w,K S'→SimF c nt (look S'.t) (look S'.o) (fun l=>l<N+ops.size) a w→Q .normal a w):∀ (fuel:Nat) (L:Array Bool) (t:OT) (S:AS) (a:Act) (w:World),L.size=ops.size→covB ops L t=true→okT ops t fuel L=true →
  runT c.P nt ops.toList N t S K→SimF c nt (look S.t) (look S.o) (fun l=>l<N∨∃ k,L.getD k false=true∧l=N+k) a w→wpAnyIn (Fw c.ro) 0 c.P .any ops Q fuel L a w:=by
 have fin:∀ (L:Array Bool) (S:AS) (a:Act) (w:World),L.size=ops.size→K S→SimF c nt (look S.t) (look S.o) (fun l=>l<N∨∃ k,L.getD k false=true∧l=N+k) a w→Q .normal a w:=by
  intro L S a w hL hk hs
  obtain ⟨g,rfl,hg,ht,hsz,hu,hln⟩:=hs
  refine hK _ _ _ hk ⟨g,rfl,hg,ht,hsz,fun l hl=>?_,hln⟩
  rcases hu l hl with h|⟨k,h1,rfl⟩
  ·show l<N+ops.size;omega
  ·have:k<L.size:=by
    apply Classical.byContradiction
    intro hn
    rw[Array.getD_eq_getD_getElem?,Array.getElem?_eq_none (by omega)]at h1
    simp at h1
   show N+k<N+ops.size;omega
 intro fuel
 induction fuel with
 | zero =>
  intro L t S a w hL hc ho hr hs
  cases t with
  | fin =>
   have:Region.ready .any ops L=[]:=by simpa [okT]using ho
   exact ⟨this,fin L S a w hL hr hs⟩
  | none=>simp[covB]at hc
  | alt j t r=>simp[okT]at ho
 | succ fuel ih =>
  intro L t S a w hL hc ho hr hs
  cases t with
  | fin =>
   have he:Region.ready .any ops L=[]:=by simpa [okT]using ho
   exact ⟨fun _=>fin L S a w hL hr hs,fun j hj=>by rw[he]at hj;simp at hj⟩
  | none=>simp[covB]at hc
  | alt i t r =>
   simp only[covB,Bool.and_eq_true,Bool.not_eq_true',List.isEmpty_eq_false_iff]at hc
   refine ⟨fun he=>absurd he hc.1,fun j hj=>?_⟩
   have hjh:j∈(OT.alt i t r).heads:=by
    have:=List.all_eq_true.1 hc.2 j hj
    simpa using this
   obtain ⟨u,u1,u2,u3⟩:=runT_sub hjh ho hr
   obtain ⟨h1,o,ho',hdeps⟩:=mem_ready.1 hj
   have hlt:j<ops.size:=(Array.getElem?_eq_some_iff.1 ho').1
   have hoj:ops.toList.getD j default=o:=by
    rw[List.getD_eq_getElem?_getD,Array.getElem?_toList,ho'];rfl
   rw[hoj]at u3
   obtain ⟨e,hk,hd,hst⟩:=oneO_ok u3
   have hDj:L.getD j false=false:=by
    rw[Array.getD_eq_getD_getElem?,Array.getElem?_eq_getElem (by omega)]at h1 ⊢
    simpa using h1
   refine wpOp_step (o:=o) ho' hst (fun _ _=>rfl) (fun _ _=>rfl) hd ?_ hs fun a2 w2 hs2=>?_
   ·rintro (h|⟨k,hk1,hk2⟩)
    ·omega
    ·have:k=j:=by omega
     subst this
     rw[hDj]at hk1;contradiction
   ·refine ih (L.setIfInBounds j true) u _ a2 w2 (by rw[Array.size_setIfInBounds];exact hL) u1 u2 hk ?_
    obtain ⟨g,rfl,hg,ht,hsz,hu,hln⟩:=hs2
    refine ⟨g,rfl,by rw[look_step_o];exact hg,by rw[look_step_t];exact ht,hsz,fun l hl=>?_,hln⟩
    rcases hu l hl with (h|⟨k,hk1,hk2⟩)|h
    ·exact .inl h
    ·refine .inr ⟨k,?_,hk2⟩
     by_cases hkj:k=j
     ·subst hkj
      rw[Array.getD_eq_getD_getElem?,Array.getElem?_setIfInBounds_self_of_lt (by omega)];rfl
     ·rw[getD_set_ne false (Ne.symm hkj)];exact hk1
    ·refine .inr ⟨j,?_,h⟩
     rw[Array.getD_eq_getD_getElem?,Array.getElem?_setIfInBounds_self_of_lt (by omega)];rfl
theorem AW.all {P : Program} {nt : Nat} {R : AS → Prop} {k : List Itm} {S : AS} {id : Nat} {l : List Oper} (T : OT) (hm : P.follows .mixedOrders = true)
  (ht:(covB l.toArray (Array.replicate l.length false) T&&okT l.toArray T l.length (Array.replicate l.length false))=true)
  (h:runT P nt l S.nx T S fun S'=>AW P nt R k { S' with nx:=S.nx+l.length }):AW P nt R (.code (.region id l.toArray true)::k) S:=by
 intro c a w hP hs
 subst hP
 rw[Bool.and_eq_true]at ht
 have hsz:l.toArray.size=l.length:=by simp
 refine wpIn_region_any hm ?_
 rw[hsz]
 obtain ⟨g,rfl,hg,ht',hsz',hu,hln,h8⟩:=hs
 obtain ⟨he,hg'⟩:=hg.same { g.w with drawn:=g.w.drawn+1 } rfl rfl ⟨rfl,Nat.le_succ _⟩ rfl
 refine runT_any (N:=S.nx) (K:=fun S'=>AW c.P nt R k { S' with nx:=S.nx+l.length }) (fun S' a w hk hs'=>?_) l.length (Array.replicate l.length false) T S a _ (by simp) ht.1 ht.2 h ?_
 ·obtain ⟨g2,rfl,q1,q2,q3,q4,q5⟩:=hs'
  exact ⟨c,_,.refl c,hk,g2,rfl,q1,q2,q3,fun l hl=>by have:=q4 l hl;simp only[hsz]at this ⊢;omega,q5,by simp only;omega⟩
 ·refine ⟨_,rfl,hg',ht'.mono he,hsz',fun l hl=>.inl (hu l hl),hln.mono he⟩
theorem runT_fin (P:Program) (nt:Nat) (ops:List Oper) (N:Nat) (S:AS) (K:AS→Prop):runT P nt ops N .fin S K=K S:=rfl
theorem runT_none (P:Program) (nt:Nat) (ops:List Oper) (N:Nat) (S:AS) (K:AS→Prop):runT P nt ops N .none S K=True:=rfl
theorem runT_0 (P:Program) (nt:Nat) (o0:Oper) (l:List Oper) (N:Nat) (t r:OT) (S:AS) (K:AS→Prop):runT P nt (o0::l) N (.alt 0 t r) S K=(oneP P nt (o0::l) o0 (N+0) S (fun S' _=>runT P nt (o0::l) N t S' K) (tg _)∧runT P nt (o0::l) N r S K):=rfl
theorem runT_1 (P:Program) (nt:Nat) (o0 o1:Oper) (l:List Oper) (N:Nat) (t r:OT) (S:AS) (K:AS→Prop):runT P nt (o0::o1::l) N (.alt 1 t r) S K=(oneP P nt (o0::o1::l) o1 (N+1) S (fun S' _=>runT P nt (o0::o1::l) N t S' K) (tg _)∧runT P nt (o0::o1::l) N r S K):=rfl
theorem runT_2 (P:Program) (nt:Nat) (o0 o1 o2:Oper) (l:List Oper) (N:Nat) (t r:OT) (S:AS) (K:AS→Prop):runT P nt (o0::o1::o2::l) N (.alt 2 t r) S K=(oneP P nt (o0::o1::o2::l) o2 (N+2) S (fun S' _=>runT P nt (o0::o1::o2::l) N t S' K) (tg _)∧runT P nt (o0::o1::o2::l) N r S K):=rfl
theorem runT_3 (P:Program) (nt:Nat) (o0 o1 o2 o3:Oper) (l:List Oper) (N:Nat) (t r:OT) (S:AS) (K:AS→Prop):runT P nt (o0::o1::o2::o3::l) N (.alt 3 t r) S K=(oneP P nt (o0::o1::o2::o3::l) o3 (N+3) S (fun S' _=>runT P nt (o0::o1::o2::o3::l) N t S' K) (tg _)∧runT P nt (o0::o1::o2::o3::l) N r S K):=rfl
theorem runT_4 (P:Program) (nt:Nat) (o0 o1 o2 o3 o4:Oper) (l:List Oper) (N:Nat) (t r:OT) (S:AS) (K:AS→Prop):runT P nt (o0::o1::o2::o3::o4::l) N (.alt 4 t r) S K=(oneP P nt (o0::o1::o2::o3::o4::l) o4 (N+4) S (fun S' _=>runT P nt (o0::o1::o2::o3::o4::l) N t S' K) (tg _)∧runT P nt (o0::o1::o2::o3::o4::l) N r S K):=rfl
theorem runT_5 (P:Program) (nt:Nat) (o0 o1 o2 o3 o4 o5:Oper) (l:List Oper) (N:Nat) (t r:OT) (S:AS) (K:AS→Prop):runT P nt (o0::o1::o2::o3::o4::o5::l) N (.alt 5 t r) S K=(oneP P nt (o0::o1::o2::o3::o4::o5::l) o5 (N+5) S (fun S' _=>runT P nt (o0::o1::o2::o3::o4::o5::l) N t S' K) (tg _)∧runT P nt (o0::o1::o2::o3::o4::o5::l) N r S K):=rfl
theorem runT_6 (P:Program) (nt:Nat) (o0 o1 o2 o3 o4 o5 o6:Oper) (l:List Oper) (N:Nat) (t r:OT) (S:AS) (K:AS→Prop):runT P nt (o0::o1::o2::o3::o4::o5::o6::l) N (.alt 6 t r) S K=(oneP P nt (o0::o1::o2::o3::o4::o5::o6::l) o6 (N+6) S (fun S' _=>runT P nt (o0::o1::o2::o3::o4::o5::o6::l) N t S' K) (tg _)∧runT P nt (o0::o1::o2::o3::o4::o5::o6::l) N r S K):=rfl
attribute [go_sem] runT_fin runT_none runT_0 runT_1 runT_2 runT_3 runT_4 runT_5 runT_6
end Go.Sx
namespace Go.Proofs.Vx
open Go Go.Sx Go.Proofs
attribute [local irreducible] fnT CallOK CallFr AW effV callV runP runO oneP oneO gcaseP hid
theorem yqq_Nx80:agT Tryz.prog 66=some false∧boT Tryz.prog 66=false∧mpT Tryz.prog 132=some (26,4)∧mpT Tryz.prog 133=some (138,3)∧zvT Tryz.prog 3=some (.int .i64 0):=by and_intros<;>kernel_rfl
attribute [go_sem] yqq_Nx80
def T17:OT:=(.alt 0 (.alt 1 (.alt 2 (.alt 3 (.alt 4 (.alt 5 (.alt 6 .fin .none) .none) .none) (.alt 4 (.alt 3 (.alt 5 (.alt 6 .fin .none) .none) (.alt 5 (.alt 3 (.alt 6 .fin .none) .none) .none)) .none)) (.alt 4 (.alt 2 (.alt 3 (.alt 5 (.alt 6 .fin .none) .none) (.alt 5 (.alt 3 (.alt 6 .fin .none) .none) .none)) (.alt 5 (.alt 2 (.alt 3 (.alt 6 .fin .none) .none) .none) .none)) .none)) .none) (.alt 1 (.alt 0 (.alt 2 (.alt 3 (.alt 4 (.alt 5 (.alt 6 .fin .none) .none) .none) (.alt 4 (.alt 3 (.alt 5 (.alt 6 .fin .none) .none) (.alt 5 (.alt 3 (.alt 6 .fin .none) .none) .none)) .none)) (.alt 4 (.alt 2 (.alt 3 (.alt 5 (.alt 6 .fin .none) .none) (.alt 5 (.alt 3 (.alt 6 .fin .none) .none) .none)) (.alt 5 (.alt 2 (.alt 3 (.alt 6 .fin .none) .none) .none) .none)) .none)) .none) .none))
theorem inEs {K:Nat→Prop} {es:List (Pt × Pt)}:In K (.sl (eEs es)):=by rw[In_sl,eEs_in];trivial
theorem esP_succ (l:PCell) (i:Nat) (h:i<l.length):esP (l.take (i+1))=esP (l.take i)++Geo.edges l[i].2:=by
 rw[List.take_succ_eq_append_getElem h,esP_app]
 obtain ⟨p,vs⟩:=l[i]
 rw[esP_one]
theorem pls_succ (l:PCell) (i:Nat) (h:i<l.length):(l.take (i+1)).map (·.1)=(l.take i).map (·.1)++[l[i].1]:=by
 rw[List.take_succ_eq_append_getElem h,List.map_append];rfl
theorem esP_take (l:PCell) (i:Nat):∃ r,esP l=esP (l.take i)++r:=⟨esP (l.drop i),by rw[← esP_app,List.take_append_drop]⟩
theorem pls_take (l:PCell) (i:Nat):∃ r,l.map (·.1)=(l.take i).map (·.1)++r:=⟨(l.drop i).map (·.1),by rw[← List.map_append,List.take_append_drop]⟩
set_option maxRecDepth 20000 in
set_option maxHeartbeats 40000000 in
theorem c55 (l:PCell) (h:CellOK l) (hH:∀ s∈l,CanH s.1) (hB:BdC l):CallOK Tryz.prog 55 [.agg [.sl (eS l)]] [] (.lit (.int .i64 0)) []:=by
 refine CallOK.flat Tryz.func55 rfl 88 rfl rfl rfl [.tmp 2] (congrArg Array.toList Tryz.results55) ?_
 simp only[startT,Nat.reduceAdd]
 have hml:maxLen=9223372036854775807:=rfl
 have hl:(eS l).length=l.length:=List.length_map _
 have hz1:mHB []=[]:=rfl
 have hz2:mEN []=[]:=rfl
 have hz3:esP []=[]:=rfl
 have h4:4≤l.length:=by have:=h.cell.four;simpa [sds]using this
 have hln:=hB.n
 have hnd:=es_nodup h
 have hpn:=planes_nodup h
 have hfine:=fun s hs=>fine_of h hH (s:=s) hs
 have hcv:=c27x l h.toCanC hB
 have hVo:∀ x∈vertsP l,outP l x=false:=fun x hx=>not_out h hx
 have hsw:∀ e∈esP l,Geo.sw e∈esP l:=fun e he=>es_sw h he
 have hVb:∀ x∈vertsP l,BPt 100000 x:=fun v hv=>by
  obtain ⟨s,hs,hv⟩:=verts_mem.1 hv
  exact hB.k s hs v hv
 have hVn:(vertsP l).length≤268435456:=verts_bd hB
 have hEb:∀ e∈esP l,BPt 100000 e.1∧BPt 100000 e.2:=fun e he=>by
  obtain ⟨s,hs,he⟩:=List.mem_flatMap.1 he
  exact ⟨hB.k s hs _ (Geo.mem_fst he),hB.k s hs _ (Geo.mem_snd he)⟩
 have hEn:(esP l).length≤268435456:=by
  have h1:=esP_len hB.m
  have h2:l.length*4096≤64*4096:=Nat.mul_le_mul_right _ hB.n
  omega
 have hm:=hB.m
 have hk:=hB.k
 have hp:=hB.p
 clear h hH hB
 generalize hVe:vertsP l=V at *
 have hVl0:(V.map eP).length=V.length:=List.length_map _
 have k0:((l.length:Int)=0)=False:=eq_false (by omega)
 repeat' (first|refine zg ?_|(refine AW.cond rfl ?_ ?_<;>intro hc<;>first|simp only[NM]at hc|omega|skip)|refine zr ?_|refine ⟨by omega,?_⟩|(refine zb ?_ ?_<;>intro hg<;>(try rw[hg])<;>try simp only[NM]at hg)|omega|simp -dsimp (disch:=try exact zo) only[go_sem,hl,k0]|contradiction|rfl)
 refine AW.loop (fun z:{i:Nat // i≤l.length}=>⟨[(23,.lit (.int .i64 z.1)),(22,.lit (.int .i64 l.length)),(21,.sl (eS l)),(3,.mp 14),(4,.mp 16),(1,.loc 8 0)],[(14,.mpo (mHB ((l.take z.1).map (·.1)))),(16,.mpo (mEN (esP (l.take z.1)))),(8,.blk [.sl (eS l)])],60⟩) (fun z=>l.length - z.1) ⟨0,Nat.zero_le _⟩ (Weak.t4 (by refine ⟨?_,?_,?_,?_⟩<;>simp -dsimp (disch:=try exact zo) only[go_sem,eS_in,List.take_zero,hz1,hz2,hz3,ZC])) ?_
 rintro ⟨i,hi⟩
 dsimp only
 by_cases hlt:i<l.length
 ·have es1:=eS_getD l i hlt
  have hfE:=esP_succ l i hlt
  have hfP:=pls_succ l i hlt
  have hmem:l[i]∈l:=List.getElem_mem hlt
  have cp:=c117 l[i].1 l[i].2 (Nat.le_trans (hm _ hmem) (by decide)) (hp _ hmem) (hk _ hmem) (hfine _ hmem)
  have ce:=c118 l[i].1 l[i].2 (Nat.le_trans (hm _ hmem) (by decide))
  have hkP:=key26 l[i].1 ((hp _ hmem).mono (by decide))
  have hpl:((l.take i).map (·.1)).Nodup∧l[i].1∉(l.take i).map (·.1):=by
   obtain ⟨r,hr⟩:=pls_take l (i+1)
   rw[hr,hfP,List.append_assoc,List.nodup_append]at hpn
   exact ⟨hpn.1,fun hh=>hpn.2.2 _ hh _ (by simp) rfl⟩
  have hkoP:=keysHB hpl.1 fun p hpm=>by
   obtain ⟨s,hs,rfl⟩:=List.mem_map.1 hpm
   exact (hp s (List.mem_of_mem_take hs)).mono (by decide)
  have hlkP:(mfind (mHB ((l.take i).map (·.1))) (plv l[i].1)).getD (.bool false)=.bool false:=by rw[mfind_no (mHB_key hpl.2)];rfl
  have hputP:mput (mHB ((l.take i).map (·.1))) (plv l[i].1) (.bool true)=mHB ((l.take i).map (·.1)++[l[i].1]):=by rw[mput_no (mHB_key hpl.2)];unfold mHB;rw[List.map_append];rfl
  have hedn:∃ r,esP l=(esP (l.take i)++Geo.edges l[i].2)++r:=by
   obtain ⟨r,hr⟩:=esP_take l (i+1)
   exact ⟨r,by rw[hr,hfE]⟩
  have hedl:(Geo.edges l[i].2).length≤4096:=by rw[Geo.edges_length];exact hm _ hmem
  have hEl:(eEs (Geo.edges l[i].2)).length=(Geo.edges l[i].2).length:=List.length_map _
  clear hpl hcv hVo hsw hVb hpn hfine hm hk hp hmem
  generalize l[i]=sd at *
  obtain ⟨sp,svs⟩:=sd
  dsimp only at es1 hfE hfP cp ce hkP hlkP hputP hedn hedl hEl
  generalize (l.take i).map (·.1)=Q at *
  generalize esP (l.take i)=E0 at *
  generalize Geo.edges svs=ed at *
  simp only[eG]at es1 cp ce
  simp only[plv]at hkP hlkP hputP
  replace hedn:=Hid.mk hedn
  replace hnd:=Hid.mk hnd
  replace hEb:=Hid.mk hEb
  repeat' (first|refine zg ?_|(refine AW.cond rfl ?_ ?_<;>intro hc<;>first|simp only[NM]at hc|omega|skip)|refine zr ?_|(refine callV.plain _ yfn_117 cp (by simp -dsimp (disch:=try exact zo) only[go_sem,eP_in]) (.lit _) ?_)|(refine callV.plain _ yfn_118 ce (by simp -dsimp (disch:=try exact zo) only[go_sem,eP_in]) inEs ?_)|refine ⟨by omega,?_⟩|(refine zb ?_ ?_<;>intro hg<;>(try rw[hg])<;>try simp only[NM]at hg)|omega|simp -dsimp (disch:=try exact zo) only[go_sem,hl,es1,ZT,eS_in,eP_in,hEl,kl26,hkP,hkoP,hlkP,hputP]|rfl)
  refine AW.loop (fun z:{k:Nat // k≤ed.length}=>⟨[(42,.lit (.int .i64 z.1)),(41,.lit (.int .i64 ed.length)),(40,.sl (eEs ed)),(23,.lit (.int .i64 i)),(22,.lit (.int .i64 l.length)),(21,.sl (eS l)),(3,.mp 14),(4,.mp 16),(1,.loc 8 0)],[(14,.mpo (mHB (Q++[sp]))),(16,.mpo (mEN (E0++ed.take z.1))),(8,.blk [.sl (eS l)])],90⟩) (fun z=>ed.length - z.1) ⟨0,Nat.zero_le _⟩ (Weak.t4 (by refine ⟨?_,?_,?_,?_⟩<;>simp -dsimp (disch:=try exact zo) only[go_sem,eS_in,eEs_in,List.take_zero,List.append_nil,ZC])) ?_
  rintro ⟨k,hkk⟩
  dsimp only
  by_cases hkt:k<ed.length
  ·have ea:=eEs_getD ed k hkt
   obtain ⟨r,hr⟩:=hedn.out
   have hnd:=hnd.out
   have hEb:=hEb.out
   have hed:ed=ed.take k++ed[k]::ed.drop (k+1):=by rw[← List.drop_eq_getElem_cons hkt,List.take_append_drop]
   have hall:esP l=(E0++ed.take k)++(ed[k]::(ed.drop (k+1)++r)):=by rw[hr];exact (congrArg (fun t=>(E0++t)++r) hed).trans (by simp only[List.append_assoc,List.cons_append])
   rw[hall]at hnd hEb
   have hst:E0++ed.take (k+1)=(E0++ed.take k)++[ed[k]]:=by rw[List.take_succ_eq_append_getElem hkt,List.append_assoc]
   have hGn:(E0++ed.take k).length≤268435456:=by
    have:=congrArg List.length hall
    rw[List.length_append]at this
    omega
   rw[List.nodup_append]at hnd
   have hnot:ed[k]∉E0++ed.take k:=fun hh=>hnd.2.2 _ hh _ (by simp) rfl
   have hgn:=hnd.1
   have hgb:∀ e∈E0++ed.take k,BPt 1073741824 e.1∧BPt 1073741824 e.2:=fun e he=>by
    have:=hEb e (List.mem_append_left _ he)
    exact ⟨this.1.mono (by decide),this.2.mono (by decide)⟩
   have heb:BPt 1073741824 ed[k].1∧BPt 1073741824 ed[k].2:=by
    have:=hEb ed[k] (by simp)
    exact ⟨this.1.mono (by decide),this.2.mono (by decide)⟩
   clear hnd hEb hall hed hr hedn cp ce hkP hkoP hlkP hputP hfE es1 hEn
   have hkoE:=keysEN hgn hgb
   generalize E0++ed.take k=G at *
   generalize ed[k]=e at *
   have hkE:=key138 e heb.1 heb.2
   have hlkE:(mfind (mEN G) (ev e)).getD (.int .i64 0)=.int .i64 0:=by rw[mfind_no (mEN_key hnot)];rfl
   have hmx:midx (mEN G) (ev e)=G.length:=by rw[midx_none (mEN_key hnot),mEN_len]
   have hputE:mput (mEN G) (ev e) (.int .i64 0)=mEN G++[(ev e,.int .i64 0)]:=mput_no (mEN_key hnot)
   have hset:mset (mEN G++[(ev e,.int .i64 0)]) G.length (.int .i64 1)=mEN (G++[e]):=by
    rw[mset_end _ _ (mEN_len G)]
    unfold mEN
    rw[List.map_append];rfl
   have hlk2:(mfind (mEN G++[(ev e,.int .i64 0)]) (ev e)).getD (.int .i64 0)=.int .i64 0:=by
    unfold mfind
    rw[List.find?_append,List.find?_eq_none.2 (fun x hx=>by simp only[decide_eq_true_eq];intro e1;exact mEN_key hnot (e1▸List.mem_map_of_mem hx))]
    simp
   have hkoE2:KeysOk Tryz.prog 138 (mEN G++[(ev e,.int .i64 0)]):=by
    refine ⟨fun x hx=>?_,?_⟩
    ·rcases List.mem_append.1 hx with hx|hx
     ·exact hkoE.1 x hx
     ·obtain rfl:x=_:=by simpa using hx
      exact hkE
    ·rw[List.map_append,List.nodup_append]
     exact ⟨hkoE.2,by simp,fun a ha b hb=>by simp at hb;subst hb;rintro rfl;exact mEN_key hnot ha⟩
   have hGl:=mEN_len G
   clear hnot hgn hgb heb
   obtain ⟨a,b⟩:=e
   dsimp only[eE]at ea
   simp only[ev]at hkE hlkE hmx hputE hset hlk2 hkoE2
   repeat' (first|refine AW.all (id:=17) T17 ymix (by kernel_rfl) ?_|refine zg ?_|(refine AW.cond rfl ?_ ?_<;>intro hc<;>first|simp only[NM]at hc|omega|skip)|refine zr ?_|refine ⟨by omega,?_⟩|(refine zb ?_ ?_<;>intro hg<;>(try rw[hg])<;>try simp only[NM]at hg)|omega|simp -dsimp (disch:=try exact zo) only[go_sem,T17,hEl,ea,ZT,kl138,hkE,hkoE,hlkE,hputE,hmx,hset,hlk2,hkoE2,Int.zero_add]|rfl|refine And.intro ?_ ?_)
   all_goals exact AW.stop ⟨⟨k+1,by omega⟩,(Weak.t4 (by refine ⟨?_,?_,?_,?_⟩<;>simp -dsimp (disch:=try exact zo) only[go_sem,eS_in,eEs_in,hst,ZC])),by dsimp only;omega⟩
  ·have hkl:k=ed.length:=by omega
   subst hkl
   rw[List.take_length]
   clear cp ce hkP hkoP hlkP hputP es1
   repeat' (first|refine zg ?_|(refine AW.cond rfl ?_ ?_<;>intro hc<;>first|simp only[NM]at hc|omega|skip)|refine zr ?_|refine ⟨by omega,?_⟩|(refine zb ?_ ?_<;>intro hg<;>(try rw[hg])<;>try simp only[NM]at hg)|omega|simp -dsimp (disch:=try exact zo) only[go_sem,hEl]|contradiction|rfl)
   all_goals exact AW.stop ⟨⟨i+1,by omega⟩,(Weak.t4 (by refine ⟨?_,?_,?_,?_⟩<;>simp -dsimp (disch:=try exact zo) only[go_sem,eS_in,hfP,hfE,ZC])),by dsimp only;omega⟩
 ·have hil:i=l.length:=by omega
  subst hil
  rw[List.take_length]
  have k4:((l.length:Int)<4)=False:=eq_false (by omega)
  have hElen:=mEN_len (esP l)
  have hkoE:=keysEN hnd fun e he=>⟨(hEb e he).1.mono (by decide),(hEb e he).2.mono (by decide)⟩
  have hnth:∀ j,j<(esP l).length→∃ e,(mEN (esP l))[j]?=some (ev e,.int .i64 1)∧(keyOf Tryz.prog 138 (ev (Geo.sw e))).isSome=true∧mfind (mEN (esP l)) (ev (Geo.sw e))=some (.int .i64 1):=fun j hj=>by
   refine ⟨(esP l)[j],?_,?_,?_⟩
   ·unfold mEN
    rw[List.getElem?_map,List.getElem?_eq_getElem hj];rfl
   ·have:=hEb _ (List.getElem_mem hj)
    exact key138 _ (this.2.mono (by decide)) (this.1.mono (by decide))
   ·exact mEN_find (hsw _ (List.getElem_mem hj))
  have hco:∀ x∈V,CallOK Tryz.prog 91 [.agg [.sl (eS l)],.agg (eP x)] [] (.lit (.bool false)) []:=fun x hx=>by
   have:=c91 l x (by omega) (fun s hs=>(hp s hs).mono (by decide)) ((hVb x hx).mono (by decide))
   rwa [hVo x hx]at this
  clear hnd hpn hfine hsw hEb hVo hVb hm hk hp
  generalize esP l=E at *
  replace hnth:=Hid.mk hnth
  replace hco:=Hid.mk hco
  repeat' (first|refine zg ?_|(refine AW.cond rfl ?_ ?_<;>intro hc<;>first|simp only[NM]at hc|omega|skip)|refine zr ?_|refine ⟨by omega,?_⟩|(refine zb ?_ ?_<;>intro hg<;>(try rw[hg])<;>try simp only[NM]at hg)|omega|simp -dsimp (disch:=try exact zo) only[go_sem,hl,k4,hElen,mEN_len]|contradiction|rfl)
  refine AW.loop (fun z:{seen:List Nat // seen.Nodup∧(∀ x∈seen,x<E.length)∧seen.length≤E.length}=>⟨[(59,.loc 66 0),(4,.mp 16),(1,.loc 8 0)],[(66,.ito 16 E.length z.1),(16,.mpo (mEN E)),(8,.blk [.sl (eS l)])],90⟩) (fun z=>E.length - z.1.length) ⟨[],by simp,by simp,Nat.zero_le _⟩ (Weak.t4 (by refine ⟨?_,?_,?_,?_⟩<;>simp -dsimp (disch:=try exact zo) only[go_sem,eS_in,ZC])) ?_
  rintro ⟨seen,hs1,hs2,hs3⟩
  dsimp only
  refine AW.seq ?_
  refine AW.next (r:=66) (l:=16) (by decide) (by decide) rfl rfl rfl hElen (fun j hj hjs=>?_) (fun hall=>?_)
  ·obtain ⟨e,n1,n2,n3⟩:=hnth.out j hj
   have hs4:(seen++[j]).Nodup:=by
    rw[List.nodup_append]
    exact ⟨hs1,by simp,fun a ha b hb=>by simp at hb;subst hb;rintro rfl;exact hjs ha⟩
   have hs5:∀ x∈seen++[j],x<E.length:=fun x hx=>by
    rcases List.mem_append.1 hx with hx|hx
    ·exact hs2 x hx
    ·simp at hx;omega
   have hs6:seen.length+1≤E.length:=by
    have:=nodup_len hs4 (m:=List.range E.length) fun x hx=>List.mem_range.2 (hs5 x hx)
    simpa using this
   have hlast:(seen++[j]).getLast?=some j:=List.getLast?_concat
   have hfs:(mfind (mEN E) (ev (Geo.sw e))).getD (.int .i64 0)=.int .i64 1:=by rw[n3];rfl
   clear n3 hs1 hs2 hjs
   replace hs4:=Hid.mk hs4
   replace hs5:=Hid.mk hs5
   obtain ⟨a,b⟩:=e
   simp only[Geo.sw,ev]at n1 n2 hfs
   repeat' (first|refine zg ?_|(refine AW.cond rfl ?_ ?_<;>intro hc<;>first|simp only[NM]at hc|omega|skip)|refine zr ?_|refine ⟨by omega,?_⟩|(refine zb ?_ ?_<;>intro hg<;>(try rw[hg])<;>try simp only[NM]at hg)|omega|simp -dsimp (disch:=try exact zo) only[go_sem,hlast,n1,n2,hElen,hfs,kl138,hkoE]|rfl)
   all_goals exact AW.stop ⟨⟨seen++[j],hs4.out,hs5.out,by rw[List.length_append];exact hs6⟩,(Weak.t4 (by refine ⟨?_,?_,?_,?_⟩<;>simp -dsimp (disch:=try exact zo) only[go_sem,eS_in,ZC])),by dsimp only;rw[List.length_append,List.length_singleton];omega⟩
  ·clear hall hs1 hs2 hs3
   repeat' (first|refine zg ?_|(refine AW.cond rfl ?_ ?_<;>intro hc<;>first|simp only[NM]at hc|omega|skip)|refine zr ?_|(refine callV.plain _ yfn_27 hcv (by simp -dsimp (disch:=try exact zo) only[go_sem,eS_in]) (by rw[In_sl,eP_in];trivial) ?_)|refine ⟨by omega,?_⟩|(refine zb ?_ ?_<;>intro hg<;>(try rw[hg])<;>try simp only[NM]at hg)|omega|simp -dsimp (disch:=try exact zo) only[go_sem,eS_in,hVl0]|contradiction|rfl)
   refine AW.loop (fun z:{k:Nat // k≤V.length}=>⟨[(80,.lit (.int .i64 z.1)),(79,.lit (.int .i64 V.length)),(78,.sl (V.map eP)),(1,.loc 8 0)],[(8,.blk [.sl (eS l)])],130⟩) (fun z=>V.length - z.1) ⟨0,Nat.zero_le _⟩ (Weak.t4 (by refine ⟨?_,?_,?_,?_⟩<;>simp -dsimp (disch:=try exact zo) only[go_sem,eS_in,eP_in,ZC])) ?_
   rintro ⟨k,hk⟩
   dsimp only
   have hVl:(V.map eP).length=V.length:=List.length_map _
   by_cases hkt:k<V.length
   ·have ea:=eP_getD V k hkt
    have co:=hco.out _ (List.getElem_mem hkt)
    generalize V[k]=x at *
    simp only[eP,e4]at ea co
    repeat' (first|refine zg ?_|(refine AW.cond rfl ?_ ?_<;>intro hc<;>first|simp only[NM]at hc|omega|skip)|refine zr ?_|(refine callV.plain _ yfn_91 co (by simp -dsimp (disch:=try exact zo) only[go_sem,eS_in]) (.lit _) ?_)|refine ⟨by omega,?_⟩|(refine zb ?_ ?_<;>intro hg<;>(try rw[hg])<;>try simp only[NM]at hg)|omega|simp -dsimp (disch:=try exact zo) only[go_sem,hVl,ea,ZT,eS_in,eP_in]|contradiction|rfl)
    all_goals exact AW.stop ⟨⟨k+1,by omega⟩,(Weak.t4 (by refine ⟨?_,?_,?_,?_⟩<;>simp -dsimp (disch:=try exact zo) only[go_sem,eS_in,eP_in,ZC])),by dsimp only;omega⟩
   ·have hkl:k=V.length:=by omega
    subst hkl
    repeat' (first|refine zg ?_|(refine AW.cond rfl ?_ ?_<;>intro hc<;>first|simp only[NM]at hc|omega|skip)|refine zr ?_|refine ⟨by omega,?_⟩|(refine zb ?_ ?_<;>intro hg<;>(try rw[hg])<;>try simp only[NM]at hg)|omega|simp -dsimp (disch:=try exact zo) only[go_sem,hVl]|contradiction|rfl)
end Go.Proofs.Vx
namespace Go.Proofs.Vx
open Go Go.Sx Go.Proofs
attribute [local irreducible] fnT CallOK CallFr AW effV callV runP runO oneP oneO gcaseP hid
theorem yqq_Nx73:arT Tryz.prog 245=none∧slT Tryz.prog 245=some (41,3):=by and_intros<;>kernel_rfl
attribute [go_sem] yqq_Nx73
theorem yfn_94:fnT Tryz.prog 94=true:=by kernel_rfl
theorem yfn_160:fnT Tryz.prog 160=true:=by kernel_rfl
theorem yfn_209:fnT Tryz.prog 209=true:=by kernel_rfl
set_option maxHeartbeats 3200000 in
theorem c246a (u v:Geo.V) (hu:QV 8388608 u) (hv:QV 8388608 v):CallOK Tryz.prog 246 [.agg (eV u.x u.y u.z),.agg (eV v.x v.y v.z),.lit (.int .i64 1),.lit (.int .i64 2)] [] (.agg (eQ (u.y*v.z - u.z*v.y))) []:=by
 refine CallOK.flat Tryz.func246 rfl 24 rfl rfl rfl [.cell 8 41] (congrArg Array.toList Tryz.results246) ?_
 simp only[startT,Nat.reduceAdd]
 obtain ⟨u1,u2,u3⟩:=hu.mono (show 8388608≤67108864 by decide)
 obtain ⟨v1,v2,v3⟩:=hv.mono (show 8388608≤67108864 by decide)
 have p1:=(hu.y.mul hv.z).mono (show 8388608+8388608≤67108864 by decide)
 have p2:=(hu.z.mul hv.y).mono (show 8388608+8388608≤67108864 by decide)
 clear hu hv
 repeat' (first|refine zg ?_|(refine AW.cond rfl ?_ ?_<;>intro hc<;>try simp only[NM]at hc)|refine zr ?_|(refine callV.flat _ yfn_182 (c182 _ (by assumption) _ (by assumption)) rfl rfl ?_)|(refine callV.flat _ yfn_183 (c183 _ (by assumption) _ (by assumption)) rfl rfl ?_)|refine ⟨by omega,?_⟩|(refine zb ?_ ?_<;>intro hg<;>(try rw[hg])<;>try simp only[NM]at hg)|omega|simp -dsimp (disch:=try exact zo) only[go_sem]|contradiction|rfl)
set_option maxHeartbeats 3200000 in
theorem c246b (u v:Geo.V) (hu:QV 8388608 u) (hv:QV 8388608 v):CallOK Tryz.prog 246 [.agg (eV u.x u.y u.z),.agg (eV v.x v.y v.z),.lit (.int .i64 2),.lit (.int .i64 0)] [] (.agg (eQ (u.z*v.x - u.x*v.z))) []:=by
 refine CallOK.flat Tryz.func246 rfl 24 rfl rfl rfl [.cell 8 41] (congrArg Array.toList Tryz.results246) ?_
 simp only[startT,Nat.reduceAdd]
 obtain ⟨u1,u2,u3⟩:=hu.mono (show 8388608≤67108864 by decide)
 obtain ⟨v1,v2,v3⟩:=hv.mono (show 8388608≤67108864 by decide)
 have p1:=(hu.z.mul hv.x).mono (show 8388608+8388608≤67108864 by decide)
 have p2:=(hu.x.mul hv.z).mono (show 8388608+8388608≤67108864 by decide)
 clear hu hv
 repeat' (first|refine zg ?_|(refine AW.cond rfl ?_ ?_<;>intro hc<;>try simp only[NM]at hc)|refine zr ?_|(refine callV.flat _ yfn_182 (c182 _ (by assumption) _ (by assumption)) rfl rfl ?_)|(refine callV.flat _ yfn_183 (c183 _ (by assumption) _ (by assumption)) rfl rfl ?_)|refine ⟨by omega,?_⟩|(refine zb ?_ ?_<;>intro hg<;>(try rw[hg])<;>try simp only[NM]at hg)|omega|simp -dsimp (disch:=try exact zo) only[go_sem]|contradiction|rfl)
set_option maxHeartbeats 3200000 in
theorem c246c (u v:Geo.V) (hu:QV 8388608 u) (hv:QV 8388608 v):CallOK Tryz.prog 246 [.agg (eV u.x u.y u.z),.agg (eV v.x v.y v.z),.lit (.int .i64 0),.lit (.int .i64 1)] [] (.agg (eQ (u.x*v.y - u.y*v.x))) []:=by
 refine CallOK.flat Tryz.func246 rfl 24 rfl rfl rfl [.cell 8 41] (congrArg Array.toList Tryz.results246) ?_
 simp only[startT,Nat.reduceAdd]
 obtain ⟨u1,u2,u3⟩:=hu.mono (show 8388608≤67108864 by decide)
 obtain ⟨v1,v2,v3⟩:=hv.mono (show 8388608≤67108864 by decide)
 have p1:=(hu.x.mul hv.y).mono (show 8388608+8388608≤67108864 by decide)
 have p2:=(hu.y.mul hv.x).mono (show 8388608+8388608≤67108864 by decide)
 clear hu hv
 repeat' (first|refine zg ?_|(refine AW.cond rfl ?_ ?_<;>intro hc<;>try simp only[NM]at hc)|refine zr ?_|(refine callV.flat _ yfn_182 (c182 _ (by assumption) _ (by assumption)) rfl rfl ?_)|(refine callV.flat _ yfn_183 (c183 _ (by assumption) _ (by assumption)) rfl rfl ?_)|refine ⟨by omega,?_⟩|(refine zb ?_ ?_<;>intro hg<;>(try rw[hg])<;>try simp only[NM]at hg)|omega|simp -dsimp (disch:=try exact zo) only[go_sem]|contradiction|rfl)
set_option maxHeartbeats 3200000 in
theorem c210 (u v:Geo.V) (hu:QV 8388608 u) (hv:QV 8388608 v):CallOK Tryz.prog 210 [.agg (eV u.x u.y u.z),.agg (eV v.x v.y v.z)] [] (.agg (eV (Geo.cross u v).x (Geo.cross u v).y (Geo.cross u v).z)) []:=by
 refine CallOK.flat Tryz.func210 rfl 15 rfl rfl rfl [.cell 4 103] (congrArg Array.toList Tryz.results210) ?_
 simp only[startT,Nat.reduceAdd]
 have ca:=c246a u v hu hv
 have cb:=c246b u v hu hv
 have cc:=c246c u v hu hv
 unfold Geo.cross
 dsimp only
 clear hu hv
 repeat' (first|refine zg ?_|(refine AW.cond rfl ?_ ?_<;>intro hc<;>try simp only[NM]at hc)|refine zr ?_|(first|refine callV.flat _ yfn_246 ca rfl rfl ?_|refine callV.flat _ yfn_246 cb rfl rfl ?_|refine callV.flat _ yfn_246 cc rfl rfl ?_)|refine ⟨by omega,?_⟩|(refine zb ?_ ?_<;>intro hg<;>(try rw[hg])<;>try simp only[NM]at hg)|omega|simp -dsimp (disch:=try exact zo) only[go_sem]|contradiction|rfl)
set_option maxHeartbeats 8000000 in
theorem c213 (u v:Geo.V) (hu:QV 8388608 u) (hv:QV 8388608 v):CallOK Tryz.prog 213 [.agg (eV u.x u.y u.z),.agg (eV v.x v.y v.z)] [] (.agg (eQ (Geo.dot u v))) []:=by
 refine CallOK.flat Tryz.func213 rfl 22 rfl rfl rfl [.cell 4 41] (congrArg Array.toList Tryz.results213) ?_
 simp only[startT,Nat.reduceAdd]
 obtain ⟨u1,u2,u3⟩:=hu.mono (show 8388608≤67108864 by decide)
 obtain ⟨v1,v2,v3⟩:=hv.mono (show 8388608≤67108864 by decide)
 have p1:=(hu.x.mul hv.x).mono (show 8388608+8388608≤67108864 by decide)
 have p2:=(hu.y.mul hv.y).mono (show 8388608+8388608≤67108864 by decide)
 have p3:=(hu.z.mul hv.z).mono (show 8388608+8388608≤67108864 by decide)
 have q1:=((hu.x.mul hv.x).add (hu.y.mul hv.y)).mono (show 8388608+8388608+(8388608+8388608)+1≤67108864 by decide)
 have zq:Qs 67108864 0:=⟨by show (Zm 0).size≤_;rw[Zm_zero];exact Nat.zero_le _,by show (nb 1).size≤_;rw[nb_one];decide⟩
 have c64z:CallOK Tryz.prog 64 [.agg [.lit (.bool false),.lit (.string ⟨#[]⟩),.lit (.string ⟨#[]⟩)],.agg (eQ (u.x*v.x))] [] (.agg (eQ (u.x*v.x))) []:=by
  have:=c64 0 zq _ p1
  rwa [eQ_zero,Rat.zero_add]at this
 unfold Geo.dot
 clear hu hv zq
 repeat' (first|refine zg ?_|refine AW.unroll 6 ?_|(refine AW.cond rfl ?_ ?_<;>intro hc<;>try simp only[NM]at hc)|refine zr ?_|(refine callV.flat _ yfn_182 (c182 _ (by assumption) _ (by assumption)) rfl rfl ?_)|(first|refine callV.flat _ yfn_64 c64z rfl rfl ?_|refine callV.flat _ yfn_64 (c64 _ (by assumption) _ (by assumption)) rfl rfl ?_)|refine ⟨by omega,?_⟩|(refine zb ?_ ?_<;>intro hg<;>(try rw[hg])<;>try simp only[NM]at hg)|omega|simp -dsimp (disch:=try exact zo) only[go_sem]|contradiction|rfl)
end Go.Proofs.Vx
namespace Go.Proofs.Vx
open Go Go.Sx Go.Proofs
attribute [local irreducible] fnT CallOK CallFr AW effV callV runP runO oneP oneO gcaseP hid
theorem yfn_32:fnT Tryz.prog 32=true:=by kernel_rfl
theorem yfn_95:fnT Tryz.prog 95=true:=by kernel_rfl
end Go.Proofs.Vx
namespace Go.Proofs.Vx
open Go Go.Sx Go.Proofs
attribute [local irreducible] fnT CallOK CallFr AW effV callV runP runO oneP oneO gcaseP hid
theorem yfn_6:fnT Tryz.prog 6=true:=by kernel_rfl
end Go.Proofs.Vx
namespace Go.Proofs.Vx
open Go Go.Sx Go.Proofs
attribute [local irreducible] fnT CallOK CallFr AW effV callV runP runO oneP oneO gcaseP hid
theorem yfn_5:fnT Tryz.prog 5=true:=by kernel_rfl
def ptR (x:RP):Pt:=nrm (iv x.n1 x.m1) (iv x.n2 x.m2) (iv x.n3 x.m3) (iv x.n4 x.m4)
theorem ptR_can (x:RP):CanP (ptR x):=nrm_isCan _ _ _ _
end Go.Proofs.Vx
namespace Go.Proofs.Vx
open Go Go.Sx Go.Proofs
attribute [local irreducible] fnT CallOK CallFr AW effV callV runP runO oneP oneO gcaseP hid
theorem yfn_14:fnT Tryz.prog 14=true:=by kernel_rfl
def AllH (l:PCell):Prop:=∀ s∈l,CanH s.1
def canHB (p:Pl):Bool:=decide (pnrm p.a p.b p.c p.d=p)&&decide (¬ (p.a=0∧p.b=0∧p.c=0))
theorem world_H:AllH worldP:=by
 have:worldP.all (fun s=>canHB s.1)=true:=by decide +kernel
 intro s hs
 have:=List.all_eq_true.1 this s hs
 simp only[canHB,Bool.and_eq_true,decide_eq_true_eq]at this
 exact ⟨this.1,this.2⟩
end Go.Proofs.Vx
