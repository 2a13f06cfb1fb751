import Derived.Test.YtjlfgmhmalbiiaaGreatDoorW33
set_option linter.all false
set_option maxHeartbeats 40000000
open Array renaming getD_eq_getD_getElem? → Ab, getElem?_setIfInBounds_self_of_lt → Ae, replicate → As
open Bool renaming and_eq_true → Ar
open Int renaming dvd_mul_right → Ad, dvd_trans → Af, dvd_mul_left → Al, mul_ne_zero → An, mul_eq_zero → Au
open List renaming take_succ_eq_append_getElem → Ac, map_append → Ag, nodup_append → Ai, take_append_drop → Aj, getElem_mem → Ak, length_map → Am, length_append → Ao, append_assoc → Aq, take_length → Av, mem_append → Aw, take_zero → Ax
open Nat renaming reduceAdd → Aa, pos_of_ne_zero → Ah, zero_le → Ap, le_trans → Ay
open Rat renaming num_eq_zero → At
namespace Go.Sx
set_option linter.unusedVariables false
set_option linter.unusedSimpArgs false
inductive OT
 | fin
 | none
 | alt (j:Nat) (t r:OT)
def OT.heads:OT→List Nat
 | .alt j _ r=>j::r.heads
 | _=>[]
def runT (P:Program) (nt:Nat) (ops:List Oper) (N:Nat):OT→AS→(AS→Prop)→Prop
 | .fin,S,K=>K S
 | .none,_,_=>True
 | .alt j t r,S,K=>aH P nt ops (ops.getD j default) (N+j) S (fun S' _=>runT P nt ops N t S' K) (tg _)∧runT P nt ops N r S K
def o7 (ops:Array Oper) (L:Array Bool):OT→Bool
 | .fin=>true
 | .none=>false
 | .alt j t r=>!(Region.ready .any ops L).isEmpty&&(Region.ready .any ops L).all (OT.alt j t r).heads.contains
def okT (ops:Array Oper):OT→Nat→Array Bool→Bool
 | .fin,_,L=>(Region.ready .any ops L).isEmpty
 | .none,_,_=>true
 | .alt j t r,0,L=>false
 | .alt j t r,f+1,L=>o7 ops (L.setIfInBounds j true) t&&okT ops t f (L.setIfInBounds j true)&&okT ops r (f+1) L
theorem b9r {P : Program} {nt : Nat} {ops : Array Oper} {N f j : Nat} {L : Array Bool} {S : AS} {K : AS → Prop} : ∀ {t : OT}, j ∈ t.heads → okT ops t (f + 1) L = true → runT P nt ops.toList N t S K →
  ∃ u,o7 ops (L.setIfInBounds j true) u=true∧okT ops u f (L.setIfInBounds j true)=true∧aK P nt ops.toList (ops.toList.getD j default) (N+j) S fun S' _=>runT P nt ops.toList N u S' K:=by
 intro t
 induction t with
 | fin=>intro h;simp[OT.heads]at h
 | none=>intro h;simp[OT.heads]at h
 | alt i t r _ ih =>
  intro h ho hr
  simp only[okT,Ar]at ho
  obtain⟨⟨h1,h2⟩,h3⟩:=ho
  obtain⟨r1,r2⟩:=hr
  by_cases e:j=i
  ·subst e
   exact⟨t,h1,h2,r1⟩
  ·simp only[OT.heads,List.mem_cons,e,false_or]at h
   exact ih h h3 r2
theorem b9t {c : Cx} {nt : Nat} {ops : Array Oper} {N : Nat} {K : AS → Prop} {Q : Exit → Act → World → Prop}
  (hK:∀ S' a w,K S'→pB c nt (look S'.t) (look S'.o) (fun l=>l<N+ops.size) a w→Q .normal a w):∀ (fuel:Nat) (L:Array Bool) (t:OT) (S:AS) (a:Act) (w:World),L.size=ops.size→o7 ops L t=true→okT ops t fuel L=true →
  runT c.P nt ops.toList N t S K→pB c nt (look S.t) (look S.o) (fun l=>l<N∨∃ k,L.getD k false=true∧l=N+k) a w→wpAnyIn (Fw c.ro) 0 c.P .any ops Q fuel L a w:=by
 have fin:∀ (L:Array Bool) (S:AS) (a:Act) (w:World),L.size=ops.size→K S→pB c nt (look S.t) (look S.o) (fun l=>l<N∨∃ k,L.getD k false=true∧l=N+k) a w→Q .normal a w:=by
  intro L S a w hL hk hs
  obtain⟨g,rfl,hg,ht,hsz,hu,hln⟩:=hs
  refine hK _ _ _ hk ⟨g,rfl,hg,ht,hsz,fun l hl=>?_,hln⟩
  rcases hu l hl with h|⟨k,h1,rfl⟩
  ·show l<N+ops.size;omega
  ·have:k<L.size:=by
    apply Classical.byContradiction
    intro hn
    rw[Ab,Array.getElem?_eq_none (by omega)]at h1
    simp at h1
   show N+k<N+ops.size;omega
 intro fuel
 induction fuel with
 | zero =>
  intro L t S a w hL hc ho hr hs
  cases t with
  | fin =>
   have:Region.ready .any ops L=[]:=by simpa [okT]using ho
   exact⟨this,fin L S a w hL hr hs⟩
  | none=>simp[o7]at hc
  | alt j t r=>simp[okT]at ho
 | succ fuel ih =>
  intro L t S a w hL hc ho hr hs
  cases t with
  | fin =>
   have he:Region.ready .any ops L=[]:=by simpa [okT]using ho
   exact⟨fun _=>fin L S a w hL hr hs,fun j hj=>by rw[he]at hj;simp at hj⟩
  | none=>simp[o7]at hc
  | alt i t r =>
   simp only[o7,Ar,Bool.not_eq_true',List.isEmpty_eq_false_iff]at hc
   refine⟨fun he=>absurd he hc.1,fun j hj=>?_⟩
   have hjh:j∈(OT.alt i t r).heads:=by
    have:=List.all_eq_true.1 hc.2 j hj
    simpa using this
   obtain⟨u,u1,u2,u3⟩:=b9r hjh ho hr
   obtain⟨h1,o,ho',hdeps⟩:=mem_ready.1 hj
   have hlt:j<ops.size:=(Array.getElem?_eq_some_iff.1 ho').1
   have hoj:ops.toList.getD j default=o:=by
    rw[List.getD_eq_getElem?_getD,Array.getElem?_toList,ho'];rfl
   rw[hoj]at u3
   obtain⟨e,hk,hd,hst⟩:=a0j u3
   have hDj:L.getD j false=false:=by
    rw[Ab,Array.getElem?_eq_getElem (by omega)]at h1 ⊢
    simpa using h1
   refine wpOp_step (o:=o) ho' hst (fun _ _=>rfl) (fun _ _=>rfl) hd ?_ hs fun a2 w2 hs2=>?_
   ·rintro (h|⟨k,hk1,hk2⟩)
    ·omega
    ·have:k=j:=by omega
     subst this
     rw[hDj]at hk1;contradiction
   ·refine ih (L.setIfInBounds j true) u _ a2 w2 (by rw[Array.size_setIfInBounds];exact hL) u1 u2 hk ?_
    obtain⟨g,rfl,hg,ht,hsz,hu,hln⟩:=hs2
    refine⟨g,rfl,by rw[sH];exact hg,by rw[vC];exact ht,hsz,fun l hl=>?_,hln⟩
    rcases hu l hl with (h|⟨k,hk1,hk2⟩)|h
    ·exact .inl h
    ·refine .inr ⟨k,?_,hk2⟩
     by_cases hkj:k=j
     ·subst hkj
      rw[Ab,Ae (by omega)];rfl
     ·rw[getD_set_ne false (Ne.symm hkj)];exact hk1
    ·refine .inr ⟨j,?_,h⟩
     rw[Ab,Ae (by omega)];rfl
theorem AW.all {P : Program} {nt : Nat} {R : AS → Prop} {k : List Itm} {S : AS} {id : Nat} {l : List Oper} (T : OT) (hm : P.follows .mixedOrders = true)
  (ht:(o7 l.toArray (As l.length false) T&&okT l.toArray T l.length (As l.length false))=true)
  (h:runT P nt l S.nx T S fun S'=>AW P nt R k { S' with nx:=S.nx+l.length }):AW P nt R (.code (.region id l.toArray true)::k) S:=by
 intro c a w hP hs
 subst hP
 rw[Ar]at ht
 have hsz:l.toArray.size=l.length:=by simp
 refine wpIn_region_any hm ?_
 rw[hsz]
 obtain⟨g,rfl,hg,ht',hsz',hu,hln,h8⟩:=hs
 obtain⟨he,hg'⟩:=hg.same { g.w with drawn:=g.w.drawn+1 } rfl rfl ⟨rfl,Nat.le_succ _⟩ rfl
 refine b9t (N:=S.nx) (K:=fun S'=>AW c.P nt R k { S' with nx:=S.nx+l.length }) (fun S' a w hk hs'=>?_) l.length (As l.length false) T S a _ (by simp) ht.1 ht.2 h ?_
 ·obtain⟨g2,rfl,q1,q2,q3,q4,q5⟩:=hs'
  exact⟨c,_,.refl c,hk,g2,rfl,q1,q2,q3,fun l hl=>by have:=q4 l hl;simp only[hsz]at this ⊢;omega,q5,by simp only;omega⟩
 ·refine⟨_,rfl,hg',ht'.mono he,hsz',fun l hl=>.inl (hu l hl),hln.mono he⟩
theorem b9s (P:Program) (nt:Nat) (ops:List Oper) (N:Nat) (S:AS) (K:AS→Prop):runT P nt ops N .fin S K=K S:=rfl
theorem b5y (P:Program) (nt:Nat) (ops:List Oper) (N:Nat) (S:AS) (K:AS→Prop):runT P nt ops N .none S K=True:=rfl
theorem c8z (P:Program) (nt:Nat) (o0:Oper) (l:List Oper) (N:Nat) (t r:OT) (S:AS) (K:AS→Prop):runT P nt (o0::l) N (.alt 0 t r) S K=(aH P nt (o0::l) o0 (N+0) S (fun S' _=>runT P nt (o0::l) N t S' K) (tg _)∧runT P nt (o0::l) N r S K):=rfl
theorem c8y (P:Program) (nt:Nat) (o0 o1:Oper) (l:List Oper) (N:Nat) (t r:OT) (S:AS) (K:AS→Prop):runT P nt (o0::o1::l) N (.alt 1 t r) S K=(aH P nt (o0::o1::l) o1 (N+1) S (fun S' _=>runT P nt (o0::o1::l) N t S' K) (tg _)∧runT P nt (o0::o1::l) N r S K):=rfl
theorem c8x (P:Program) (nt:Nat) (o0 o1 o2:Oper) (l:List Oper) (N:Nat) (t r:OT) (S:AS) (K:AS→Prop):runT P nt (o0::o1::o2::l) N (.alt 2 t r) S K=(aH P nt (o0::o1::o2::l) o2 (N+2) S (fun S' _=>runT P nt (o0::o1::o2::l) N t S' K) (tg _)∧runT P nt (o0::o1::o2::l) N r S K):=rfl
theorem c8w (P:Program) (nt:Nat) (o0 o1 o2 o3:Oper) (l:List Oper) (N:Nat) (t r:OT) (S:AS) (K:AS→Prop):runT P nt (o0::o1::o2::o3::l) N (.alt 3 t r) S K=(aH P nt (o0::o1::o2::o3::l) o3 (N+3) S (fun S' _=>runT P nt (o0::o1::o2::o3::l) N t S' K) (tg _)∧runT P nt (o0::o1::o2::o3::l) N r S K):=rfl
theorem c8v (P:Program) (nt:Nat) (o0 o1 o2 o3 o4:Oper) (l:List Oper) (N:Nat) (t r:OT) (S:AS) (K:AS→Prop):runT P nt (o0::o1::o2::o3::o4::l) N (.alt 4 t r) S K=(aH P nt (o0::o1::o2::o3::o4::l) o4 (N+4) S (fun S' _=>runT P nt (o0::o1::o2::o3::o4::l) N t S' K) (tg _)∧runT P nt (o0::o1::o2::o3::o4::l) N r S K):=rfl
theorem c8u (P:Program) (nt:Nat) (o0 o1 o2 o3 o4 o5:Oper) (l:List Oper) (N:Nat) (t r:OT) (S:AS) (K:AS→Prop):runT P nt (o0::o1::o2::o3::o4::o5::l) N (.alt 5 t r) S K=(aH P nt (o0::o1::o2::o3::o4::o5::l) o5 (N+5) S (fun S' _=>runT P nt (o0::o1::o2::o3::o4::o5::l) N t S' K) (tg _)∧runT P nt (o0::o1::o2::o3::o4::o5::l) N r S K):=rfl
theorem c8t (P:Program) (nt:Nat) (o0 o1 o2 o3 o4 o5 o6:Oper) (l:List Oper) (N:Nat) (t r:OT) (S:AS) (K:AS→Prop):runT P nt (o0::o1::o2::o3::o4::o5::o6::l) N (.alt 6 t r) S K=(aH P nt (o0::o1::o2::o3::o4::o5::o6::l) o6 (N+6) S (fun S' _=>runT P nt (o0::o1::o2::o3::o4::o5::o6::l) N t S' K) (tg _)∧runT P nt (o0::o1::o2::o3::o4::o5::o6::l) N r S K):=rfl
attribute [go_sem] b9s b5y c8z c8y c8x c8w c8v c8u c8t
end Go.Sx
namespace Go.Proofs.Vx
open Go Go.Sx Go.Proofs Tryz
attribute [local irreducible] fnT CallOK CallFr AW aI callV aL aJ aH aK gcaseP hid
theorem b8g:agT prog 66=some false∧boT prog 66=false∧mpT prog 132=some (26,4)∧mpT prog 133=some (138,3)∧zvT prog 3=some (.int .i64 0):=by and_intros<;>kernel_rfl
attribute [go_sem] b8g
def T17:OT:=(.alt 0 (.alt 1 (.alt 2 (.alt 3 (.alt 4 (.alt 5 (.alt 6 .fin .none) .none) .none) (.alt 4 (.alt 3 (.alt 5 (.alt 6 .fin .none) .none) (.alt 5 (.alt 3 (.alt 6 .fin .none) .none) .none)) .none)) (.alt 4 (.alt 2 (.alt 3 (.alt 5 (.alt 6 .fin .none) .none) (.alt 5 (.alt 3 (.alt 6 .fin .none) .none) .none)) (.alt 5 (.alt 2 (.alt 3 (.alt 6 .fin .none) .none) .none) .none)) .none)) .none) (.alt 1 (.alt 0 (.alt 2 (.alt 3 (.alt 4 (.alt 5 (.alt 6 .fin .none) .none) .none) (.alt 4 (.alt 3 (.alt 5 (.alt 6 .fin .none) .none) (.alt 5 (.alt 3 (.alt 6 .fin .none) .none) .none)) .none)) (.alt 4 (.alt 2 (.alt 3 (.alt 5 (.alt 6 .fin .none) .none) (.alt 5 (.alt 3 (.alt 6 .fin .none) .none) .none)) (.alt 5 (.alt 2 (.alt 3 (.alt 6 .fin .none) .none) .none) .none)) .none)) .none) .none))
theorem inEs {K:Nat→Prop} {es:List (Pt × Pt)}:In K (.sl (eEs es)):=by rw[kB,b0f];trivial
theorem c1w (l:aC) (i:Nat) (h:i<l.length):esP (l.take (i+1))=esP (l.take i)++Geo.edges l[i].2:=by
 rw[Ac h,a0o]
 obtain⟨p,vs⟩:=l[i]
 rw[a8j]
theorem c0e (l:aC) (i:Nat) (h:i<l.length):(l.take (i+1)).map (·.1)=(l.take i).map (·.1)++[l[i].1]:=by
 rw[Ac h,Ag];rfl
theorem c1v (l:aC) (i:Nat):∃ r,esP l=esP (l.take i)++r:=⟨esP (l.drop i),by rw[← a0o,Aj]⟩
theorem c0d (l:aC) (i:Nat):∃ r,l.map (·.1)=(l.take i).map (·.1)++r:=⟨(l.drop i).map (·.1),by rw[← Ag,Aj]⟩
set_option maxRecDepth 20000 in
theorem c55 (l:aC) (h:CellOK l) (hH:∀ s∈l,CanH s.1) (hB:BdC l):CallOK prog 55 [.agg [.sl (eS l)]] [] (.lit (.int .i64 0)) []:=by
 refine zs func55 88 [.tmp 2] results55 ?_
 simp only[aD,Aa]
 have hml:maxLen=9223372036854775807:=rfl
 have hl:(eS l).length=l.length:=Am _
 have hz1:mHB []=[]:=rfl
 have hz2:mEN []=[]:=rfl
 have hz3:esP []=[]:=rfl
 have h4:4≤l.length:=by have:=h.cell.four;simpa [sds]using this
 have hln:=hB.n
 have hnd:=c1u h
 have hpn:=b2v h
 have hfine:=fun s hs=>c6f h hH (s:=s) hs
 have hcv:=c27x l h.toCanC hB
 have hVo:∀ x∈bX l,nL l x=false:=fun x hx=>c5i h hx
 have hsw:∀ e∈esP l,Geo.sw e∈esP l:=fun e he=>es_sw h he
 have hVb:∀ x∈bX l,BPt 100000 x:=fun v hv=>by
  obtain⟨s,hs,hv⟩:=nX.1 hv
  exact hB.k s hs v hv
 have hVn:(bX l).length≤268435456:=b9h hB
 have hEb:∀ e∈esP l,BPt 100000 e.1∧BPt 100000 e.2:=fun e he=>by
  obtain⟨s,hs,he⟩:=List.mem_flatMap.1 he
  exact⟨hB.k s hs _ (Geo.bD he),hB.k s hs _ (Geo.bL he)⟩
 have hEn:(esP l).length≤268435456:=by
  have h1:=a8k hB.m
  have h2:l.length*4096≤64*4096:=Nat.mul_le_mul_right _ hB.n
  omega
 have hm:=hB.m
 have hk:=hB.k
 have hp:=hB.p
 clear h hH hB
 generalize hVe:bX l=V at *
 have hVl0:(V.map eP).length=V.length:=Am _
 have k0:((l.length:Int)=0)=False:=eq_false (by omega)
 repeat'(first|refine zg ?_|(refine zc ?_ ?_<;>intro hc<;>first|simp only[NM]at hc|omega|skip)|refine zr ?_|refine⟨by omega,?_⟩|(refine zb ?_ ?_<;>intro hg<;>(try rw[hg])<;>try simp only[NM]at hg)|omega|simp -dsimp (disch:=try exact zo)only[go_sem,hl,k0]|contradiction|rfl)
 refine AW.loop (fun z:{i:Nat // i≤l.length}=>⟨[(23,.lit (.int .i64 z.1)),(22,.lit (.int .i64 l.length)),(21,.sl (eS l)),(3,.mp 14),(4,.mp 16),(1,.loc 8 0)],[(14,.mpo (mHB ((l.take z.1).map (·.1)))),(16,.mpo (mEN (esP (l.take z.1)))),(8,.blk [.sl (eS l)])],60⟩) (fun z=>l.length - z.1) ⟨0,Ap _⟩ (aQ (by refine⟨?_,?_,?_,?_⟩<;>simp -dsimp (disch:=try exact zo)only[go_sem,Ax,hz1,hz2,hz3,ZC])) ?_
 rintro⟨i,hi⟩
 dsimp only
 by_cases hlt:i<l.length
 ·have es1:=oE l i hlt
  have hfE:=c1w l i hlt
  have hfP:=c0e l i hlt
  have hmem:l[i]∈l:=Ak hlt
  have cp:=c117 l[i].1 l[i].2 (Ay (hm _ hmem) (by decide)) (hp _ hmem) (hk _ hmem) (hfine _ hmem)
  have ce:=c118 l[i].1 l[i].2 (Ay (hm _ hmem) (by decide))
  have hkP:=b1l l[i].1 ((hp _ hmem).mono (by decide))
  have hpl:((l.take i).map (·.1)).Nodup∧l[i].1∉(l.take i).map (·.1):=by
   obtain⟨r,hr⟩:=c0d l (i+1)
   rw[hr,hfP,Aq,Ai]at hpn
   exact⟨hpn.1,fun hh=>hpn.2.2 _ hh _ (by simp) rfl⟩
  have hkoP:=c9u hpl.1 fun p hpm=>by
   obtain⟨s,hs,rfl⟩:=List.mem_map.1 hpm
   exact (hp s (List.mem_of_mem_take hs)).mono (by decide)
  have hlkP:(bY (mHB ((l.take i).map (·.1))) (plv l[i].1)).getD (.bool false)=.bool false:=by rw[a5t (a7y hpl.2)];rfl
  have hputP:eO (mHB ((l.take i).map (·.1))) (plv l[i].1) (.bool true)=mHB ((l.take i).map (·.1)++[l[i].1]):=by rw[a7w (a7y hpl.2)];unfold mHB;rw[Ag];rfl
  have hedn:∃ r,esP l=(esP (l.take i)++Geo.edges l[i].2)++r:=by
   obtain⟨r,hr⟩:=c1v l (i+1)
   exact⟨r,by rw[hr,hfE]⟩
  have hedl:(Geo.edges l[i].2).length≤4096:=by rw[Geo.fN];exact hm _ hmem
  have hEl:(eEs (Geo.edges l[i].2)).length=(Geo.edges l[i].2).length:=Am _
  clear hpl hcv hVo hsw hVb hpn hfine hm hk hp hmem
  generalize l[i]=sd at *
  obtain⟨sp,svs⟩:=sd
  dsimp only at es1 hfE hfP cp ce hkP hlkP hputP hedn hedl hEl
  generalize (l.take i).map (·.1)=Q at *
  generalize esP (l.take i)=E0 at *
  generalize Geo.edges svs=ed at *
  simp only[eG]at es1 cp ce
  simp only[plv]at hkP hlkP hputP
  replace hedn:=Hid.mk hedn
  replace hnd:=Hid.mk hnd
  replace hEb:=Hid.mk hEb
  repeat'(first|refine zg ?_|(refine zc ?_ ?_<;>intro hc<;>first|simp only[NM]at hc|omega|skip)|refine zr ?_|(refine zq cp ?_)|(refine zp ce (by simp -dsimp (disch:=try exact zo)only[go_sem]) inEs ?_)|refine⟨by omega,?_⟩|(refine zb ?_ ?_<;>intro hg<;>(try rw[hg])<;>try simp only[NM]at hg)|omega|simp -dsimp (disch:=try exact zo)only[go_sem,hl,es1,ZT,hEl,kl26,hkP,hkoP,hlkP,hputP]|rfl)
  refine AW.loop (fun z:{k:Nat // k≤ed.length}=>⟨[(42,.lit (.int .i64 z.1)),(41,.lit (.int .i64 ed.length)),(40,.sl (eEs ed)),(23,.lit (.int .i64 i)),(22,.lit (.int .i64 l.length)),(21,.sl (eS l)),(3,.mp 14),(4,.mp 16),(1,.loc 8 0)],[(14,.mpo (mHB (Q++[sp]))),(16,.mpo (mEN (E0++ed.take z.1))),(8,.blk [.sl (eS l)])],90⟩) (fun z=>ed.length - z.1) ⟨0,Ap _⟩ (aQ (by refine⟨?_,?_,?_,?_⟩<;>simp -dsimp (disch:=try exact zo)only[go_sem,Ax,List.append_nil,ZC])) ?_
  rintro⟨k,hkk⟩
  dsimp only
  by_cases hkt:k<ed.length
  ·have ea:=a6k ed k hkt
   obtain⟨r,hr⟩:=hedn.out
   have hnd:=hnd.out
   have hEb:=hEb.out
   have hed:ed=ed.take k++ed[k]::ed.drop (k+1):=by rw[← List.drop_eq_getElem_cons hkt,Aj]
   have hall:esP l=(E0++ed.take k)++(ed[k]::(ed.drop (k+1)++r)):=by rw[hr];exact (congrArg (fun t=>(E0++t)++r) hed).trans (by simp only[Aq,List.cons_append])
   rw[hall]at hnd hEb
   have hst:E0++ed.take (k+1)=(E0++ed.take k)++[ed[k]]:=by rw[Ac hkt,Aq]
   have hGn:(E0++ed.take k).length≤268435456:=by
    have:=congrArg List.length hall
    rw[Ao]at this
    omega
   rw[Ai]at hnd
   have hnot:ed[k]∉E0++ed.take k:=fun hh=>hnd.2.2 _ hh _ (by simp) rfl
   have hgn:=hnd.1
   have hgb:∀ e∈E0++ed.take k,BPt 1073741824 e.1∧BPt 1073741824 e.2:=fun e he=>by
    have:=hEb e (List.mem_append_left _ he)
    exact⟨this.1.mono (by decide),this.2.mono (by decide)⟩
   have heb:BPt 1073741824 ed[k].1∧BPt 1073741824 ed[k].2:=by
    have:=hEb ed[k] (by simp)
    exact⟨this.1.mono (by decide),this.2.mono (by decide)⟩
   clear hnd hEb hall hed hr hedn cp ce hkP hkoP hlkP hputP hfE es1 hEn
   have hkoE:=a9z hgn hgb
   generalize E0++ed.take k=G at *
   generalize ed[k]=e at *
   have hkE:=a1l e heb.1 heb.2
   have hlkE:(bY (mEN G) (ev e)).getD (.int .i64 0)=.int .i64 0:=by rw[a5t (tQ hnot)];rfl
   have hmx:nM (mEN G) (ev e)=G.length:=by rw[a4p (tQ hnot),tP]
   have hputE:eO (mEN G) (ev e) (.int .i64 0)=mEN G++[(ev e,.int .i64 0)]:=a7w (tQ hnot)
   have hset:l6 (mEN G++[(ev e,.int .i64 0)]) G.length (.int .i64 1)=mEN (G++[e]):=by
    rw[c0q _ _ (tP G)]
    unfold mEN
    rw[Ag];rfl
   have hlk2:(bY (mEN G++[(ev e,.int .i64 0)]) (ev e)).getD (.int .i64 0)=.int .i64 0:=by
    unfold bY
    rw[List.find?_append,List.find?_eq_none.2 (fun x hx=>by simp only[decide_eq_true_eq];intro e1;exact tQ hnot (e1▸List.mem_map_of_mem hx))]
    simp
   have hkoE2:lQ prog 138 (mEN G++[(ev e,.int .i64 0)]):=by
    refine⟨fun x hx=>?_,?_⟩
    ·rcases Aw.1 hx with hx|hx
     ·exact hkoE.1 x hx
     ·obtain rfl:x=_:=by simpa using hx
      exact hkE
    ·rw[Ag,Ai]
     exact⟨hkoE.2,by simp,fun a ha b hb=>by simp at hb;subst hb;rintro rfl;exact tQ hnot ha⟩
   have hGl:=tP G
   clear hnot hgn hgb heb
   obtain⟨a,b⟩:=e
   dsimp only[eE]at ea
   simp only[ev]at hkE hlkE hmx hputE hset hlk2 hkoE2
   repeat'(first|refine AW.all (id:=17) T17 uP (by kernel_rfl) ?_|refine zg ?_|(refine zc ?_ ?_<;>intro hc<;>first|simp only[NM]at hc|omega|skip)|refine zr ?_|refine⟨by omega,?_⟩|(refine zb ?_ ?_<;>intro hg<;>(try rw[hg])<;>try simp only[NM]at hg)|omega|simp -dsimp (disch:=try exact zo)only[go_sem,T17,hEl,ea,ZT,b1k,hkE,hkoE,hlkE,hputE,hmx,hset,hlk2,hkoE2,Int.zero_add]|rfl|refine And.intro ?_ ?_)
   all_goals exact AW.stop ⟨⟨k+1,by omega⟩,(aQ (by refine⟨?_,?_,?_,?_⟩<;>simp -dsimp (disch:=try exact zo)only[go_sem,hst,ZC])),by dsimp only;omega⟩
  ·have hkl:k=ed.length:=by omega
   subst hkl
   rw[Av]
   clear cp ce hkP hkoP hlkP hputP es1
   repeat'(first|refine zg ?_|(refine zc ?_ ?_<;>intro hc<;>first|simp only[NM]at hc|omega|skip)|refine zr ?_|refine⟨by omega,?_⟩|(refine zb ?_ ?_<;>intro hg<;>(try rw[hg])<;>try simp only[NM]at hg)|omega|simp -dsimp (disch:=try exact zo)only[go_sem,hEl]|contradiction|rfl)
   all_goals exact AW.stop ⟨⟨i+1,by omega⟩,(aQ (by refine⟨?_,?_,?_,?_⟩<;>simp -dsimp (disch:=try exact zo)only[go_sem,hfP,hfE,ZC])),by dsimp only;omega⟩
 ·have hil:i=l.length:=by omega
  subst hil
  rw[Av]
  have k4:((l.length:Int)<4)=False:=eq_false (by omega)
  have hElen:=tP (esP l)
  have hkoE:=a9z hnd fun e he=>⟨(hEb e he).1.mono (by decide),(hEb e he).2.mono (by decide)⟩
  have hnth:∀ j,j<(esP l).length→∃ e,(mEN (esP l))[j]?=some (ev e,.int .i64 1)∧(keyOf prog 138 (ev (Geo.sw e))).isSome=true∧bY (mEN (esP l)) (ev (Geo.sw e))=some (.int .i64 1):=fun j hj=>by
   refine⟨(esP l)[j],?_,?_,?_⟩
   ·unfold mEN
    rw[List.getElem?_map,List.getElem?_eq_getElem hj];rfl
   ·have:=hEb _ (Ak hj)
    exact a1l _ (this.2.mono (by decide)) (this.1.mono (by decide))
   ·exact c0z (hsw _ (Ak hj))
  have hco:∀ x∈V,CallOK prog 91 [.agg [.sl (eS l)],.agg (eP x)] [] (.lit (.bool false)) []:=fun x hx=>by
   have:=c91 l x (by omega) (fun s hs=>(hp s hs).mono (by decide)) ((hVb x hx).mono (by decide))
   rwa [hVo x hx]at this
  clear hnd hpn hfine hsw hEb hVo hVb hm hk hp
  generalize esP l=E at *
  replace hnth:=Hid.mk hnth
  replace hco:=Hid.mk hco
  repeat'(first|refine zg ?_|(refine zc ?_ ?_<;>intro hc<;>first|simp only[NM]at hc|omega|skip)|refine zr ?_|refine⟨by omega,?_⟩|(refine zb ?_ ?_<;>intro hg<;>(try rw[hg])<;>try simp only[NM]at hg)|omega|simp -dsimp (disch:=try exact zo)only[go_sem,hl,k4,hElen,tP]|contradiction|rfl)
  refine AW.loop (fun z:{seen:List Nat // seen.Nodup∧(∀ x∈seen,x<E.length)∧seen.length≤E.length}=>⟨[(59,.loc 66 0),(4,.mp 16),(1,.loc 8 0)],[(66,.ito 16 E.length z.1),(16,.mpo (mEN E)),(8,.blk [.sl (eS l)])],90⟩) (fun z=>E.length - z.1.length) ⟨[],by simp,by simp,Ap _⟩ (aQ (by refine⟨?_,?_,?_,?_⟩<;>simp -dsimp (disch:=try exact zo)only[go_sem,ZC])) ?_
  rintro⟨seen,hs1,hs2,hs3⟩
  dsimp only
  refine AW.seq ?_
  refine AW.next (r:=66) (l:=16) (by decide) (by decide) rfl rfl rfl hElen (fun j hj hjs=>?_) (fun hall=>?_)
  ·obtain⟨e,n1,n2,n3⟩:=hnth.out j hj
   have hs4:(seen++[j]).Nodup:=by
    rw[Ai]
    exact⟨hs1,by simp,fun a ha b hb=>by simp at hb;subst hb;rintro rfl;exact hjs ha⟩
   have hs5:∀ x∈seen++[j],x<E.length:=fun x hx=>by
    rcases Aw.1 hx with hx|hx
    ·exact hs2 x hx
    ·simp at hx;omega
   have hs6:seen.length+1≤E.length:=by
    have:=a4m hs4 (m:=List.range E.length) fun x hx=>List.mem_range.2 (hs5 x hx)
    simpa using this
   have hlast:(seen++[j]).getLast?=some j:=List.getLast?_concat
   have hfs:(bY (mEN E) (ev (Geo.sw e))).getD (.int .i64 0)=.int .i64 1:=by rw[n3];rfl
   clear n3 hs1 hs2 hjs
   replace hs4:=Hid.mk hs4
   replace hs5:=Hid.mk hs5
   obtain⟨a,b⟩:=e
   simp only[Geo.sw,ev]at n1 n2 hfs
   repeat'(first|refine zg ?_|(refine zc ?_ ?_<;>intro hc<;>first|simp only[NM]at hc|omega|skip)|refine zr ?_|refine⟨by omega,?_⟩|(refine zb ?_ ?_<;>intro hg<;>(try rw[hg])<;>try simp only[NM]at hg)|omega|simp -dsimp (disch:=try exact zo)only[go_sem,hlast,n1,n2,hElen,hfs,b1k,hkoE]|rfl)
   all_goals exact AW.stop ⟨⟨seen++[j],hs4.out,hs5.out,by rw[Ao];exact hs6⟩,(aQ (by refine⟨?_,?_,?_,?_⟩<;>simp -dsimp (disch:=try exact zo)only[go_sem,ZC])),by dsimp only;rw[Ao,List.length_singleton];omega⟩
  ·clear hall hs1 hs2 hs3
   repeat'(first|refine zg ?_|(refine zc ?_ ?_<;>intro hc<;>first|simp only[NM]at hc|omega|skip)|refine zr ?_|(refine zq hcv ?_)|refine⟨by omega,?_⟩|(refine zb ?_ ?_<;>intro hg<;>(try rw[hg])<;>try simp only[NM]at hg)|omega|simp -dsimp (disch:=try exact zo)only[go_sem,hVl0]|contradiction|rfl)
   refine AW.loop (fun z:{k:Nat // k≤V.length}=>⟨[(80,.lit (.int .i64 z.1)),(79,.lit (.int .i64 V.length)),(78,.sl (V.map eP)),(1,.loc 8 0)],[(8,.blk [.sl (eS l)])],130⟩) (fun z=>V.length - z.1) ⟨0,Ap _⟩ (aQ (by refine⟨?_,?_,?_,?_⟩<;>simp -dsimp (disch:=try exact zo)only[go_sem,ZC])) ?_
   rintro⟨k,hk⟩
   dsimp only
   have hVl:(V.map eP).length=V.length:=Am _
   by_cases hkt:k<V.length
   ·have ea:=cZ V k hkt
    have co:=hco.out _ (Ak hkt)
    generalize V[k]=x at *
    simp only[eP,e4]at ea co
    repeat'(first|refine zg ?_|(refine zc ?_ ?_<;>intro hc<;>first|simp only[NM]at hc|omega|skip)|refine zr ?_|(refine zq co ?_)|refine⟨by omega,?_⟩|(refine zb ?_ ?_<;>intro hg<;>(try rw[hg])<;>try simp only[NM]at hg)|omega|simp -dsimp (disch:=try exact zo)only[go_sem,hVl,ea,ZT]|contradiction|rfl)
    all_goals exact AW.stop ⟨⟨k+1,by omega⟩,(aQ (by refine⟨?_,?_,?_,?_⟩<;>simp -dsimp (disch:=try exact zo)only[go_sem,ZC])),by dsimp only;omega⟩
   ·have hkl:k=V.length:=by omega
    subst hkl
    exact z1
end Go.Proofs.Vx
namespace Go.Proofs.Vx
open Go Go.Sx Go.Proofs Tryz
attribute [local irreducible] fnT CallOK CallFr AW aI callV aL aJ aH aK gcaseP hid
theorem b8h:arT prog 245=none∧slT prog 245=some (41,3):=by and_intros<;>kernel_rfl
attribute [go_sem] b8h
theorem c246a (u v:Geo.V) (hu:QV 8388608 u) (hv:QV 8388608 v):CallOK prog 246 [.agg (eV u.x u.y u.z),.agg (eV v.x v.y v.z),.lit (.int .i64 1),.lit (.int .i64 2)] [] (.agg (eQ (u.y*v.z - u.z*v.y))) []:=by
 refine zs func246 24 [.cell 8 41] results246 ?_
 simp only[aD,Aa]
 obtain⟨u1,u2,u3⟩:=hu.mono (show 8388608≤67108864 by decide)
 obtain⟨v1,v2,v3⟩:=hv.mono (show 8388608≤67108864 by decide)
 have p1:=(hu.y.mul hv.z).mono (show 8388608+8388608≤67108864 by decide)
 have p2:=(hu.z.mul hv.y).mono (show 8388608+8388608≤67108864 by decide)
 clear hu hv
 repeat'(first|refine zk ?_|(refine zu ?_ ?_<;>intro hc)|(refine zf (rZ _ (by assumption) _ (by assumption)) ?_)|(refine zf (rY _ (by assumption) _ (by assumption)) ?_)|(refine zv ?_ ?_<;>intro hg)|omega|simp -dsimp (disch:=try exact zo)only[go_sem]|contradiction|rfl)
theorem c246b (u v:Geo.V) (hu:QV 8388608 u) (hv:QV 8388608 v):CallOK prog 246 [.agg (eV u.x u.y u.z),.agg (eV v.x v.y v.z),.lit (.int .i64 2),.lit (.int .i64 0)] [] (.agg (eQ (u.z*v.x - u.x*v.z))) []:=by
 refine zs func246 24 [.cell 8 41] results246 ?_
 simp only[aD,Aa]
 obtain⟨u1,u2,u3⟩:=hu.mono (show 8388608≤67108864 by decide)
 obtain⟨v1,v2,v3⟩:=hv.mono (show 8388608≤67108864 by decide)
 have p1:=(hu.z.mul hv.x).mono (show 8388608+8388608≤67108864 by decide)
 have p2:=(hu.x.mul hv.z).mono (show 8388608+8388608≤67108864 by decide)
 clear hu hv
 repeat'(first|refine zk ?_|(refine zu ?_ ?_<;>intro hc)|(refine zf (rZ _ (by assumption) _ (by assumption)) ?_)|(refine zf (rY _ (by assumption) _ (by assumption)) ?_)|(refine zv ?_ ?_<;>intro hg)|omega|simp -dsimp (disch:=try exact zo)only[go_sem]|contradiction|rfl)
theorem c246c (u v:Geo.V) (hu:QV 8388608 u) (hv:QV 8388608 v):CallOK prog 246 [.agg (eV u.x u.y u.z),.agg (eV v.x v.y v.z),.lit (.int .i64 0),.lit (.int .i64 1)] [] (.agg (eQ (u.x*v.y - u.y*v.x))) []:=by
 refine zs func246 24 [.cell 8 41] results246 ?_
 simp only[aD,Aa]
 obtain⟨u1,u2,u3⟩:=hu.mono (show 8388608≤67108864 by decide)
 obtain⟨v1,v2,v3⟩:=hv.mono (show 8388608≤67108864 by decide)
 have p1:=(hu.x.mul hv.y).mono (show 8388608+8388608≤67108864 by decide)
 have p2:=(hu.y.mul hv.x).mono (show 8388608+8388608≤67108864 by decide)
 clear hu hv
 repeat'(first|refine zk ?_|(refine zu ?_ ?_<;>intro hc)|(refine zf (rZ _ (by assumption) _ (by assumption)) ?_)|(refine zf (rY _ (by assumption) _ (by assumption)) ?_)|(refine zv ?_ ?_<;>intro hg)|omega|simp -dsimp (disch:=try exact zo)only[go_sem]|contradiction|rfl)
theorem c210 (u v:Geo.V) (hu:QV 8388608 u) (hv:QV 8388608 v):CallOK prog 210 [.agg (eV u.x u.y u.z),.agg (eV v.x v.y v.z)] [] (.agg (eV (Geo.aA u v).x (Geo.aA u v).y (Geo.aA u v).z)) []:=by
 refine zs func210 15 [.cell 4 103] results210 ?_
 simp only[aD,Aa]
 have ca:=c246a u v hu hv
 have cb:=c246b u v hu hv
 have cc:=c246c u v hu hv
 unfold Geo.aA
 dsimp only
 clear hu hv
 exact z1
theorem c213 (u v:Geo.V) (hu:QV 8388608 u) (hv:QV 8388608 v):CallOK prog 213 [.agg (eV u.x u.y u.z),.agg (eV v.x v.y v.z)] [] (.agg (eQ (Geo.dot u v))) []:=by
 refine zs func213 22 [.cell 4 41] results213 ?_
 simp only[aD,Aa]
 obtain⟨u1,u2,u3⟩:=hu.mono (show 8388608≤67108864 by decide)
 obtain⟨v1,v2,v3⟩:=hv.mono (show 8388608≤67108864 by decide)
 have p1:=(hu.x.mul hv.x).mono (show 8388608+8388608≤67108864 by decide)
 have p2:=(hu.y.mul hv.y).mono (show 8388608+8388608≤67108864 by decide)
 have p3:=(hu.z.mul hv.z).mono (show 8388608+8388608≤67108864 by decide)
 have q1:=((hu.x.mul hv.x).add (hu.y.mul hv.y)).mono (show 8388608+8388608+(8388608+8388608)+1≤67108864 by decide)
 have zq:Qs 67108864 0:=⟨by show (Zm 0).size≤_;rw[dY];exact Ap _,by show (nb 1).size≤_;rw[uB];decide⟩
 have c64z:CallOK prog 64 [.agg [.lit (.bool false),.lit (.string ⟨#[]⟩),.lit (.string ⟨#[]⟩)],.agg (eQ (u.x*v.x))] [] (.agg (eQ (u.x*v.x))) []:=by
  have:=c64 0 zq _ p1
  rwa [a0p,Rat.zero_add]at this
 unfold Geo.dot
 clear hu hv zq
 repeat'(first|refine zg ?_|refine dG 6 ?_|(refine zc ?_ ?_<;>intro hc<;>try simp only[NM]at hc)|refine zr ?_|(refine zf (rZ _ (by assumption) _ (by assumption)) ?_)|(first|refine zf c64z ?_|refine zf (c64 _ (by assumption) _ (by assumption)) ?_)|refine⟨by omega,?_⟩|(refine zb ?_ ?_<;>intro hg<;>(try rw[hg])<;>try simp only[NM]at hg)|omega|simp -dsimp (disch:=try exact zo)only[go_sem]|contradiction|rfl)
def bQ (a b c d:Rat):Int:=1*(a.den:Int)*(b.den:Int)*(c.den:Int)*(d.den:Int)
def mkH (a b c d:Rat):Pl:=i5 (a.num*(bQ a b c d / (a.den:Int))) (b.num*(bQ a b c d / (b.den:Int))) (c.num*(bQ a b c d / (c.den:Int))) (d.num*(bQ a b c d / (d.den:Int)))
theorem c90q (z:Int) (g:Nat) (hg:0<g) (hd:(g:Int)∣z) (h:(Zm z).size≤268435456) (hgs:(Zm (g:Int)).size≤268435456):CallOK prog 90 [.agg (eZ z),.agg (eZ (g:Int))] [] (.tup [.agg (eZ (z / (g:Int))),.agg (eZ 0),.lit (.bool true)]) []:=by
 have:=iQ z g hg hd h (by rw[← iX];exact hgs)
 rwa [← oP]at this
theorem c2o (a b c d:Rat):bQ a b c d≠0:=by
 unfold bQ
 exact An (An (An (An (by decide) (gC a)) (gC b)) (gC c)) (gC d)
theorem yV {B:Int} {g:Int} (hB:B≠0) (h:g∣B):B / g≠0:=by
 obtain⟨k,rfl⟩:=h
 have hg:g≠0:=fun e=>hB (by rw[e];simp)
 rw[Int.mul_ediv_cancel_left _ hg]
 exact fun e=>hB (by rw[e];simp)
set_option maxRecDepth 20000 in
theorem c212 (a b c d:Rat) (ha:Qs 16777216 a) (hb:Qs 16777216 b) (hcx:Qs 16777216 c) (hd:Qs 16777216 d) (h0:¬ (a=0∧b=0∧c=0)):CallOK prog 212 [.agg (eV a b c),.agg (eQ d)] [] (.tup [.agg (eH (mkH a b c d)),.lit (.bool true)]) []:=by
 refine zs func212 78 [.cell 4 26,.tmp 5] results212 ?_
 simp only[aD,Aa]
 have ra:=ha.num
 have rb:=hb.num
 have rc:=hcx.num
 have rd:=hd.num
 have sa:=ha.den'
 have sb:=hb.den'
 have sc:=hcx.den'
 have sd:=hd.den'
 have s1:(Zm 1).size≤1:=by rw[cO];decide
 have t1:=aO _ _ s1 sa
 have t2:=aO _ _ t1 sb
 have t3:=aO _ _ t2 sc
 have t4:=aO _ _ t3 sd
 have k1:=cK 1 (a.den:Int) (by omega) (by omega)
 have k2:=cK (1*(a.den:Int)) (b.den:Int) (by omega) (by omega)
 have k3:=cK (1*(a.den:Int)*(b.den:Int)) (c.den:Int) (by omega) (by omega)
 have k4:CallOK prog 112 [.agg (eZ (1*(a.den:Int)*(b.den:Int)*(c.den:Int))),.agg (eZ (d.den:Int))] [] (.agg (eZ (bQ a b c d))) []:=cK (1*(a.den:Int)*(b.den:Int)*(c.den:Int)) (d.den:Int) (by omega) (by omega)
 have t5:(Zm (bQ a b c d)).size≤67108865:=t4
 have v1:(a.den:Int)∣bQ a b c d:=by unfold bQ;exact Af (Af (Af (Al _ _) (Ad _ _)) (Ad _ _)) (Ad _ _)
 have v2:(b.den:Int)∣bQ a b c d:=by unfold bQ;exact Af (Af (Al _ _) (Ad _ _)) (Ad _ _)
 have v3:(c.den:Int)∣bQ a b c d:=by unfold bQ;exact Af (Al _ _) (Ad _ _)
 have v4:(d.den:Int)∣bQ a b c d:=by unfold bQ;exact Al _ _
 have d1:=c90q (bQ a b c d) a.den (Ah a.den_nz) v1 (by omega) (by omega)
 have d2:=c90q (bQ a b c d) b.den (Ah b.den_nz) v2 (by omega) (by omega)
 have d3:=c90q (bQ a b c d) c.den (Ah c.den_nz) v3 (by omega) (by omega)
 have d4:=c90q (bQ a b c d) d.den (Ah d.den_nz) v4 (by omega) (by omega)
 have hB:=c2o a b c d
 have n1:=yV hB v1
 have n2:=yV hB v2
 have n3:=yV hB v3
 have w1:=vP (bQ a b c d) a.den
 have w2:=vP (bQ a b c d) b.den
 have w3:=vP (bQ a b c d) c.den
 have w4:=vP (bQ a b c d) d.den
 have hz:¬ (a.num*(bQ a b c d / (a.den:Int))=0∧b.num*(bQ a b c d / (b.den:Int))=0∧c.num*(bQ a b c d / (c.den:Int))=0):=by
  rintro⟨e1,e2,e3⟩
  exact h0 ⟨At.1 ((Au.1 e1).resolve_right n1),At.1 ((Au.1 e2).resolve_right n2),At.1 ((Au.1 e3).resolve_right n3)⟩
 clear n1 n2 n3 hB v1 v2 v3 v4 t1 t2 t3 t4 h0
 unfold mkH
 generalize bQ a b c d / (a.den:Int)=A at *
 generalize bQ a b c d / (b.den:Int)=B at *
 generalize bQ a b c d / (c.den:Int)=C at *
 generalize bQ a b c d / (d.den:Int)=D at *
 generalize bQ a b c d=N at *
 have x1:=aO a.num A ra (show _≤67108866 by omega)
 have x2:=aO b.num B rb (show _≤67108866 by omega)
 have x3:=aO c.num C rc (show _≤67108866 by omega)
 have x4:=aO d.num D rd (show _≤67108866 by omega)
 have m1:=cK a.num A (by omega) (by omega)
 have m2:=cK b.num B (by omega) (by omega)
 have m3:=cK c.num C (by omega) (by omega)
 have m4:=cK d.num D (by omega) (by omega)
 have cn:=c44z _ _ _ _ ⟨show (Zm (a.num*A)).size≤_ by omega,show (Zm (b.num*B)).size≤_ by omega,show (Zm (c.num*C)).size≤_ by omega,show (Zm (d.num*D)).size≤_ by omega⟩ hz
 replace ha:=ha.mono (show 16777216≤67108864 by decide)
 replace hb:=hb.mono (show 16777216≤67108864 by decide)
 replace hcx:=hcx.mono (show 16777216≤67108864 by decide)
 replace hd:=hd.mono (show 16777216≤67108864 by decide)
 clear x1 x2 x3 x4 w1 w2 w3 w4 ra rb rc rd sa sb sc sd s1 hz
 try have zh0:=(o9 a ha)
 try have zh1:=(o9 b hb)
 try have zh2:=(o9 c hcx)
 try have zh3:=(o9 d hd)
 have zh4:=uT
 exact z1f
def nP (a b c:Pt):Geo.V:=Geo.aA (tv b - tv a) (tv c - tv a)
def lR (a b c:Pt):Pl:=mkH (nP a b c).x (nP a b c).y (nP a b c).z (Geo.dot (nP a b c) (tv a))
theorem b1z (u v:Geo.V) (hu:QV 33554432 u) (hv:QV 33554432 v):CallOK prog 211 [.agg (eV u.x u.y u.z),.agg (eV v.x v.y v.z)] [] (.agg (eV (u - v).x (u - v).y (u - v).z)) []:=c211 u v hu hv
theorem r5 (a b c:Pt) (ha:CanP a) (hb:CanP b) (hcx:CanP c) (ba:BPt 65536 a) (bb:BPt 65536 b) (bc:BPt 65536 c) (h0:nP a b c≠⟨0,0,0⟩):CallOK prog 161 [.agg (eP a),.agg (eP b),.agg (eP c)] [] (.tup [.agg (eH (lR a b c)),.lit (.bool true)]) []:=by
 refine zs func161 32 [.cell 6 26,.tmp 7] results161 ?_
 simp only[aD,Aa]
 have ca:=r6 a ha (ba.mono (by decide))
 have cb:=r6 b hb (bb.mono (by decide))
 have cc:=r6 c hcx (bc.mono (by decide))
 have qa:=oQ ha ba
 have qb:=oQ hb bb
 have qc:=oQ hcx bc
 have l1:=b1z _ _ (qb.mono (show _≤33554432 by decide)) (qa.mono (show _≤33554432 by decide))
 have l2:=b1z _ _ (qc.mono (show _≤33554432 by decide)) (qa.mono (show _≤33554432 by decide))
 have q1:=a1d qb qa
 have q2:=a1d qc qa
 have cx:=c210 _ _ (q1.mono (show _≤8388608 by decide)) (q2.mono (show _≤8388608 by decide))
 have q3:=c2r q1 q2
 have cd:=c213 _ _ (q3.mono (show _≤8388608 by decide)) (qa.mono (show _≤8388608 by decide))
 have q4:=a1o q3 qa
 have cm:=c212 _ _ _ _ (q3.x.mono (show _≤16777216 by decide)) (q3.y.mono (show _≤16777216 by decide)) (q3.z.mono (show _≤16777216 by decide)) (q4.mono (show _≤16777216 by decide)) (fun e=>h0 (Geo.V.ext e.1 e.2.1 e.2.2))
 change CallOK _ _ [.agg (eV (nP a b c).x (nP a b c).y (nP a b c).z),.agg (eQ (Geo.dot (nP a b c) (tv a)))] _ (.tup [.agg (eH (lR a b c)),_]) _ at cm
 change CallOK _ _ [.agg (eV (nP a b c).x (nP a b c).y (nP a b c).z),_] _ (.agg (eQ (Geo.dot (nP a b c) (tv a)))) _ at cd
 change CallOK _ _ _ _ (.agg (eV (nP a b c).x (nP a b c).y (nP a b c).z)) _ at cx
 clear qa qb qc q1 q2 q3 q4 h0 ha hb hcx ba bb bc
 generalize lR a b c=M at *
 generalize Geo.dot (nP a b c) (tv a)=E at *
 generalize nP a b c=N at *
 generalize tv b - tv a=U at *
 generalize tv c - tv a=W at *
 generalize tv a=A at *
 generalize tv b=B at *
 generalize tv c=C at *
 exact z1
theorem rX (z:Int) (h:-1000≤z∧z≤1000):CallOK prog 87 [.lit (.int .i64 z)] [] (.agg (eZ z)) []:=c87 z (by omega) (by omega)
theorem c209 (x y z:Int) (hx:-1≤x∧x≤1) (hy:-1≤y∧y≤1) (hz:-1≤z∧z≤1):CallOK prog 209 [.lit (.int .i64 x),.lit (.int .i64 y),.lit (.int .i64 z)] [] (.agg (eP (wpt x y z))) []:=by
 refine zs func209 18 [.cell 6 51] results209 ?_
 simp only[aD,Aa]
 unfold wpt
 try have zh0:=(rX (1000*x) (by omega))
 try have zh1:=(rX (1000*y) (by omega))
 try have zh2:=(rX (1000*z) (by omega))
 have zh3:=uT
 exact z1
theorem nI (x y z:Int) (hx:-1≤x∧x≤1) (hy:-1≤y∧y≤1) (hz:-1≤z∧z≤1):CallOK prog 160 [.lit (.int .i64 x),.lit (.int .i64 y),.lit (.int .i64 z),.lit (.int .i64 0)] [] (.agg (eP (wpt x y z))) []:=by
 refine zs func160 22 [.cell 8 51] results160 ?_
 simp only[aD,Aa]
 try have zh0:=(c209 x y z (by omega) (by omega) (by omega))
 exact z1f
theorem nH (x y z:Int) (hx:-1≤x∧x≤1) (hy:-1≤y∧y≤1) (hz:-1≤z∧z≤1):CallOK prog 160 [.lit (.int .i64 x),.lit (.int .i64 y),.lit (.int .i64 z),.lit (.int .i64 1)] [] (.agg (eP (wpt z x y))) []:=by
 refine zs func160 22 [.cell 8 51] results160 ?_
 simp only[aD,Aa]
 try have zh0:=(c209 z x y (by omega) (by omega) (by omega))
 exact z1f
theorem nG (x y z:Int) (hx:-1≤x∧x≤1) (hy:-1≤y∧y≤1) (hz:-1≤z∧z≤1):CallOK prog 160 [.lit (.int .i64 x),.lit (.int .i64 y),.lit (.int .i64 z),.lit (.int .i64 2)] [] (.agg (eP (wpt y z x))) []:=by
 refine zs func160 22 [.cell 8 51] results160 ?_
 simp only[aD,Aa]
 try have zh0:=(c209 y z x (by omega) (by omega) (by omega))
 exact z1f
end Go.Proofs.Vx
