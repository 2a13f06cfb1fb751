import Derived.Test.YtjlfgmhmalbiiaaGreatDoorV36
set_option linter.all false
set_option maxHeartbeats 8000000
namespace Go.Sx
theorem CallVc.ok {P : Program} {f : Nat} {args : List AV} {k : Nat} {es : List (List AV)} (h : CallVc P f args k es) : CallOK P f args [] (.sl es) [] := by
  intro g vals hus hg hr
  have hno : ∀ l, ¬ g.us l := fun l hl => by simpa using (hus l).1 hl
  refine (h g vals hno hg hr).mono ?_
  rintro e w' ⟨v, g', rfl, rfl, he, hu, hg', hk0, hke, hv⟩
  have hany : ∀ l, upd aI [] l = .any := fun l => rfl
  rcases hv with ⟨rfl, rfl⟩ | ⟨b, cap, vs, ety, rfl, hb0, hnf, hb, hc, hm, hs, h1, h2⟩
  · exact ⟨_, g', rfl, rfl, he, fun l => ⟨fun hl => (hu l hl).elim, fun hl => (hno l hl).elim⟩, hg', .slnil⟩
  · let g1 : Gh := { g' with fz := fun x => g'.fz x ∨ x = b }
    have hlt : b < g'.w.heap.size := Array.getElem?_eq_some_iff.1 hb |>.1
    have hev : Ev g' g1 := ⟨fun b hb => ⟨.inl hb, rfl⟩, fun l hl => ⟨hl, rfl, Nat.le_refl _, fun _ => rfl⟩⟩
    refine ⟨_, g1, rfl, rfl, he.trans hev, fun l => ⟨fun hl => (hu l hl).elim, fun hl => (hno l hl).elim⟩, ?_, ?_⟩
    · refine ⟨hg'.os, hg'.tape, hg'.output, hg'.size, hg'.old, fun b hb => .inl (hg'.fzo b hb), ?_, ?_, fun l => trivial, fun l b hb => by simp [hany, aE] at hb, fun l l' b hb => by simp [hany, aE] at hb⟩
      · rintro x (hx | rfl)
        · exact hg'.fzn x hx
        · exact .inr (.inr hb0)
      · rintro x (hx | rfl)
        · exact hg'.fzx x hx
        · exact hlt
    · refine .sl es b 0 cap k vs ety (0, 0) (.inr rfl) hb hc (fun i h1 => hke _ (List.getElem_mem h1)) (fun hp => ?_) (fun j a1 a2 => ?_) fun i a1 j a2 a3 => ?_
      · rw [Nat.zero_add, hs]; exact Nat.mul_le_mul_right _ hc
      · have := h1 j (by omega) a2
        simpa only [Nat.zero_add] using this
      · have := (h2 i a1 j a2 (by omega)).mono hev
        simpa only [Nat.zero_add] using this
end Go.Sx
namespace Go.Proofs.Vx
open Go Go.Sx Go.Proofs Tryz
attribute [local irreducible] fnT CallOK CallFr AW aO callV aP aN aM aQ gcaseP hid
theorem yG:fnT prog 101=true:=by kernel_rfl
def tI (p:Pl):RP:=⟨Zn p.a,Zm p.a,Zn p.b,Zm p.b,Zn p.c,Zm p.c,Zn p.d,Zm p.d⟩
theorem a4y {p:Pl} (h:CanH p):jZ (tI p)∧eX (tI p)=p:=by
 have e:eX (tI p)=p:=by
  show j4 (iv (Zn p.a) (Zm p.a)) (iv (Zn p.b) (Zm p.b)) (iv (Zn p.c) (Zm p.c)) (iv (Zn p.d) (Zm p.d))=p
  rw[bB,bB,bB,bB];exact h.nrm
 refine⟨⟨fun k=>h.ne ?_,by rw[e];rfl⟩,e⟩
 have k':iv (Zn p.a) (Zm p.a)=0∧iv (Zn p.b) (Zm p.b)=0∧iv (Zn p.c) (Zm p.c)=0:=k
 rwa [bB,bB,bB]at k'
def iF (N:List TN):List RN:=N.map fun n=>(tI n.1,n.2.1,n.2.2)
theorem a6y (N:List TN):eRT (iF N)=eTS N:=by
 unfold eRT iF eTS
 rw[List.map_map];rfl
theorem b6m {N:List TN} (h:∀ n∈N,CanH n.1):c6 (iF N)=N:=by
 unfold c6 iF
 rw[List.map_map]
 conv=>rhs;rw[← List.map_id N]
 exact List.map_congr_left fun n hn=>by
  show (eX (tI n.1),n.2.1,n.2.2)=n
  rw[(a4y (h n hn)).2]
structure TrB (N:List TN) (k:Int) (T:BT):Prop extends TrOK N k T where
 can:∀ n∈N,CanH n.1
 n:N.length≤14
 b:∀ n∈N,BPl 6 n.1
theorem TrB.raw {N:List TN} {k:Int} {T:BT} (h:TrB N k T):true=true↔b7 (c6 (iF N)) [k] []∧i4 (iF N):=by
 refine⟨fun _=>⟨?_,fun n hn=>?_⟩,fun _=>rfl⟩
 ·rw[b6m h.can];exact a1o.2 ⟨T,h.rep,h.perm⟩
 ·obtain⟨m,hm,rfl⟩:=List.mem_map.1 hn
  exact (a4y (h.can m hm)).1
theorem TrB.small {N:List TN} {k:Int} {T:BT} (h:TrB N k T):nQ (iF N):=fun n hn=>by
 obtain⟨m,hm,rfl⟩:=List.mem_map.1 hn
 have:=(h.b m hm).out
 exact⟨this.a,this.b,this.c,this.d⟩
theorem TrB.ht {N:List TN} {k:Int} {T:BT} (h:TrB N k T):T.ht≤14:=by
 have h1:=a8l T
 have h2:=h.len
 have h3:=h.n
 omega
theorem c100t {N:List TN} {k:Int} {T:BT} (h:TrB N k T):CallOK prog 100 [.agg (eTr k N)] [] (.lit (.bool true)) []:=by
 have:CallOK prog 100 [.agg [.lit (.int .i64 k),.sl (eRT (iF N))]] [] (.lit (.bool true)) []:=c100 k (iF N) (by unfold iF;rw[List.length_map];exact h.n) h.small true h.raw
 rw[a6y]at this
 exact this
set_option maxRecDepth 20000 in
theorem c38a (k0:Int) (N:List RN) (hn:N.length≤14) (hs:nQ N) (hb:¬ (b7 (c6 N) [k0] []∧i4 N)):CallOK prog 38 [.agg (dH k0 N)] [] (.lit (.int .i64 3)) []:=by
 refine zs func38 15 [.tmp 2] results38 ?_
 simp only[aD,Nat.reduceAdd]
 have hml:maxLen=9223372036854775807:=rfl
 have cf:=c100 k0 N hn hs false ⟨fun h=>(Bool.false_ne_true h).elim,fun h=>absurd h hb⟩
 clear hb hs hn
 repeat'(first|refine zg ?_|(refine zc ?_ ?_<;>intro hc<;>first|simp only[NM]at hc|omega|skip)|refine zr ?_|(refine zp cf (by simp -dsimp (disch:=try exact zo)only[go_sem,aV,aL]) (.lit _) ?_)|refine⟨by omega,?_⟩|(refine zb ?_ ?_<;>intro hg<;>(try rw[hg])<;>try simp only[NM]at hg)|omega|simp -dsimp (disch:=try exact zo)only[go_sem,aV,Bool.not_true,Bool.not_false]|contradiction|rfl)
theorem c101n {k0 k:Int} {N:List TN} {c:aF} {b b':Bool} (h:CallOK prog 101 [.agg (eTr k0 N),.lit (.int .i64 k),.agg [.sl (eS c)],.clo 102 [.loc 0 0]] [(0,.blk [.lit (.bool b)])] (.tup []) [(0,.blk [.lit (.bool b')])]):CallOK prog 101 [.agg (eTr k0 N),.lit (.int .i64 k),.agg [.sl (eS c)],.clo 102 [.loc 13 0]] [(13,.blk [.lit (.bool b)])] (.tup []) [(13,.blk [.lit (.bool b')])]:=by
 have tp:∀ b:Bool,gK (fun i=>i∈[0]) (.blk [.lit (.bool b)]):=fun b c hc=>by obtain rfl:=List.mem_singleton.1 hc;exact .lit _
 have:=h.renG (fun _=>13) (fun _=>0) (fun p hp=>by obtain rfl:=List.mem_singleton.1 hp;rfl) (fun p hp=>by obtain rfl:=List.mem_singleton.1 hp;exact tp b) (fun p hp=>by obtain rfl:=List.mem_singleton.1 hp;exact⟨by simp,tp b'⟩) (.tup _ (by simp)) (fun x hx=>by
  simp only[zM,or_false]at hx
  rcases hx with rfl|rfl|rfl|rfl
  ·exact jF _ _
  ·exact .lit _
  ·exact bV _
  ·intro x hx
   obtain rfl:=List.mem_singleton.1 hx
   show (0:Nat)∈[0];decide)
 exact this
theorem a5y {k0 k:Int} {N:List TN} {c:aF} {b b':Bool} {i:Nat} {ob:Nat→AV} {E:Eff→Prop} (hf:fnT prog 101=true) (hc:CallOK prog 101 [.agg (eTr k0 N),.lit (.int .i64 k),.agg [.sl (eS c)],.clo 102 [.loc 13 0]] [(13,.blk [.lit (.bool b)])] (.tup []) [(13,.blk [.lit (.bool b')])]) (hob:ob 13=.blk [.lit (.bool b)]) (h:E ⟨.tup [],[(13,.blk [.lit (.bool b')])],[13]⟩):callV prog 101 [.agg (eTr k0 N),.lit (.int .i64 k),.agg [.sl (eS c)],.clo 102 [.loc 13 0]] i ob E:=by
 refine lR 13 _ _ _ hf hc hob (fun x hx=>?_) (fun c hc=>?_) (fun c hc=>?_) (.tup _ (by simp)) rfl h
 ·simp only[zM,or_false]at hx
  rcases hx with rfl|rfl|rfl|rfl
  ·exact jF _ _
  ·exact .lit _
  ·exact bV _
  ·refine .clo _ _ fun x hx=>?_
   obtain rfl:=List.mem_singleton.1 hx
   exact .loc _ _ rfl
 ·obtain rfl:=List.mem_singleton.1 hc;exact .lit _
 ·obtain rfl:=List.mem_singleton.1 hc;exact .lit _
set_option maxRecDepth 20000 in
theorem c38b (k0:Int) (N:List TN) (T:BT) (h:TrB N k0 T):CallOK prog 38 [.agg (eTr k0 N)] [] (.lit (.int .i64 (if T.chk aX=true then 0 else 1))) []:=by
 refine zs func38 15 [.tmp 2] results38 ?_
 simp only[aD,Nat.reduceAdd]
 have hml:maxLen=9223372036854775807:=rfl
 have cf:=c100t h
 have hh:=h.ht
 have cw:=c101n (c101 k0 N h.n (fun n hn=>(h.b n hn).mono (by decide)) T k0 aX 6 true h.rep (by omega) (.inr xP))
 simp only[Bool.true_and]at cw
 have w0:=c57
 clear h hh
 generalize T.chk aX=u at *
 generalize aX=W at *
 cases u
 ·rw[if_neg (by decide)]
  repeat'(first|refine zg ?_|(refine zc ?_ ?_<;>intro hc<;>first|simp only[NM]at hc|omega|skip)|refine zr ?_|(refine zp cf (by simp -dsimp (disch:=try exact zo)only[go_sem,aV,aL]) (.lit _) ?_)|(refine a5y yG cw rfl ?_)|(refine zp w0 (by simp) (bV _) ?_)|refine⟨by omega,?_⟩|(refine zb ?_ ?_<;>intro hg<;>(try rw[hg])<;>try simp only[NM]at hg)|omega|simp -dsimp (disch:=try exact zo)only[go_sem,aL,aG,Bool.not_true,Bool.not_false]|contradiction|rfl)
 ·rw[if_pos rfl]
  repeat'(first|refine zg ?_|(refine zc ?_ ?_<;>intro hc<;>first|simp only[NM]at hc|omega|skip)|refine zr ?_|(refine zp cf (by simp -dsimp (disch:=try exact zo)only[go_sem,aV,aL]) (.lit _) ?_)|(refine a5y yG cw rfl ?_)|(refine zp w0 (by simp) (bV _) ?_)|refine⟨by omega,?_⟩|(refine zb ?_ ?_<;>intro hg<;>(try rw[hg])<;>try simp only[NM]at hg)|omega|simp -dsimp (disch:=try exact zo)only[go_sem,aL,aG,Bool.not_true,Bool.not_false]|contradiction|rfl)
end Go.Proofs.Vx
namespace Go.Proofs.Vx
open Go Go.Sx Go.Proofs Tryz
attribute [local irreducible] fnT CallOK CallFr AW aO callV aP aN aM aQ gcaseP hid
theorem b1z:agT prog 38=some false∧byT prog 33=some 24∧szT prog 38=some 1:=by and_intros<;>kernel_rfl
attribute [go_sem] b1z
def cL (out:List aF):List (List AV):=out.map fun c=>[.sl (eS c)]
theorem zN (out:List aF):(cL out).length=out.length:=List.length_map _
theorem fX {K:Nat→Prop} (out:List aF):(∀ e∈cL out,∀ c∈e,In K c)=True:=eq_true fun e he c hc=>by
 obtain⟨n,_,rfl⟩:=List.mem_map.1 he
 obtain rfl:=List.mem_singleton.1 hc
 exact .sl _ (of_eq_true (aG _))
abbrev lC (out:List aF) (m:Int):List (Nat × AV):=[(2,.blk [.ref 4 0 out.length out.length]),(4,.vec 1 (cL out)),(3,.blk [.lit (.int .i64 m)])]
abbrev argC (k0:Int) (N:List TN) (k:Int) (c:aF):List AV:=[.lit (.int .i64 k),.agg [.sl (eS c)],.loc 2 0,.loc 3 0,.fp (eTr k0 N)]
theorem obC (out out':List aF) (m m':Int):∀ p∈lC out' m',p.1∈(lC out m).map (·.1)∧InC (fun i=>i∈(lC out m).map (·.1)) p.2:=by
 intro p hp
 simp only[zM,or_false]at hp
 rcases hp with rfl|rfl|rfl
 ·refine⟨by simp,fun c hc=>?_⟩
  obtain rfl:=List.mem_singleton.1 hc
  exact .ref _ _ _ _ (by simp)
 ·exact⟨by simp,fun e he c hc=>of_eq_true (fX _) e he c hc⟩
 ·refine⟨by simp,fun c hc=>?_⟩
  obtain rfl:=List.mem_singleton.1 hc
  exact .lit _
theorem callC {k0:Int} {N:List TN} {k:Int} {c:aF} {out out':List aF} {m m':Int} {r:Bool} {i:Nat} {ob:Nat→AV} {E:Eff→Prop} (hf:fnT prog 115=true) (hc:CallOK prog 115 (argC k0 N k c) (lC out m) (.lit (.bool r)) (lC out' m')) (hob:∀ p∈lC out m,ob p.1=p.2) (h:E ⟨.lit (.bool r),lC out' m',[2,4,3]⟩):callV prog 115 (argC k0 N k c) i ob E :=
 kA _ _ _ hf hc hob (by
  intro x hx
  simp only[zM,or_false]at hx
  rcases hx with rfl|rfl|rfl|rfl|rfl
  ·exact .lit _
  ·exact bV _
  ·exact .loc _ _ (by simp)
  ·exact .loc _ _ (by simp)
  ·exact cG _ _) (fun p hp=>(obC out out m m p hp).2) (show ([2,4,3]:List Nat).Nodup by decide) (.lit _) (obC out out' m m') rfl (by
  intro p hp
  simp only[zM,or_false]at hp
  rcases hp with rfl|rfl|rfl<;>rfl) h
set_option maxRecDepth 20000 in
theorem c115 (k0:Int) (N:List TN) (hN:N.length≤14) (k:Int) (c:aF) (out out':List aF) (m:Nat) (ho:out'=if k=-1 then out++[c]else out) (hn:out.length≤4096) (hm:m≤4096) (r:Bool) (hr:r=decide (m+1≤2*N.length+1)):CallOK prog 115 (argC k0 N k c) (lC out m) (.lit (.bool r)) (lC out' (m+1:Nat)):=by
 refine e9 func115 rfl 23 rfl rfl (by simp) (.lit _) (obC out out' m _) [.tmp 7] (congrArg Array.toList results115) ?_
 simp only[aD,Nat.reduceAdd]
 have hml:maxLen=9223372036854775807:=rfl
 have hl:(eTS N).length=N.length:=nJ N
 have hcl:(cL out).length=out.length:=zN out
 have k3:decide (((m:Int)+1)≤2*(N.length:Int)+1)=r:=by rw[hr];congr 1;apply propext;omega
 have hm1:((m+1:Nat):Int)=(m:Int)+1:=by omega
 rw[hm1]
 by_cases q:k=-1
 ·rw[if_pos q]at ho
  have he1:out'.length=out.length+1:=by rw[ho,List.length_append];rfl
  have he2:cL out'=cL out++[[.sl (eS c)]]:=by rw[ho];unfold cL;rw[List.map_append];rfl
  have k1:(k=-1)=True:=eq_true q
  clear ho
  repeat'(first|refine zg ?_|(refine zc ?_ ?_<;>intro hc<;>first|simp only[NM]at hc|omega|skip)|refine zr ?_|(refine AW.ret (b6 ?_ ?_)<;>simp -dsimp (disch:=try exact zo)only[go_sem,he1,he2,k3])|refine⟨by omega,?_⟩|(refine zb ?_ ?_<;>intro hg<;>(try rw[hg])<;>try simp only[NM]at hg)|omega|simp -dsimp (disch:=try exact zo)only[go_sem,hl,k1,k3,he1,he2,aG,aL,fX,hcl]|contradiction|rfl)
 ·rw[if_neg q]at ho
  have he1:out'.length=out.length:=by rw[ho]
  have he2:cL out'=cL out:=by rw[ho]
  have k1:(k=-1)=False:=eq_false q
  clear ho
  repeat'(first|refine zg ?_|(refine zc ?_ ?_<;>intro hc<;>first|simp only[NM]at hc|omega|skip)|refine zr ?_|(refine AW.ret (b6 ?_ ?_)<;>simp -dsimp (disch:=try exact zo)only[go_sem,he1,he2,k3])|refine⟨by omega,?_⟩|(refine zb ?_ ?_<;>intro hg<;>(try rw[hg])<;>try simp only[NM]at hg)|omega|simp -dsimp (disch:=try exact zo)only[go_sem,hl,k1,k3,he1,he2,aG,aL,fX,hcl]|contradiction|rfl)
end Go.Proofs.Vx
namespace Go.Proofs.Vx
open Go Go.Sx Go.Proofs Tryz
attribute [local irreducible] fnT CallOK CallFr AW aO callV aP aN aM aQ gcaseP hid
theorem a4p:fnT prog 115=true:=by kernel_rfl
abbrev iH (k0:Int) (N:List TN) (out:List aF) (m:Nat):List (Nat × AV):=[(0,.blk [.clo 170 [.loc 1 0,.fp (eTr k0 N),.loc 0 0]]),(1,.blk [.clo 115 [.loc 2 0,.loc 3 0,.fp (eTr k0 N)]]),(2,.blk [.ref 4 0 out.length out.length]),(4,.vec 1 (cL out)),(3,.blk [.lit (.int .i64 (m:Int))])]
abbrev argD (k0:Int) (N:List TN) (k:Int) (c:aF):List AV:=[.lit (.int .i64 k),.agg [.sl (eS c)],.loc 1 0,.fp (eTr k0 N),.loc 0 0]
theorem obD (k0:Int) (N:List TN) (out out':List aF) (m m':Nat):∀ p∈iH k0 N out' m',p.1∈(iH k0 N out m).map (·.1)∧InC (fun i=>i∈(iH k0 N out m).map (·.1)) p.2:=by
 intro p hp
 simp only[zM,or_false]at hp
 rcases hp with rfl|rfl|rfl|rfl|rfl
 ·refine⟨by simp,fun c hc=>?_⟩
  obtain rfl:=List.mem_singleton.1 hc
  refine .clo _ _ fun x hx=>?_
  simp only[zM,or_false]at hx
  rcases hx with rfl|rfl|rfl
  ·exact .loc _ _ (by simp)
  ·exact cG _ _
  ·exact .loc _ _ (by simp)
 ·refine⟨by simp,fun c hc=>?_⟩
  obtain rfl:=List.mem_singleton.1 hc
  refine .clo _ _ fun x hx=>?_
  simp only[zM,or_false]at hx
  rcases hx with rfl|rfl|rfl
  ·exact .loc _ _ (by simp)
  ·exact .loc _ _ (by simp)
  ·exact cG _ _
 ·refine⟨by simp,fun c hc=>?_⟩
  obtain rfl:=List.mem_singleton.1 hc
  exact .ref _ _ _ _ (by simp)
 ·exact⟨by simp,fun e he c hc=>of_eq_true (fX _) e he c hc⟩
 ·refine⟨by simp,fun c hc=>?_⟩
  obtain rfl:=List.mem_singleton.1 hc
  exact .lit _
theorem lvD (k0:Int) (N:List TN) (out:List aF) (m:Nat):∀ p∈iH k0 N out m,p.2.live=true:=by
 intro p hp
 simp only[zM,or_false]at hp
 rcases hp with rfl|rfl|rfl|rfl|rfl<;>rfl
theorem callD {k0:Int} {N:List TN} {k:Int} {c:aF} {out out':List aF} {m m':Nat} {i:Nat} {ob:Nat→AV} {E:Eff→Prop} (hf:fnT prog 170=true) (hc:CallOK prog 170 (argD k0 N k c) (iH k0 N out m) (.tup []) (iH k0 N out' m')) (hob:∀ p∈iH k0 N out m,ob p.1=p.2) (h:E ⟨.tup [],iH k0 N out' m',[0,1,2,4,3]⟩):callV prog 170 (argD k0 N k c) i ob E :=
 kA _ _ _ hf hc hob (by
  intro x hx
  simp only[zM,or_false]at hx
  rcases hx with rfl|rfl|rfl|rfl|rfl
  ·exact .lit _
  ·exact bV _
  ·exact .loc _ _ (by simp)
  ·exact cG _ _
  ·exact .loc _ _ (by simp)) (fun p hp=>(obD k0 N out out m m p hp).2) (show ([0,1,2,4,3]:List Nat).Nodup by decide) (.tup _ (by simp)) (obD k0 N out out' m m') rfl (lvD k0 N out m) h
theorem b8x (T:BT) (c:aF):(T.cells c).length≤T.ids.length+1:=by
 rw[BT.cells_len]
 have:=BT.tl_turn T
 omega
set_option maxRecDepth 20000 in
theorem c170c (k0:Int) (N:List TN) (hN:N.length≤14) (hP:∀ n∈N,BPl 6 n.1) (T:BT):∀ (k:Int) (c:aF) (d:Nat) (out:List aF) (m:Nat),Rep N T k→d+T.ht≤64→(c=[]∨SmC d c)→m+(2*T.ids.length+1)≤2*N.length+1→out.length+(T.ids.length+1)≤4096→CallOK prog 170 (argD k0 N k c) (iH k0 N out m) (.tup []) (iH k0 N (out++T.cells c) (m+(2*T.ids.length+1))):=by
 have hl:(eTS N).length=N.length:=nJ N
 induction T with
 | lf b0 =>
  intro k c d out m hk _ _ hm ho
  have hk0:k≤0:=by rw[show k=lfv b0 from hk];exact sV b0
  simp only[BT.ids,List.length_nil,Nat.mul_zero,Nat.zero_add]at hm ho ⊢
  have hcs:out++BT.cells (.lf b0) c=if k=-1 then out++[c]else out:=by
   rw[show k=lfv b0 from hk]
   cases b0<;>simp[BT.cells,lfv]
  have cv:=c115 k0 N hN k c out (out++BT.cells (.lf b0) c) m hcs (by omega) (by omega) true (by rw[decide_eq_true (by omega)])
  generalize out++BT.cells (.lf b0) c=out' at *
  have k1:(k≤0)=True:=eq_true hk0
  have k2:True:=trivial
  have k5:True:=trivial
  have es1:True:=trivial
  have sp:True:=trivial
  have il:True:=trivial
  have ir:True:=trivial
  refine e9 func170 rfl 49 rfl rfl (by simp) (.tup _ (by simp)) (obD k0 N out out' m (m+1)) [] (congrArg Array.toList results170) ?_
  simp only[aD,Nat.reduceAdd]
  clear hk hcs
  repeat'(first|refine zg ?_|(refine zc ?_ ?_<;>intro hc<;>first|simp only[NM]at hc|omega|skip)|refine zr ?_|(refine AW.ret (b6 ?_ (by intro p hp;simp only[zM,or_false]at hp;rcases hp with rfl|rfl|rfl|rfl|rfl<;>rfl))<;>simp -dsimp (disch:=try exact zo)only[go_sem])|(refine AW.nil (b6 ?_ (by intro p hp;simp only[zM,or_false]at hp;rcases hp with rfl|rfl|rfl|rfl|rfl<;>rfl))<;>simp -dsimp (disch:=try exact zo)only[go_sem])|(refine callC a4p cv (by intro p hp;simp only[zM,or_false]at hp;rcases hp with rfl|rfl|rfl<;>rfl) ?_)|(first|refine callD iK il (by intro p hp;simp only[zM,or_false]at hp;rcases hp with rfl|rfl|rfl|rfl|rfl<;>rfl) ?_|refine callD iK ir (by intro p hp;simp only[zM,or_false]at hp;rcases hp with rfl|rfl|rfl|rfl|rfl<;>rfl) ?_)|(refine zp sp (by simp -dsimp (disch:=try exact zo)only[go_sem,aG,aC]) (iM _ _) ?_)|refine⟨by omega,?_⟩|(refine zb ?_ ?_<;>intro hg<;>(try rw[hg])<;>try simp only[NM]at hg)|omega|simp -dsimp (disch:=try exact zo)only[go_sem,hl,es1,k1,k2,k5,aG,aL,ZT]|contradiction|rfl)
 | nd j p l r ihl ihr =>
  intro k c d out m hk hd hc hm ho
  obtain⟨rfl,n,hn1,rfl,hn3,hn4⟩:=hk
  have hj:=(List.getElem?_eq_some_iff.1 hn1).1
  have hje:=(List.getElem?_eq_some_iff.1 hn1).2
  have es1:=sE N j hj
  rw[hje]at es1
  have hpn:=hP n (List.mem_of_getElem? hn1)
  simp only[BT.ht]at hd
  simp only[BT.ids,List.length_cons,List.length_append]at hm ho ⊢
  have cv:=c115 k0 N hN ((j:Int)+1) c out out m (by rw[if_neg (by omega)]) (by omega) (by omega) true (by rw[decide_eq_true (by omega)])
  have k1:((j:Int)+1≤0)=False:=eq_false (by omega)
  have k2:((N.length:Int)<(j:Int)+1)=False:=eq_false (by omega)
  have k5:((j:Int)+1 - 1)=(j:Int):=by omega
  have hsm:((aS n.1 c).1=[]∨SmC (d+1) (aS n.1 c).1)∧((aS n.1 c).2=[]∨SmC (d+1) (aS n.1 c).2):=by
   rcases hc with rfl|h
   ·exact⟨.inl (by rw[a1z]),.inl (by rw[a1z])⟩
   ·exact xT h hpn
  have hb:BdC c:=by
   rcases hc with rfl|h
   ·exact Bd.nil
   ·exact h.bd.mono (by omega) (by omega) (by decide)
  have sp:=c21x c n.1 (hc.imp id SmC.toCellOK) hb (hpn.mono (by decide))
  have e1:=b8x l (aS n.1 c).1
  have il:=ihl n.2.1 (aS n.1 c).1 (d+1) out (m+1) hn3 (by omega) hsm.1 (by omega) (by omega)
  have ir:=ihr n.2.2 (aS n.1 c).2 (d+1) (out++l.cells (aS n.1 c).1) (m+1+(2*l.ids.length+1)) hn4 (by omega) hsm.2 (by omega) (by rw[List.length_append];omega)
  have ho':out++(BT.nd j n.1 l r).cells c=(out++l.cells (aS n.1 c).1)++r.cells (aS n.1 c).2:=by simp only[BT.cells,List.append_assoc]
  have hm':m+(2*(l.ids.length+r.ids.length+1)+1)=m+1+(2*l.ids.length+1)+(2*r.ids.length+1):=by omega
  rw[ho',hm']
  clear ihl ihr hc hsm hje hn1 hn3 hn4 hpn ho' hm' hb e1
  generalize (out++l.cells (aS n.1 c).1)++r.cells (aS n.1 c).2=o3 at *
  generalize out++l.cells (aS n.1 c).1=o2 at *
  generalize m+1+(2*l.ids.length+1)+(2*r.ids.length+1)=m3 at *
  generalize m+1+(2*l.ids.length+1)=m2 at *
  generalize (aS n.1 c).1=A at *
  generalize (aS n.1 c).2=B at *
  obtain⟨p,x,y⟩:=n
  dsimp only[eN]at es1 sp il ir
  simp only[eH,e4]at sp
  refine e9 func170 rfl 49 rfl rfl (by simp) (.tup _ (by simp)) (obD k0 N out o3 m m3) [] (congrArg Array.toList results170) ?_
  simp only[aD,Nat.reduceAdd]
  repeat'(first|refine zg ?_|(refine zc ?_ ?_<;>intro hc<;>first|simp only[NM]at hc|omega|skip)|refine zr ?_|(refine AW.ret (b6 ?_ (by intro p hp;simp only[zM,or_false]at hp;rcases hp with rfl|rfl|rfl|rfl|rfl<;>rfl))<;>simp -dsimp (disch:=try exact zo)only[go_sem])|(refine AW.nil (b6 ?_ (by intro p hp;simp only[zM,or_false]at hp;rcases hp with rfl|rfl|rfl|rfl|rfl<;>rfl))<;>simp -dsimp (disch:=try exact zo)only[go_sem])|(refine callC a4p cv (by intro p hp;simp only[zM,or_false]at hp;rcases hp with rfl|rfl|rfl<;>rfl) ?_)|(first|refine callD iK il (by intro p hp;simp only[zM,or_false]at hp;rcases hp with rfl|rfl|rfl|rfl|rfl<;>rfl) ?_|refine callD iK ir (by intro p hp;simp only[zM,or_false]at hp;rcases hp with rfl|rfl|rfl|rfl|rfl<;>rfl) ?_)|(refine zp sp (by simp -dsimp (disch:=try exact zo)only[go_sem,aG,aC]) (iM _ _) ?_)|refine⟨by omega,?_⟩|(refine zb ?_ ?_<;>intro hg<;>(try rw[hg])<;>try simp only[NM]at hg)|omega|simp -dsimp (disch:=try exact zo)only[go_sem,hl,es1,k1,k2,k5,aG,aL,ZT]|contradiction|rfl)
end Go.Proofs.Vx
namespace Go.Proofs.Vx
open Go Go.Sx Go.Proofs Tryz
attribute [local irreducible] fnT CallOK CallFr AW aO callV aP aN aM aQ gcaseP hid
abbrev j3 (k0:Int) (N:List TN) (out:List aF) (m:Nat):List (Nat × AV):=[(11,.blk [.clo 170 [.loc 10 0,.fp (eTr k0 N),.loc 11 0]]),(10,.blk [.clo 115 [.loc 0 0,.loc 2 0,.fp (eTr k0 N)]]),(0,.blk [.ref 1 0 out.length out.length]),(1,.vec 1 (cL out)),(2,.blk [.lit (.int .i64 (m:Int))])]
abbrev argE (k0:Int) (N:List TN) (k:Int) (c:aF):List AV:=[.lit (.int .i64 k),.agg [.sl (eS c)],.loc 10 0,.fp (eTr k0 N),.loc 11 0]
theorem obE (k0:Int) (N:List TN) (out out':List aF) (m m':Nat):∀ p∈j3 k0 N out' m',p.1∈(j3 k0 N out m).map (·.1)∧InC (fun i=>i∈(j3 k0 N out m).map (·.1)) p.2:=by
 intro p hp
 simp only[zM,or_false]at hp
 rcases hp with rfl|rfl|rfl|rfl|rfl
 ·refine⟨by simp,fun c hc=>?_⟩
  obtain rfl:=List.mem_singleton.1 hc
  refine .clo _ _ fun x hx=>?_
  simp only[zM,or_false]at hx
  rcases hx with rfl|rfl|rfl
  ·exact .loc _ _ (by simp)
  ·exact cG _ _
  ·exact .loc _ _ (by simp)
 ·refine⟨by simp,fun c hc=>?_⟩
  obtain rfl:=List.mem_singleton.1 hc
  refine .clo _ _ fun x hx=>?_
  simp only[zM,or_false]at hx
  rcases hx with rfl|rfl|rfl
  ·exact .loc _ _ (by simp)
  ·exact .loc _ _ (by simp)
  ·exact cG _ _
 ·refine⟨by simp,fun c hc=>?_⟩
  obtain rfl:=List.mem_singleton.1 hc
  exact .ref _ _ _ _ (by simp)
 ·exact⟨by simp,fun e he c hc=>of_eq_true (fX _) e he c hc⟩
 ·refine⟨by simp,fun c hc=>?_⟩
  obtain rfl:=List.mem_singleton.1 hc
  exact .lit _
theorem lvE (k0:Int) (N:List TN) (out:List aF) (m:Nat):∀ p∈j3 k0 N out m,p.2.live=true:=by
 intro p hp
 simp only[zM,or_false]at hp
 rcases hp with rfl|rfl|rfl|rfl|rfl<;>rfl
theorem callE {k0:Int} {N:List TN} {k:Int} {c:aF} {out out':List aF} {m m':Nat} {i:Nat} {ob:Nat→AV} {E:Eff→Prop} (hf:fnT prog 170=true) (hc:CallOK prog 170 (argE k0 N k c) (j3 k0 N out m) (.tup []) (j3 k0 N out' m')) (hob:∀ p∈j3 k0 N out m,ob p.1=p.2) (h:E ⟨.tup [],j3 k0 N out' m',[11,10,0,1,2]⟩):callV prog 170 (argE k0 N k c) i ob E :=
 kA _ _ _ hf hc hob (by
  intro x hx
  simp only[zM,or_false]at hx
  rcases hx with rfl|rfl|rfl|rfl|rfl
  ·exact .lit _
  ·exact bV _
  ·exact .loc _ _ (by simp)
  ·exact cG _ _
  ·exact .loc _ _ (by simp)) (fun p hp=>(obE k0 N out out m m p hp).2) (show ([11,10,0,1,2]:List Nat).Nodup by decide) (.tup _ (by simp)) (obE k0 N out out' m m') rfl (lvE k0 N out m) h
def sgE (i:Nat):Nat:=if i=0 then 11 else if i=1 then 10 else if i=2 then 0 else if i=4 then 1 else 2
def tuE (i:Nat):Nat:=if i=11 then 0 else if i=10 then 1 else if i=0 then 2 else if i=1 then 4 else 3
theorem tpD (k0:Int) (N:List TN) (out:List aF) (m:Nat):∀ p∈iH k0 N out m,gK (fun i=>i∈[0,1,2,4,3]) p.2:=by
 intro p hp
 simp only[zM,or_false]at hp
 rcases hp with rfl|rfl|rfl|rfl|rfl
 ·intro c hc
  obtain rfl:=List.mem_singleton.1 hc
  intro x hx
  simp only[zM,or_false]at hx
  rcases hx with rfl|rfl|rfl
  ·simp[fH]
  ·exact cG _ _
  ·simp[fH]
 ·intro c hc
  obtain rfl:=List.mem_singleton.1 hc
  intro x hx
  simp only[zM,or_false]at hx
  rcases hx with rfl|rfl|rfl
  ·simp[fH]
  ·simp[fH]
  ·exact cG _ _
 ·intro c hc
  obtain rfl:=List.mem_singleton.1 hc
  simp[gW,fH]
 ·exact fun e he c hc=>of_eq_true (fX _) e he c hc
 ·intro c hc
  obtain rfl:=List.mem_singleton.1 hc
  exact .lit _
theorem renE {k0:Int} {N:List TN} {k:Int} {c:aF} {out out':List aF} {m m':Nat} (h:CallOK prog 170 (argD k0 N k c) (iH k0 N out m) (.tup []) (iH k0 N out' m')):CallOK prog 170 (argE k0 N k c) (j3 k0 N out m) (.tup []) (j3 k0 N out' m'):=by
 have:=h.renG sgE tuE (fun p hp=>by
  simp only[zM,or_false]at hp
  rcases hp with rfl|rfl|rfl|rfl|rfl<;>rfl) (fun p hp=>tpD k0 N out m p hp) (fun p hp=>by
  refine⟨?_,tpD k0 N out' m' p hp⟩
  simp only[zM,or_false]at hp
  rcases hp with rfl|rfl|rfl|rfl|rfl<;>simp) (.tup _ (by simp)) (fun x hx=>by
  simp only[zM,or_false]at hx
  rcases hx with rfl|rfl|rfl|rfl|rfl
  ·exact .lit _
  ·exact bV _
  ·show (1:Nat)∈[0,1,2,4,3];decide
  ·exact cG _ _
  ·show (0:Nat)∈[0,1,2,4,3];decide)
 exact this
abbrev gX (a v q:Nat) (out:List aF) (m:Nat):List (Nat × AV):=[(a,.blk [.ref v 0 out.length out.length]),(v,.vec 1 (cL out)),(q,.blk [.lit (.int .i64 (m:Int))])]
abbrev tR (a q:Nat) (k0:Int) (N:List TN) (k:Int) (c:aF):List AV:=[.agg (eTr k0 N),.lit (.int .i64 k),.agg [.sl (eS c)],.clo 115 [.loc a 0,.loc q 0,.fp (eTr k0 N)]]
theorem obF (a v q:Nat) (out out':List aF) (m m':Nat):∀ p∈gX a v q out' m',p.1∈(gX a v q out m).map (·.1)∧InC (fun i=>i∈(gX a v q out m).map (·.1)) p.2:=by
 intro p hp
 simp only[zM,or_false]at hp
 rcases hp with rfl|rfl|rfl
 ·refine⟨by simp,fun c hc=>?_⟩
  obtain rfl:=List.mem_singleton.1 hc
  exact .ref _ _ _ _ (by simp)
 ·exact⟨by simp,fun e he c hc=>of_eq_true (fX _) e he c hc⟩
 ·refine⟨by simp,fun c hc=>?_⟩
  obtain rfl:=List.mem_singleton.1 hc
  exact .lit _
set_option maxRecDepth 20000 in
theorem c101c (k0:Int) (N:List TN) (hN:N.length≤14) (hP:∀ n∈N,BPl 6 n.1) (T:BT) (k:Int) (c:aF) (d:Nat) (hr:Rep N T k) (hd:d+T.ht≤64) (hc:c=[]∨SmC d c) (hi:T.ids.length≤N.length):CallOK prog 101 (tR 0 2 k0 N k c) (gX 0 1 2 [] 0) (.tup []) (gX 0 1 2 (T.cells c) (2*T.ids.length+1)):=by
 have cw:=renE (c170c k0 N hN hP T k c d [] 0 hr hd hc (by omega) (by simp only[List.length_nil];omega))
 rw[List.nil_append,Nat.zero_add]at cw
 generalize T.cells c=out at *
 generalize 2*T.ids.length+1=m at *
 clear hr hd hc hP
 refine e9 func101 rfl 14 rfl rfl (by simp) (.tup _ (by simp)) (obF 0 1 2 [] out 0 m) [] (congrArg Array.toList results101) ?_
 simp only[aD,Nat.reduceAdd]
 repeat'(first|refine y5 2 rfl ?_|refine zg ?_|(refine zc ?_ ?_<;>intro hc<;>first|simp only[NM]at hc|omega|skip)|refine zr ?_|refine⟨by omega,?_⟩|(refine zb ?_ ?_<;>intro hg<;>(try rw[hg])<;>try simp only[NM]at hg)|omega|simp -dsimp (disch:=try exact zo)only[go_sem,aG,aL,fX]|contradiction|rfl)
 refine Hold.out ?_
 refine AW.weak (w6 8 (t:=[(1,.lit (.int .i64 k)),(4,.fp (eTr k0 N)),(6,.loc 9 0),(7,.loc 10 0),(8,.loc 11 0)]) (o:=[(0,.blk [.ref 1 0 0 0]),(1,.vec 1 (cL [])),(2,.blk [.lit (.int .i64 0)]),(9,.blk [.sl (eS c)]),(10,.blk [.clo 115 [.loc 0 0,.loc 2 0,.fp (eTr k0 N)]]),(11,.blk [.lit .nilFunc])]) (by
  intro p hp
  simp only[zM,or_false]at hp
  rcases hp with rfl|rfl|rfl|rfl|rfl<;>first|exact .inl rfl|exact .inr rfl) (by
  intro p hp
  simp only[zM,or_false]at hp
  rcases hp with rfl|rfl|rfl|rfl|rfl|rfl<;>exact⟨by simp,rfl⟩)) ?_
 repeat'(first|refine zg ?_|(refine zc ?_ ?_<;>intro hc<;>first|simp only[NM]at hc|omega|skip)|refine zr ?_|(refine AW.nil (b6 ?_ (by intro p hp;simp only[zM,or_false]at hp;rcases hp with rfl|rfl|rfl<;>rfl))<;>simp -dsimp (disch:=try exact zo)only[go_sem])|(refine callE iK cw (by intro p hp;simp only[zM,or_false]at hp;rcases hp with rfl|rfl|rfl|rfl|rfl<;>rfl) ?_)|refine⟨by omega,?_⟩|(refine zb ?_ ?_<;>intro hg<;>(try rw[hg])<;>try simp only[NM]at hg)|omega|simp -dsimp (disch:=try exact zo)only[go_sem,aG,aL,fX]|contradiction|rfl)
end Go.Proofs.Vx
namespace Go.Proofs.Vx
open Go Go.Sx Go.Proofs Tryz
attribute [local irreducible] fnT CallOK CallFr AW aO callV aP aN aM aQ gcaseP hid
theorem c3f:zeT prog 38=some [.lit (.slice none 0 0)]:=by kernel_rfl
attribute [go_sem] c3f
theorem tpF (out:List aF) (m:Nat):∀ p∈gX 0 1 2 out m,gK (fun i=>i∈[0,1,2]) p.2:=by
 intro p hp
 simp only[zM,or_false]at hp
 rcases hp with rfl|rfl|rfl
 ·intro c hc
  obtain rfl:=List.mem_singleton.1 hc
  simp[gW,fH]
 ·exact fun e he c hc=>of_eq_true (fX _) e he c hc
 ·intro c hc
  obtain rfl:=List.mem_singleton.1 hc
  exact .lit _
theorem renF {k0:Int} {N:List TN} {k:Int} {c:aF} {out out':List aF} {m m':Nat} (h:CallOK prog 101 (tR 0 2 k0 N k c) (gX 0 1 2 out m) (.tup []) (gX 0 1 2 out' m')):CallOK prog 101 (tR 10 11 k0 N k c) (gX 10 13 11 out m) (.tup []) (gX 10 13 11 out' m'):=by
 have:=h.renG (fun i=>if i=0 then 10 else if i=1 then 13 else 11) (fun i=>if i=10 then 0 else if i=13 then 1 else 2) (fun p hp=>by
  simp only[zM,or_false]at hp
  rcases hp with rfl|rfl|rfl<;>rfl) (fun p hp=>tpF out m p hp) (fun p hp=>by
  refine⟨?_,tpF out' m' p hp⟩
  simp only[zM,or_false]at hp
  rcases hp with rfl|rfl|rfl<;>simp) (.tup _ (by simp)) (fun x hx=>by
  simp only[zM,or_false]at hx
  rcases hx with rfl|rfl|rfl|rfl
  ·exact jF _ _
  ·exact .lit _
  ·exact bV _
  ·intro x hx
   simp only[zM,or_false]at hx
   rcases hx with rfl|rfl|rfl
   ·show (0:Nat)∈[0,1,2];decide
   ·show (2:Nat)∈[0,1,2];decide
   ·exact cG _ _)
 exact this
theorem callF {k0:Int} {N:List TN} {k:Int} {c:aF} {out out':List aF} {m m':Nat} {i:Nat} {ob:Nat→AV} {E:Eff→Prop} (hf:fnT prog 101=true) (hc:CallOK prog 101 (tR 10 11 k0 N k c) (gX 10 13 11 out m) (.tup []) (gX 10 13 11 out' m')) (hob:∀ p∈gX 10 13 11 out m,ob p.1=p.2) (h:E ⟨.tup [],gX 10 13 11 out' m',[10,13,11]⟩):callV prog 101 (tR 10 11 k0 N k c) i ob E :=
 kA _ _ _ hf hc hob (by
  intro x hx
  simp only[zM,or_false]at hx
  rcases hx with rfl|rfl|rfl|rfl
  ·exact jF _ _
  ·exact .lit _
  ·exact bV _
  ·refine .clo _ _ fun x hx=>?_
   simp only[zM,or_false]at hx
   rcases hx with rfl|rfl|rfl
   ·exact .loc _ _ (by simp)
   ·exact .loc _ _ (by simp)
   ·exact cG _ _) (fun p hp=>(obF 10 13 11 out out m m p hp).2) (show ([10,13,11]:List Nat).Nodup by decide) (.tup _ (by simp)) (obF 10 13 11 out out' m m') rfl (by
  intro p hp
  simp only[zM,or_false]at hp
  rcases hp with rfl|rfl|rfl<;>rfl) h
theorem inCs (out:List aF):In (fun _=>False) (.sl (cL out)):=.sl _ (of_eq_true (fX out))
set_option maxRecDepth 20000 in
theorem c52v (k0:Int) (N:List TN) (T:BT) (h:TrB N k0 T):CallVc prog 52 [.agg (eTr k0 N)] 1 (cL (T.cells aX)):=by
 refine CallVc.flat func52 rfl 12 rfl rfl (of_eq_true (fX _)) [.tmp 2] (congrArg Array.toList results52) ?_
 simp only[aD,Nat.reduceAdd]
 have hh:=h.ht
 have cw:=renF (c101c k0 N h.n (fun n hn=>(h.b n hn).mono (by decide)) T k0 aX 6 h.rep (by omega) (.inr xP) (Nat.le_of_eq h.len))
 have w0:=c57
 clear h hh
 generalize T.cells aX=out at *
 generalize 2*T.ids.length+1=m at *
 generalize aX=W at *
 have hcl:(cL out).length=out.length:=zN out
 repeat'(first|refine y5 3 rfl ?_|refine zg ?_|(refine zc ?_ ?_<;>intro hc<;>first|simp only[NM]at hc|omega|skip)|refine zr ?_|refine⟨by omega,?_⟩|(refine zb ?_ ?_<;>intro hg<;>(try rw[hg])<;>try simp only[NM]at hg)|omega|simp -dsimp (disch:=try exact zo)only[go_sem,aG,aL,fX]|contradiction|rfl)
 refine Hold.out ?_
 refine AW.weak (jK 10 0 1 [.lit (.slice none 0 0)] (by decide) rfl (by decide) rfl (by show 10<13;decide)) ?_
 refine AW.weak (w6 8 (t:=[(1,.fp (eTr k0 N)),(3,.loc 10 0),(4,.loc 11 0)]) (o:=[(10,.blk [.ref 13 0 0 0]),(13,.vec 1 (cL [])),(11,.blk [.lit (.int .i64 0)])]) (by
  intro p hp
  simp only[zM,or_false]at hp
  rcases hp with rfl|rfl|rfl<;>first|exact .inl rfl|exact .inr rfl) (by
  intro p hp
  simp only[zM,or_false]at hp
  rcases hp with rfl|rfl|rfl<;>exact⟨by simp,rfl⟩)) ?_
 repeat'(first|refine zg ?_|(refine zc ?_ ?_<;>intro hc<;>first|simp only[NM]at hc|omega|skip)|(refine AW.ret (pM ?_);simp -dsimp (disch:=try exact zo)only[go_sem,aG,aL,fX,hcl]<;>try (exact⟨_,rfl,rfl⟩))|(refine zp w0 (by simp) (bV _) ?_)|(refine callF yG cw (by intro p hp;simp only[zM,or_false]at hp;rcases hp with rfl|rfl|rfl<;>rfl) ?_)|refine⟨by omega,?_⟩|(refine zb ?_ ?_<;>intro hg<;>(try rw[hg])<;>try simp only[NM]at hg)|omega|simp -dsimp (disch:=try exact zo)only[go_sem,aG,aL,fX,hcl]|contradiction)
theorem c52 (k0:Int) (N:List TN) (T:BT) (h:TrB N k0 T):CallOK prog 52 [.agg (eTr k0 N)] [] (.sl (cL (T.cells aX))) []:=(c52v k0 N T h).ok
end Go.Proofs.Vx
