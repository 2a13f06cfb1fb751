import Derived.Test.YtjlfgmhmalbiiaaGreatDoorX37
set_option linter.all false
set_option maxHeartbeats 16000000
open Array renaming toList → Ad
open List renaming mem_singleton → Aa, getElem?_eq_some_iff → Ac, length_append → Ae, mem_of_getElem? → Af, foldl_append → Ag, length_nil → Ah
open Nat renaming reduceAdd → Ab, zero_add → Ai
namespace Go.Proofs.Vx
open Go Go.Sx Go.Proofs Tryz
attribute [local irreducible] fnT CallOK CallFr AW aK callV aL aJ aI aM gcaseP hid
theorem b6l:agT prog 38=some false∧byT prog 33=some 24∧szT prog 38=some 1:=by and_intros<;>kernel_rfl
attribute [go_sem] b6l
def cL (out:List aE):List (List AV):=out.map fun c=>[.sl (eS c)]
theorem rJ (out:List aE):(cL out).length=out.length:=List.length_map _
theorem kQ {K:Nat→Prop} (out:List aE):(∀ e∈cL out,∀ c∈e,In K c)=True:=eq_true fun e he c hc=>by
 obtain⟨n,_,rfl⟩:=List.mem_map.1 he
 obtain rfl:=Aa.1 hc
 exact .sl _ (of_eq_true (mD _))
abbrev mJ (out:List aE) (m:Int):List (Nat × AV):=[(2,.blk [.ref 4 0 out.length out.length]),(4,.vec 1 (cL out)),(3,.blk [.lit (.int .i64 m)])]
abbrev argC (k0:Int) (N:List TN) (k:Int) (c:aE):List AV:=[.lit (.int .i64 k),.agg [.sl (eS c)],.loc 2 0,.loc 3 0,.fp (eTr k0 N)]
theorem obC (out out':List aE) (m m':Int):∀ p∈mJ out' m',p.1∈(mJ out m).map (·.1)∧InC (fun i=>i∈(mJ out m).map (·.1)) p.2:=by
 intro p hp
 simp only[zM,or_false]at hp
 rcases hp with rfl|rfl|rfl
 ·refine⟨by simp,fun c hc=>?_⟩
  obtain rfl:=Aa.1 hc
  exact .ref _ _ _ _ (by simp)
 ·exact⟨by simp,fun e he c hc=>of_eq_true (kQ _) e he c hc⟩
 ·refine⟨by simp,fun c hc=>?_⟩
  obtain rfl:=Aa.1 hc
  exact .lit _
theorem callC {k0:Int} {N:List TN} {k:Int} {c:aE} {out out':List aE} {m m':Int} {r:Bool} {i:Nat} {ob:Nat→AV} {E:Eff→Prop} (hf:fnT prog 115=true) (hc:CallOK prog 115 (argC k0 N k c) (mJ out m) (.lit (.bool r)) (mJ out' m')) (hob:∀ p∈mJ out m,ob p.1=p.2) (h:E ⟨.lit (.bool r),mJ out' m',[2,4,3]⟩):callV prog 115 (argC k0 N k c) i ob E :=
 lI _ _ _ hf hc hob (by
  intro x hx
  simp only[zM,or_false]at hx
  rcases hx with rfl|rfl|rfl|rfl|rfl
  ·exact .lit _
  ·exact fO _
  ·exact .loc _ _ (by simp)
  ·exact .loc _ _ (by simp)
  ·exact cJ _ _) (fun p hp=>(obC out out m m p hp).2) (show ([2,4,3]:List Nat).Nodup by decide) (.lit _) (obC out out' m m') rfl (by
  intro p hp
  simp only[zM,or_false]at hp
  rcases hp with rfl|rfl|rfl<;>rfl) h
attribute [go_sem] kQ
set_option maxRecDepth 20000 in
theorem c115 (k0:Int) (N:List TN) (hN:N.length≤14) (k:Int) (c:aE) (out out':List aE) (m:Nat) (ho:out'=if k=-1 then out++[c]else out) (hn:out.length≤4096) (hm:m≤4096) (r:Bool) (hr:r=decide (m+1≤2*N.length+1)):CallOK prog 115 (argC k0 N k c) (mJ out m) (.lit (.bool r)) (mJ out' (m+1:Nat)):=by
 refine fL func115 rfl 23 rfl rfl (by simp) (.lit _) (obC out out' m _) [.tmp 7] (congrArg Ad results115) ?_
 simp only[aD,Ab]
 have hml:maxLen=9223372036854775807:=rfl
 have hl:(eTS N).length=N.length:=jU N
 have hcl:(cL out).length=out.length:=rJ out
 have k3:decide (((m:Int)+1)≤2*(N.length:Int)+1)=r:=by rw[hr];congr 1;apply propext;omega
 have hm1:((m+1:Nat):Int)=(m:Int)+1:=by omega
 rw[hm1]
 by_cases q:k=-1
 ·rw[if_pos q]at ho
  have he1:out'.length=out.length+1:=by rw[ho,Ae];rfl
  have he2:cL out'=cL out++[[.sl (eS c)]]:=by rw[ho];unfold cL;rw[List.map_append];rfl
  have k1:(k=-1)=True:=eq_true q
  clear ho
  repeat'(first|refine zk ?_|(refine zu ?_ ?_<;>intro hc)|(refine AW.ret (b9 ?_ ?_)<;>simp -dsimp (disch:=try exact zo)only[go_sem,he1,he2,k3])|(refine zv ?_ ?_<;>intro hg)|omega|simp -dsimp (disch:=try exact zo)only[go_sem,hl,k1,k3,he1,he2,hcl]|contradiction|rfl)
 ·rw[if_neg q]at ho
  have he1:out'.length=out.length:=by rw[ho]
  have he2:cL out'=cL out:=by rw[ho]
  have k1:(k=-1)=False:=eq_false q
  clear ho
  repeat'(first|refine zk ?_|(refine zu ?_ ?_<;>intro hc)|(refine AW.ret (b9 ?_ ?_)<;>simp -dsimp (disch:=try exact zo)only[go_sem,he1,he2,k3])|(refine zv ?_ ?_<;>intro hg)|omega|simp -dsimp (disch:=try exact zo)only[go_sem,hl,k1,k3,he1,he2,hcl]|contradiction|rfl)
end Go.Proofs.Vx
namespace Go.Proofs.Vx
open Go Go.Sx Go.Proofs Tryz
attribute [local irreducible] fnT CallOK CallFr AW aK callV aL aJ aI aM gcaseP hid
theorem a8p:fnT prog 115=true:=by kernel_rfl
abbrev iZ (k0:Int) (N:List TN) (out:List aE) (m:Nat):List (Nat × AV):=[(0,.blk [.clo 170 [.loc 1 0,.fp (eTr k0 N),.loc 0 0]]),(1,.blk [.clo 115 [.loc 2 0,.loc 3 0,.fp (eTr k0 N)]]),(2,.blk [.ref 4 0 out.length out.length]),(4,.vec 1 (cL out)),(3,.blk [.lit (.int .i64 (m:Int))])]
abbrev argD (k0:Int) (N:List TN) (k:Int) (c:aE):List AV:=[.lit (.int .i64 k),.agg [.sl (eS c)],.loc 1 0,.fp (eTr k0 N),.loc 0 0]
theorem obD (k0:Int) (N:List TN) (out out':List aE) (m m':Nat):∀ p∈iZ k0 N out' m',p.1∈(iZ k0 N out m).map (·.1)∧InC (fun i=>i∈(iZ k0 N out m).map (·.1)) p.2:=by
 intro p hp
 simp only[zM,or_false]at hp
 rcases hp with rfl|rfl|rfl|rfl|rfl
 ·refine⟨by simp,fun c hc=>?_⟩
  obtain rfl:=Aa.1 hc
  refine .clo _ _ fun x hx=>?_
  simp only[zM,or_false]at hx
  rcases hx with rfl|rfl|rfl
  ·exact .loc _ _ (by simp)
  ·exact cJ _ _
  ·exact .loc _ _ (by simp)
 ·refine⟨by simp,fun c hc=>?_⟩
  obtain rfl:=Aa.1 hc
  refine .clo _ _ fun x hx=>?_
  simp only[zM,or_false]at hx
  rcases hx with rfl|rfl|rfl
  ·exact .loc _ _ (by simp)
  ·exact .loc _ _ (by simp)
  ·exact cJ _ _
 ·refine⟨by simp,fun c hc=>?_⟩
  obtain rfl:=Aa.1 hc
  exact .ref _ _ _ _ (by simp)
 ·exact⟨by simp,fun e he c hc=>of_eq_true (kQ _) e he c hc⟩
 ·refine⟨by simp,fun c hc=>?_⟩
  obtain rfl:=Aa.1 hc
  exact .lit _
theorem lvD (k0:Int) (N:List TN) (out:List aE) (m:Nat):∀ p∈iZ k0 N out m,p.2.live=true:=by
 intro p hp
 simp only[zM,or_false]at hp
 rcases hp with rfl|rfl|rfl|rfl|rfl<;>rfl
theorem callD {k0:Int} {N:List TN} {k:Int} {c:aE} {out out':List aE} {m m':Nat} {i:Nat} {ob:Nat→AV} {E:Eff→Prop} (hf:fnT prog 170=true) (hc:CallOK prog 170 (argD k0 N k c) (iZ k0 N out m) (.tup []) (iZ k0 N out' m')) (hob:∀ p∈iZ k0 N out m,ob p.1=p.2) (h:E ⟨.tup [],iZ k0 N out' m',[0,1,2,4,3]⟩):callV prog 170 (argD k0 N k c) i ob E :=
 lI _ _ _ hf hc hob (by
  intro x hx
  simp only[zM,or_false]at hx
  rcases hx with rfl|rfl|rfl|rfl|rfl
  ·exact .lit _
  ·exact fO _
  ·exact .loc _ _ (by simp)
  ·exact cJ _ _
  ·exact .loc _ _ (by simp)) (fun p hp=>(obD k0 N out out m m p hp).2) (show ([0,1,2,4,3]:List Nat).Nodup by decide) (.tup _ (by simp)) (obD k0 N out out' m m') rfl (lvD k0 N out m) h
theorem c4j (T:BT) (c:aE):(T.cells c).length≤T.ids.length+1:=by
 rw[BT.cells_len]
 have:=BT.tl_turn T
 omega
set_option maxRecDepth 20000 in
theorem c170c (k0:Int) (N:List TN) (hN:N.length≤14) (hP:∀ n∈N,BPl 6 n.1) (T:BT):∀ (k:Int) (c:aE) (d:Nat) (out:List aE) (m:Nat),Rep N T k→d+T.ht≤64→(c=[]∨SmC d c)→m+(2*T.ids.length+1)≤2*N.length+1→out.length+(T.ids.length+1)≤4096→CallOK prog 170 (argD k0 N k c) (iZ k0 N out m) (.tup []) (iZ k0 N (out++T.cells c) (m+(2*T.ids.length+1))):=by
 have hl:(eTS N).length=N.length:=jU N
 induction T with
 | lf b0 =>
  intro k c d out m hk _ _ hm ho
  have hk0:k≤0:=by rw[show k=lfv b0 from hk];exact x8 b0
  simp only[BT.ids,Ah,Nat.mul_zero,Ai]at hm ho ⊢
  have hcs:out++BT.cells (.lf b0) c=if k=-1 then out++[c]else out:=by
   rw[show k=lfv b0 from hk]
   cases b0<;>simp[BT.cells,lfv]
  have cv:=c115 k0 N hN k c out (out++BT.cells (.lf b0) c) m hcs (by omega) (by omega) true (by rw[decide_eq_true (by omega)])
  generalize out++BT.cells (.lf b0) c=out' at *
  have k1:(k≤0)=True:=eq_true hk0
  have k2:True:=trivial
  have k5:True:=trivial
  have es1:True:=trivial
  have sp:True:=trivial
  have il:True:=trivial
  have ir:True:=trivial
  refine fL func170 rfl 49 rfl rfl (by simp) (.tup _ (by simp)) (obD k0 N out out' m (m+1)) [] (congrArg Ad results170) ?_
  simp only[aD,Ab]
  clear hk hcs
  repeat'(first|refine zg ?_|(refine zc ?_ ?_<;>intro hc<;>first|simp only[NM]at hc|omega|skip)|refine zr ?_|(refine AW.ret (b9 ?_ (by intro p hp;simp only[zM,or_false]at hp;rcases hp with rfl|rfl|rfl|rfl|rfl<;>rfl))<;>simp -dsimp (disch:=try exact zo)only[go_sem])|(refine AW.nil (b9 ?_ (by intro p hp;simp only[zM,or_false]at hp;rcases hp with rfl|rfl|rfl|rfl|rfl<;>rfl))<;>simp -dsimp (disch:=try exact zo)only[go_sem])|(refine callC a8p cv (by intro p hp;simp only[zM,or_false]at hp;rcases hp with rfl|rfl|rfl<;>rfl) ?_)|(first|refine callD jA il (by intro p hp;simp only[zM,or_false]at hp;rcases hp with rfl|rfl|rfl|rfl|rfl<;>rfl) ?_|refine callD jA ir (by intro p hp;simp only[zM,or_false]at hp;rcases hp with rfl|rfl|rfl|rfl|rfl<;>rfl) ?_)|(refine zq sp ?_)|refine⟨by omega,?_⟩|(refine zb ?_ ?_<;>intro hg<;>(try rw[hg])<;>try simp only[NM]at hg)|omega|simp -dsimp (disch:=try exact zo)only[go_sem,hl,es1,k1,k2,k5,ZT]|contradiction|rfl)
 | nd j p l r ihl ihr =>
  intro k c d out m hk hd hc hm ho
  obtain⟨rfl,n,hn1,rfl,hn3,hn4⟩:=hk
  have hj:=(Ac.1 hn1).1
  have hje:=(Ac.1 hn1).2
  have es1:=oE N j hj
  rw[hje]at es1
  have hpn:=hP n (Af hn1)
  simp only[BT.ht]at hd
  simp only[BT.ids,List.length_cons,Ae]at hm ho ⊢
  have cv:=c115 k0 N hN ((j:Int)+1) c out out m (by rw[if_neg (by omega)]) (by omega) (by omega) true (by rw[decide_eq_true (by omega)])
  have k1:((j:Int)+1≤0)=False:=eq_false (by omega)
  have k2:((N.length:Int)<(j:Int)+1)=False:=eq_false (by omega)
  have k5:((j:Int)+1 - 1)=(j:Int):=by omega
  have hsm:((aQ n.1 c).1=[]∨SmC (d+1) (aQ n.1 c).1)∧((aQ n.1 c).2=[]∨SmC (d+1) (aQ n.1 c).2):=by
   rcases hc with rfl|h
   ·exact⟨.inl (by rw[a5o]),.inl (by rw[a5o])⟩
   ·exact wY h hpn
  have hb:BdC c:=by
   rcases hc with rfl|h
   ·exact Bd.nil
   ·exact h.bd.mono (by omega) (by omega) (by decide)
  have sp:=c21x c n.1 (hc.imp id SmC.toCellOK) hb (hpn.mono (by decide))
  have e1:=c4j l (aQ n.1 c).1
  have il:=ihl n.2.1 (aQ n.1 c).1 (d+1) out (m+1) hn3 (by omega) hsm.1 (by omega) (by omega)
  have ir:=ihr n.2.2 (aQ n.1 c).2 (d+1) (out++l.cells (aQ n.1 c).1) (m+1+(2*l.ids.length+1)) hn4 (by omega) hsm.2 (by omega) (by rw[Ae];omega)
  have ho':out++(BT.nd j n.1 l r).cells c=(out++l.cells (aQ n.1 c).1)++r.cells (aQ n.1 c).2:=by simp only[BT.cells,List.append_assoc]
  have hm':m+(2*(l.ids.length+r.ids.length+1)+1)=m+1+(2*l.ids.length+1)+(2*r.ids.length+1):=by omega
  rw[ho',hm']
  clear ihl ihr hc hsm hje hn1 hn3 hn4 hpn ho' hm' hb e1
  generalize (out++l.cells (aQ n.1 c).1)++r.cells (aQ n.1 c).2=o3 at *
  generalize out++l.cells (aQ n.1 c).1=o2 at *
  generalize m+1+(2*l.ids.length+1)+(2*r.ids.length+1)=m3 at *
  generalize m+1+(2*l.ids.length+1)=m2 at *
  generalize (aQ n.1 c).1=A at *
  generalize (aQ n.1 c).2=B at *
  obtain⟨p,x,y⟩:=n
  dsimp only[eN]at es1 sp il ir
  simp only[eH,e4]at sp
  refine fL func170 rfl 49 rfl rfl (by simp) (.tup _ (by simp)) (obD k0 N out o3 m m3) [] (congrArg Ad results170) ?_
  simp only[aD,Ab]
  repeat'(first|refine zg ?_|(refine zc ?_ ?_<;>intro hc<;>first|simp only[NM]at hc|omega|skip)|refine zr ?_|(refine AW.ret (b9 ?_ (by intro p hp;simp only[zM,or_false]at hp;rcases hp with rfl|rfl|rfl|rfl|rfl<;>rfl))<;>simp -dsimp (disch:=try exact zo)only[go_sem])|(refine AW.nil (b9 ?_ (by intro p hp;simp only[zM,or_false]at hp;rcases hp with rfl|rfl|rfl|rfl|rfl<;>rfl))<;>simp -dsimp (disch:=try exact zo)only[go_sem])|(refine callC a8p cv (by intro p hp;simp only[zM,or_false]at hp;rcases hp with rfl|rfl|rfl<;>rfl) ?_)|(first|refine callD jA il (by intro p hp;simp only[zM,or_false]at hp;rcases hp with rfl|rfl|rfl|rfl|rfl<;>rfl) ?_|refine callD jA ir (by intro p hp;simp only[zM,or_false]at hp;rcases hp with rfl|rfl|rfl|rfl|rfl<;>rfl) ?_)|(refine zq sp ?_)|refine⟨by omega,?_⟩|(refine zb ?_ ?_<;>intro hg<;>(try rw[hg])<;>try simp only[NM]at hg)|omega|simp -dsimp (disch:=try exact zo)only[go_sem,hl,es1,k1,k2,k5,ZT]|contradiction|rfl)
end Go.Proofs.Vx
namespace Go.Proofs.Vx
open Go Go.Sx Go.Proofs Tryz
attribute [local irreducible] fnT CallOK CallFr AW aK callV aL aJ aI aM gcaseP hid
abbrev kX (k0:Int) (N:List TN) (out:List aE) (m:Nat):List (Nat × AV):=[(11,.blk [.clo 170 [.loc 10 0,.fp (eTr k0 N),.loc 11 0]]),(10,.blk [.clo 115 [.loc 0 0,.loc 2 0,.fp (eTr k0 N)]]),(0,.blk [.ref 1 0 out.length out.length]),(1,.vec 1 (cL out)),(2,.blk [.lit (.int .i64 (m:Int))])]
abbrev argE (k0:Int) (N:List TN) (k:Int) (c:aE):List AV:=[.lit (.int .i64 k),.agg [.sl (eS c)],.loc 10 0,.fp (eTr k0 N),.loc 11 0]
theorem obE (k0:Int) (N:List TN) (out out':List aE) (m m':Nat):∀ p∈kX k0 N out' m',p.1∈(kX k0 N out m).map (·.1)∧InC (fun i=>i∈(kX k0 N out m).map (·.1)) p.2:=by
 intro p hp
 simp only[zM,or_false]at hp
 rcases hp with rfl|rfl|rfl|rfl|rfl
 ·refine⟨by simp,fun c hc=>?_⟩
  obtain rfl:=Aa.1 hc
  refine .clo _ _ fun x hx=>?_
  simp only[zM,or_false]at hx
  rcases hx with rfl|rfl|rfl
  ·exact .loc _ _ (by simp)
  ·exact cJ _ _
  ·exact .loc _ _ (by simp)
 ·refine⟨by simp,fun c hc=>?_⟩
  obtain rfl:=Aa.1 hc
  refine .clo _ _ fun x hx=>?_
  simp only[zM,or_false]at hx
  rcases hx with rfl|rfl|rfl
  ·exact .loc _ _ (by simp)
  ·exact .loc _ _ (by simp)
  ·exact cJ _ _
 ·refine⟨by simp,fun c hc=>?_⟩
  obtain rfl:=Aa.1 hc
  exact .ref _ _ _ _ (by simp)
 ·exact⟨by simp,fun e he c hc=>of_eq_true (kQ _) e he c hc⟩
 ·refine⟨by simp,fun c hc=>?_⟩
  obtain rfl:=Aa.1 hc
  exact .lit _
theorem lvE (k0:Int) (N:List TN) (out:List aE) (m:Nat):∀ p∈kX k0 N out m,p.2.live=true:=by
 intro p hp
 simp only[zM,or_false]at hp
 rcases hp with rfl|rfl|rfl|rfl|rfl<;>rfl
theorem callE {k0:Int} {N:List TN} {k:Int} {c:aE} {out out':List aE} {m m':Nat} {i:Nat} {ob:Nat→AV} {E:Eff→Prop} (hf:fnT prog 170=true) (hc:CallOK prog 170 (argE k0 N k c) (kX k0 N out m) (.tup []) (kX k0 N out' m')) (hob:∀ p∈kX k0 N out m,ob p.1=p.2) (h:E ⟨.tup [],kX k0 N out' m',[11,10,0,1,2]⟩):callV prog 170 (argE k0 N k c) i ob E :=
 lI _ _ _ hf hc hob (by
  intro x hx
  simp only[zM,or_false]at hx
  rcases hx with rfl|rfl|rfl|rfl|rfl
  ·exact .lit _
  ·exact fO _
  ·exact .loc _ _ (by simp)
  ·exact cJ _ _
  ·exact .loc _ _ (by simp)) (fun p hp=>(obE k0 N out out m m p hp).2) (show ([11,10,0,1,2]:List Nat).Nodup by decide) (.tup _ (by simp)) (obE k0 N out out' m m') rfl (lvE k0 N out m) h
def sgE (i:Nat):Nat:=if i=0 then 11 else if i=1 then 10 else if i=2 then 0 else if i=4 then 1 else 2
def tuE (i:Nat):Nat:=if i=11 then 0 else if i=10 then 1 else if i=0 then 2 else if i=1 then 4 else 3
theorem tpD (k0:Int) (N:List TN) (out:List aE) (m:Nat):∀ p∈iZ k0 N out m,g7 (fun i=>i∈[0,1,2,4,3]) p.2:=by
 intro p hp
 simp only[zM,or_false]at hp
 rcases hp with rfl|rfl|rfl|rfl|rfl
 ·intro c hc
  obtain rfl:=Aa.1 hc
  intro x hx
  simp only[zM,or_false]at hx
  rcases hx with rfl|rfl|rfl
  ·simp[fU]
  ·exact cJ _ _
  ·simp[fU]
 ·intro c hc
  obtain rfl:=Aa.1 hc
  intro x hx
  simp only[zM,or_false]at hx
  rcases hx with rfl|rfl|rfl
  ·simp[fU]
  ·simp[fU]
  ·exact cJ _ _
 ·intro c hc
  obtain rfl:=Aa.1 hc
  simp[iJ,fU]
 ·exact fun e he c hc=>of_eq_true (kQ _) e he c hc
 ·intro c hc
  obtain rfl:=Aa.1 hc
  exact .lit _
theorem renE {k0:Int} {N:List TN} {k:Int} {c:aE} {out out':List aE} {m m':Nat} (h:CallOK prog 170 (argD k0 N k c) (iZ k0 N out m) (.tup []) (iZ k0 N out' m')):CallOK prog 170 (argE k0 N k c) (kX k0 N out m) (.tup []) (kX k0 N out' m'):=by
 have:=h.renG sgE tuE (fun p hp=>by
  simp only[zM,or_false]at hp
  rcases hp with rfl|rfl|rfl|rfl|rfl<;>rfl) (fun p hp=>tpD k0 N out m p hp) (fun p hp=>by
  refine⟨?_,tpD k0 N out' m' p hp⟩
  simp only[zM,or_false]at hp
  rcases hp with rfl|rfl|rfl|rfl|rfl<;>simp) (.tup _ (by simp)) (fun x hx=>by
  simp only[zM,or_false]at hx
  rcases hx with rfl|rfl|rfl|rfl|rfl
  ·exact .lit _
  ·exact fO _
  ·show (1:Nat)∈[0,1,2,4,3];decide
  ·exact cJ _ _
  ·show (0:Nat)∈[0,1,2,4,3];decide)
 exact this
abbrev iK (a v q:Nat) (out:List aE) (m:Nat):List (Nat × AV):=[(a,.blk [.ref v 0 out.length out.length]),(v,.vec 1 (cL out)),(q,.blk [.lit (.int .i64 (m:Int))])]
abbrev vK (a q:Nat) (k0:Int) (N:List TN) (k:Int) (c:aE):List AV:=[.agg (eTr k0 N),.lit (.int .i64 k),.agg [.sl (eS c)],.clo 115 [.loc a 0,.loc q 0,.fp (eTr k0 N)]]
theorem obF (a v q:Nat) (out out':List aE) (m m':Nat):∀ p∈iK a v q out' m',p.1∈(iK a v q out m).map (·.1)∧InC (fun i=>i∈(iK a v q out m).map (·.1)) p.2:=by
 intro p hp
 simp only[zM,or_false]at hp
 rcases hp with rfl|rfl|rfl
 ·refine⟨by simp,fun c hc=>?_⟩
  obtain rfl:=Aa.1 hc
  exact .ref _ _ _ _ (by simp)
 ·exact⟨by simp,fun e he c hc=>of_eq_true (kQ _) e he c hc⟩
 ·refine⟨by simp,fun c hc=>?_⟩
  obtain rfl:=Aa.1 hc
  exact .lit _
set_option maxRecDepth 20000 in
theorem c101c (k0:Int) (N:List TN) (hN:N.length≤14) (hP:∀ n∈N,BPl 6 n.1) (T:BT) (k:Int) (c:aE) (d:Nat) (hr:Rep N T k) (hd:d+T.ht≤64) (hc:c=[]∨SmC d c) (hi:T.ids.length≤N.length):CallOK prog 101 (vK 0 2 k0 N k c) (iK 0 1 2 [] 0) (.tup []) (iK 0 1 2 (T.cells c) (2*T.ids.length+1)):=by
 have cw:=renE (c170c k0 N hN hP T k c d [] 0 hr hd hc (by omega) (by simp only[Ah];omega))
 rw[List.nil_append,Ai]at cw
 generalize T.cells c=out at *
 generalize 2*T.ids.length+1=m at *
 clear hr hd hc hP
 refine fL func101 rfl 14 rfl rfl (by simp) (.tup _ (by simp)) (obF 0 1 2 [] out 0 m) [] (congrArg Ad results101) ?_
 simp only[aD,Ab]
 repeat'(first|refine xS 2 rfl ?_|refine zk ?_|(refine zu ?_ ?_<;>intro hc)|(refine zv ?_ ?_<;>intro hg)|omega|simp -dsimp (disch:=try exact zo)only[go_sem]|contradiction|rfl)
 refine Hold.out ?_
 refine AW.weak (zC 8 (t:=[(1,.lit (.int .i64 k)),(4,.fp (eTr k0 N)),(6,.loc 9 0),(7,.loc 10 0),(8,.loc 11 0)]) (o:=[(0,.blk [.ref 1 0 0 0]),(1,.vec 1 (cL [])),(2,.blk [.lit (.int .i64 0)]),(9,.blk [.sl (eS c)]),(10,.blk [.clo 115 [.loc 0 0,.loc 2 0,.fp (eTr k0 N)]]),(11,.blk [.lit .nilFunc])]) (by
  intro p hp
  simp only[zM,or_false]at hp
  rcases hp with rfl|rfl|rfl|rfl|rfl<;>first|exact .inl rfl|exact .inr rfl) (by
  intro p hp
  simp only[zM,or_false]at hp
  rcases hp with rfl|rfl|rfl|rfl|rfl|rfl<;>exact⟨by simp,rfl⟩)) ?_
 repeat'(first|refine zk ?_|(refine zu ?_ ?_<;>intro hc)|(refine AW.nil (b9 ?_ (by intro p hp;simp only[zM,or_false]at hp;rcases hp with rfl|rfl|rfl<;>rfl))<;>simp -dsimp (disch:=try exact zo)only[go_sem])|(refine callE jA cw (by intro p hp;simp only[zM,or_false]at hp;rcases hp with rfl|rfl|rfl|rfl|rfl<;>rfl) ?_)|(refine zv ?_ ?_<;>intro hg)|omega|simp -dsimp (disch:=try exact zo)only[go_sem]|contradiction|rfl)
end Go.Proofs.Vx
namespace Go.Proofs.Vx
open Go Go.Sx Go.Proofs Tryz
attribute [local irreducible] fnT CallOK CallFr AW aK callV aL aJ aI aM gcaseP hid
theorem c9g:zeT prog 38=some [.lit (.slice none 0 0)]:=by kernel_rfl
attribute [go_sem] c9g
theorem tpF (out:List aE) (m:Nat):∀ p∈iK 0 1 2 out m,g7 (fun i=>i∈[0,1,2]) p.2:=by
 intro p hp
 simp only[zM,or_false]at hp
 rcases hp with rfl|rfl|rfl
 ·intro c hc
  obtain rfl:=Aa.1 hc
  simp[iJ,fU]
 ·exact fun e he c hc=>of_eq_true (kQ _) e he c hc
 ·intro c hc
  obtain rfl:=Aa.1 hc
  exact .lit _
theorem renF {k0:Int} {N:List TN} {k:Int} {c:aE} {out out':List aE} {m m':Nat} (h:CallOK prog 101 (vK 0 2 k0 N k c) (iK 0 1 2 out m) (.tup []) (iK 0 1 2 out' m')):CallOK prog 101 (vK 10 11 k0 N k c) (iK 10 13 11 out m) (.tup []) (iK 10 13 11 out' m'):=by
 have:=h.renG (fun i=>if i=0 then 10 else if i=1 then 13 else 11) (fun i=>if i=10 then 0 else if i=13 then 1 else 2) (fun p hp=>by
  simp only[zM,or_false]at hp
  rcases hp with rfl|rfl|rfl<;>rfl) (fun p hp=>tpF out m p hp) (fun p hp=>by
  refine⟨?_,tpF out' m' p hp⟩
  simp only[zM,or_false]at hp
  rcases hp with rfl|rfl|rfl<;>simp) (.tup _ (by simp)) (fun x hx=>by
  simp only[zM,or_false]at hx
  rcases hx with rfl|rfl|rfl|rfl
  ·exact pA _ _
  ·exact .lit _
  ·exact fO _
  ·intro x hx
   simp only[zM,or_false]at hx
   rcases hx with rfl|rfl|rfl
   ·show (0:Nat)∈[0,1,2];decide
   ·show (2:Nat)∈[0,1,2];decide
   ·exact cJ _ _)
 exact this
theorem callF {k0:Int} {N:List TN} {k:Int} {c:aE} {out out':List aE} {m m':Nat} {i:Nat} {ob:Nat→AV} {E:Eff→Prop} (hf:fnT prog 101=true) (hc:CallOK prog 101 (vK 10 11 k0 N k c) (iK 10 13 11 out m) (.tup []) (iK 10 13 11 out' m')) (hob:∀ p∈iK 10 13 11 out m,ob p.1=p.2) (h:E ⟨.tup [],iK 10 13 11 out' m',[10,13,11]⟩):callV prog 101 (vK 10 11 k0 N k c) i ob E :=
 lI _ _ _ hf hc hob (by
  intro x hx
  simp only[zM,or_false]at hx
  rcases hx with rfl|rfl|rfl|rfl
  ·exact pA _ _
  ·exact .lit _
  ·exact fO _
  ·refine .clo _ _ fun x hx=>?_
   simp only[zM,or_false]at hx
   rcases hx with rfl|rfl|rfl
   ·exact .loc _ _ (by simp)
   ·exact .loc _ _ (by simp)
   ·exact cJ _ _) (fun p hp=>(obF 10 13 11 out out m m p hp).2) (show ([10,13,11]:List Nat).Nodup by decide) (.tup _ (by simp)) (obF 10 13 11 out out' m m') rfl (by
  intro p hp
  simp only[zM,or_false]at hp
  rcases hp with rfl|rfl|rfl<;>rfl) h
theorem inCs (out:List aE):In (fun _=>False) (.sl (cL out)):=.sl _ (of_eq_true (kQ out))
set_option maxRecDepth 20000 in
theorem c52v (k0:Int) (N:List TN) (T:BT) (h:TrB N k0 T):CallVc prog 52 [.agg (eTr k0 N)] 1 (cL (T.cells aO)):=by
 refine CallVc.flat func52 rfl 12 rfl rfl (of_eq_true (kQ _)) [.tmp 2] (congrArg Ad results52) ?_
 simp only[aD,Ab]
 have hh:=h.ht
 have cw:=renF (c101c k0 N h.n (fun n hn=>(h.b n hn).mono (by decide)) T k0 aO 6 h.rep (by omega) (.inr wT) (Nat.le_of_eq h.len))
 have w0:=c57
 clear h hh
 generalize T.cells aO=out at *
 generalize 2*T.ids.length+1=m at *
 generalize aO=W at *
 have hcl:(cL out).length=out.length:=rJ out
 repeat'(first|refine xS 3 rfl ?_|refine zk ?_|(refine zu ?_ ?_<;>intro hc)|(refine zv ?_ ?_<;>intro hg)|omega|simp -dsimp (disch:=try exact zo)only[go_sem]|contradiction|rfl)
 refine Hold.out ?_
 refine AW.weak (jQ 10 0 1 [.lit (.slice none 0 0)] (by decide) rfl (by decide) rfl (by show 10<13;decide)) ?_
 refine AW.weak (zC 8 (t:=[(1,.fp (eTr k0 N)),(3,.loc 10 0),(4,.loc 11 0)]) (o:=[(10,.blk [.ref 13 0 0 0]),(13,.vec 1 (cL [])),(11,.blk [.lit (.int .i64 0)])]) (by
  intro p hp
  simp only[zM,or_false]at hp
  rcases hp with rfl|rfl|rfl<;>first|exact .inl rfl|exact .inr rfl) (by
  intro p hp
  simp only[zM,or_false]at hp
  rcases hp with rfl|rfl|rfl<;>exact⟨by simp,rfl⟩)) ?_
 repeat'(first|refine zj ?_|(refine zu ?_ ?_<;>intro hc)|(refine AW.ret (qY ?_);simp -dsimp (disch:=try exact zo)only[go_sem,hcl]<;>try (exact⟨_,rfl,rfl⟩))|(refine zq w0 ?_)|(refine callF a0x cw (by intro p hp;simp only[zM,or_false]at hp;rcases hp with rfl|rfl|rfl<;>rfl) ?_)|(refine zv ?_ ?_<;>intro hg)|omega|simp -dsimp (disch:=try exact zo)only[go_sem,hcl]|contradiction)
theorem c52 (k0:Int) (N:List TN) (T:BT) (h:TrB N k0 T):CallOK prog 52 [.agg (eTr k0 N)] [] (.sl (cL (T.cells aO))) []:=(c52v k0 N T h).ok
end Go.Proofs.Vx
namespace Go.Proofs.Vx
open Go Go.Sx Go.Proofs Tryz
attribute [local irreducible] fnT CallOK CallFr AW aK callV aL aJ aI aM gcaseP hid callY XOK
theorem b6k:agT prog 183=some false∧agT prog 184=some false∧szT prog 183=some 1∧szT prog 184=some 1:=by and_intros<;>kernel_rfl
attribute [go_sem] b6k
theorem lW:fnT prog 172=true:=by kernel_rfl
abbrev fV (lp:AV) (s a:Bool):List (Nat × AV):=[(4,lp),(5,.blk [.lit (.bool s)]),(6,.blk [.lit (.bool a)])]
abbrev selfY (k0:Int) (N:List TN) (x:Pt):AV:=.clo 172 [.fp (eTr k0 N),.loc 1 0,.fp (eP x),.loc 0 0]
abbrev iY (k0:Int) (N:List TN) (x:Pt) (L:Nat) (lp:AV) (s a:Bool):List (Nat × AV):=[(0,.blk [selfY k0 N x]),(1,.blk [.lit (.func (.yield L) #[] #[])]),(4,lp),(5,.blk [.lit (.bool s)]),(6,.blk [.lit (.bool a)])]
abbrev argL (k0:Int) (N:List TN) (x:Pt) (k n:Int):List AV:=[.lit (.int .i64 k),.lit (.int .i64 n),.fp (eTr k0 N),.loc 1 0,.fp (eP x),.loc 0 0]
theorem mK {K:Nat→Prop} (x:Pt):In K (.fp (eP x)):=.fp _ (by
 intro c hc
 simp only[eP,e4,List.mem_cons,List.not_mem_nil,or_false]at hc
 rcases hc with rfl|rfl|rfl|rfl|rfl|rfl|rfl|rfl<;>exact .lit _)
theorem obL (k0:Int) (N:List TN) (x:Pt) (L:Nat) (lp:AV) (hlp:InC (fun i=>i∈[0,1,4,5,6]) lp) (s a s' a':Bool):∀ p∈iY k0 N x L lp s' a',p.1∈(iY k0 N x L lp s a).map (·.1)∧InC (fun i=>i∈(iY k0 N x L lp s a).map (·.1)) p.2:=by
 intro p hp
 simp only[zM,or_false]at hp
 rcases hp with rfl|rfl|rfl|rfl|rfl
 ·refine⟨by simp,fun c hc=>?_⟩
  obtain rfl:=Aa.1 hc
  refine .clo _ _ fun x hx=>?_
  simp only[zM,or_false]at hx
  rcases hx with rfl|rfl|rfl|rfl
  ·exact cJ _ _
  ·exact .loc _ _ (by simp)
  ·exact mK _
  ·exact .loc _ _ (by simp)
 ·refine⟨by simp,fun c hc=>?_⟩
  obtain rfl:=Aa.1 hc
  exact .lit _
 ·exact⟨by simp,hlp⟩
 ·refine⟨by simp,fun c hc=>?_⟩
  obtain rfl:=Aa.1 hc
  exact .lit _
 ·refine⟨by simp,fun c hc=>?_⟩
  obtain rfl:=Aa.1 hc
  exact .lit _
theorem nK {k0:Int} {N:List TN} {x:Pt} {k n:Int} {L:Nat} {lp:AV} (hlp:InC (fun i=>i∈[0,1,4,5,6]) lp) (hll:lp.live=true) {s a s' a':Bool} {i:Nat} {ob:Nat→AV} {E:Eff→Prop} (hf:fnT prog 172=true) (hc:CallOK prog 172 (argL k0 N x k n) (iY k0 N x L lp s a) (.lit (.bool true)) (iY k0 N x L lp s' a')) (hob:∀ p∈iY k0 N x L lp s a,ob p.1=p.2) (h:E ⟨.lit (.bool true),iY k0 N x L lp s' a',[0,1,4,5,6]⟩):callV prog 172 (argL k0 N x k n) i ob E :=
 lI _ _ _ hf hc hob (by
  intro y hy
  simp only[zM,or_false]at hy
  rcases hy with rfl|rfl|rfl|rfl|rfl|rfl
  ·exact .lit _
  ·exact .lit _
  ·exact cJ _ _
  ·exact .loc _ _ (by simp)
  ·exact mK _
  ·exact .loc _ _ (by simp)) (fun p hp=>(obL k0 N x L lp hlp s a s a p hp).2) (show ([0,1,4,5,6]:List Nat).Nodup by decide) (.lit _) (obL k0 N x L lp hlp s a s' a') rfl (by
  intro p hp
  simp only[zM,or_false]at hp
  rcases hp with rfl|rfl|rfl|rfl|rfl<;>first|rfl|exact hll) h
theorem yC {L:Nat} {lp:AV} (hlp:InC (fun i=>i∈[4,5,6]) lp) (hll:lp.live=true) {k:Int} {s a s' a':Bool} {ob:Nat→AV} {E:Eff→Prop} (hc:XOK prog (MY prog L) [.lit (.int .i64 k)] (fV lp s a) (.lit (.bool true)) (fV lp s' a')) (hob:∀ p∈fV lp s a,ob p.1=p.2) (h:E ⟨.lit (.bool true),fV lp s' a',[4,5,6]⟩):callY prog L [.lit (.int .i64 k)] ob fun e=>(∀ l∈e.rd,(ob l).live=true)∧E e:=by
 have hb:∀ s1 a1,∀ p∈fV lp s1 a1,p.1∈[4,5,6]∧InC (fun i=>i∈[4,5,6]) p.2:=fun s1 a1 p hp=>by
  simp only[zM,or_false]at hp
  rcases hp with rfl|rfl|rfl
  ·exact⟨by simp,hlp⟩
  ·refine⟨by simp,fun c hc=>?_⟩
   obtain rfl:=Aa.1 hc
   exact .lit _
  ·refine⟨by simp,fun c hc=>?_⟩
   obtain rfl:=Aa.1 hc
   exact .lit _
 exact b4u _ _ _ hc hob (fun y hy=>by obtain rfl:=Aa.1 hy;exact .lit _) (fun p hp=>(hb s a p hp).2) (show ([4,5,6]:List Nat).Nodup by decide) (.lit _) (hb s' a') rfl (by
  intro p hp
  simp only[zM,or_false]at hp
  rcases hp with rfl|rfl|rfl<;>first|rfl|exact hll) h
def fS (s:Bool) (ks:List Int):Bool:=ks.foldl (fun s k=>s||decide (k=-1)) s
def fA (a:Bool) (ks:List Int):Bool:=ks.foldl (fun a k=>a&&decide (k=-1)) a
theorem d1u (s:Bool) (l r:List Int):fS s (l++r)=fS (fS s l) r:=Ag ..
theorem d1v (s:Bool) (l r:List Int):fA s (l++r)=fA (fA s l) r:=Ag ..
set_option maxRecDepth 20000 in
theorem c172 (k0 : Int) (N : List TN) (hN : N.length ≤ 14) (hP : ∀ n ∈ N, BPl 6 n.1) (x : Pt) (hx : BPt 268435456 x) (L : Nat) (lp : AV) (hlp : InC (fun i => i ∈ [0, 1, 4, 5, 6]) lp) (hlp3 : InC (fun i => i ∈ [4, 5, 6]) lp) (hll : lp.live = true)
  (hy:∀ (k:Int) (s a:Bool),k=-1∨k=0→XOK prog (MY prog L) [.lit (.int .i64 k)] (fV lp s a) (.lit (.bool true)) (fV lp (s||decide (k=-1)) (a&&decide (k=-1)))) (T:BT) :
  ∀ (k:Int) (n:Nat) (s a:Bool),Rep N T k→T.ht≤n→n≤14→CallOK prog 172 (argL k0 N x k n) (iY k0 N x L lp s a) (.lit (.bool true)) (iY k0 N x L lp (fS s (T.leaves x)) (fA a (T.leaves x))):=by
 have hl:(eTS N).length=N.length:=jU N
 induction T with
 | lf b0 =>
  intro k n s a hk _ hn
  have hk0:k≤0:=by rw[show k=lfv b0 from hk];exact x8 b0
  have k1:(k≤0)=True:=eq_true hk0
  have k2:True:=trivial
  have k3:True:=trivial
  have k5:True:=trivial
  have k6:True:=trivial
  have g1:True:=trivial
  have g2:True:=trivial
  have es1:True:=trivial
  have cs:True:=trivial
  have il:True:=trivial
  have ir:True:=trivial
  have cy:=hy k s a (by rw[show k=lfv b0 from hk];exact zR b0)
  have e1:fS s (BT.leaves x (.lf b0))=(s||decide (k=-1)):=by rw[show k=lfv b0 from hk];rfl
  have e2:fA a (BT.leaves x (.lf b0))=(a&&decide (k=-1)):=by rw[show k=lfv b0 from hk];rfl
  rw[e1,e2]
  clear hk e1 e2 hy
  generalize (s||decide (k=-1))=s' at *
  generalize (a&&decide (k=-1))=a' at *
  refine fL func172 rfl 59 rfl rfl (by simp) (.lit _) (obL k0 N x L lp hlp s a s' a') [.tmp 8] (congrArg Ad results172) ?_
  simp only[aD,Ab]
  repeat'(first|refine zk ?_|(refine zu ?_ ?_<;>intro hc)|(refine yC hlp3 hll cy (by intro p hp;simp only[zM,or_false]at hp;rcases hp with rfl|rfl|rfl<;>rfl) ?_)|(refine AW.ret (b9 ?_ (by intro p hp;simp only[zM,or_false]at hp;rcases hp with rfl|rfl|rfl|rfl|rfl<;>rfl))<;>simp -dsimp (disch:=try exact zo)only[go_sem])|(first|refine nK hlp hll lW il (by intro p hp;simp only[zM,or_false]at hp;rcases hp with rfl|rfl|rfl|rfl|rfl<;>rfl) ?_|refine nK hlp hll lW ir (by intro p hp;simp only[zM,or_false]at hp;rcases hp with rfl|rfl|rfl|rfl|rfl<;>rfl) ?_)|(refine zq cs ?_)|(refine zv ?_ ?_<;>intro hg)|omega|simp -dsimp (disch:=try exact zo)only[go_sem,hl,es1,k1,k2,k3,k5,k6,g1,g2,ZT]|contradiction|rfl)
 | nd j p l r ihl ihr =>
  intro k n s a hk hd hn
  obtain⟨rfl,nd,hn1,rfl,hn3,hn4⟩:=hk
  have hj:=(Ac.1 hn1).1
  have hje:=(Ac.1 hn1).2
  have es1:=oE N j hj
  rw[hje]at es1
  have hpn:=hP nd (Af hn1)
  simp only[BT.ht]at hd
  obtain⟨n',rfl⟩:∃ n',n=n'+1:=⟨n - 1,by omega⟩
  have k1:((j:Int)+1≤0)=False:=eq_false (by omega)
  have k2:((N.length:Int)<(j:Int)+1)=False:=eq_false (by omega)
  have k3:(((n'+1:Nat):Int)=0)=False:=eq_false (by omega)
  have k5:((j:Int)+1 - 1)=(j:Int):=by omega
  have k6:(((n'+1:Nat):Int) - 1)=(n':Int):=by omega
  have cs:=c34 nd.1 x (hpn.mono (by decide)) (hx.mono (by decide))
  have cy:True:=trivial
  simp only[BT.leaves,d1u,d1v]
  have il:=ihl nd.2.1 n' s a hn3 (by omega) (by omega)
  have ir:=fun s a=>ihr nd.2.2 n' s a hn4 (by omega) (by omega)
  clear ihl ihr hje hn1 hn3 hn4 hpn hy
  generalize aC nd.1 x=sd at *
  obtain⟨p,y,z⟩:=nd
  dsimp only[eN]at es1 cs il ir
  simp only[eH,e4]at cs
  by_cases q1:0<sd
  ·have g1:(0<sd)=True:=eq_true q1
   have g2:(sd<0)=False:=eq_false (by omega)
   rw[if_pos q1,if_neg (by omega)]
   replace ir:=ir s a
   have e0:fS s []=s:=rfl
   have e1:fA a []=a:=rfl
   rw[e0,e1]
   clear il
   have il:True:=trivial
   generalize fS s (r.leaves x)=s' at *
   generalize fA a (r.leaves x)=a' at *
   refine fL func172 rfl 59 rfl rfl (by simp) (.lit _) (obL k0 N x L lp hlp s a s' a') [.tmp 8] (congrArg Ad results172) ?_
   simp only[aD,Ab]
   repeat'(first|refine zk ?_|(refine zu ?_ ?_<;>intro hc)|(refine yC hlp3 hll cy (by intro p hp;simp only[zM,or_false]at hp;rcases hp with rfl|rfl|rfl<;>rfl) ?_)|(refine AW.ret (b9 ?_ (by intro p hp;simp only[zM,or_false]at hp;rcases hp with rfl|rfl|rfl|rfl|rfl<;>rfl))<;>simp -dsimp (disch:=try exact zo)only[go_sem])|(first|refine nK hlp hll lW il (by intro p hp;simp only[zM,or_false]at hp;rcases hp with rfl|rfl|rfl|rfl|rfl<;>rfl) ?_|refine nK hlp hll lW ir (by intro p hp;simp only[zM,or_false]at hp;rcases hp with rfl|rfl|rfl|rfl|rfl<;>rfl) ?_)|(refine zq cs ?_)|(refine zv ?_ ?_<;>intro hg)|omega|simp -dsimp (disch:=try exact zo)only[go_sem,hl,es1,k1,k2,k3,k5,k6,g1,g2,ZT]|contradiction|rfl)
  ·have g1:(0<sd)=False:=eq_false q1
   rw[if_neg q1]
   by_cases q2:sd<0
   ·have g2:(sd<0)=True:=eq_true q2
    rw[if_pos q2]
    clear ir
    have ir:True:=trivial
    generalize fS s (l.leaves x)=s' at *
    generalize fA a (l.leaves x)=a' at *
    have e0:fS s' []=s':=rfl
    have e1:fA a' []=a':=rfl
    rw[e0,e1]
    refine fL func172 rfl 59 rfl rfl (by simp) (.lit _) (obL k0 N x L lp hlp s a s' a') [.tmp 8] (congrArg Ad results172) ?_
    simp only[aD,Ab]
    repeat'(first|refine zk ?_|(refine zu ?_ ?_<;>intro hc)|(refine yC hlp3 hll cy (by intro p hp;simp only[zM,or_false]at hp;rcases hp with rfl|rfl|rfl<;>rfl) ?_)|(refine AW.ret (b9 ?_ (by intro p hp;simp only[zM,or_false]at hp;rcases hp with rfl|rfl|rfl|rfl|rfl<;>rfl))<;>simp -dsimp (disch:=try exact zo)only[go_sem])|(first|refine nK hlp hll lW il (by intro p hp;simp only[zM,or_false]at hp;rcases hp with rfl|rfl|rfl|rfl|rfl<;>rfl) ?_|refine nK hlp hll lW ir (by intro p hp;simp only[zM,or_false]at hp;rcases hp with rfl|rfl|rfl|rfl|rfl<;>rfl) ?_)|(refine zq cs ?_)|(refine zv ?_ ?_<;>intro hg)|omega|simp -dsimp (disch:=try exact zo)only[go_sem,hl,es1,k1,k2,k3,k5,k6,g1,g2,ZT]|contradiction|rfl)
   ·have g2:(sd<0)=False:=eq_false q2
    rw[if_neg q2]
    replace ir:=ir (fS s (l.leaves x)) (fA a (l.leaves x))
    generalize fS (fS s (l.leaves x)) (r.leaves x)=s2 at *
    generalize fA (fA a (l.leaves x)) (r.leaves x)=a2 at *
    generalize fS s (l.leaves x)=s' at *
    generalize fA a (l.leaves x)=a' at *
    refine fL func172 rfl 59 rfl rfl (by simp) (.lit _) (obL k0 N x L lp hlp s a s2 a2) [.tmp 8] (congrArg Ad results172) ?_
    simp only[aD,Ab]
    repeat'(first|refine zk ?_|(refine zu ?_ ?_<;>intro hc)|(refine yC hlp3 hll cy (by intro p hp;simp only[zM,or_false]at hp;rcases hp with rfl|rfl|rfl<;>rfl) ?_)|(refine AW.ret (b9 ?_ (by intro p hp;simp only[zM,or_false]at hp;rcases hp with rfl|rfl|rfl|rfl|rfl<;>rfl))<;>simp -dsimp (disch:=try exact zo)only[go_sem])|(first|refine nK hlp hll lW il (by intro p hp;simp only[zM,or_false]at hp;rcases hp with rfl|rfl|rfl|rfl|rfl<;>rfl) ?_|refine nK hlp hll lW ir (by intro p hp;simp only[zM,or_false]at hp;rcases hp with rfl|rfl|rfl|rfl|rfl<;>rfl) ?_)|(refine zq cs ?_)|(refine zv ?_ ?_<;>intro hg)|omega|simp -dsimp (disch:=try exact zo)only[go_sem,hl,es1,k1,k2,k3,k5,k6,g1,g2,ZT]|contradiction|rfl)
end Go.Proofs.Vx
