import Derived.Test.YtjlfgmhmalbiiaaGreatDoorV39
set_option linter.all false
set_option maxHeartbeats 40000000
namespace Go.Proofs.Vx
open Go Go.Sx Go.Proofs Tryz
attribute [local irreducible] fnT CallOK CallFr AW aO callV aP aN aM aQ gcaseP hid
def oI (b:Bool):Int:=if b=true then 1 else 0
def cS (M:List Bool):List (List AV):=M.map fun b=>[.lit (.int .i64 (oI b))]
theorem a7k (M:List Bool):(cS M).length=M.length:=List.length_map _
theorem yX (M:List Bool) (i:Nat) (h:i<M.length):(cS M).getD i []=[.lit (.int .i64 (oI M[i]))]:=by
 unfold cS
 rw[List.getD_eq_getElem?_getD,List.getElem?_map,List.getElem?_eq_getElem h];rfl
theorem cW {K:Nat→Prop} (M:List Bool):(∀ e∈cS M,∀ c∈e,In K c)=True:=eq_true fun e he c hc=>by
 obtain⟨n,_,rfl⟩:=List.mem_map.1 he
 obtain rfl:=List.mem_singleton.1 hc
 exact .lit _
theorem b0n {S T:AS} (l k:Nat) (es:List (List AV)) (cp:Nat) (h:Sx.look S.o l=AV.vcp k es cp) (hw:Weak { t:=S.t,o:=(l,.vec k es)::S.o,nx:=S.nx } T):Weak S T:=fun c nt a w hs=>hw c nt a w (b1t l k es cp h c nt a w hs)
structure FJ (N:List RN) (b:Bool) (pre ks:List Int) (M:List Bool):Prop where
 eq:b=true↔b7 (c6 N) ks (mtB M)∧i4 N
 len:M.length=N.length
 bd:pre.length+ks.length+2*M.count false≤29
theorem FJ.leaf {N:List RN} {b:Bool} {pre ks:List Int} {k:Int} {M:List Bool} (h:FJ N b pre (k::ks) M) (hk:k=-1∨k=0):FJ N b (pre++[k]) ks M :=
 ⟨by rw[h.eq,a0v hk],h.len,by have:=h.bd;rw[List.length_append,List.length_singleton];rw[List.length_cons]at this;omega⟩
theorem FJ.bad {N:List RN} {b:Bool} {pre ks:List Int} {k:Int} {M:List Bool} (h:FJ N b pre (k::ks) M) (hk:k < -1∨N.length<k∨(1≤k∧(k - 1).toNat<M.length∧M.getD (k - 1).toNat false=true)):b=false:=by
 cases hb:b
 ·rfl
 ·refine absurd (h.eq.1 hb).1 (a1q ?_)
  rw[rZ]
  rcases hk with hk|hk|⟨h1,h2,h3⟩
  ·exact .inl hk
  ·exact .inr (.inl hk)
  ·exact .inr (.inr ⟨h1,nI.2 ⟨h2,h3⟩⟩)
theorem FJ.node {N:List RN} {b:Bool} {pre ks:List Int} {M:List Bool} {j:Nat} (hj:j<N.length) (h:FJ N b pre (((j:Int)+1)::ks) M) (hm:M.getD j false=false):FJ N b (pre++[(j:Int)+1]) (ks++[N[j].2.1,N[j].2.2]) (M.set j true)∧FJ N b [] (ks++[N[j].2.1,N[j].2.2]) (M.set j true):=by
 have hjM:j<M.length:=by rw[h.len];exact hj
 have h1:=vI hjM hm
 have hbd:=h.bd
 have he:b=true↔b7 (c6 N) (ks++[N[j].2.1,N[j].2.2]) (mtB (M.set j true))∧i4 N:=by
  rw[h.eq,a0u (a2z hj),a1n]
  exact and_congr (Sx.t6 (.refl _) (a5h hjM hm).symm) Iff.rfl
 refine⟨⟨he,by rw[List.length_set];exact h.len,?_⟩,⟨he,by rw[List.length_set];exact h.len,?_⟩⟩<;>simp only[List.length_append,List.length_cons,List.length_nil]at hbd ⊢<;>omega
theorem FJ.done {N:List RN} {b:Bool} {pre:List Int} {M:List Bool} (h:FJ N b pre [] M):b=true↔(∀ j (h:j<M.length),M[j]=true)∧∀ j (h:j<N.length),jZ N[j].1:=by
 rw[h.eq,a1p (by rw[rZ];exact h.len)]
 constructor
 ·rintro⟨h1,h2⟩
  exact⟨fun j h=>h1 _ (List.getElem_mem h),fun j h=>h2 _ (List.getElem_mem h)⟩
 ·rintro⟨h1,h2⟩
  refine⟨fun x hx=>?_,fun n hn=>?_⟩
  ·obtain⟨j,hj,rfl⟩:=List.getElem_of_mem hx;exact h1 j hj
  ·obtain⟨j,hj,rfl⟩:=List.getElem_of_mem hn;exact h2 j hj
theorem FJ.zero {N:List RN} {b:Bool} {k:Int} (hn:N.length≤14) (hb:b=true↔b7 (c6 N) [k] []∧i4 N):FJ N b [] [k] (List.replicate N.length false):=by
 refine⟨by rw[a5i];exact hb,List.length_replicate,?_⟩
 rw[List.count_replicate];simp only[List.length_cons,List.length_nil];split<;>omega
set_option maxRecDepth 20000 in
theorem c104 (k0:Int) (N:List RN) (hn:N.length≤14) (hs:nQ N) (b:Bool) (hb:b=true↔b7 (c6 N) [k0] []∧i4 N):CallOK prog 104 [.agg (dH k0 N)] [] (.lit (.bool b)) []:=by
 refine zs func104 100 [.tmp 2] results104 ?_
 simp only[aD,Nat.reduceAdd]
 have hml:maxLen=9223372036854775807:=rfl
 have hl:(eRT N).length=N.length:=List.length_map _
 have hz:=FJ.zero hn hb
 have hrep:aJ .i64 (List.replicate N.length 0)=cS (List.replicate N.length false):=by unfold aJ cS;rw[List.map_replicate,List.map_replicate];rfl
 have hone:[[AV.lit (.int .i64 k0)]]=kS [k0]:=rfl
 replace hs:=Hid.mk hs
 replace hz:=Hid.mk hz
 clear hb
 repeat'(first|refine zg ?_|(refine zc ?_ ?_<;>intro hc<;>first|simp only[NM]at hc|omega|skip)|refine zr ?_|refine⟨by omega,?_⟩|(refine zb ?_ ?_<;>intro hg<;>(try rw[hg])<;>try simp only[NM]at hg)|omega|simp -dsimp (disch:=try exact zo)only[go_sem,hl,hrep,hone]|contradiction|rfl)
 refine AW.loop (fun z:{z:Bool × List Int × List Int × List Bool // (z.1=true→z.2.2.1=[])∧Hid (FJ N b z.2.1 z.2.2.1 z.2.2.2)}=>match z.1.1 with|true=>⟨[(4,.zs),(3,.ref 13 0 N.length N.length),(1,.loc 8 0)],[(13,.vec 1 (cS z.1.2.2.2)),(8,.blk [.lit (.int .i64 k0),.sl (eRT N)])],60⟩|false=>⟨[(4,.ref 17 z.1.2.1.length z.1.2.2.1.length (z.1.2.1++z.1.2.2.1).length),(3,.ref 13 0 N.length N.length),(1,.loc 8 0)],[(17,.vec 1 (kS (z.1.2.1++z.1.2.2.1))),(13,.vec 1 (cS z.1.2.2.2)),(8,.blk [.lit (.int .i64 k0),.sl (eRT N)])],60⟩) (fun z=>z.1.2.2.1.length+2*z.1.2.2.2.count false) ⟨(false,[],[k0],List.replicate N.length false),fun h=>(by cases h),hz⟩ (aH (by refine⟨?_,?_,?_,?_⟩<;>simp -dsimp (disch:=try exact zo)only[go_sem,aV,jY,cW,hrep,hone,ZC])) ?_
 rintro⟨⟨zb,pre,ks,M⟩,hzb,hI⟩
 dsimp only at hzb hI ⊢
 have hbd:=hI.out.bd
 have hMl:(cS M).length=N.length:=(a7k M).trans hI.out.len
 have hMM:=hI.out.len
 cases ks with
 | nil =>
  have hd:=Hid.mk hI.out.done
  have hk0:(([]:List Int).length:Int)=0:=rfl
  have hVn:(kS (pre++[])).length=(pre++[]).length:=fL _
  clear hI hz hbd hzb
  cases zb<;>dsimp only
  rotate_left
  all_goals try generalize kS (pre++[])=V at *
  all_goals repeat'(first|refine zg ?_|(refine zc ?_ ?_<;>intro hc<;>first|simp only[NM]at hc|omega|skip)|refine zr ?_|refine⟨by omega,?_⟩|(refine zb ?_ ?_<;>intro hg<;>(try rw[hg])<;>try simp only[NM]at hg)|omega|simp -dsimp (disch:=try exact zo)only[go_sem,hl,hMl,hk0,hVn]|contradiction|rfl)
  all_goals refine AW.loop (fun z:{i:Nat // i≤N.length∧Hid (∀ j (h:j<M.length) (h':j<N.length),j<i→M[j]=true∧jZ N[j].1)}=>⟨[(6,.lit (.int .i64 z.1)),(3,.ref 13 0 N.length N.length),(1,.loc 8 0)],[(13,.vec 1 (cS M)),(8,.blk [.lit (.int .i64 k0),.sl (eRT N)])],90⟩) (fun z=>N.length - z.1) ⟨0,Nat.zero_le _,Hid.mk (fun j _ _ h=>absurd h (Nat.not_lt_zero _))⟩ (aH (by refine⟨?_,?_,?_,?_⟩<;>simp -dsimp (disch:=try exact zo)only[go_sem,aV,cW,ZC])) ?_
  all_goals
   rintro⟨i,hi,hJ⟩
   dsimp only
   by_cases hlt:i<N.length
   ·have hiM:i<M.length:=by omega
    have es1:=uZ N i hlt
    have em:=yX M i hiM
    have hs1:=hs.out _ (List.getElem_mem hlt)
    have hJ1:=Hid.mk (show M[i]=true∧jZ N[i].1→∀ j (h:j<M.length) (h':j<N.length),j<i+1→M[j]=true∧jZ N[j].1 from fun hx j h h' h2=>by
     by_cases q:j=i
     ·subst q;exact hx
     ·exact hJ.out j h h' (by omega))
    have hb1:M[i]=false→b=false:=fun hx=>by
     cases hq:b
     ·rfl
     ·have:=(hd.out.1 hq).1 i hiM;rw[hx]at this;cases this
    have hb2:¬ jZ N[i].1→b=false:=fun hx=>by
     cases hq:b
     ·rfl
     ·exact absurd ((hd.out.1 hq).2 i hlt) hx
    generalize M[i]=u at *
    generalize N[i]=nd at *
    obtain⟨r,a,c⟩:=nd
    dsimp only at hs1 hJ1 hb2
    have cn:=True.intro
    have sz:=(show r.m1.size≤268435456∧r.m2.size≤268435456∧r.m3.size≤268435456∧r.m4.size≤268435456 from⟨Nat.le_trans hs1.a (by decide),Nat.le_trans hs1.b (by decide),Nat.le_trans hs1.c (by decide),Nat.le_trans hs1.d (by decide)⟩)
    cases u
    ·rw[hb1 rfl]
     have k1:(oI false=1)=False:=eq_false (by decide)
     by_cases hzr:jW r
     ·replace cn:=a8s r sz.1 sz.2.1 sz.2.2.1 sz.2.2.2 hzr
      clear hb1 hb2 hJ1 hzr sz
      simp only[eRP,eH,e4]at cn
      repeat'(first|refine zg ?_|(refine zc ?_ ?_<;>intro hc<;>first|simp only[NM]at hc|omega|skip)|refine zr ?_|(refine zf cn ?_)|refine⟨by omega,?_⟩|(refine zb ?_ ?_<;>intro hg<;>(try rw[hg])<;>try simp only[NM]at hg)|omega|simp -dsimp (disch:=try exact zo)only[go_sem,hl,hMl,es1,em,k1,ZT,aV,cW]|contradiction|rfl)
     ·replace cn:=a8t r sz.1 sz.2.1 sz.2.2.1 sz.2.2.2 hzr
      clear hb1 hb2 hJ1 hzr sz
      generalize eX r=p at *
      simp only[eRP,eH,e4]at cn
      repeat'(first|refine zg ?_|(refine zc ?_ ?_<;>intro hc<;>first|simp only[NM]at hc|omega|skip)|refine zr ?_|(refine zf cn ?_)|refine⟨by omega,?_⟩|(refine zb ?_ ?_<;>intro hg<;>(try rw[hg])<;>try simp only[NM]at hg)|omega|simp -dsimp (disch:=try exact zo)only[go_sem,hl,hMl,es1,em,k1,ZT,aV,cW]|contradiction|rfl)
    ·have k1:(oI true=1)=True:=eq_true (by decide)
     by_cases hzr:jW r
     ·replace cn:=a8s r sz.1 sz.2.1 sz.2.2.1 sz.2.2.2 hzr
      rw[hb2 fun h=>h.1 hzr]
      clear hb1 hb2 hJ1 hzr sz
      simp only[eRP,eH,e4]at cn
      repeat'(first|refine zg ?_|(refine zc ?_ ?_<;>intro hc<;>first|simp only[NM]at hc|omega|skip)|refine zr ?_|(refine zf cn ?_)|refine⟨by omega,?_⟩|(refine zb ?_ ?_<;>intro hg<;>(try rw[hg])<;>try simp only[NM]at hg)|omega|simp -dsimp (disch:=try exact zo)only[go_sem,hl,hMl,es1,em,k1,ZT,aV,cW]|contradiction|rfl)
     ·replace cn:=a8t r sz.1 sz.2.1 sz.2.2.1 sz.2.2.2 hzr
      by_cases hc:eRP r=eH (eX r)
      ·replace hJ1:=Hid.mk (hJ1.out ⟨rfl,hzr,hc⟩)
       have es2:eRN (r,a,c)=eRP r++[.lit (.int .i64 a),.lit (.int .i64 c)]:=rfl
       rw[es2,hc]at es1
       rw[hc]at cn
       clear hb1 hb2 hc hzr es2 sz
       generalize eX r=p at *
       simp only[eH,e4,List.cons_append,List.nil_append]at cn es1
       repeat'(first|refine zg ?_|(refine zc ?_ ?_<;>intro hc<;>first|simp only[NM]at hc|omega|skip)|refine zr ?_|(refine zf cn ?_)|refine⟨by omega,?_⟩|(refine zb ?_ ?_<;>intro hg<;>(try rw[hg])<;>try simp only[NM]at hg)|omega|simp -dsimp (disch:=try exact zo)only[go_sem,hl,hMl,es1,em,k1,ZT,aV,cW]|contradiction|rfl)
       all_goals exact AW.stop ⟨⟨i+1,by omega,hJ1⟩,(aH (by refine⟨?_,?_,?_,?_⟩<;>simp -dsimp (disch:=try exact zo)only[go_sem,aV,cW,ZC])),by dsimp only;omega⟩
      ·rw[hb2 fun h=>hc h.2]
       clear hb1 hb2 hJ1 sz
       generalize eX r=q at *
       have hne:¬ (Zn q.a=r.n1∧Zm q.a=r.m1∧Zn q.b=r.n2∧Zm q.b=r.m2∧Zn q.c=r.n3∧Zm q.c=r.m3∧Zn q.d=r.n4∧Zm q.d=r.m4):=fun h=>hc (by
        unfold eRP eH e4
        obtain⟨h1,h2,h3,h4,h5,h6,h7,h8⟩:=h
        rw[h1,h2,h3,h4,h5,h6,h7,h8])
       clear hc
       simp only[eRP,eH,e4]at cn
       repeat'(first|refine zg ?_|(refine zc ?_ ?_<;>intro hc<;>first|simp only[NM]at hc|omega|skip)|refine zr ?_|(refine zf cn ?_)|refine⟨by omega,?_⟩|(refine zb ?_ ?_<;>intro hg<;>(try rw[hg])<;>try simp only[NM]at hg)|omega|simp -dsimp (disch:=try exact zo)only[go_sem,hl,hMl,es1,em,k1,ZT,aV,cW]|contradiction|rfl)
   ·have hil:i=N.length:=by omega
    subst hil
    rw[hd.out.2 ⟨fun j h=>(hJ.out j h (by omega) (by omega)).1,fun j h=>(hJ.out j (by omega) h h).2⟩]
    clear hd hJ
    repeat'(first|refine zg ?_|(refine zc ?_ ?_<;>intro hc<;>first|simp only[NM]at hc|omega|skip)|refine zr ?_|refine⟨by omega,?_⟩|(refine zb ?_ ?_<;>intro hg<;>(try rw[hg])<;>try simp only[NM]at hg)|omega|simp -dsimp (disch:=try exact zo)only[go_sem,hl,hMl,hk0,hVn]|contradiction|rfl)
 | cons k qs =>
  obtain rfl:zb=false:=by
   cases zb
   ·rfl
   ·exact absurd (hzb rfl) (List.cons_ne_nil _ _)
  clear hzb
  dsimp only
  have hV:(kS (pre++k::qs)).length=pre.length+(qs.length+1):=by rw[fL,List.length_append];rfl
  have hVl:(kS (pre++k::qs)).getD pre.length []=[.lit (.int .i64 k)]:=by
   unfold kS
   rw[List.map_append,List.getD_eq_getElem?_getD,List.getElem?_append_right (by rw[List.length_map];exact Nat.le_refl _),List.length_map,Nat.sub_self];rfl
  have hVt:(kS (pre++k::qs)).take (pre.length+1+qs.length)=kS ((pre++[k])++qs):=by
   rw[List.take_of_length_le (by rw[hV];omega),List.append_assoc];rfl
  have hVd:((kS (pre++k::qs)).drop (pre.length+1)).take qs.length=kS qs:=by
   have e:kS (pre++k::qs)=kS (pre++[k])++kS qs:=by unfold kS;rw[← List.map_append,List.append_assoc];rfl
   rw[e,List.drop_left' (by rw[fL,List.length_append];rfl),List.take_of_length_le (by rw[fL];exact Nat.le_refl _)]
  have hVe:kS (pre++k::qs)=kS ((pre++[k])++qs):=by rw[List.append_assoc];rfl
  have hVf:=pG (pre++k::qs)
  have hn1:(pre++k::qs).length=pre.length+(qs.length+1):=by rw[List.length_append];rfl
  rw[hn1]
  rw[List.length_cons]at hbd ⊢
  generalize kS (pre++k::qs)=V at *
  have k1:True:=trivial;have k2:True:=trivial;have k3:True:=trivial;have k5:True:=trivial;have p1:True:=trivial;have p2:True:=trivial;have q1:True:=trivial;have q2:True:=trivial;have es1:True:=trivial;have em:True:=trivial;have hMs:True:=trivial;have hMg:True:=trivial;have hql:True:=trivial;have hwr:True:=trivial;have hMl2:True:=trivial
  all_goals repeat'(first|refine c3c 5 17 rfl rfl ?_|refine zg ?_|(refine zc ?_ ?_<;>intro hc<;>first|simp only[NM]at hc|omega|skip)|refine zr ?_|refine⟨by omega,?_⟩|(refine zb ?_ ?_<;>intro hg<;>(try rw[hg])<;>try simp only[NM]at hg)|omega|simp -dsimp (disch:=try exact zo)only[go_sem,hl,hV,hVl,hMl,hMs,hMg,es1,em,ZT,Int.reduceToNat,Nat.add_sub_cancel,Nat.add_zero,Nat.zero_add,aV,cW,k1,k2,k3,k5,p1,p2,q1,q2,hVt,hVd,hql,hwr,hMl2]|contradiction|rfl)
  all_goals intro cp hcl
  have hcase:(∃ _:pre.length+1<cp,True)∨(cp≤pre.length+1∧qs=[]):=by
   rcases Nat.lt_or_ge (pre.length+1) cp with h|h
   ·exact .inl ⟨h,trivial⟩
   ·exact .inr ⟨h,List.eq_nil_of_length_eq_zero (by omega)⟩
  by_cases q0:k < -1
  ·rw[hI.out.bad (.inl q0)]
   have k1:(k < -1)=True:=eq_true q0
   have k2:True:=trivial;have k3:True:=trivial;have k5:True:=trivial;have q1:True:=trivial;have q2:True:=trivial;have es1:True:=trivial;have em:True:=trivial;have hMs:True:=trivial;have hMg:True:=trivial;have hwr:True:=trivial;have hMl2:True:=trivial
   clear hI hz
   rcases hcase with⟨hcp,_⟩|⟨hcp,hq0⟩
   ·have p1:(pre.length+1<cp)=True:=eq_true hcp
    have p2:(cp≤pre.length+1)=False:=eq_false (by omega)
    have hql:True:=trivial
    repeat'(first|refine fun (_:True)=>?_|refine zg ?_|(refine zc ?_ ?_<;>intro hc<;>first|simp only[NM]at hc|omega|skip)|refine zr ?_|refine⟨by omega,?_⟩|(refine zb ?_ ?_<;>intro hg<;>(try rw[hg])<;>try simp only[NM]at hg)|omega|simp -dsimp (disch:=try exact zo)only[go_sem,hl,hV,hVl,hMl,hMs,hMg,es1,em,ZT,Int.reduceToNat,Nat.add_sub_cancel,Nat.add_zero,Nat.zero_add,aV,cW,k1,k2,k3,k5,p1,p2,q1,q2,hVt,hVd,hql,hwr,hMl2]|contradiction|rfl)
   ·have p1:(pre.length+1<cp)=False:=eq_false (by omega)
    have p2:(cp≤pre.length+1)=True:=eq_true hcp
    have hql:qs.length=0:=by rw[hq0];rfl
    have hzs:In (fun k=>k<60) AV.zs=True:=eq_true .zs
    repeat'(first|refine fun (_:True)=>?_|refine zg ?_|(refine zc ?_ ?_<;>intro hc<;>first|simp only[NM]at hc|omega|skip)|refine zr ?_|refine⟨by omega,?_⟩|(refine zb ?_ ?_<;>intro hg<;>(try rw[hg])<;>try simp only[NM]at hg)|omega|simp -dsimp (disch:=try exact zo)only[go_sem,hl,hV,hVl,hMl,hMs,hMg,es1,em,ZT,Int.reduceToNat,Nat.add_sub_cancel,Nat.add_zero,Nat.zero_add,aV,cW,k1,k2,k3,k5,p1,p2,q1,q2,hVt,hVd,hql,hwr,hMl2]|contradiction|rfl)
  ·have k1:(k < -1)=False:=eq_false q0
   by_cases q3:(N.length:Int)<k
   ·rw[hI.out.bad (.inr (.inl q3))]
    have k2:((N.length:Int)<k)=True:=eq_true q3
    have k3:True:=trivial;have k5:True:=trivial;have q1:True:=trivial;have q2:True:=trivial;have es1:True:=trivial;have em:True:=trivial;have hMs:True:=trivial;have hMg:True:=trivial;have hwr:True:=trivial;have hMl2:True:=trivial
    clear hI hz
    rcases hcase with⟨hcp,_⟩|⟨hcp,hq0⟩
    ·have p1:(pre.length+1<cp)=True:=eq_true hcp
     have p2:(cp≤pre.length+1)=False:=eq_false (by omega)
     have hql:True:=trivial
     repeat'(first|refine fun (_:True)=>?_|refine zg ?_|(refine zc ?_ ?_<;>intro hc<;>first|simp only[NM]at hc|omega|skip)|refine zr ?_|refine⟨by omega,?_⟩|(refine zb ?_ ?_<;>intro hg<;>(try rw[hg])<;>try simp only[NM]at hg)|omega|simp -dsimp (disch:=try exact zo)only[go_sem,hl,hV,hVl,hMl,hMs,hMg,es1,em,ZT,Int.reduceToNat,Nat.add_sub_cancel,Nat.add_zero,Nat.zero_add,aV,cW,k1,k2,k3,k5,p1,p2,q1,q2,hVt,hVd,hql,hwr,hMl2]|contradiction|rfl)
    ·have p1:(pre.length+1<cp)=False:=eq_false (by omega)
     have p2:(cp≤pre.length+1)=True:=eq_true hcp
     have hql:qs.length=0:=by rw[hq0];rfl
     have hzs:In (fun k=>k<60) AV.zs=True:=eq_true .zs
     repeat'(first|refine fun (_:True)=>?_|refine zg ?_|(refine zc ?_ ?_<;>intro hc<;>first|simp only[NM]at hc|omega|skip)|refine zr ?_|refine⟨by omega,?_⟩|(refine zb ?_ ?_<;>intro hg<;>(try rw[hg])<;>try simp only[NM]at hg)|omega|simp -dsimp (disch:=try exact zo)only[go_sem,hl,hV,hVl,hMl,hMs,hMg,es1,em,ZT,Int.reduceToNat,Nat.add_sub_cancel,Nat.add_zero,Nat.zero_add,aV,cW,k1,k2,k3,k5,p1,p2,q1,q2,hVt,hVd,hql,hwr,hMl2]|contradiction|rfl)
   ·have k2:((N.length:Int)<k)=False:=eq_false q3
    by_cases q4:k<1
    ·have hI1:=Hid.mk (hI.out.leaf (by omega:k=-1∨k=0))
     have k3:(k<1)=True:=eq_true q4
     have k5:True:=trivial;have q1:True:=trivial;have q2:True:=trivial;have es1:True:=trivial;have em:True:=trivial;have hMs:True:=trivial;have hMg:True:=trivial;have hwr:True:=trivial;have hMl2:True:=trivial
     clear hI hz
     rcases hcase with⟨hcp,_⟩|⟨hcp,hq0⟩
     ·have p1:(pre.length+1<cp)=True:=eq_true hcp
      have p2:(cp≤pre.length+1)=False:=eq_false (by omega)
      have hql:True:=trivial
      repeat'(first|refine fun (_:True)=>?_|refine zg ?_|(refine zc ?_ ?_<;>intro hc<;>first|simp only[NM]at hc|omega|skip)|refine zr ?_|refine⟨by omega,?_⟩|(refine zb ?_ ?_<;>intro hg<;>(try rw[hg])<;>try simp only[NM]at hg)|omega|simp -dsimp (disch:=try exact zo)only[go_sem,hl,hV,hVl,hMl,hMs,hMg,es1,em,ZT,Int.reduceToNat,Nat.add_sub_cancel,Nat.add_zero,Nat.zero_add,aV,cW,k1,k2,k3,k5,p1,p2,q1,q2,hVt,hVd,hql,hwr,hMl2]|contradiction|rfl)
      all_goals refine AW.stop ⟨⟨(false,pre++[k],qs,M),(fun h=>by cases h),hI1⟩,?_,by show qs.length+2*M.count false<qs.length+1+2*M.count false;omega⟩
      all_goals refine b0n 17 1 V cp rfl ?_
      all_goals dsimp only
      all_goals exact u6 17 17 4 60 _ (pre++[k]).length qs.length _ ((pre++[k]).length+qs.length) _ 1 V _ rfl (by simp) rfl (by rw[hV]) (by rw[fL,List.length_append]) rfl hVe hVf (by decide) (by decide) (by decide) (by decide) (by refine⟨?_,?_,?_,?_⟩<;>(try dsimp only)<;>simp -dsimp (disch:=try exact zo)only[go_sem,aV,jY,cW,hMs])
     ·have p1:(pre.length+1<cp)=False:=eq_false (by omega)
      have p2:(cp≤pre.length+1)=True:=eq_true hcp
      have hql:qs.length=0:=by rw[hq0];rfl
      have hzs:In (fun k=>k<60) AV.zs=True:=eq_true .zs
      repeat'(first|refine fun (_:True)=>?_|refine zg ?_|(refine zc ?_ ?_<;>intro hc<;>first|simp only[NM]at hc|omega|skip)|refine zr ?_|refine⟨by omega,?_⟩|(refine zb ?_ ?_<;>intro hg<;>(try rw[hg])<;>try simp only[NM]at hg)|omega|simp -dsimp (disch:=try exact zo)only[go_sem,hl,hV,hVl,hMl,hMs,hMg,es1,em,ZT,Int.reduceToNat,Nat.add_sub_cancel,Nat.add_zero,Nat.zero_add,aV,cW,k1,k2,k3,k5,p1,p2,q1,q2,hVt,hVd,hql,hwr,hMl2]|contradiction|rfl)
      all_goals exact AW.stop ⟨⟨(true,pre++[k],[],M),(fun _=>rfl),by rw[hq0]at hI1;exact hI1⟩,(aH (by refine⟨?_,?_,?_,?_⟩<;>simp -dsimp (disch:=try exact zo)only[go_sem,aV,cW,hzs,ZC])),by show ([]:List Int).length+2*M.count false<_;rw[List.length_nil];omega⟩
    ·have k3:(k<1)=False:=eq_false q4
     obtain⟨j,rfl⟩:∃ j:Nat,k=(j:Int)+1:=⟨(k - 1).toNat,by omega⟩
     have hj:j<N.length:=by omega
     have hjM:j<M.length:=by omega
     have k5:((j:Int)+1 - 1)=(j:Int):=by omega
     have em:=yX M j hjM
     have eM:M.getD j false=M[j]:=by rw[List.getD_eq_getElem?_getD,List.getElem?_eq_getElem hjM];rfl
     have es1:=uZ N j hj
     cases hm:M[j]
     ·rw[hm]at em eM
      have hwr:IntKind.i64.wrap (oI false+1)=1:=by decide
      have hMs:(cS M).set j [.lit (.int .i64 1)]=cS (M.set j true):=by unfold cS;rw[List.map_set];rfl
      have hMl2:(cS (M.set j true)).length=N.length:=(a7k _).trans (by rw[List.length_set];exact hMM)
      have hMg:(cS (M.set j true)).getD j []=[.lit (.int .i64 1)]:=by
       rw[yX _ _ (by rw[List.length_set];exact hjM),List.getElem_set_self];rfl
      obtain⟨hI2,hI3⟩:=hI.out.node hj eM
      replace hI2:=Hid.mk hI2
      replace hI3:=Hid.mk hI3
      have hcn:=vI hjM eM
      clear hI hz hm
      generalize N[j]=nd at *
      obtain⟨r,a,c⟩:=nd
      dsimp only at hI2 hI3
      dsimp only[eRN]at es1
      rcases hcase with⟨hcp,_⟩|⟨hcp,hq0⟩
      ·have p1:(pre.length+1<cp)=True:=eq_true hcp
       have p2:(cp≤pre.length+1)=False:=eq_false (by omega)
       have hql:True:=trivial
       rcases Nat.lt_or_ge cp (pre.length+1+qs.length+2)with hcq|hcq
       ·have q1:(pre.length+1+qs.length+2≤cp)=False:=eq_false (by omega)
        have q2:(cp<pre.length+1+qs.length+2)=True:=eq_true hcq
        repeat'(first|refine fun (_:True)=>?_|refine zg ?_|(refine zc ?_ ?_<;>intro hc<;>first|simp only[NM]at hc|omega|skip)|refine zr ?_|refine⟨by omega,?_⟩|(refine zb ?_ ?_<;>intro hg<;>(try rw[hg])<;>try simp only[NM]at hg)|omega|simp -dsimp (disch:=try exact zo)only[go_sem,hl,hV,hVl,hMl,hMs,hMg,es1,em,ZT,Int.reduceToNat,Nat.add_sub_cancel,Nat.add_zero,Nat.zero_add,aV,cW,k1,k2,k3,k5,p1,p2,q1,q2,hVt,hVd,hql,hwr,hMl2]|contradiction|rfl)
        all_goals refine AW.stop ⟨⟨(false,[],qs++[a,c],M.set j true),(fun h=>by cases h),hI3⟩,?_,by show (qs++[a,c]).length+2*(M.set j true).count false<_;rw[List.length_append];simp only[List.length_cons,List.length_nil];omega⟩
        all_goals dsimp only
        all_goals exact u6 111 17 4 60 _ ([]:List Int).length (qs++[a,c]).length _ (([]:List Int).length+(qs++[a,c]).length) _ 1 _ (kS ([]++(qs++[a,c]))) rfl rfl (by rw[List.length_append];rfl) (by simp only[List.length_append,fL,List.length_cons,List.length_nil];try omega) (by rw[fL,List.length_append]) rfl (by simp[kS]) (fl2 (pG qs) (fun e he=>he)) (by decide) (by decide) (by decide) (by decide) (by refine⟨?_,?_,?_,?_⟩<;>simp -dsimp (disch:=try exact zo)only[go_sem,aV,jY,cW,hMs])
       ·have q1:(pre.length+1+qs.length+2≤cp)=True:=eq_true hcq
        have q2:(cp<pre.length+1+qs.length+2)=False:=eq_false (by omega)
        repeat'(first|refine fun (_:True)=>?_|refine zg ?_|(refine zc ?_ ?_<;>intro hc<;>first|simp only[NM]at hc|omega|skip)|refine zr ?_|refine⟨by omega,?_⟩|(refine zb ?_ ?_<;>intro hg<;>(try rw[hg])<;>try simp only[NM]at hg)|omega|simp -dsimp (disch:=try exact zo)only[go_sem,hl,hV,hVl,hMl,hMs,hMg,es1,em,ZT,Int.reduceToNat,Nat.add_sub_cancel,Nat.add_zero,Nat.zero_add,aV,cW,k1,k2,k3,k5,p1,p2,q1,q2,hVt,hVd,hql,hwr,hMl2]|contradiction|rfl)
        all_goals refine AW.stop ⟨⟨(false,pre++[(j:Int)+1],qs++[a,c],M.set j true),(fun h=>by cases h),hI2⟩,?_,by show (qs++[a,c]).length+2*(M.set j true).count false<_;rw[List.length_append];simp only[List.length_cons,List.length_nil];omega⟩
        all_goals dsimp only
        all_goals exact u6 17 17 4 60 _ (pre++[(j:Int)+1]).length (qs++[a,c]).length _ ((pre++[(j:Int)+1]).length+(qs++[a,c]).length) _ 1 _ _ rfl (by simp) (by simp) (by simp only[List.length_append,fL,List.length_cons,List.length_nil];try omega) (by rw[fL,List.length_append]) rfl (by simp[kS]) (fl2 (pG _) (fun e he=>he)) (by decide) (by decide) (by decide) (by decide) (by refine⟨?_,?_,?_,?_⟩<;>simp -dsimp (disch:=try exact zo)only[go_sem,aV,jY,cW,hMs])
      ·have p1:(pre.length+1<cp)=False:=eq_false (by omega)
       have p2:(cp≤pre.length+1)=True:=eq_true hcp
       have hql:qs.length=0:=by rw[hq0];rfl
       have hzs:In (fun k=>k<60) AV.zs=True:=eq_true .zs
       have q1:True:=trivial
       have q2:True:=trivial
       repeat'(first|refine fun (_:True)=>?_|refine zg ?_|(refine zc ?_ ?_<;>intro hc<;>first|simp only[NM]at hc|omega|skip)|refine zr ?_|refine⟨by omega,?_⟩|(refine zb ?_ ?_<;>intro hg<;>(try rw[hg])<;>try simp only[NM]at hg)|omega|simp -dsimp (disch:=try exact zo)only[go_sem,hl,hV,hVl,hMl,hMs,hMg,es1,em,ZT,Int.reduceToNat,Nat.add_sub_cancel,Nat.add_zero,Nat.zero_add,aV,cW,k1,k2,k3,k5,p1,p2,q1,q2,hVt,hVd,hql,hwr,hMl2]|contradiction|rfl)
       all_goals refine AW.stop ⟨⟨(false,[],qs++[a,c],M.set j true),(fun h=>by cases h),hI3⟩,?_,by show (qs++[a,c]).length+2*(M.set j true).count false<_;rw[List.length_append];simp only[List.length_cons,List.length_nil];omega⟩
       all_goals dsimp only
       all_goals exact u6 111 17 4 60 _ ([]:List Int).length (qs++[a,c]).length _ (([]:List Int).length+(qs++[a,c]).length) _ 1 _ (kS ([]++(qs++[a,c]))) rfl rfl (by rw[hq0];rfl) rfl (by rw[fL,List.length_append]) rfl (by rw[hq0];rfl) (fl2 (V:=[]) (X:=[]) (fun e he=>by cases he) (fun e he=>he)) (by decide) (by decide) (by decide) (by decide) (by refine⟨?_,?_,?_,?_⟩<;>simp -dsimp (disch:=try exact zo)only[go_sem,aV,jY,cW,hMs])
     ·rw[hm]at em eM
      rw[hI.out.bad (.inr (.inr ⟨by omega,by rw[k5];exact hjM,by rw[k5];exact eM⟩))]
      have hMs:True:=trivial
      have hwr:IntKind.i64.wrap (oI true+1)=2:=by decide
      have hMg:((cS M).set j [.lit (.int .i64 2)]).getD j []=[.lit (.int .i64 2)]:=by
       rw[List.getD_eq_getElem?_getD,List.getElem?_set_self (by rw[hMl];exact hj)];rfl
      clear hI hz hm
      have q1:True:=trivial;have q2:True:=trivial
      rcases hcase with⟨hcp,_⟩|⟨hcp,hq0⟩
      ·have p1:(pre.length+1<cp)=True:=eq_true hcp
       have p2:(cp≤pre.length+1)=False:=eq_false (by omega)
       have hql:True:=trivial
       repeat'(first|refine fun (_:True)=>?_|refine zg ?_|(refine zc ?_ ?_<;>intro hc<;>first|simp only[NM]at hc|omega|skip)|refine zr ?_|refine⟨by omega,?_⟩|(refine zb ?_ ?_<;>intro hg<;>(try rw[hg])<;>try simp only[NM]at hg)|omega|simp -dsimp (disch:=try exact zo)only[go_sem,hl,hV,hVl,hMl,hMs,hMg,es1,em,ZT,Int.reduceToNat,Nat.add_sub_cancel,Nat.add_zero,Nat.zero_add,aV,cW,k1,k2,k3,k5,p1,p2,q1,q2,hVt,hVd,hql,hwr,hMl2]|contradiction|rfl)
      ·have p1:(pre.length+1<cp)=False:=eq_false (by omega)
       have p2:(cp≤pre.length+1)=True:=eq_true hcp
       have hql:qs.length=0:=by rw[hq0];rfl
       have hzs:In (fun k=>k<60) AV.zs=True:=eq_true .zs
       repeat'(first|refine fun (_:True)=>?_|refine zg ?_|(refine zc ?_ ?_<;>intro hc<;>first|simp only[NM]at hc|omega|skip)|refine zr ?_|refine⟨by omega,?_⟩|(refine zb ?_ ?_<;>intro hg<;>(try rw[hg])<;>try simp only[NM]at hg)|omega|simp -dsimp (disch:=try exact zo)only[go_sem,hl,hV,hVl,hMl,hMs,hMg,es1,em,ZT,Int.reduceToNat,Nat.add_sub_cancel,Nat.add_zero,Nat.zero_add,aV,cW,k1,k2,k3,k5,p1,p2,q1,q2,hVt,hVd,hql,hwr,hMl2]|contradiction|rfl)
end Go.Proofs.Vx
