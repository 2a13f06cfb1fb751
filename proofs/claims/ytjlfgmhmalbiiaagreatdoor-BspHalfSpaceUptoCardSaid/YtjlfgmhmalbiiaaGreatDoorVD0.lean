import Derived.Test.YtjlfgmhmalbiiaaGreatDoorV39
set_option linter.all false
set_option maxHeartbeats 40000000
namespace Go.Proofs.Vx
open Go Go.Sx Go.Proofs Tryz
attribute [local irreducible] fnT CallOK CallFr AW aJ callV aL aI aH aM gcaseP hid
def oI (b:Bool):Int:=if b=true then 1 else 0
def cS (M:List Bool):List (List AV):=M.map fun b=>[.lit (.int .i64 (oI b))]
theorem a9s (M:List Bool):(cS M).length=M.length:=List.length_map _
theorem a0n (M:List Bool) (i:Nat) (h:i<M.length):(cS M).getD i []=[.lit (.int .i64 (oI M[i]))]:=by
 unfold cS
 rw[List.getD_eq_getElem?_getD,List.getElem?_map,List.getElem?_eq_getElem h];rfl
theorem cS_in {K:Nat→Prop} (M:List Bool):(∀ e∈cS M,∀ c∈e,In K c)=True:=eq_true fun e he c hc=>by
 obtain⟨n,_,rfl⟩:=List.mem_map.1 he
 obtain rfl:=List.mem_singleton.1 hc
 exact .lit _
theorem b2z {S T:AS} (l k:Nat) (es:List (List AV)) (cp:Nat) (h:Sx.look S.o l=AV.vcp k es cp) (hw:Weak { t:=S.t,o:=(l,.vec k es)::S.o,nx:=S.nx } T):Weak S T:=fun c nt a w hs=>hw c nt a w (b4f l k es cp h c nt a w hs)
structure FJ (N:List RN) (b:Bool) (pre ks:List Int) (M:List Bool):Prop where
 eq:b=true↔bZ (b6 N) ks (mtB M)∧iM N
 len:M.length=N.length
 bd:pre.length+ks.length+2*M.count false≤29
theorem FJ.leaf {N:List RN} {b:Bool} {pre ks:List Int} {k:Int} {M:List Bool} (h:FJ N b pre (k::ks) M) (hk:k=-1∨k=0):FJ N b (pre++[k]) ks M :=
 ⟨by rw[h.eq,a2z hk],h.len,by have:=h.bd;rw[List.length_append,List.length_singleton];rw[List.length_cons]at this;omega⟩
theorem FJ.bad {N:List RN} {b:Bool} {pre ks:List Int} {k:Int} {M:List Bool} (h:FJ N b pre (k::ks) M) (hk:k < -1∨N.length<k∨(1≤k∧(k - 1).toNat<M.length∧M.getD (k - 1).toNat false=true)):b=false:=by
 cases hb:b
 ·rfl
 ·refine absurd (h.eq.1 hb).1 (a3u ?_)
  rw[sO]
  rcases hk with hk|hk|⟨h1,h2,h3⟩
  ·exact .inl hk
  ·exact .inr (.inl hk)
  ·exact .inr (.inr ⟨h1,n5.2 ⟨h2,h3⟩⟩)
theorem FJ.node {N:List RN} {b:Bool} {pre ks:List Int} {M:List Bool} {j:Nat} (hj:j<N.length) (h:FJ N b pre (((j:Int)+1)::ks) M) (hm:M.getD j false=false):FJ N b (pre++[(j:Int)+1]) (ks++[N[j].2.1,N[j].2.2]) (M.set j true)∧FJ N b [] (ks++[N[j].2.1,N[j].2.2]) (M.set j true):=by
 have hjM:j<M.length:=by rw[h.len];exact hj
 have h1:=w5 hjM hm
 have hbd:=h.bd
 have he:b=true↔bZ (b6 N) (ks++[N[j].2.1,N[j].2.2]) (mtB (M.set j true))∧iM N:=by
  rw[h.eq,a2y (a5e hj),a3r]
  exact and_congr (uY (.refl _) (a7m hjM hm).symm) Iff.rfl
 refine⟨⟨he,by rw[List.length_set];exact h.len,?_⟩,⟨he,by rw[List.length_set];exact h.len,?_⟩⟩<;>simp only[List.length_append,List.length_cons,List.length_nil]at hbd ⊢<;>omega
theorem FJ.done {N:List RN} {b:Bool} {pre:List Int} {M:List Bool} (h:FJ N b pre [] M):b=true↔(∀ j (h:j<M.length),M[j]=true)∧∀ j (h:j<N.length),j8 N[j].1:=by
 rw[h.eq,a3t (by rw[sO];exact h.len)]
 constructor
 ·rintro⟨h1,h2⟩
  exact⟨fun j h=>h1 _ (List.getElem_mem h),fun j h=>h2 _ (List.getElem_mem h)⟩
 ·rintro⟨h1,h2⟩
  refine⟨fun x hx=>?_,fun n hn=>?_⟩
  ·obtain⟨j,hj,rfl⟩:=List.getElem_of_mem hx;exact h1 j hj
  ·obtain⟨j,hj,rfl⟩:=List.getElem_of_mem hn;exact h2 j hj
theorem FJ.zero {N:List RN} {b:Bool} {k:Int} (hn:N.length≤14) (hb:b=true↔bZ (b6 N) [k] []∧iM N):FJ N b [] [k] (List.replicate N.length false):=by
 refine⟨by rw[a7n];exact hb,List.length_replicate,?_⟩
 rw[List.count_replicate];simp only[List.length_cons,List.length_nil];split<;>omega
attribute [go_sem] cS_in
set_option maxRecDepth 20000 in
theorem c104 (k0:Int) (N:List RN) (hn:N.length≤14) (hs:oE N) (b:Bool) (hb:b=true↔bZ (b6 N) [k0] []∧iM N):CallOK prog 104 [.agg (bF k0 N)] [] (.lit (.bool b)) []:=by
 refine zs func104 100 [.tmp 2] results104 ?_
 simp only[aC,Nat.reduceAdd]
 have hml:maxLen=9223372036854775807:=rfl
 have hl:(eRT N).length=N.length:=List.length_map _
 have hz:=FJ.zero hn hb
 have hrep:aG .i64 (List.replicate N.length 0)=cS (List.replicate N.length false):=by unfold aG cS;rw[List.map_replicate,List.map_replicate];rfl
 have hone:[[AV.lit (.int .i64 k0)]]=kS [k0]:=rfl
 replace hs:=Hid.mk hs
 replace hz:=Hid.mk hz
 clear hb
 repeat'(first|refine zk ?_|(refine zu ?_ ?_<;>intro hc)|(refine zv ?_ ?_<;>intro hg)|omega|simp -dsimp (disch:=try exact zo)only[go_sem,hl,hrep,hone]|contradiction|rfl)
 refine AW.loop (fun z:{z:Bool × List Int × List Int × List Bool // (z.1=true→z.2.2.1=[])∧Hid (FJ N b z.2.1 z.2.2.1 z.2.2.2)}=>match z.1.1 with|true=>⟨[(4,.zs),(3,.ref 13 0 N.length N.length),(1,.loc 8 0)],[(13,.vec 1 (cS z.1.2.2.2)),(8,.blk [.lit (.int .i64 k0),.sl (eRT N)])],60⟩|false=>⟨[(4,.ref 17 z.1.2.1.length z.1.2.2.1.length (z.1.2.1++z.1.2.2.1).length),(3,.ref 13 0 N.length N.length),(1,.loc 8 0)],[(17,.vec 1 (kS (z.1.2.1++z.1.2.2.1))),(13,.vec 1 (cS z.1.2.2.2)),(8,.blk [.lit (.int .i64 k0),.sl (eRT N)])],60⟩) (fun z=>z.1.2.2.1.length+2*z.1.2.2.2.count false) ⟨(false,[],[k0],List.replicate N.length false),fun h=>(by cases h),hz⟩ zw ?_
 rintro⟨⟨zb,pre,ks,M⟩,hzb,hI⟩
 dsimp only at hzb hI ⊢
 have hbd:=hI.out.bd
 have hMl:(cS M).length=N.length:=(a9s M).trans hI.out.len
 have hMM:=hI.out.len
 cases ks with
 | nil =>
  have hd:=Hid.mk hI.out.done
  have hk0:(([]:List Int).length:Int)=0:=rfl
  have hVn:(kS (pre++[])).length=(pre++[]).length:=fP _
  clear hI hz hbd hzb
  cases zb<;>dsimp only
  rotate_left
  all_goals try generalize kS (pre++[])=V at *
  all_goals repeat'(first|refine zk ?_|(refine zu ?_ ?_<;>intro hc)|(refine zv ?_ ?_<;>intro hg)|omega|simp -dsimp (disch:=try exact zo)only[go_sem,hl,hMl,hk0,hVn]|contradiction|rfl)
  all_goals refine AW.loop (fun z:{i:Nat // i≤N.length∧Hid (∀ j (h:j<M.length) (h':j<N.length),j<i→M[j]=true∧j8 N[j].1)}=>⟨[(6,.lit (.int .i64 z.1)),(3,.ref 13 0 N.length N.length),(1,.loc 8 0)],[(13,.vec 1 (cS M)),(8,.blk [.lit (.int .i64 k0),.sl (eRT N)])],90⟩) (fun z=>N.length - z.1) ⟨0,Nat.zero_le _,Hid.mk (fun j _ _ h=>absurd h (Nat.not_lt_zero _))⟩ zw ?_
  all_goals
   rintro⟨i,hi,hJ⟩
   dsimp only
   by_cases hlt:i<N.length
   ·have hiM:i<M.length:=by omega
    have es1:=wJ N i hlt
    have em:=a0n M i hiM
    have hs1:=hs.out _ (List.getElem_mem hlt)
    have hJ1:=Hid.mk (show M[i]=true∧j8 N[i].1→∀ j (h:j<M.length) (h':j<N.length),j<i+1→M[j]=true∧j8 N[j].1 from fun hx j h h' h2=>by
     by_cases q:j=i
     ·subst q;exact hx
     ·exact hJ.out j h h' (by omega))
    have hb1:M[i]=false→b=false:=fun hx=>by
     cases hq:b
     ·rfl
     ·have:=(hd.out.1 hq).1 i hiM;rw[hx]at this;cases this
    have hb2:¬ j8 N[i].1→b=false:=fun hx=>by
     cases hq:b
     ·rfl
     ·exact absurd ((hd.out.1 hq).2 i hlt) hx
    generalize M[i]=u at *
    generalize N[i]=nd at *
    obtain⟨r,a,c⟩:=nd
    dsimp only at hs1 hJ1 hb2
    have cn:=True.intro
    have sz:=(show r.m1.size≤268435456∧r.m2.size≤268435456∧r.m3.size≤268435456∧r.m4.size≤268435456 from⟨Nat.le_trans hs1.a (by decide),Nat.le_trans hs1.b (by decide),Nat.le_trans hs1.c (by decide),Nat.le_trans hs1.d (by decide)⟩)
    cases u
    ·rw[hb1 rfl]
     have k1:(oI false=1)=False:=eq_false (by decide)
     by_cases hzr:gZ r
     ·replace cn:=a1z r sz.1 sz.2.1 sz.2.2.1 sz.2.2.2 hzr
      clear hb1 hb2 hJ1 hzr sz
      simp only[eRP,eH,e4]at cn
      exact z1
     ·replace cn:=xX r sz.1 sz.2.1 sz.2.2.1 sz.2.2.2 hzr
      clear hb1 hb2 hJ1 hzr sz
      generalize bR r=p at *
      simp only[eRP,eH,e4]at cn
      exact z1
    ·have k1:(oI true=1)=True:=eq_true (by decide)
     by_cases hzr:gZ r
     ·replace cn:=a1z r sz.1 sz.2.1 sz.2.2.1 sz.2.2.2 hzr
      rw[hb2 fun h=>h.1 hzr]
      clear hb1 hb2 hJ1 hzr sz
      simp only[eRP,eH,e4]at cn
      exact z1
     ·replace cn:=xX r sz.1 sz.2.1 sz.2.2.1 sz.2.2.2 hzr
      by_cases hc:eRP r=eH (bR r)
      ·replace hJ1:=Hid.mk (hJ1.out ⟨rfl,hzr,hc⟩)
       have es2:eRN (r,a,c)=eRP r++[.lit (.int .i64 a),.lit (.int .i64 c)]:=rfl
       rw[es2,hc]at es1
       rw[hc]at cn
       clear hb1 hb2 hc hzr es2 sz
       generalize bR r=p at *
       simp only[eH,e4,List.cons_append,List.nil_append]at cn es1
       repeat'(first|refine zk ?_|(refine zu ?_ ?_<;>intro hc)|(refine zf cn ?_)|(refine zv ?_ ?_<;>intro hg)|omega|simp -dsimp (disch:=try exact zo)only[go_sem,hl,hMl,es1,em,k1,ZT]|contradiction|rfl)
       all_goals exact AW.stop ⟨⟨i+1,by omega,hJ1⟩,zw,by dsimp only;omega⟩
      ·rw[hb2 fun h=>hc h.2]
       clear hb1 hb2 hJ1 sz
       generalize bR r=q at *
       have hne:¬ (Zn q.a=r.n1∧Zm q.a=r.m1∧Zn q.b=r.n2∧Zm q.b=r.m2∧Zn q.c=r.n3∧Zm q.c=r.m3∧Zn q.d=r.n4∧Zm q.d=r.m4):=fun h=>hc (by
        unfold eRP eH e4
        obtain⟨h1,h2,h3,h4,h5,h6,h7,h8⟩:=h
        rw[h1,h2,h3,h4,h5,h6,h7,h8])
       clear hc
       simp only[eRP,eH,e4]at cn
       exact z1
   ·have hil:i=N.length:=by omega
    subst hil
    rw[hd.out.2 ⟨fun j h=>(hJ.out j h (by omega) (by omega)).1,fun j h=>(hJ.out j (by omega) h h).2⟩]
    clear hd hJ
    exact z1
 | cons k qs =>
  obtain rfl:zb=false:=by
   cases zb
   ·rfl
   ·exact absurd (hzb rfl) (List.cons_ne_nil _ _)
  clear hzb
  dsimp only
  have hV:(kS (pre++k::qs)).length=pre.length+(qs.length+1):=by rw[fP,List.length_append];rfl
  have hVl:(kS (pre++k::qs)).getD pre.length []=[.lit (.int .i64 k)]:=by
   unfold kS
   rw[List.map_append,List.getD_eq_getElem?_getD,List.getElem?_append_right (by rw[List.length_map];exact Nat.le_refl _),List.length_map,Nat.sub_self];rfl
  have hVt:(kS (pre++k::qs)).take (pre.length+1+qs.length)=kS ((pre++[k])++qs):=by
   rw[List.take_of_length_le (by rw[hV];omega),List.append_assoc];rfl
  have hVd:((kS (pre++k::qs)).drop (pre.length+1)).take qs.length=kS qs:=by
   have e:kS (pre++k::qs)=kS (pre++[k])++kS qs:=by unfold kS;rw[← List.map_append,List.append_assoc];rfl
   rw[e,List.drop_left' (by rw[fP,List.length_append];rfl),List.take_of_length_le (by rw[fP];exact Nat.le_refl _)]
  have hVe:kS (pre++k::qs)=kS ((pre++[k])++qs):=by rw[List.append_assoc];rfl
  have hVf:=pZ (pre++k::qs)
  have hn1:(pre++k::qs).length=pre.length+(qs.length+1):=by rw[List.length_append];rfl
  rw[hn1]
  rw[List.length_cons]at hbd ⊢
  generalize kS (pre++k::qs)=V at *
  have k1:True:=trivial;have k2:True:=trivial;have k3:True:=trivial;have k5:True:=trivial;have p1:True:=trivial;have p2:True:=trivial;have q1:True:=trivial;have q2:True:=trivial;have es1:True:=trivial;have em:True:=trivial;have hMs:True:=trivial;have hMg:True:=trivial;have hql:True:=trivial;have hwr:True:=trivial;have hMl2:True:=trivial
  all_goals repeat'(first|refine c6i 5 17 rfl rfl ?_|refine zk ?_|(refine zu ?_ ?_<;>intro hc)|(refine zv ?_ ?_<;>intro hg)|omega|simp -dsimp (disch:=try exact zo)only[go_sem,hl,hV,hVl,hMl,hMs,hMg,es1,em,ZT,Int.reduceToNat,Nat.add_sub_cancel,Nat.add_zero,Nat.zero_add,k1,k2,k3,k5,p1,p2,q1,q2,hVt,hVd,hql,hwr,hMl2]|contradiction|rfl)
  all_goals intro cp hcl
  have hcase:(∃ _:pre.length+1<cp,True)∨(cp≤pre.length+1∧qs=[]):=by
   rcases Nat.lt_or_ge (pre.length+1) cp with h|h
   ·exact .inl ⟨h,trivial⟩
   ·exact .inr ⟨h,List.eq_nil_of_length_eq_zero (by omega)⟩
  by_cases q0:k < -1
  ·rw[hI.out.bad (.inl q0)]
   have k1:(k < -1)=True:=eq_true q0
   have k2:True:=trivial;have k3:True:=trivial;have k5:True:=trivial;have q1:True:=trivial;have q2:True:=trivial;have es1:True:=trivial;have em:True:=trivial;have hMs:True:=trivial;have hMg:True:=trivial;have hwr:True:=trivial;have hMl2:True:=trivial
   clear hI hz
   rcases hcase with⟨hcp,_⟩|⟨hcp,hq0⟩
   ·have p1:(pre.length+1<cp)=True:=eq_true hcp
    have p2:(cp≤pre.length+1)=False:=eq_false (by omega)
    have hql:True:=trivial
    repeat'(first|refine fun (_:True)=>?_|refine zk ?_|(refine zu ?_ ?_<;>intro hc)|(refine zv ?_ ?_<;>intro hg)|omega|simp -dsimp (disch:=try exact zo)only[go_sem,hl,hV,hVl,hMl,hMs,hMg,es1,em,ZT,Int.reduceToNat,Nat.add_sub_cancel,Nat.add_zero,Nat.zero_add,k1,k2,k3,k5,p1,p2,q1,q2,hVt,hVd,hql,hwr,hMl2]|contradiction|rfl)
   ·have p1:(pre.length+1<cp)=False:=eq_false (by omega)
    have p2:(cp≤pre.length+1)=True:=eq_true hcp
    have hql:qs.length=0:=by rw[hq0];rfl
    have hzs:In (fun k=>k<60) AV.zs=True:=eq_true .zs
    repeat'(first|refine fun (_:True)=>?_|refine zk ?_|(refine zu ?_ ?_<;>intro hc)|(refine zv ?_ ?_<;>intro hg)|omega|simp -dsimp (disch:=try exact zo)only[go_sem,hl,hV,hVl,hMl,hMs,hMg,es1,em,ZT,Int.reduceToNat,Nat.add_sub_cancel,Nat.add_zero,Nat.zero_add,k1,k2,k3,k5,p1,p2,q1,q2,hVt,hVd,hql,hwr,hMl2]|contradiction|rfl)
  ·have k1:(k < -1)=False:=eq_false q0
   by_cases q3:(N.length:Int)<k
   ·rw[hI.out.bad (.inr (.inl q3))]
    have k2:((N.length:Int)<k)=True:=eq_true q3
    have k3:True:=trivial;have k5:True:=trivial;have q1:True:=trivial;have q2:True:=trivial;have es1:True:=trivial;have em:True:=trivial;have hMs:True:=trivial;have hMg:True:=trivial;have hwr:True:=trivial;have hMl2:True:=trivial
    clear hI hz
    rcases hcase with⟨hcp,_⟩|⟨hcp,hq0⟩
    ·have p1:(pre.length+1<cp)=True:=eq_true hcp
     have p2:(cp≤pre.length+1)=False:=eq_false (by omega)
     have hql:True:=trivial
     repeat'(first|refine fun (_:True)=>?_|refine zk ?_|(refine zu ?_ ?_<;>intro hc)|(refine zv ?_ ?_<;>intro hg)|omega|simp -dsimp (disch:=try exact zo)only[go_sem,hl,hV,hVl,hMl,hMs,hMg,es1,em,ZT,Int.reduceToNat,Nat.add_sub_cancel,Nat.add_zero,Nat.zero_add,k1,k2,k3,k5,p1,p2,q1,q2,hVt,hVd,hql,hwr,hMl2]|contradiction|rfl)
    ·have p1:(pre.length+1<cp)=False:=eq_false (by omega)
     have p2:(cp≤pre.length+1)=True:=eq_true hcp
     have hql:qs.length=0:=by rw[hq0];rfl
     have hzs:In (fun k=>k<60) AV.zs=True:=eq_true .zs
     repeat'(first|refine fun (_:True)=>?_|refine zk ?_|(refine zu ?_ ?_<;>intro hc)|(refine zv ?_ ?_<;>intro hg)|omega|simp -dsimp (disch:=try exact zo)only[go_sem,hl,hV,hVl,hMl,hMs,hMg,es1,em,ZT,Int.reduceToNat,Nat.add_sub_cancel,Nat.add_zero,Nat.zero_add,k1,k2,k3,k5,p1,p2,q1,q2,hVt,hVd,hql,hwr,hMl2]|contradiction|rfl)
   ·have k2:((N.length:Int)<k)=False:=eq_false q3
    by_cases q4:k<1
    ·have hI1:=Hid.mk (hI.out.leaf (by omega:k=-1∨k=0))
     have k3:(k<1)=True:=eq_true q4
     have k5:True:=trivial;have q1:True:=trivial;have q2:True:=trivial;have es1:True:=trivial;have em:True:=trivial;have hMs:True:=trivial;have hMg:True:=trivial;have hwr:True:=trivial;have hMl2:True:=trivial
     clear hI hz
     rcases hcase with⟨hcp,_⟩|⟨hcp,hq0⟩
     ·have p1:(pre.length+1<cp)=True:=eq_true hcp
      have p2:(cp≤pre.length+1)=False:=eq_false (by omega)
      have hql:True:=trivial
      repeat'(first|refine fun (_:True)=>?_|refine zk ?_|(refine zu ?_ ?_<;>intro hc)|(refine zv ?_ ?_<;>intro hg)|omega|simp -dsimp (disch:=try exact zo)only[go_sem,hl,hV,hVl,hMl,hMs,hMg,es1,em,ZT,Int.reduceToNat,Nat.add_sub_cancel,Nat.add_zero,Nat.zero_add,k1,k2,k3,k5,p1,p2,q1,q2,hVt,hVd,hql,hwr,hMl2]|contradiction|rfl)
      all_goals refine AW.stop ⟨⟨(false,pre++[k],qs,M),(fun h=>by cases h),hI1⟩,?_,by show qs.length+2*M.count false<qs.length+1+2*M.count false;omega⟩
      all_goals refine b2z 17 1 V cp rfl ?_
      all_goals dsimp only
      all_goals exact wL 17 17 4 60 _ (pre++[k]).length qs.length _ ((pre++[k]).length+qs.length) _ 1 V _ rfl (by simp) rfl (by rw[hV]) (by rw[fP,List.length_append]) rfl hVe hVf (by decide) (by decide) (by decide) (by decide) (by refine⟨?_,?_,?_,?_⟩<;>(try dsimp only)<;>simp -dsimp (disch:=try exact zo)only[go_sem,hMs])
     ·have p1:(pre.length+1<cp)=False:=eq_false (by omega)
      have p2:(cp≤pre.length+1)=True:=eq_true hcp
      have hql:qs.length=0:=by rw[hq0];rfl
      have hzs:In (fun k=>k<60) AV.zs=True:=eq_true .zs
      repeat'(first|refine fun (_:True)=>?_|refine zk ?_|(refine zu ?_ ?_<;>intro hc)|(refine zv ?_ ?_<;>intro hg)|omega|simp -dsimp (disch:=try exact zo)only[go_sem,hl,hV,hVl,hMl,hMs,hMg,es1,em,ZT,Int.reduceToNat,Nat.add_sub_cancel,Nat.add_zero,Nat.zero_add,k1,k2,k3,k5,p1,p2,q1,q2,hVt,hVd,hql,hwr,hMl2]|contradiction|rfl)
      all_goals exact AW.stop ⟨⟨(true,pre++[k],[],M),(fun _=>rfl),by rw[hq0]at hI1;exact hI1⟩,zw,by show ([]:List Int).length+2*M.count false<_;rw[List.length_nil];omega⟩
    ·have k3:(k<1)=False:=eq_false q4
     obtain⟨j,rfl⟩:∃ j:Nat,k=(j:Int)+1:=⟨(k - 1).toNat,by omega⟩
     have hj:j<N.length:=by omega
     have hjM:j<M.length:=by omega
     have k5:((j:Int)+1 - 1)=(j:Int):=by omega
     have em:=a0n M j hjM
     have eM:M.getD j false=M[j]:=by rw[List.getD_eq_getElem?_getD,List.getElem?_eq_getElem hjM];rfl
     have es1:=wJ N j hj
     cases hm:M[j]
     ·rw[hm]at em eM
      have hwr:IntKind.i64.wrap (oI false+1)=1:=by decide
      have hMs:(cS M).set j [.lit (.int .i64 1)]=cS (M.set j true):=by unfold cS;rw[List.map_set];rfl
      have hMl2:(cS (M.set j true)).length=N.length:=(a9s _).trans (by rw[List.length_set];exact hMM)
      have hMg:(cS (M.set j true)).getD j []=[.lit (.int .i64 1)]:=by
       rw[a0n _ _ (by rw[List.length_set];exact hjM),List.getElem_set_self];rfl
      obtain⟨hI2,hI3⟩:=hI.out.node hj eM
      replace hI2:=Hid.mk hI2
      replace hI3:=Hid.mk hI3
      have hcn:=w5 hjM eM
      clear hI hz hm
      generalize N[j]=nd at *
      obtain⟨r,a,c⟩:=nd
      dsimp only at hI2 hI3
      dsimp only[eRN]at es1
      rcases hcase with⟨hcp,_⟩|⟨hcp,hq0⟩
      ·have p1:(pre.length+1<cp)=True:=eq_true hcp
       have p2:(cp≤pre.length+1)=False:=eq_false (by omega)
       have hql:True:=trivial
       rcases Nat.lt_or_ge cp (pre.length+1+qs.length+2)with hcq|hcq
       ·have q1:(pre.length+1+qs.length+2≤cp)=False:=eq_false (by omega)
        have q2:(cp<pre.length+1+qs.length+2)=True:=eq_true hcq
        repeat'(first|refine fun (_:True)=>?_|refine zk ?_|(refine zu ?_ ?_<;>intro hc)|(refine zv ?_ ?_<;>intro hg)|omega|simp -dsimp (disch:=try exact zo)only[go_sem,hl,hV,hVl,hMl,hMs,hMg,es1,em,ZT,Int.reduceToNat,Nat.add_sub_cancel,Nat.add_zero,Nat.zero_add,k1,k2,k3,k5,p1,p2,q1,q2,hVt,hVd,hql,hwr,hMl2]|contradiction|rfl)
        all_goals refine AW.stop ⟨⟨(false,[],qs++[a,c],M.set j true),(fun h=>by cases h),hI3⟩,?_,by show (qs++[a,c]).length+2*(M.set j true).count false<_;rw[List.length_append];simp only[List.length_cons,List.length_nil];omega⟩
        all_goals dsimp only
        all_goals exact wL 111 17 4 60 _ ([]:List Int).length (qs++[a,c]).length _ (([]:List Int).length+(qs++[a,c]).length) _ 1 _ (kS ([]++(qs++[a,c]))) rfl rfl (by rw[List.length_append];rfl) (by simp only[List.length_append,fP,List.length_cons,List.length_nil];try omega) (by rw[fP,List.length_append]) rfl (by simp[kS]) (fl2 (pZ qs) (fun e he=>he)) (by decide) (by decide) (by decide) (by decide) (by refine⟨?_,?_,?_,?_⟩<;>simp -dsimp (disch:=try exact zo)only[go_sem,hMs])
       ·have q1:(pre.length+1+qs.length+2≤cp)=True:=eq_true hcq
        have q2:(cp<pre.length+1+qs.length+2)=False:=eq_false (by omega)
        repeat'(first|refine fun (_:True)=>?_|refine zk ?_|(refine zu ?_ ?_<;>intro hc)|(refine zv ?_ ?_<;>intro hg)|omega|simp -dsimp (disch:=try exact zo)only[go_sem,hl,hV,hVl,hMl,hMs,hMg,es1,em,ZT,Int.reduceToNat,Nat.add_sub_cancel,Nat.add_zero,Nat.zero_add,k1,k2,k3,k5,p1,p2,q1,q2,hVt,hVd,hql,hwr,hMl2]|contradiction|rfl)
        all_goals refine AW.stop ⟨⟨(false,pre++[(j:Int)+1],qs++[a,c],M.set j true),(fun h=>by cases h),hI2⟩,?_,by show (qs++[a,c]).length+2*(M.set j true).count false<_;rw[List.length_append];simp only[List.length_cons,List.length_nil];omega⟩
        all_goals dsimp only
        all_goals exact wL 17 17 4 60 _ (pre++[(j:Int)+1]).length (qs++[a,c]).length _ ((pre++[(j:Int)+1]).length+(qs++[a,c]).length) _ 1 _ _ rfl (by simp) (by simp) (by simp only[List.length_append,fP,List.length_cons,List.length_nil];try omega) (by rw[fP,List.length_append]) rfl (by simp[kS]) (fl2 (pZ _) (fun e he=>he)) (by decide) (by decide) (by decide) (by decide) (by refine⟨?_,?_,?_,?_⟩<;>simp -dsimp (disch:=try exact zo)only[go_sem,hMs])
      ·have p1:(pre.length+1<cp)=False:=eq_false (by omega)
       have p2:(cp≤pre.length+1)=True:=eq_true hcp
       have hql:qs.length=0:=by rw[hq0];rfl
       have hzs:In (fun k=>k<60) AV.zs=True:=eq_true .zs
       have q1:True:=trivial
       have q2:True:=trivial
       repeat'(first|refine fun (_:True)=>?_|refine zk ?_|(refine zu ?_ ?_<;>intro hc)|(refine zv ?_ ?_<;>intro hg)|omega|simp -dsimp (disch:=try exact zo)only[go_sem,hl,hV,hVl,hMl,hMs,hMg,es1,em,ZT,Int.reduceToNat,Nat.add_sub_cancel,Nat.add_zero,Nat.zero_add,k1,k2,k3,k5,p1,p2,q1,q2,hVt,hVd,hql,hwr,hMl2]|contradiction|rfl)
       all_goals refine AW.stop ⟨⟨(false,[],qs++[a,c],M.set j true),(fun h=>by cases h),hI3⟩,?_,by show (qs++[a,c]).length+2*(M.set j true).count false<_;rw[List.length_append];simp only[List.length_cons,List.length_nil];omega⟩
       all_goals dsimp only
       all_goals exact wL 111 17 4 60 _ ([]:List Int).length (qs++[a,c]).length _ (([]:List Int).length+(qs++[a,c]).length) _ 1 _ (kS ([]++(qs++[a,c]))) rfl rfl (by rw[hq0];rfl) rfl (by rw[fP,List.length_append]) rfl (by rw[hq0];rfl) (fl2 (V:=[]) (X:=[]) (fun e he=>by cases he) (fun e he=>he)) (by decide) (by decide) (by decide) (by decide) (by refine⟨?_,?_,?_,?_⟩<;>simp -dsimp (disch:=try exact zo)only[go_sem,hMs])
     ·rw[hm]at em eM
      rw[hI.out.bad (.inr (.inr ⟨by omega,by rw[k5];exact hjM,by rw[k5];exact eM⟩))]
      have hMs:True:=trivial
      have hwr:IntKind.i64.wrap (oI true+1)=2:=by decide
      have hMg:((cS M).set j [.lit (.int .i64 2)]).getD j []=[.lit (.int .i64 2)]:=by
       rw[List.getD_eq_getElem?_getD,List.getElem?_set_self (by rw[hMl];exact hj)];rfl
      clear hI hz hm
      have q1:True:=trivial;have q2:True:=trivial
      rcases hcase with⟨hcp,_⟩|⟨hcp,hq0⟩
      ·have p1:(pre.length+1<cp)=True:=eq_true hcp
       have p2:(cp≤pre.length+1)=False:=eq_false (by omega)
       have hql:True:=trivial
       repeat'(first|refine fun (_:True)=>?_|refine zk ?_|(refine zu ?_ ?_<;>intro hc)|(refine zv ?_ ?_<;>intro hg)|omega|simp -dsimp (disch:=try exact zo)only[go_sem,hl,hV,hVl,hMl,hMs,hMg,es1,em,ZT,Int.reduceToNat,Nat.add_sub_cancel,Nat.add_zero,Nat.zero_add,k1,k2,k3,k5,p1,p2,q1,q2,hVt,hVd,hql,hwr,hMl2]|contradiction|rfl)
      ·have p1:(pre.length+1<cp)=False:=eq_false (by omega)
       have p2:(cp≤pre.length+1)=True:=eq_true hcp
       have hql:qs.length=0:=by rw[hq0];rfl
       have hzs:In (fun k=>k<60) AV.zs=True:=eq_true .zs
       repeat'(first|refine fun (_:True)=>?_|refine zk ?_|(refine zu ?_ ?_<;>intro hc)|(refine zv ?_ ?_<;>intro hg)|omega|simp -dsimp (disch:=try exact zo)only[go_sem,hl,hV,hVl,hMl,hMs,hMg,es1,em,ZT,Int.reduceToNat,Nat.add_sub_cancel,Nat.add_zero,Nat.zero_add,k1,k2,k3,k5,p1,p2,q1,q2,hVt,hVd,hql,hwr,hMl2]|contradiction|rfl)
end Go.Proofs.Vx
namespace Go.Proofs.Vx
open Go Go.Sx Go.Proofs Tryz
attribute [local irreducible] fnT CallOK CallFr AW aJ callV aL aI aH aM gcaseP hid
theorem c39x (k0:Int) (N:List RN) (hn:N.length≤14) (hs:oE N) (hb:¬ (bZ (b6 N) [k0] []∧iM N)):CallOK prog 39 [.agg (bF k0 N)] [] (.lit (.int .i64 3)) [] :=
 c39a k0 N (c104 k0 N hn hs false ⟨fun h=>(Bool.false_ne_true h).elim,fun h=>absurd h hb⟩)
theorem c39t {N:List TN} {k:Int} {T:BT} (h:TrB N k T):CallOK prog 39 [.agg (eTr k N)] [] (.lit (.int .i64 (if T.chk aK=true then 0 else 1))) [] :=
 c39b k N T h (by
  have:CallOK prog 104 [.agg [.lit (.int .i64 k),.sl (eRT (iI N))]] [] (.lit (.bool true)) []:=c104 k (iI N) (by unfold iI;rw[List.length_map];exact h.n) h.small true h.raw
  rw[a9e]at this
  exact this)
theorem a5f {k:Int} {N:List RN} (hn:N.length≤14) (hs:oE N) (hb:bZ (b6 N) [k] []∧iM N):∃ T,TrB (b6 N) k T∧eRT N=eTS (b6 N):=by
 obtain⟨T,h1,h2⟩:=a3s.1 hb.1
 refine⟨T,⟨⟨h1,h2⟩,fun n hn=>?_,by rw[sO];exact hn,fun n hn=>?_⟩,?_⟩
 ·obtain⟨m,hm,rfl⟩:=List.mem_map.1 hn
  exact a9i (hb.2 m hm).1
 ·obtain⟨m,hm,rfl⟩:=List.mem_map.1 hn
  exact a7i (hs m hm) (hb.2 m hm).1
 ·unfold eRT b6 eTS
  rw[List.map_map]
  refine List.map_congr_left fun n hn=>?_
  have:=(hb.2 n hn).2
  show eRP n.1++[AV.lit (.int .i64 n.2.1),AV.lit (.int .i64 n.2.2)]=eH (bR n.1)++[AV.lit (.int .i64 n.2.1),AV.lit (.int .i64 n.2.2)]
  rw[this]
theorem sR {N:List RN} (h:qF N):oE N:=fun n hn=>by
 obtain⟨h1,h2,h3,h4⟩:=a6n (h.2 n hn)
 exact⟨by omega,by omega,by omega,by omega⟩
abbrev upP:Pl:=⟨0,0,1,0⟩
theorem c3c:CanH upP:=⟨by decide +kernel,by decide⟩
theorem tZ {x y z:Int} (hx:-1000≤x∧x≤1000) (hy:-1000≤y∧y≤1000) (hz:-1000≤z∧z≤1000):BPt 268435456 ⟨x,y,z,1⟩:=by
 have key:∀ a:Int,-1000≤a∧a≤1000→(Zm a).size≤268435456:=fun a ha=>by
  refine (cJ _ _).2 ?_
  have:a.natAbs<65536:=by omega
  exact Nat.lt_of_lt_of_le this (Nat.pow_le_pow_right (n:=256) (by decide) (show 2≤268435456 by decide))
 exact⟨⟨key _ hx,key _ hy,key _ hz,key 1 (by decide)⟩⟩
theorem a7y:TrB [] (-1) (.lf true):=⟨⟨rfl,.refl _⟩,by simp,by decide,by simp⟩
set_option maxRecDepth 20000 in
theorem c36  : CallOK prog 36 [] [] (.lit (.bool true)) []:=by
 refine zs func36 44 [.tmp 0] results36 ?_
 simp only[aC,Nat.reduceAdd]
 have hml:maxLen=9223372036854775807:=rfl
 have hT:TrB (gB upP) (gC upP) (dY upP):=a5v c3c ⟨⟨by rw[eU];decide,by rw[eU];decide,(cJ _ _).2 (by decide),by rw[eU];decide⟩⟩
 have h46:CallOK prog 46 [.agg [.lit (.bool false),.lit (.string ⟨#[]⟩),.lit (.bool false),.lit (.string ⟨#[]⟩),.lit (.bool (Zn 1)),.lit (.string (Zm 1)),.lit (.bool false),.lit (.string ⟨#[]⟩)]] [] (.agg (eTr (gC upP) (gB upP))) []:=by
  have:=c46 upP ⟨⟨by rw[eU];decide,by rw[eU];decide,Nat.le_trans ((cJ _ _).2 (show (1:Int).natAbs<256 ^ 1 by decide)) (by decide),by rw[eU];decide⟩⟩
  simp only[eH,e4,upP,lG,eU]at this
  exact this
 have p1:=c99 0 0 (-1) (by decide) (by decide) (by decide)
 have p2:=c99 0 0 0 (by decide) (by decide) (by decide)
 have p3:=c99 0 0 1 (by decide) (by decide) (by decide)
 have p4:=c99 0 0 (-1000) (by decide) (by decide) (by decide)
 have q1:=c42 (gC upP) (gB upP) (dY upP) hT ⟨0,0,-1,1⟩ (tZ (by decide) (by decide) (by decide))
 rw[show cO (dY upP) ⟨0,0,-1,1⟩=1 from by decide +kernel]at q1
 have q2:=c42 (gC upP) (gB upP) (dY upP) hT ⟨0,0,0,1⟩ (tZ (by decide) (by decide) (by decide))
 rw[show cO (dY upP) ⟨0,0,0,1⟩=0 from by decide +kernel]at q2
 have q3:=c42 (gC upP) (gB upP) (dY upP) hT ⟨0,0,1,1⟩ (tZ (by decide) (by decide) (by decide))
 rw[show cO (dY upP) ⟨0,0,1,1⟩=-1 from by decide +kernel]at q3
 have q4:=c42 (gC upP) (gB upP) (dY upP) hT ⟨0,0,-1000,1⟩ (tZ (by decide) (by decide) (by decide))
 rw[show cO (dY upP) ⟨0,0,-1000,1⟩=0 from by decide +kernel]at q4
 have q5:=c42 (-1) [] (.lf true) a7y ⟨0,0,1,1⟩ (tZ (by decide) (by decide) (by decide))
 rw[show cO (.lf true) ⟨0,0,1,1⟩=1 from by decide +kernel]at q5
 have h38:=c38b (gC upP) (gB upP) (dY upP) hT
 rw[if_pos (a4w upP)]at h38
 have h52:=c52 (gC upP) (gB upP) (dY upP) hT
 have hcl:(cL ((dY upP).cells aK)).length=1:=by
  rw[qO,BT.cells_len];decide +kernel
 clear hT
 generalize (dY upP).cells aK=L at *
 generalize dY upP=T at *
 generalize gC upP=K at *
 generalize gB upP=NN at *
 have zh0:=uI
 have zh1:=c49
 exact z1
set_option maxRecDepth 20000 in
theorem c9o (k:Int) (N:List RN) (h:¬ qF N):CallOK prog 40 [.agg (bF k N)] [] (.lit (.bool false)) []:=by
 refine zs func40 11 [.tmp 2] results40 ?_
 simp only[aC,Nat.reduceAdd]
 have cg:CallOK prog 37 [.agg (bF k N)] [] (.lit (.int .i64 1)) []:=by
  by_cases hn:N.length≤14
  ·have:=c37 k N hn false ⟨fun h=>(Bool.false_ne_true h).elim,fun hb=>absurd ⟨hn,hb⟩ h⟩
   rw[if_neg (by decide)]at this
   exact this
  ·exact a9v k N (by omega)
 have cc:True:=trivial
 clear h
 exact z1
theorem a6l (k:Int) (N:List RN) (h:qF N):CallOK prog 37 [.agg (bF k N)] [] (.lit (.int .i64 0)) []:=by
 have:=c37 k N h.1 true ⟨fun _=>h.2,fun _=>rfl⟩
 rw[if_pos rfl]at this
 exact this
theorem c5v (k:Int) (N:List RN) (h:¬ qF N):CallOK prog 37 [.agg (bF k N)] [] (.lit (.int .i64 1)) []:=by
 by_cases hn:N.length≤14
 ·have:=c37 k N hn false ⟨fun h=>(Bool.false_ne_true h).elim,fun hb=>absurd ⟨hn,hb⟩ h⟩
  rw[if_neg (by decide)]at this
  exact this
 ·exact a9v k N (by omega)
set_option maxRecDepth 20000 in
theorem c40s (es:List (List AV)) (k v:Int) (b:Bool) (he:∀ e∈es,∀ c∈e,In (fun _=>False) c) (hb:(v=0)=(b=true)) (cg:CallOK prog 37 [.agg [.lit (.int .i64 k),.sl es]] [] (.lit (.int .i64 0)) []) (cc:CallOK prog 39 [.agg [.lit (.int .i64 k),.sl es]] [] (.lit (.int .i64 v)) []):CallOK prog 40 [.agg [.lit (.int .i64 k),.sl es]] [] (.lit (.bool b)) []:=by
 refine zs func40 11 [.tmp 2] results40 ?_
 simp only[aC,Nat.reduceAdd]
 replace he:=eq_true he
 cases b
 ·have hb:(v=0)=False:=by rw[hb];simp
  repeat'(first|refine zk ?_|(refine zu ?_ ?_<;>intro hc)|(refine zp cg (by simp -dsimp (disch:=try exact zo)only[go_sem,he]) (.lit _) ?_)|(refine zp cc (by simp -dsimp (disch:=try exact zo)only[go_sem,he]) (.lit _) ?_)|(refine zv ?_ ?_<;>intro hg)|omega|simp -dsimp (disch:=try exact zo)only[go_sem,he,hb]|contradiction|rfl)
 ·have hb:(v=0)=True:=by rw[hb];simp
  repeat'(first|refine zk ?_|(refine zu ?_ ?_<;>intro hc)|(refine zp cg (by simp -dsimp (disch:=try exact zo)only[go_sem,he]) (.lit _) ?_)|(refine zp cc (by simp -dsimp (disch:=try exact zo)only[go_sem,he]) (.lit _) ?_)|(refine zv ?_ ?_<;>intro hg)|omega|simp -dsimp (disch:=try exact zo)only[go_sem,he,hb]|contradiction|rfl)
theorem yT (k:Int) (N:List RN):CallOK prog 40 [.agg (bF k N)] [] (.lit (.bool false)) []∨∃ N' T,TrB N' k T∧T.chk aK=true∧eRT N=eTS N'∧CallOK prog 40 [.agg (eTr k N')] [] (.lit (.bool true)) []:=by
 by_cases hs:qF N
 ·have cg:=a6l k N hs
  by_cases hb:bZ (b6 N) [k] []∧iM N
  ·obtain⟨T,h1,h2⟩:=a5f hs.1 (sR hs) hb
   have cc:=c39t h1
   rw[show bF k N=eTr k (b6 N) by rw[bF,h2]]at cg
   have:=c40s (eTS (b6 N)) k _ (T.chk aK) (of_eq_true (tV _)) (by cases T.chk aK<;>simp) cg cc
   cases hc:T.chk aK
   ·rw[hc]at this
    left
    rw[show bF k N=eTr k (b6 N) by rw[bF,h2]]
    exact this
   ·rw[hc]at this
    exact .inr ⟨b6 N,T,h1,hc,h2,this⟩
  ·exact .inl (c40s (eRT N) k 3 false (of_eq_true (a1i _)) (by simp) cg (c39x k N hs.1 (sR hs) hb))
 ·exact .inl (c9o k N hs)
set_option maxRecDepth 20000 in
theorem c7big (k:Int) (N:List RN) (cg:CallOK prog 37 [.agg (bF k N)] [] (.lit (.int .i64 1)) []):CallOK prog 7 [.agg (bF k N)] [] (.lit (.bool true)) []:=by
 refine zs func7 15 [.tmp 2] results7 ?_
 simp only[aC,Nat.reduceAdd]
 have c3:True:=trivial
 have cc:True:=trivial
 have zh0:=c36
 exact z1
set_option maxRecDepth 20000 in
theorem c7s (es:List (List AV)) (k v:Int) (he:∀ e∈es,∀ c∈e,In (fun _=>False) c) (cg:CallOK prog 37 [.agg [.lit (.int .i64 k),.sl es]] [] (.lit (.int .i64 0)) []) (c3:CallOK prog 38 [.agg [.lit (.int .i64 k),.sl es]] [] (.lit (.int .i64 v)) []) (cc:CallOK prog 39 [.agg [.lit (.int .i64 k),.sl es]] [] (.lit (.int .i64 v)) []):CallOK prog 7 [.agg [.lit (.int .i64 k),.sl es]] [] (.lit (.bool true)) []:=by
 refine zs func7 15 [.tmp 2] results7 ?_
 simp only[aC,Nat.reduceAdd]
 replace he:=eq_true he
 repeat'(first|refine zk ?_|(refine zu ?_ ?_<;>intro hc)|(refine zf c36 ?_)|(refine zp cg (by simp -dsimp (disch:=try exact zo)only[go_sem,he]) (.lit _) ?_)|(refine zp c3 (by simp -dsimp (disch:=try exact zo)only[go_sem,he]) (.lit _) ?_)|(refine zp cc (by simp -dsimp (disch:=try exact zo)only[go_sem,he]) (.lit _) ?_)|(refine zv ?_ ?_<;>intro hg)|omega|simp -dsimp (disch:=try exact zo)only[go_sem,he]|contradiction|rfl)
theorem call7 (k:Int) (N:List RN):CallOK prog 7 [.agg (bF k N)] [] (.lit (.bool true)) []:=by
 by_cases hs:qF N
 ·have cg:=a6l k N hs
  by_cases hb:bZ (b6 N) [k] []∧iM N
  ·obtain⟨T,h1,h2⟩:=a5f hs.1 (sR hs) hb
   rw[show bF k N=eTr k (b6 N) by rw[bF,h2]]at cg ⊢
   exact c7s (eTS (b6 N)) k _ (of_eq_true (tV _)) cg (c38b k (b6 N) T h1) (c39t h1)
  ·exact c7s (eRT N) k 3 (of_eq_true (a1i _)) cg (c38a k N hs.1 (sR hs) hb) (c39x k N hs.1 (sR hs) hb)
 ·exact c7big k N (c5v k N hs)
set_option maxRecDepth 20000 in
theorem c8bad (k:Int) (N:List RN) (x:RP) (cf:CallOK prog 40 [.agg (bF k N)] [] (.lit (.bool false)) []):CallOK prog 8 [.agg (bF k N),.agg (eRP x)] [] (.lit (.bool true)) []:=by
 refine zs func8 24 [.tmp 4] results8 ?_
 simp only[aC,Nat.reduceAdd]
 have zh0:=c36
 exact z1
set_option maxRecDepth 20000 in
theorem c8big (k:Int) (N:List TN) (x:RP) (cf:CallOK prog 40 [.agg (eTr k N)] [] (.lit (.bool true)) []) (hx:b8 x=true):CallOK prog 8 [.agg (eTr k N),.agg (eRP x)] [] (.lit (.bool true)) []:=by
 refine zs func8 24 [.tmp 4] results8 ?_
 simp only[aC,Nat.reduceAdd]
 have cg:=c41 x
 rw[if_pos hx]at cg
 clear hx
 simp only[eRP]at cg
 have zh0:=c36
 exact z1
set_option maxRecDepth 20000 in
theorem c8ok (k:Int) (N:List TN) (T:BT) (h:TrB N k T) (x:RP) (cf:CallOK prog 40 [.agg (eTr k N)] [] (.lit (.bool true)) []) (hx:¬ b8 x=true):CallOK prog 8 [.agg (eTr k N),.agg (eRP x)] [] (.lit (.bool true)) []:=by
 refine zs func8 24 [.tmp 4] results8 ?_
 simp only[aC,Nat.reduceAdd]
 have cg:=c41 x
 rw[if_neg hx]at cg
 have cx:=c29x x hx
 have hb:=(xB hx).mono (l:=268435456) (by decide)
 have c1:=c42 k N T h (ptR x) hb
 have c2:=c43 k N T h (ptR x) hb
 clear h hb hx
 generalize cO T (ptR x)=v at *
 generalize ptR x=p at *
 simp only[eRP]at cg
 simp only[eP,e4]at cx c1 c2
 have zh0:=c36
 exact z1
theorem call8 (k:Int) (N:List RN) (x:RP):CallOK prog 8 [.agg (bF k N),.agg (eRP x)] [] (.lit (.bool true)) []:=by
 rcases yT k N with cf|⟨N',T,h,_,he,cf⟩
 ·exact c8bad k N x cf
 ·rw[show bF k N=eTr k N' by rw[bF,he]]
  by_cases hx:b8 x=true
  ·exact c8big k N' x cf hx
  ·exact c8ok k N' T h x cf hx
end Go.Proofs.Vx
namespace Go.Proofs.Vx
open Go Go.Sx Go.Proofs Tryz
attribute [local irreducible] fnT CallOK CallFr AW aJ callV aL aI aH aM gcaseP hid
set_option maxRecDepth 20000 in
theorem c9a (r x:RP) (hr:RB 268435456 r) (hz:gZ r):CallOK prog 9 [.agg (eRP r),.agg (eRP x)] [] (.lit (.bool true)) []:=by
 refine zs func9 67 [.tmp 4] results9 ?_
 simp only[aC,Nat.reduceAdd]
 have cn:=a1z r hr.a hr.b hr.c hr.d hz
 clear hz hr
 simp only[eRP,eH,e4]at cn
 have zh0:=c36
 exact z1
set_option maxRecDepth 20000 in
theorem c9b (r x:RP) (hr:RB 268435456 r) (hz:¬ gZ r) (hb:b8 r=true∨b8 x=true):CallOK prog 9 [.agg (eRP r),.agg (eRP x)] [] (.lit (.bool true)) []:=by
 refine zs func9 67 [.tmp 4] results9 ?_
 simp only[aC,Nat.reduceAdd]
 have cn:=xX r hr.a hr.b hr.c hr.d hz
 have cb:=c45 r
 have cg:=c41 x
 clear hz hr
 generalize bR r=q at *
 simp only[eRP,eH,e4]at cn cb cg
 by_cases h1:b8 r=true
 ·rw[if_pos h1]at cb
  clear hb h1
  have zh0:=c36
  exact z1
 ·rw[if_neg h1]at cb
  rw[if_pos (hb.resolve_left h1)]at cg
  clear hb h1
  have zh0:=c36
  exact z1
set_option maxRecDepth 20000 in
theorem c9c (r x:RP) (hr:RB 268435456 r) (hz:¬ gZ r) (h1:¬ b8 r=true) (hx:¬ b8 x=true):CallOK prog 9 [.agg (eRP r),.agg (eRP x)] [] (.lit (.bool true)) []:=by
 refine zs func9 67 [.tmp 4] results9 ?_
 simp only[aC,Nat.reduceAdd]
 have hml:maxLen=9223372036854775807:=rfl
 have cn:=xX r hr.a hr.b hr.c hr.d hz
 have cb:=c45 r
 have cg:=c41 x
 rw[if_neg h1]at cb
 rw[if_neg hx]at cg
 have cx:=c29x x hx
 have hb:=(xB hx).mono (l:=268435456) (by decide)
 have hC:CanH (bR r):=a9i hz
 have hq:BPl 6 (bR r):=by
  obtain⟨g1,g2,g3,g4⟩:=zR (by simpa using h1)
  exact a7i ⟨g1,g2,g3,g4⟩ hz
 have hT:=a5v hC hq
 have h46:=c46 (bR r) (hq.mono (by decide))
 have h47:=c47 (bR r) (hq.mono (by decide))
 have h39:=c39t hT
 rw[if_pos (a4w _)]at h39
 have c1:=c42 _ _ _ hT (ptR x) hb
 have c2:=c43 _ _ _ hT (ptR x) hb
 have c3:=c42 (-1) [] (.lf true) a7y (ptR x) hb
 rw[b6q]at c3
 have ce:=c48 (ptR x) hb
 have cs:=c50 (bR r) (ptR x) (hq.mono (by decide)) (hb.mono (by decide))
 have hw:=(a0c x).w
 have hH:=c1q (a9r hC) hw
 have hwr:IntKind.i64.wrap (0 - aB (bR r) (ptR x))=- aB (bR r) (ptR x):=by rcases vL (bR r) (ptR x)with e|e|e<;>rw[e]<;>decide
 have hE:=(tA hw).2.2
 clear hz hr hb hq hC hT h1 hx hw
 generalize cO (dY (bR r)) (ptR x)=v at *
 generalize bN (ptR x)=e at *
 generalize aB (bR r) (ptR x)=sd at *
 generalize gC (bR r)=K at *
 generalize gB (bR r)=NN at *
 generalize ptR x=p at *
 generalize bR r=q at *
 simp only[eRP,eH,e4,eP]at cn cb cg cx c1 c2 c3 ce cs h46 h47
 by_cases q1:e<1
 ·have k1:(e<1)=True:=eq_true q1
  clear hH hE q1
  have zh0:=c36
  have zh1:=c49
  exact z1
 ·obtain rfl:e=1:=by omega
  obtain rfl:=hH rfl
  have k1:True:=trivial
  clear hH hE q1
  have zh0:=c36
  have zh1:=c49
  exact z1
theorem call9 (r x:RP) (hr:RB 268435456 r):CallOK prog 9 [.agg (eRP r),.agg (eRP x)] [] (.lit (.bool true)) []:=by
 by_cases hz:gZ r
 ·exact c9a r x hr hz
 ·by_cases h1:b8 r=true
  ·exact c9b r x hr hz (.inl h1)
  ·by_cases hx:b8 x=true
   ·exact c9b r x hr hz (.inr hx)
   ·exact c9c r x hr hz h1 hx
end Go.Proofs.Vx
