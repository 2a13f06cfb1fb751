import Derived.Test.YtjlfgmhmalbiiaaGreatDoorX39
set_option linter.all false
set_option maxHeartbeats 40000000
open Bool renaming false_ne_true → An
open Int renaming reduceToNat → Ac
open List renaming length_append → Aa, length_cons → Ad, length_nil → Ag, getD_eq_getElem?_getD → Ah, length_map → Aj, length_set → Ak, replicate → Am, append_assoc → Ao, getElem?_eq_getElem → Ap, getElem_mem → Aq, take_of_length_le → Ar, getElem_of_mem → As, map_replicate → At, mem_map → Au, map_append → Av
open Nat renaming add_sub_cancel → Ab, add_zero → Ae, zero_add → Af, reduceAdd → Ai, le_trans → Al, lt_or_ge → Aw, le_refl → Ax
namespace Go.Proofs.Vx
open Go Go.Sx Go.Proofs Tryz
attribute [local irreducible] fnT CallOK CallFr AW aK callV aL aJ aI aM gcaseP hid
def oI (b:Bool):Int:=if b=true then 1 else 0
def cS (M:List Bool):List (List AV):=M.map fun b=>[.lit (.int .i64 (oI b))]
theorem b1q (M:List Bool):(cS M).length=M.length:=Aj _
theorem a1l (M:List Bool) (i:Nat) (h:i<M.length):(cS M).getD i []=[.lit (.int .i64 (oI M[i]))]:=by
 unfold cS
 rw[Ah,List.getElem?_map,Ap h];rfl
theorem cS_in {K:Nat→Prop} (M:List Bool):(∀ e∈cS M,∀ c∈e,In K c)=True:=eq_true fun e he c hc=>by
 obtain⟨n,_,rfl⟩:=Au.1 he
 obtain rfl:=List.mem_singleton.1 hc
 exact .lit _
theorem b4w {S T:AS} (l k:Nat) (es:List (List AV)) (cp:Nat) (h:Sx.look S.o l=AV.vcp k es cp) (hw:Weak { t:=S.t,o:=(l,.vec k es)::S.o,nx:=S.nx } T):Weak S T:=fun c nt a w hs=>hw c nt a w (b6c l k es cp h c nt a w hs)
structure FJ (N:List RN) (b:Bool) (pre ks:List Int) (M:List Bool):Prop where
 eq:b=true↔b8 (cC N) ks (mtB M)∧i4 N
 len:M.length=N.length
 bd:pre.length+ks.length+2*M.count false≤29
theorem FJ.leaf {N:List RN} {b:Bool} {pre ks:List Int} {k:Int} {M:List Bool} (h:FJ N b pre (k::ks) M) (hk:k=-1∨k=0):FJ N b (pre++[k]) ks M :=
 ⟨by rw[h.eq,a4d hk],h.len,by have:=h.bd;rw[Aa,List.length_singleton];rw[Ad]at this;omega⟩
theorem FJ.bad {N:List RN} {b:Bool} {pre ks:List Int} {k:Int} {M:List Bool} (h:FJ N b pre (k::ks) M) (hk:k < -1∨N.length<k∨(1≤k∧(k - 1).toNat<M.length∧M.getD (k - 1).toNat false=true)):b=false:=by
 cases hb:b
 ·rfl
 ·refine absurd (h.eq.1 hb).1 (a5c ?_)
  rw[tR]
  rcases hk with hk|hk|⟨h1,h2,h3⟩
  ·exact .inl hk
  ·exact .inr (.inl hk)
  ·exact .inr (.inr ⟨h1,oJ.2 ⟨h2,h3⟩⟩)
theorem FJ.node {N:List RN} {b:Bool} {pre ks:List Int} {M:List Bool} {j:Nat} (hj:j<N.length) (h:FJ N b pre (((j:Int)+1)::ks) M) (hm:M.getD j false=false):FJ N b (pre++[(j:Int)+1]) (ks++[N[j].2.1,N[j].2.2]) (M.set j true)∧FJ N b [] (ks++[N[j].2.1,N[j].2.2]) (M.set j true):=by
 have hjM:j<M.length:=by rw[h.len];exact hj
 have h1:=xP hjM hm
 have hbd:=h.bd
 have he:b=true↔b8 (cC N) (ks++[N[j].2.1,N[j].2.2]) (mtB (M.set j true))∧i4 N:=by
  rw[h.eq,a4c (a6r hj),a4z]
  exact and_congr (vS (.refl _) (a9n hjM hm).symm) Iff.rfl
 refine⟨⟨he,by rw[Ak];exact h.len,?_⟩,⟨he,by rw[Ak];exact h.len,?_⟩⟩<;>simp only[Aa,Ad,Ag]at hbd ⊢<;>omega
theorem FJ.done {N:List RN} {b:Bool} {pre:List Int} {M:List Bool} (h:FJ N b pre [] M):b=true↔(∀ j (h:j<M.length),M[j]=true)∧∀ j (h:j<N.length),kP N[j].1:=by
 rw[h.eq,a5b (by rw[tR];exact h.len)]
 constructor
 ·rintro⟨h1,h2⟩
  exact⟨fun j h=>h1 _ (Aq h),fun j h=>h2 _ (Aq h)⟩
 ·rintro⟨h1,h2⟩
  refine⟨fun x hx=>?_,fun n hn=>?_⟩
  ·obtain⟨j,hj,rfl⟩:=As hx;exact h1 j hj
  ·obtain⟨j,hj,rfl⟩:=As hn;exact h2 j hj
theorem FJ.zero {N:List RN} {b:Bool} {k:Int} (hn:N.length≤14) (hb:b=true↔b8 (cC N) [k] []∧i4 N):FJ N b [] [k] (Am N.length false):=by
 refine⟨by rw[a9o];exact hb,List.length_replicate,?_⟩
 rw[List.count_replicate];simp only[Ad,Ag];split<;>omega
attribute [go_sem] cS_in
set_option maxRecDepth 20000 in
theorem c104 (k0:Int) (N:List RN) (hn:N.length≤14) (hs:oR N) (b:Bool) (hb:b=true↔b8 (cC N) [k0] []∧i4 N):CallOK prog 104 [.agg (bV k0 N)] [] (.lit (.bool b)) []:=by
 refine zs func104 100 [.tmp 2] results104 ?_
 simp only[aD,Ai]
 have hml:maxLen=9223372036854775807:=rfl
 have hl:(eRT N).length=N.length:=Aj _
 have hz:=FJ.zero hn hb
 have hrep:aH .i64 (Am N.length 0)=cS (Am N.length false):=by unfold aH cS;rw[At,At];rfl
 have hone:[[AV.lit (.int .i64 k0)]]=kS [k0]:=rfl
 replace hs:=Hid.mk hs
 replace hz:=Hid.mk hz
 clear hb
 repeat'(first|refine zk ?_|(refine zu ?_ ?_<;>intro hc)|(refine zv ?_ ?_<;>intro hg)|omega|simp -dsimp (disch:=try exact zo)only[go_sem,hl,hrep,hone]|contradiction|rfl)
 refine AW.loop (fun z:{z:Bool × List Int × List Int × List Bool // (z.1=true→z.2.2.1=[])∧Hid (FJ N b z.2.1 z.2.2.1 z.2.2.2)}=>match z.1.1 with|true=>⟨[(4,.zs),(3,.ref 13 0 N.length N.length),(1,.loc 8 0)],[(13,.vec 1 (cS z.1.2.2.2)),(8,.blk [.lit (.int .i64 k0),.sl (eRT N)])],60⟩|false=>⟨[(4,.ref 17 z.1.2.1.length z.1.2.2.1.length (z.1.2.1++z.1.2.2.1).length),(3,.ref 13 0 N.length N.length),(1,.loc 8 0)],[(17,.vec 1 (kS (z.1.2.1++z.1.2.2.1))),(13,.vec 1 (cS z.1.2.2.2)),(8,.blk [.lit (.int .i64 k0),.sl (eRT N)])],60⟩) (fun z=>z.1.2.2.1.length+2*z.1.2.2.2.count false) ⟨(false,[],[k0],Am N.length false),fun h=>(by cases h),hz⟩ zw ?_
 rintro⟨⟨zb,pre,ks,M⟩,hzb,hI⟩
 dsimp only at hzb hI ⊢
 have hbd:=hI.out.bd
 have hMl:(cS M).length=N.length:=(b1q M).trans hI.out.len
 have hMM:=hI.out.len
 cases ks with
 | nil =>
  have hd:=Hid.mk hI.out.done
  have hk0:(([]:List Int).length:Int)=0:=rfl
  have hVn:(kS (pre++[])).length=(pre++[]).length:=gC _
  clear hI hz hbd hzb
  cases zb<;>dsimp only
  rotate_left
  all_goals try generalize kS (pre++[])=V at *
  all_goals repeat'(first|refine zk ?_|(refine zu ?_ ?_<;>intro hc)|(refine zv ?_ ?_<;>intro hg)|omega|simp -dsimp (disch:=try exact zo)only[go_sem,hl,hMl,hk0,hVn]|contradiction|rfl)
  all_goals refine AW.loop (fun z:{i:Nat // i≤N.length∧Hid (∀ j (h:j<M.length) (h':j<N.length),j<i→M[j]=true∧kP N[j].1)}=>⟨[(6,.lit (.int .i64 z.1)),(3,.ref 13 0 N.length N.length),(1,.loc 8 0)],[(13,.vec 1 (cS M)),(8,.blk [.lit (.int .i64 k0),.sl (eRT N)])],90⟩) (fun z=>N.length - z.1) ⟨0,Nat.zero_le _,Hid.mk (fun j _ _ h=>absurd h (Nat.not_lt_zero _))⟩ zw ?_
  all_goals
   rintro⟨i,hi,hJ⟩
   dsimp only
   by_cases hlt:i<N.length
   ·have hiM:i<M.length:=by omega
    have es1:=w9 N i hlt
    have em:=a1l M i hiM
    have hs1:=hs.out _ (Aq hlt)
    have hJ1:=Hid.mk (show M[i]=true∧kP N[i].1→∀ j (h:j<M.length) (h':j<N.length),j<i+1→M[j]=true∧kP N[j].1 from fun hx j h h' h2=>by
     by_cases q:j=i
     ·subst q;exact hx
     ·exact hJ.out j h h' (by omega))
    have hb1:M[i]=false→b=false:=fun hx=>by
     cases hq:b
     ·rfl
     ·have:=(hd.out.1 hq).1 i hiM;rw[hx]at this;cases this
    have hb2:¬ kP N[i].1→b=false:=fun hx=>by
     cases hq:b
     ·rfl
     ·exact absurd ((hd.out.1 hq).2 i hlt) hx
    generalize M[i]=u at *
    generalize N[i]=nd at *
    obtain⟨r,a,c⟩:=nd
    dsimp only at hs1 hJ1 hb2
    have cn:=True.intro
    have sz:=(show r.m1.size≤268435456∧r.m2.size≤268435456∧r.m3.size≤268435456∧r.m4.size≤268435456 from⟨Al hs1.a (by decide),Al hs1.b (by decide),Al hs1.c (by decide),Al hs1.d (by decide)⟩)
    cases u
    ·rw[hb1 rfl]
     have k1:(oI false=1)=False:=eq_false (by decide)
     by_cases hzr:kK r
     ·replace cn:=b2w r sz.1 sz.2.1 sz.2.2.1 sz.2.2.2 hzr
      clear hb1 hb2 hJ1 hzr sz
      simp only[eRP,eH,e4]at cn
      exact z1
     ·replace cn:=b2x r sz.1 sz.2.1 sz.2.2.1 sz.2.2.2 hzr
      clear hb1 hb2 hJ1 hzr sz
      generalize fJ r=p at *
      simp only[eRP,eH,e4]at cn
      exact z1
    ·have k1:(oI true=1)=True:=eq_true (by decide)
     by_cases hzr:kK r
     ·replace cn:=b2w r sz.1 sz.2.1 sz.2.2.1 sz.2.2.2 hzr
      rw[hb2 fun h=>h.1 hzr]
      clear hb1 hb2 hJ1 hzr sz
      simp only[eRP,eH,e4]at cn
      exact z1
     ·replace cn:=b2x r sz.1 sz.2.1 sz.2.2.1 sz.2.2.2 hzr
      by_cases hc:eRP r=eH (fJ r)
      ·replace hJ1:=Hid.mk (hJ1.out ⟨rfl,hzr,hc⟩)
       have es2:eRN (r,a,c)=eRP r++[.lit (.int .i64 a),.lit (.int .i64 c)]:=rfl
       rw[es2,hc]at es1
       rw[hc]at cn
       clear hb1 hb2 hc hzr es2 sz
       generalize fJ r=p at *
       simp only[eH,e4,List.cons_append,List.nil_append]at cn es1
       repeat'(first|refine zk ?_|(refine zu ?_ ?_<;>intro hc)|(refine zf cn ?_)|(refine zv ?_ ?_<;>intro hg)|omega|simp -dsimp (disch:=try exact zo)only[go_sem,hl,hMl,es1,em,k1,ZT]|contradiction|rfl)
       all_goals exact AW.stop ⟨⟨i+1,by omega,hJ1⟩,zw,by dsimp only;omega⟩
      ·rw[hb2 fun h=>hc h.2]
       clear hb1 hb2 hJ1 sz
       generalize fJ r=q at *
       have hne:¬ (Zn q.a=r.n1∧Zm q.a=r.m1∧Zn q.b=r.n2∧Zm q.b=r.m2∧Zn q.c=r.n3∧Zm q.c=r.m3∧Zn q.d=r.n4∧Zm q.d=r.m4):=fun h=>hc (by
        unfold eRP eH e4
        obtain⟨h1,h2,h3,h4,h5,h6,h7,h8⟩:=h
        rw[h1,h2,h3,h4,h5,h6,h7,h8])
       clear hc
       simp only[eRP,eH,e4]at cn
       exact z1
   ·have hil:i=N.length:=by omega
    subst hil
    rw[hd.out.2 ⟨fun j h=>(hJ.out j h (by omega) (by omega)).1,fun j h=>(hJ.out j (by omega) h h).2⟩]
    clear hd hJ
    exact z1
 | cons k qs =>
  obtain rfl:zb=false:=by
   cases zb
   ·rfl
   ·exact absurd (hzb rfl) (List.cons_ne_nil _ _)
  clear hzb
  dsimp only
  have hV:(kS (pre++k::qs)).length=pre.length+(qs.length+1):=by rw[gC,Aa];rfl
  have hVl:(kS (pre++k::qs)).getD pre.length []=[.lit (.int .i64 k)]:=by
   unfold kS
   rw[Av,Ah,List.getElem?_append_right (by rw[Aj];exact Ax _),Aj,Nat.sub_self];rfl
  have hVt:(kS (pre++k::qs)).take (pre.length+1+qs.length)=kS ((pre++[k])++qs):=by
   rw[Ar (by rw[hV];omega),Ao];rfl
  have hVd:((kS (pre++k::qs)).drop (pre.length+1)).take qs.length=kS qs:=by
   have e:kS (pre++k::qs)=kS (pre++[k])++kS qs:=by unfold kS;rw[← Av,Ao];rfl
   rw[e,List.drop_left' (by rw[gC,Aa];rfl),Ar (by rw[gC];exact Ax _)]
  have hVe:kS (pre++k::qs)=kS ((pre++[k])++qs):=by rw[Ao];rfl
  have hVf:=qS (pre++k::qs)
  have hn1:(pre++k::qs).length=pre.length+(qs.length+1):=by rw[Aa];rfl
  rw[hn1]
  rw[Ad]at hbd ⊢
  generalize kS (pre++k::qs)=V at *
  have k1:True:=trivial;have k2:True:=trivial;have k3:True:=trivial;have k5:True:=trivial;have p1:True:=trivial;have p2:True:=trivial;have q1:True:=trivial;have q2:True:=trivial;have es1:True:=trivial;have em:True:=trivial;have hMs:True:=trivial;have hMg:True:=trivial;have hql:True:=trivial;have hwr:True:=trivial;have hMl2:True:=trivial
  all_goals repeat'(first|refine a1o 5 17 rfl rfl ?_|refine zk ?_|(refine zu ?_ ?_<;>intro hc)|(refine zv ?_ ?_<;>intro hg)|omega|simp -dsimp (disch:=try exact zo)only[go_sem,hl,hV,hVl,hMl,hMs,hMg,es1,em,ZT,Ac,Ab,Ae,Af,k1,k2,k3,k5,p1,p2,q1,q2,hVt,hVd,hql,hwr,hMl2]|contradiction|rfl)
  all_goals intro cp hcl
  have hcase:(∃ _:pre.length+1<cp,True)∨(cp≤pre.length+1∧qs=[]):=by
   rcases Aw (pre.length+1) cp with h|h
   ·exact .inl ⟨h,trivial⟩
   ·exact .inr ⟨h,List.eq_nil_of_length_eq_zero (by omega)⟩
  by_cases q0:k < -1
  ·rw[hI.out.bad (.inl q0)]
   have k1:(k < -1)=True:=eq_true q0
   have k2:True:=trivial;have k3:True:=trivial;have k5:True:=trivial;have q1:True:=trivial;have q2:True:=trivial;have es1:True:=trivial;have em:True:=trivial;have hMs:True:=trivial;have hMg:True:=trivial;have hwr:True:=trivial;have hMl2:True:=trivial
   clear hI hz
   rcases hcase with⟨hcp,_⟩|⟨hcp,hq0⟩
   ·have p1:(pre.length+1<cp)=True:=eq_true hcp
    have p2:(cp≤pre.length+1)=False:=eq_false (by omega)
    have hql:True:=trivial
    repeat'(first|refine fun (_:True)=>?_|refine zk ?_|(refine zu ?_ ?_<;>intro hc)|(refine zv ?_ ?_<;>intro hg)|omega|simp -dsimp (disch:=try exact zo)only[go_sem,hl,hV,hVl,hMl,hMs,hMg,es1,em,ZT,Ac,Ab,Ae,Af,k1,k2,k3,k5,p1,p2,q1,q2,hVt,hVd,hql,hwr,hMl2]|contradiction|rfl)
   ·have p1:(pre.length+1<cp)=False:=eq_false (by omega)
    have p2:(cp≤pre.length+1)=True:=eq_true hcp
    have hql:qs.length=0:=by rw[hq0];rfl
    have hzs:In (fun k=>k<60) AV.zs=True:=eq_true .zs
    repeat'(first|refine fun (_:True)=>?_|refine zk ?_|(refine zu ?_ ?_<;>intro hc)|(refine zv ?_ ?_<;>intro hg)|omega|simp -dsimp (disch:=try exact zo)only[go_sem,hl,hV,hVl,hMl,hMs,hMg,es1,em,ZT,Ac,Ab,Ae,Af,k1,k2,k3,k5,p1,p2,q1,q2,hVt,hVd,hql,hwr,hMl2]|contradiction|rfl)
  ·have k1:(k < -1)=False:=eq_false q0
   by_cases q3:(N.length:Int)<k
   ·rw[hI.out.bad (.inr (.inl q3))]
    have k2:((N.length:Int)<k)=True:=eq_true q3
    have k3:True:=trivial;have k5:True:=trivial;have q1:True:=trivial;have q2:True:=trivial;have es1:True:=trivial;have em:True:=trivial;have hMs:True:=trivial;have hMg:True:=trivial;have hwr:True:=trivial;have hMl2:True:=trivial
    clear hI hz
    rcases hcase with⟨hcp,_⟩|⟨hcp,hq0⟩
    ·have p1:(pre.length+1<cp)=True:=eq_true hcp
     have p2:(cp≤pre.length+1)=False:=eq_false (by omega)
     have hql:True:=trivial
     repeat'(first|refine fun (_:True)=>?_|refine zk ?_|(refine zu ?_ ?_<;>intro hc)|(refine zv ?_ ?_<;>intro hg)|omega|simp -dsimp (disch:=try exact zo)only[go_sem,hl,hV,hVl,hMl,hMs,hMg,es1,em,ZT,Ac,Ab,Ae,Af,k1,k2,k3,k5,p1,p2,q1,q2,hVt,hVd,hql,hwr,hMl2]|contradiction|rfl)
    ·have p1:(pre.length+1<cp)=False:=eq_false (by omega)
     have p2:(cp≤pre.length+1)=True:=eq_true hcp
     have hql:qs.length=0:=by rw[hq0];rfl
     have hzs:In (fun k=>k<60) AV.zs=True:=eq_true .zs
     repeat'(first|refine fun (_:True)=>?_|refine zk ?_|(refine zu ?_ ?_<;>intro hc)|(refine zv ?_ ?_<;>intro hg)|omega|simp -dsimp (disch:=try exact zo)only[go_sem,hl,hV,hVl,hMl,hMs,hMg,es1,em,ZT,Ac,Ab,Ae,Af,k1,k2,k3,k5,p1,p2,q1,q2,hVt,hVd,hql,hwr,hMl2]|contradiction|rfl)
   ·have k2:((N.length:Int)<k)=False:=eq_false q3
    by_cases q4:k<1
    ·have hI1:=Hid.mk (hI.out.leaf (by omega:k=-1∨k=0))
     have k3:(k<1)=True:=eq_true q4
     have k5:True:=trivial;have q1:True:=trivial;have q2:True:=trivial;have es1:True:=trivial;have em:True:=trivial;have hMs:True:=trivial;have hMg:True:=trivial;have hwr:True:=trivial;have hMl2:True:=trivial
     clear hI hz
     rcases hcase with⟨hcp,_⟩|⟨hcp,hq0⟩
     ·have p1:(pre.length+1<cp)=True:=eq_true hcp
      have p2:(cp≤pre.length+1)=False:=eq_false (by omega)
      have hql:True:=trivial
      repeat'(first|refine fun (_:True)=>?_|refine zk ?_|(refine zu ?_ ?_<;>intro hc)|(refine zv ?_ ?_<;>intro hg)|omega|simp -dsimp (disch:=try exact zo)only[go_sem,hl,hV,hVl,hMl,hMs,hMg,es1,em,ZT,Ac,Ab,Ae,Af,k1,k2,k3,k5,p1,p2,q1,q2,hVt,hVd,hql,hwr,hMl2]|contradiction|rfl)
      all_goals refine AW.stop ⟨⟨(false,pre++[k],qs,M),(fun h=>by cases h),hI1⟩,?_,by show qs.length+2*M.count false<qs.length+1+2*M.count false;omega⟩
      all_goals refine b4w 17 1 V cp rfl ?_
      all_goals dsimp only
      all_goals exact i8 17 17 4 60 _ (pre++[k]).length qs.length _ ((pre++[k]).length+qs.length) _ 1 V _ rfl (by simp) rfl (by rw[hV]) (by rw[gC,Aa]) rfl hVe hVf (by decide) (by decide) (by decide) (by decide) (by refine⟨?_,?_,?_,?_⟩<;>(try dsimp only)<;>simp -dsimp (disch:=try exact zo)only[go_sem,hMs])
     ·have p1:(pre.length+1<cp)=False:=eq_false (by omega)
      have p2:(cp≤pre.length+1)=True:=eq_true hcp
      have hql:qs.length=0:=by rw[hq0];rfl
      have hzs:In (fun k=>k<60) AV.zs=True:=eq_true .zs
      repeat'(first|refine fun (_:True)=>?_|refine zk ?_|(refine zu ?_ ?_<;>intro hc)|(refine zv ?_ ?_<;>intro hg)|omega|simp -dsimp (disch:=try exact zo)only[go_sem,hl,hV,hVl,hMl,hMs,hMg,es1,em,ZT,Ac,Ab,Ae,Af,k1,k2,k3,k5,p1,p2,q1,q2,hVt,hVd,hql,hwr,hMl2]|contradiction|rfl)
      all_goals exact AW.stop ⟨⟨(true,pre++[k],[],M),(fun _=>rfl),by rw[hq0]at hI1;exact hI1⟩,zw,by show ([]:List Int).length+2*M.count false<_;rw[Ag];omega⟩
    ·have k3:(k<1)=False:=eq_false q4
     obtain⟨j,rfl⟩:∃ j:Nat,k=(j:Int)+1:=⟨(k - 1).toNat,by omega⟩
     have hj:j<N.length:=by omega
     have hjM:j<M.length:=by omega
     have k5:((j:Int)+1 - 1)=(j:Int):=by omega
     have em:=a1l M j hjM
     have eM:M.getD j false=M[j]:=by rw[Ah,Ap hjM];rfl
     have es1:=w9 N j hj
     cases hm:M[j]
     ·rw[hm]at em eM
      have hwr:IntKind.i64.wrap (oI false+1)=1:=by decide
      have hMs:(cS M).set j [.lit (.int .i64 1)]=cS (M.set j true):=by unfold cS;rw[List.map_set];rfl
      have hMl2:(cS (M.set j true)).length=N.length:=(b1q _).trans (by rw[Ak];exact hMM)
      have hMg:(cS (M.set j true)).getD j []=[.lit (.int .i64 1)]:=by
       rw[a1l _ _ (by rw[Ak];exact hjM),List.getElem_set_self];rfl
      obtain⟨hI2,hI3⟩:=hI.out.node hj eM
      replace hI2:=Hid.mk hI2
      replace hI3:=Hid.mk hI3
      have hcn:=xP hjM eM
      clear hI hz hm
      generalize N[j]=nd at *
      obtain⟨r,a,c⟩:=nd
      dsimp only at hI2 hI3
      dsimp only[eRN]at es1
      rcases hcase with⟨hcp,_⟩|⟨hcp,hq0⟩
      ·have p1:(pre.length+1<cp)=True:=eq_true hcp
       have p2:(cp≤pre.length+1)=False:=eq_false (by omega)
       have hql:True:=trivial
       rcases Aw cp (pre.length+1+qs.length+2)with hcq|hcq
       ·have q1:(pre.length+1+qs.length+2≤cp)=False:=eq_false (by omega)
        have q2:(cp<pre.length+1+qs.length+2)=True:=eq_true hcq
        repeat'(first|refine fun (_:True)=>?_|refine zk ?_|(refine zu ?_ ?_<;>intro hc)|(refine zv ?_ ?_<;>intro hg)|omega|simp -dsimp (disch:=try exact zo)only[go_sem,hl,hV,hVl,hMl,hMs,hMg,es1,em,ZT,Ac,Ab,Ae,Af,k1,k2,k3,k5,p1,p2,q1,q2,hVt,hVd,hql,hwr,hMl2]|contradiction|rfl)
        all_goals refine AW.stop ⟨⟨(false,[],qs++[a,c],M.set j true),(fun h=>by cases h),hI3⟩,?_,by show (qs++[a,c]).length+2*(M.set j true).count false<_;rw[Aa];simp only[Ad,Ag];omega⟩
        all_goals dsimp only
        all_goals exact i8 111 17 4 60 _ ([]:List Int).length (qs++[a,c]).length _ (([]:List Int).length+(qs++[a,c]).length) _ 1 _ (kS ([]++(qs++[a,c]))) rfl rfl (by rw[Aa];rfl) (by simp only[Aa,gC,Ad,Ag];try omega) (by rw[gC,Aa]) rfl (by simp[kS]) (fl2 (qS qs) (fun e he=>he)) (by decide) (by decide) (by decide) (by decide) (by refine⟨?_,?_,?_,?_⟩<;>simp -dsimp (disch:=try exact zo)only[go_sem,hMs])
       ·have q1:(pre.length+1+qs.length+2≤cp)=True:=eq_true hcq
        have q2:(cp<pre.length+1+qs.length+2)=False:=eq_false (by omega)
        repeat'(first|refine fun (_:True)=>?_|refine zk ?_|(refine zu ?_ ?_<;>intro hc)|(refine zv ?_ ?_<;>intro hg)|omega|simp -dsimp (disch:=try exact zo)only[go_sem,hl,hV,hVl,hMl,hMs,hMg,es1,em,ZT,Ac,Ab,Ae,Af,k1,k2,k3,k5,p1,p2,q1,q2,hVt,hVd,hql,hwr,hMl2]|contradiction|rfl)
        all_goals refine AW.stop ⟨⟨(false,pre++[(j:Int)+1],qs++[a,c],M.set j true),(fun h=>by cases h),hI2⟩,?_,by show (qs++[a,c]).length+2*(M.set j true).count false<_;rw[Aa];simp only[Ad,Ag];omega⟩
        all_goals dsimp only
        all_goals exact i8 17 17 4 60 _ (pre++[(j:Int)+1]).length (qs++[a,c]).length _ ((pre++[(j:Int)+1]).length+(qs++[a,c]).length) _ 1 _ _ rfl (by simp) (by simp) (by simp only[Aa,gC,Ad,Ag];try omega) (by rw[gC,Aa]) rfl (by simp[kS]) (fl2 (qS _) (fun e he=>he)) (by decide) (by decide) (by decide) (by decide) (by refine⟨?_,?_,?_,?_⟩<;>simp -dsimp (disch:=try exact zo)only[go_sem,hMs])
      ·have p1:(pre.length+1<cp)=False:=eq_false (by omega)
       have p2:(cp≤pre.length+1)=True:=eq_true hcp
       have hql:qs.length=0:=by rw[hq0];rfl
       have hzs:In (fun k=>k<60) AV.zs=True:=eq_true .zs
       have q1:True:=trivial
       have q2:True:=trivial
       repeat'(first|refine fun (_:True)=>?_|refine zk ?_|(refine zu ?_ ?_<;>intro hc)|(refine zv ?_ ?_<;>intro hg)|omega|simp -dsimp (disch:=try exact zo)only[go_sem,hl,hV,hVl,hMl,hMs,hMg,es1,em,ZT,Ac,Ab,Ae,Af,k1,k2,k3,k5,p1,p2,q1,q2,hVt,hVd,hql,hwr,hMl2]|contradiction|rfl)
       all_goals refine AW.stop ⟨⟨(false,[],qs++[a,c],M.set j true),(fun h=>by cases h),hI3⟩,?_,by show (qs++[a,c]).length+2*(M.set j true).count false<_;rw[Aa];simp only[Ad,Ag];omega⟩
       all_goals dsimp only
       all_goals exact i8 111 17 4 60 _ ([]:List Int).length (qs++[a,c]).length _ (([]:List Int).length+(qs++[a,c]).length) _ 1 _ (kS ([]++(qs++[a,c]))) rfl rfl (by rw[hq0];rfl) rfl (by rw[gC,Aa]) rfl (by rw[hq0];rfl) (fl2 (V:=[]) (X:=[]) (fun e he=>by cases he) (fun e he=>he)) (by decide) (by decide) (by decide) (by decide) (by refine⟨?_,?_,?_,?_⟩<;>simp -dsimp (disch:=try exact zo)only[go_sem,hMs])
     ·rw[hm]at em eM
      rw[hI.out.bad (.inr (.inr ⟨by omega,by rw[k5];exact hjM,by rw[k5];exact eM⟩))]
      have hMs:True:=trivial
      have hwr:IntKind.i64.wrap (oI true+1)=2:=by decide
      have hMg:((cS M).set j [.lit (.int .i64 2)]).getD j []=[.lit (.int .i64 2)]:=by
       rw[Ah,List.getElem?_set_self (by rw[hMl];exact hj)];rfl
      clear hI hz hm
      have q1:True:=trivial;have q2:True:=trivial
      rcases hcase with⟨hcp,_⟩|⟨hcp,hq0⟩
      ·have p1:(pre.length+1<cp)=True:=eq_true hcp
       have p2:(cp≤pre.length+1)=False:=eq_false (by omega)
       have hql:True:=trivial
       repeat'(first|refine fun (_:True)=>?_|refine zk ?_|(refine zu ?_ ?_<;>intro hc)|(refine zv ?_ ?_<;>intro hg)|omega|simp -dsimp (disch:=try exact zo)only[go_sem,hl,hV,hVl,hMl,hMs,hMg,es1,em,ZT,Ac,Ab,Ae,Af,k1,k2,k3,k5,p1,p2,q1,q2,hVt,hVd,hql,hwr,hMl2]|contradiction|rfl)
      ·have p1:(pre.length+1<cp)=False:=eq_false (by omega)
       have p2:(cp≤pre.length+1)=True:=eq_true hcp
       have hql:qs.length=0:=by rw[hq0];rfl
       have hzs:In (fun k=>k<60) AV.zs=True:=eq_true .zs
       repeat'(first|refine fun (_:True)=>?_|refine zk ?_|(refine zu ?_ ?_<;>intro hc)|(refine zv ?_ ?_<;>intro hg)|omega|simp -dsimp (disch:=try exact zo)only[go_sem,hl,hV,hVl,hMl,hMs,hMg,es1,em,ZT,Ac,Ab,Ae,Af,k1,k2,k3,k5,p1,p2,q1,q2,hVt,hVd,hql,hwr,hMl2]|contradiction|rfl)
end Go.Proofs.Vx
namespace Go.Proofs.Vx
open Go Go.Sx Go.Proofs Tryz
attribute [local irreducible] fnT CallOK CallFr AW aK callV aL aJ aI aM gcaseP hid
theorem c39x (k0:Int) (N:List RN) (hn:N.length≤14) (hs:oR N) (hb:¬ (b8 (cC N) [k0] []∧i4 N)):CallOK prog 39 [.agg (bV k0 N)] [] (.lit (.int .i64 3)) [] :=
 c39a k0 N (c104 k0 N hn hs false ⟨fun h=>(An h).elim,fun h=>absurd h hb⟩)
theorem c39t {N:List TN} {k:Int} {T:BT} (h:TrB N k T):CallOK prog 39 [.agg (eTr k N)] [] (.lit (.int .i64 (if T.chk aO=true then 0 else 1))) [] :=
 c39b k N T h (by
  have:CallOK prog 104 [.agg [.lit (.int .i64 k),.sl (eRT (iX N))]] [] (.lit (.bool true)) []:=c104 k (iX N) (by unfold iX;rw[Aj];exact h.n) h.small true h.raw
  rw[b1d]at this
  exact this)
theorem a6s {k:Int} {N:List RN} (hn:N.length≤14) (hs:oR N) (hb:b8 (cC N) [k] []∧i4 N):∃ T,TrB (cC N) k T∧eRT N=eTS (cC N):=by
 obtain⟨T,h1,h2⟩:=a5a.1 hb.1
 refine⟨T,⟨⟨h1,h2⟩,fun n hn=>?_,by rw[tR];exact hn,fun n hn=>?_⟩,?_⟩
 ·obtain⟨m,hm,rfl⟩:=Au.1 hn
  exact d1c (hb.2 m hm).1
 ·obtain⟨m,hm,rfl⟩:=Au.1 hn
  exact c7a (hs m hm) (hb.2 m hm).1
 ·unfold eRT cC eTS
  rw[List.map_map]
  refine List.map_congr_left fun n hn=>?_
  have:=(hb.2 n hn).2
  show eRP n.1++[AV.lit (.int .i64 n.2.1),AV.lit (.int .i64 n.2.2)]=eH (fJ n.1)++[AV.lit (.int .i64 n.2.1),AV.lit (.int .i64 n.2.2)]
  rw[this]
theorem tU {N:List RN} (h:q9 N):oR N:=fun n hn=>by
 obtain⟨h1,h2,h3,h4⟩:=a8h (h.2 n hn)
 exact⟨by omega,by omega,by omega,by omega⟩
abbrev upP:Pl:=⟨0,0,1,0⟩
theorem c5x:CanH upP:=⟨by decide +kernel,by decide⟩
theorem uY {x y z:Int} (hx:-1000≤x∧x≤1000) (hy:-1000≤y∧y≤1000) (hz:-1000≤z∧z≤1000):BPt 268435456 ⟨x,y,z,1⟩:=by
 have key:∀ a:Int,-1000≤a∧a≤1000→(Zm a).size≤268435456:=fun a ha=>by
  refine (bX _ _).2 ?_
  have:a.natAbs<65536:=by omega
  exact Nat.lt_of_lt_of_le this (Nat.pow_le_pow_right (n:=256) (by decide) (show 2≤268435456 by decide))
 exact⟨⟨key _ hx,key _ hy,key _ hz,key 1 (by decide)⟩⟩
theorem c7z:TrB [] (-1) (.lf true):=⟨⟨rfl,.refl _⟩,by simp,by decide,by simp⟩
set_option maxRecDepth 20000 in
theorem c36  : CallOK prog 36 [] [] (.lit (.bool true)) []:=by
 refine zs func36 44 [.tmp 0] results36 ?_
 simp only[aD,Ai]
 have hml:maxLen=9223372036854775807:=rfl
 have hT:TrB (iU upP) (iV upP) (fT upP):=c3f c5x ⟨⟨by rw[eF];decide,by rw[eF];decide,(bX _ _).2 (by decide),by rw[eF];decide⟩⟩
 have h46:CallOK prog 46 [.agg [.lit (.bool false),.lit (.string ⟨#[]⟩),.lit (.bool false),.lit (.string ⟨#[]⟩),.lit (.bool (Zn 1)),.lit (.string (Zm 1)),.lit (.bool false),.lit (.string ⟨#[]⟩)]] [] (.agg (eTr (iV upP) (iU upP))) []:=by
  have:=c46 upP ⟨⟨by rw[eF];decide,by rw[eF];decide,Al ((bX _ _).2 (show (1:Int).natAbs<256 ^ 1 by decide)) (by decide),by rw[eF];decide⟩⟩
  simp only[eH,e4,upP,kD,eF]at this
  exact this
 have p1:=c99 0 0 (-1) (by decide) (by decide) (by decide)
 have p2:=c99 0 0 0 (by decide) (by decide) (by decide)
 have p3:=c99 0 0 1 (by decide) (by decide) (by decide)
 have p4:=c99 0 0 (-1000) (by decide) (by decide) (by decide)
 have q1:=c42 (iV upP) (iU upP) (fT upP) hT ⟨0,0,-1,1⟩ (uY (by decide) (by decide) (by decide))
 rw[show pE (fT upP) ⟨0,0,-1,1⟩=1 from by decide +kernel]at q1
 have q2:=c42 (iV upP) (iU upP) (fT upP) hT ⟨0,0,0,1⟩ (uY (by decide) (by decide) (by decide))
 rw[show pE (fT upP) ⟨0,0,0,1⟩=0 from by decide +kernel]at q2
 have q3:=c42 (iV upP) (iU upP) (fT upP) hT ⟨0,0,1,1⟩ (uY (by decide) (by decide) (by decide))
 rw[show pE (fT upP) ⟨0,0,1,1⟩=-1 from by decide +kernel]at q3
 have q4:=c42 (iV upP) (iU upP) (fT upP) hT ⟨0,0,-1000,1⟩ (uY (by decide) (by decide) (by decide))
 rw[show pE (fT upP) ⟨0,0,-1000,1⟩=0 from by decide +kernel]at q4
 have q5:=c42 (-1) [] (.lf true) c7z ⟨0,0,1,1⟩ (uY (by decide) (by decide) (by decide))
 rw[show pE (.lf true) ⟨0,0,1,1⟩=1 from by decide +kernel]at q5
 have h38:=c38b (iV upP) (iU upP) (fT upP) hT
 rw[if_pos (b8m upP)]at h38
 have h52:=c52 (iV upP) (iU upP) (fT upP) hT
 have hcl:(cL ((fT upP).cells aO)).length=1:=by
  rw[rJ,BT.cells_len];decide +kernel
 clear hT
 generalize (fT upP).cells aO=L at *
 generalize fT upP=T at *
 generalize iV upP=K at *
 generalize iU upP=NN at *
 have zh0:=vG
 have zh1:=c49
 exact z1
set_option maxRecDepth 20000 in
theorem d2j (k:Int) (N:List RN) (h:¬ q9 N):CallOK prog 40 [.agg (bV k N)] [] (.lit (.bool false)) []:=by
 refine zs func40 11 [.tmp 2] results40 ?_
 simp only[aD,Ai]
 have cg:CallOK prog 37 [.agg (bV k N)] [] (.lit (.int .i64 1)) []:=by
  by_cases hn:N.length≤14
  ·have:=c37 k N hn false ⟨fun h=>(An h).elim,fun hb=>absurd ⟨hn,hb⟩ h⟩
   rw[if_neg (by decide)]at this
   exact this
  ·exact b1r k N (by omega)
 have cc:True:=trivial
 clear h
 exact z1
theorem a8f (k:Int) (N:List RN) (h:q9 N):CallOK prog 37 [.agg (bV k N)] [] (.lit (.int .i64 0)) []:=by
 have:=c37 k N h.1 true ⟨fun _=>h.2,fun _=>rfl⟩
 rw[if_pos rfl]at this
 exact this
theorem c8s (k:Int) (N:List RN) (h:¬ q9 N):CallOK prog 37 [.agg (bV k N)] [] (.lit (.int .i64 1)) []:=by
 by_cases hn:N.length≤14
 ·have:=c37 k N hn false ⟨fun h=>(An h).elim,fun hb=>absurd ⟨hn,hb⟩ h⟩
  rw[if_neg (by decide)]at this
  exact this
 ·exact b1r k N (by omega)
set_option maxRecDepth 20000 in
theorem c40s (es:List (List AV)) (k v:Int) (b:Bool) (he:∀ e∈es,∀ c∈e,In (fun _=>False) c) (hb:(v=0)=(b=true)) (cg:CallOK prog 37 [.agg [.lit (.int .i64 k),.sl es]] [] (.lit (.int .i64 0)) []) (cc:CallOK prog 39 [.agg [.lit (.int .i64 k),.sl es]] [] (.lit (.int .i64 v)) []):CallOK prog 40 [.agg [.lit (.int .i64 k),.sl es]] [] (.lit (.bool b)) []:=by
 refine zs func40 11 [.tmp 2] results40 ?_
 simp only[aD,Ai]
 replace he:=eq_true he
 cases b
 ·have hb:(v=0)=False:=by rw[hb];simp
  repeat'(first|refine zk ?_|(refine zu ?_ ?_<;>intro hc)|(refine zp cg (by simp -dsimp (disch:=try exact zo)only[go_sem,he]) (.lit _) ?_)|(refine zp cc (by simp -dsimp (disch:=try exact zo)only[go_sem,he]) (.lit _) ?_)|(refine zv ?_ ?_<;>intro hg)|omega|simp -dsimp (disch:=try exact zo)only[go_sem,he,hb]|contradiction|rfl)
 ·have hb:(v=0)=True:=by rw[hb];simp
  repeat'(first|refine zk ?_|(refine zu ?_ ?_<;>intro hc)|(refine zp cg (by simp -dsimp (disch:=try exact zo)only[go_sem,he]) (.lit _) ?_)|(refine zp cc (by simp -dsimp (disch:=try exact zo)only[go_sem,he]) (.lit _) ?_)|(refine zv ?_ ?_<;>intro hg)|omega|simp -dsimp (disch:=try exact zo)only[go_sem,he,hb]|contradiction|rfl)
theorem a5e (k:Int) (N:List RN):CallOK prog 40 [.agg (bV k N)] [] (.lit (.bool false)) []∨∃ N' T,TrB N' k T∧T.chk aO=true∧eRT N=eTS N'∧CallOK prog 40 [.agg (eTr k N')] [] (.lit (.bool true)) []:=by
 by_cases hs:q9 N
 ·have cg:=a8f k N hs
  by_cases hb:b8 (cC N) [k] []∧i4 N
  ·obtain⟨T,h1,h2⟩:=a6s hs.1 (tU hs) hb
   have cc:=c39t h1
   rw[show bV k N=eTr k (cC N) by rw[bV,h2]]at cg
   have:=c40s (eTS (cC N)) k _ (T.chk aO) (of_eq_true (uU _)) (by cases T.chk aO<;>simp) cg cc
   cases hc:T.chk aO
   ·rw[hc]at this
    left
    rw[show bV k N=eTr k (cC N) by rw[bV,h2]]
    exact this
   ·rw[hc]at this
    exact .inr ⟨cC N,T,h1,hc,h2,this⟩
  ·exact .inl (c40s (eRT N) k 3 false (of_eq_true (a2g _)) (by simp) cg (c39x k N hs.1 (tU hs) hb))
 ·exact .inl (d2j k N hs)
set_option maxRecDepth 20000 in
theorem c7big (k:Int) (N:List RN) (cg:CallOK prog 37 [.agg (bV k N)] [] (.lit (.int .i64 1)) []):CallOK prog 7 [.agg (bV k N)] [] (.lit (.bool true)) []:=by
 refine zs func7 15 [.tmp 2] results7 ?_
 simp only[aD,Ai]
 have c3:True:=trivial
 have cc:True:=trivial
 have zh0:=c36
 exact z1
set_option maxRecDepth 20000 in
theorem c7s (es:List (List AV)) (k v:Int) (he:∀ e∈es,∀ c∈e,In (fun _=>False) c) (cg:CallOK prog 37 [.agg [.lit (.int .i64 k),.sl es]] [] (.lit (.int .i64 0)) []) (c3:CallOK prog 38 [.agg [.lit (.int .i64 k),.sl es]] [] (.lit (.int .i64 v)) []) (cc:CallOK prog 39 [.agg [.lit (.int .i64 k),.sl es]] [] (.lit (.int .i64 v)) []):CallOK prog 7 [.agg [.lit (.int .i64 k),.sl es]] [] (.lit (.bool true)) []:=by
 refine zs func7 15 [.tmp 2] results7 ?_
 simp only[aD,Ai]
 replace he:=eq_true he
 repeat'(first|refine zk ?_|(refine zu ?_ ?_<;>intro hc)|(refine zf c36 ?_)|(refine zp cg (by simp -dsimp (disch:=try exact zo)only[go_sem,he]) (.lit _) ?_)|(refine zp c3 (by simp -dsimp (disch:=try exact zo)only[go_sem,he]) (.lit _) ?_)|(refine zp cc (by simp -dsimp (disch:=try exact zo)only[go_sem,he]) (.lit _) ?_)|(refine zv ?_ ?_<;>intro hg)|omega|simp -dsimp (disch:=try exact zo)only[go_sem,he]|contradiction|rfl)
theorem call7 (k:Int) (N:List RN):CallOK prog 7 [.agg (bV k N)] [] (.lit (.bool true)) []:=by
 by_cases hs:q9 N
 ·have cg:=a8f k N hs
  by_cases hb:b8 (cC N) [k] []∧i4 N
  ·obtain⟨T,h1,h2⟩:=a6s hs.1 (tU hs) hb
   rw[show bV k N=eTr k (cC N) by rw[bV,h2]]at cg ⊢
   exact c7s (eTS (cC N)) k _ (of_eq_true (uU _)) cg (c38b k (cC N) T h1) (c39t h1)
  ·exact c7s (eRT N) k 3 (of_eq_true (a2g _)) cg (c38a k N hs.1 (tU hs) hb) (c39x k N hs.1 (tU hs) hb)
 ·exact c7big k N (c8s k N hs)
end Go.Proofs.Vx
