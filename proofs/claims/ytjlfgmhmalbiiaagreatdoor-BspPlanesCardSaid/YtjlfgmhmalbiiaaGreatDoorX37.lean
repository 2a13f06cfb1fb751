import Derived.Test.YtjlfgmhmalbiiaaGreatDoorX36
set_option linter.all false
set_option maxHeartbeats 40000000
open Array renaming toList → Ao
open Bool renaming not_false → Aq, not_true → As, true_and → Ay
open List renaming mem_singleton → Aa, length_append → Ab, getD_eq_getElem?_getD → Ac, length_cons → Ad, length_nil → Ae, length_map → Af, getElem?_eq_getElem → Ag, getElem_mem → Aj, take_of_length_le → Al, map_append → Am, mem_map → An, replicate → Ap, getElem?_eq_some_iff → Ar, getElem_of_mem → At, getElem?_map → Au, drop_zero → Ax, map_map → A3
open Nat renaming reduceAdd → Ah, add_sub_cancel → Ai, lt_of_le_of_lt → Ak, zero_le → Av, le_refl → Aw, sub_zero → Az, zero_add → A0
namespace Go.Proofs.Vx
open Go Go.Sx Go.Proofs Tryz
attribute [local irreducible] fnT CallOK CallFr AW aK callV aL aJ aI aM gcaseP hid
theorem b6n:agT prog 79=some true∧arT prog 180=none∧byT prog 4=some 1∧fdT prog 64 0=some (0,1,false)∧fdT prog 79 1=some (8,1,false)∧fdT prog 79 2=some (9,1,false)∧slT prog 180=some (4,1)∧bI prog 180=false∧szT prog 79=some 10∧zeT prog 4=some [.lit (.bool false)]∧zeT prog 79=some [.lit (.bool false),.lit (.string ⟨#[]⟩),.lit (.bool false),.lit (.string ⟨#[]⟩),.lit (.bool false),.lit (.string ⟨#[]⟩),.lit (.bool false),.lit (.string ⟨#[]⟩),.lit (.int .i64 0),.lit (.int .i64 0)]:=by and_intros<;>kernel_rfl
attribute [go_sem] b6n
theorem c5i:fnT prog 169=true:=by kernel_rfl
def bS (M:List Bool):List (List AV):=M.map fun b=>[.lit (.bool b)]
theorem b1v (M:List Bool):(bS M).length=M.length:=Af _
theorem b0k (M:List Bool) (i:Nat) (h:i<M.length):(bS M).getD i []=[.lit (.bool M[i])]:=by
 unfold bS
 rw[Ac,Au,Ag h];rfl
theorem b3e {K:Nat→Prop} (M:List Bool):(∀ e∈bS M,∀ c∈e,In K c)=True:=eq_true fun e he c hc=>by
 obtain⟨n,_,rfl⟩:=An.1 he
 obtain rfl:=Aa.1 hc
 exact .lit _
def kS (ks:List Int):List (List AV):=ks.map fun k=>[.lit (.int .i64 k)]
theorem gC (ks:List Int):(kS ks).length=ks.length:=Af _
theorem kS_in {K:Nat→Prop} (M:List Int):(∀ e∈kS M,∀ c∈e,In K c)=True:=eq_true fun e he c hc=>by
 obtain⟨n,_,rfl⟩:=An.1 he
 obtain rfl:=Aa.1 hc
 exact .lit _
theorem qS (M:List Int):∀ e∈kS M,∀ c∈e,Flat c:=fun e he c hc=>by
 obtain⟨n,_,rfl⟩:=An.1 he
 obtain rfl:=Aa.1 hc
 exact .lit _
attribute [go_sem] b3e kS_in
theorem c216 (M:List Bool) (hn:M.length≤1048576) (r:Int) (h1:∀ j (h:j<M.length),M[j]=false→(∀ i (h2:i<M.length),i<j→M[i]=true)→r=j) (h2:(∀ j (h:j<M.length),M[j]=true)→r=-1):CallOK prog 216 [.sl (bS M),.lit (.bool false)] [] (.lit (.int .i64 r)) []:=by
 refine zs func216 19 [.tmp 4] results216 ?_
 simp only[aD,Ah]
 have hml:maxLen=9223372036854775807:=rfl
 have hl:=b1v M
 replace h1:=Hid.mk h1
 replace h2:=Hid.mk h2
 repeat'(first|refine zk ?_|(refine zu ?_ ?_<;>intro hc)|(refine zv ?_ ?_<;>intro hg)|omega|simp -dsimp (disch:=try exact zo)only[go_sem,hl]|contradiction|rfl)
 refine AW.loop (fun z:{i:Nat // i≤M.length∧Hid (∀ j (h:j<M.length),j<i→M[j]=true)}=>⟨[(8,.lit (.int .i64 z.1)),(7,.lit (.int .i64 M.length)),(0,.sl (bS M)),(1,.lit (.bool false))],[],60⟩) (fun z=>M.length - z.1) ⟨0,Av _,Hid.mk (fun j _ h=>absurd h (Nat.not_lt_zero _))⟩ zw ?_
 rintro⟨i,hi,hI⟩
 dsimp only
 by_cases hlt:i<M.length
 ·have es1:=b0k M i hlt
  have hI1:=Hid.mk (show M[i]=true→∀ j (h:j<M.length),j<i+1→M[j]=true from fun hx j h h2=>by
   by_cases q:j=i
   ·subst q;exact hx
   ·exact hI.out j h (by omega))
  have hr:=fun hx=>h1.out i hlt hx fun j h h'=>hI.out j h h'
  generalize M[i]=m at *
  cases m
  ·rw[hr rfl]
   clear hr hI1
   exact z1
  ·replace hI1:=Hid.mk (hI1.out rfl)
   clear hr
   repeat'(first|refine zk ?_|(refine zu ?_ ?_<;>intro hc)|(refine zv ?_ ?_<;>intro hg)|omega|simp -dsimp (disch:=try exact zo)only[go_sem,hl,es1,ZT]|contradiction|rfl)
   all_goals exact AW.stop ⟨⟨i+1,by omega,hI1⟩,zw,by dsimp only;omega⟩
 ·have hil:i=M.length:=by omega
  subst hil
  rw[h2.out fun j h=>hI.out j h h]
  exact z1
theorem c169 (M:List Bool) (hn:M.length≤1048576) (b:Bool) (hb:b=true↔∀ x∈M,x=true):CallOK prog 169 [.sl (bS M),.lit (.bool false)] [] (.lit (.bool (!b))) []:=by
 obtain⟨r,h1,h2,h3⟩:∃ r:Int,(∀ j (h:j<M.length),M[j]=false→(∀ i (h2:i<M.length),i<j→M[i]=true)→r=j)∧((∀ j (h:j<M.length),M[j]=true)→r=-1)∧((0≤r)↔(!b)=true):=by
  by_cases ha:∀ x∈M,x=true
  ·refine⟨-1,fun j h hx _=>?_,fun _=>rfl,?_⟩
   ·rw[ha _ (Aj h)]at hx;cases hx
   ·rw[hb.2 ha];simp
  ·have hbf:b=false:=by cases hq:b;rfl;exact absurd (hb.1 hq) ha
   have hm:false∈M:=by
    refine Classical.byContradiction fun hq=>ha fun x hx=>?_
    cases x
    ·exact absurd hx hq
    ·rfl
   have hex:∃ j,∃ h:j<M.length,M[j]=false:=At hm
   have hmin:∃ j,(∃ h:j<M.length,M[j]=false)∧∀ i (h2:i<M.length),i<j→M[i]=true:=by
    obtain⟨j,hj⟩:=hex
    induction j using Nat.strongRecOn with
    | _ j ih =>
     by_cases hall:∀ i (h2:i<M.length),i<j→M[i]=true
     ·exact⟨j,hj,hall⟩
     ·obtain⟨i,hi⟩:=Classical.not_forall.1 hall
      obtain⟨h2,hi⟩:=Classical.not_forall.1 hi
      obtain⟨h3,hi⟩:=Classical.not_forall.1 hi
      exact ih i h3 ⟨h2,by simpa using hi⟩
   obtain⟨j,⟨hj,hx⟩,hmn⟩:=hmin
   refine⟨j,fun i h h4 h5=>?_,fun h=>(by rw[h j hj]at hx;cases hx),by rw[hbf];simp⟩
   rcases Nat.lt_trichotomy i j with q|q|q
   ·rw[hmn i h q]at h4;cases h4
   ·rw[q]
   ·rw[h5 j hj q]at hx;cases hx
 have ci:=c216 M hn r h1 h2
 clear h1 h2 hb
 generalize (!b)=b' at *
 have k1:(0≤r)=(b'=true):=propext h3
 refine zs func169 9 [.tmp 4] results169 ?_
 simp only[aD,Ah]
 cases b'
 ·have k1:(0≤r)=False:=by rw[k1];simp
  exact z1
 ·have k1:(0≤r)=True:=by rw[k1];simp
  exact z1
def cC (N:List RN):List TN:=N.map fun n=>(fJ n.1,n.2.1,n.2.2)
theorem tR (N:List RN):(cC N).length=N.length:=Af _
theorem a6r {N:List RN} {j:Nat} (h:j<N.length):(cC N)[j]?=some (fJ N[j].1,N[j].2.1,N[j].2.2):=by
 unfold cC
 rw[Au,Ag h];rfl
def i4 (N:List RN):Prop:=∀ n∈N,kP n.1
def oR (N:List RN):Prop:=∀ n∈N,RB 6 n.1
structure FI (N:List RN) (b:Bool) (ks:List Int) (M:List Bool):Prop where
 eq:b=true↔b8 (cC N) ks (mtB M)∧i4 N
 len:M.length=N.length
 can:∀ j (h:j<N.length),M.getD j false=true→kP N[j].1
 bd:ks.length+2*M.count false≤29
theorem xP {M:List Bool} {j:Nat} (hj:j<M.length) (h:M.getD j false=false):(M.set j true).count false+1=M.count false:=by
 have e:M[j]=false:=by rw[Ac,Ag hj]at h;exact h
 have hpos:0<M.count false:=List.count_pos_iff.2 (e▸Aj hj)
 rw[List.count_set hj]
 simp[e]
 omega
theorem FI.leaf {N:List RN} {b:Bool} {ks:List Int} {k:Int} {M:List Bool} (h:FI N b (ks++[k]) M) (hk:k=-1∨k=0):FI N b ks M :=
 ⟨by rw[h.eq,zA,a4d hk],h.len,h.can,by have:=h.bd;rw[Ab,List.length_singleton]at this;omega⟩
theorem FI.bad {N:List RN} {b:Bool} {ks:List Int} {k:Int} {M:List Bool} (h:FI N b (ks++[k]) M) (hk:k < -1∨N.length<k∨(1≤k∧(k - 1).toNat<M.length∧M.getD (k - 1).toNat false=true)):b=false:=by
 cases hb:b
 ·rfl
 ·refine absurd (zA.1 (h.eq.1 hb).1) (a5c ?_)
  rw[tR]
  rcases hk with hk|hk|⟨h1,h2,h3⟩
  ·exact .inl hk
  ·exact .inr (.inl hk)
  ·exact .inr (.inr ⟨h1,oJ.2 ⟨h2,h3⟩⟩)
theorem FI.raw {N:List RN} {b:Bool} {ks:List Int} {M:List Bool} (h:FI N b ks M) {n:RN} (hn:n∈N) (hc:¬ kP n.1):b=false:=by
 cases hb:b
 ·rfl
 ·exact absurd ((h.eq.1 hb).2 n hn) hc
theorem FI.node {N:List RN} {b:Bool} {ks:List Int} {M:List Bool} {j:Nat} (hj:j<N.length) (h:FI N b (ks++[(j:Int)+1]) M) (hm:M.getD j false=false) (hc:kP N[j].1):FI N b (ks++[N[j].2.1,N[j].2.2]) (M.set j true):=by
 have hjM:j<M.length:=by rw[h.len];exact hj
 refine⟨?_,by rw[List.length_set];exact h.len,fun i hi hx=>?_,?_⟩
 ·rw[h.eq,zA,a4c (a6r hj),a4z]
  exact and_congr (vS (.refl _) (a9n hjM hm).symm) Iff.rfl
 ·rw[a7q hjM]at hx
  by_cases q:i=j
  ·subst q;exact hc
  ·rw[if_neg q]at hx;exact h.can i hi hx
 ·have h1:=xP hjM hm
  have:=h.bd
  simp only[Ab,Ad,Ae]at this ⊢
  omega
theorem FI.done {N:List RN} {b:Bool} {M:List Bool} (h:FI N b [] M):b=true↔∀ x∈M,x=true:=by
 rw[h.eq,a5b (by rw[tR];exact h.len)]
 refine⟨And.left,fun hx=>⟨hx,fun n hn=>?_⟩⟩
 obtain⟨j,hj,rfl⟩:=At hn
 refine h.can j hj ?_
 have hjM:j<M.length:=by rw[h.len];exact hj
 rw[Ac,Ag hjM]
 exact hx _ (Aj hjM)
theorem FI.zero {N:List RN} {b:Bool} {k:Int} (hn:N.length≤14) (hb:b=true↔b8 (cC N) [k] []∧i4 N):FI N b [k] (Ap N.length false):=by
 refine⟨by rw[a9o];exact hb,List.length_replicate,fun j h hx=>?_,?_⟩
 ·rw[Ac,List.getElem?_replicate,if_pos h]at hx;cases hx
 ·rw[List.count_replicate];simp only[Ad,Ae];split<;>omega
set_option maxRecDepth 20000 in
theorem c100 (k0:Int) (N:List RN) (hn:N.length≤14) (hs:oR N) (b:Bool) (hb:b=true↔b8 (cC N) [k0] []∧i4 N):CallOK prog 100 [.agg (bV k0 N)] [] (.lit (.bool b)) []:=by
 refine zs func100 88 [.tmp 2] results100 ?_
 simp only[aD,Ah]
 have hml:maxLen=9223372036854775807:=rfl
 have hl:(eRT N).length=N.length:=Af _
 have hz:=FI.zero hn hb
 have hrep:Ap N.length [AV.lit (.bool false)]=bS (Ap N.length false):=by unfold bS;rw[List.map_replicate]
 have hone:[[AV.lit (.int .i64 k0)]]=kS [k0]:=rfl
 replace hs:=Hid.mk hs
 replace hz:=Hid.mk hz
 clear hb
 repeat'(first|refine zk ?_|(refine zu ?_ ?_<;>intro hc)|(refine zv ?_ ?_<;>intro hg)|omega|simp -dsimp (disch:=try exact zo)only[go_sem,hl,hrep,hone]|contradiction|rfl)
 refine AW.loop (fun z:{z:List Int × List Bool // Hid (FI N b z.1 z.2)}=>⟨[(4,.ref 17 0 z.1.1.length z.1.1.length),(3,.ref 13 0 N.length N.length),(1,.loc 8 0)],[(17,.vec 1 (kS z.1.1)),(13,.vec 1 (bS z.1.2)),(8,.blk [.lit (.int .i64 k0),.sl (eRT N)])],60⟩) (fun z=>z.1.1.length+2*z.1.2.count false) ⟨([k0],Ap N.length false),hz⟩ zw ?_
 rintro⟨⟨ks,M⟩,hI⟩
 dsimp only
 have hbd:=hI.out.bd
 dsimp only at hbd
 have hMl:(bS M).length=N.length:=(b1v M).trans hI.out.len
 rcases List.eq_nil_or_concat ks with rfl|⟨qs,k,e⟩
 ·have hd:=hI.out.done
  have hk0:(kS []).length=0:=rfl
  have cc:=c169 M (by rw[hI.out.len];omega) b hd
  clear hI hd hz
  repeat'(first|refine zk ?_|(refine zu ?_ ?_<;>intro hc)|(refine b4v _ c5i cc rfl hMl (of_eq_true (b3e _)) (.lit _) ?_)|(refine zv ?_ ?_<;>intro hg)|omega|simp -dsimp (disch:=try exact zo)only[go_sem,hMl,hk0,Bool.not_not]|contradiction|rfl)
 ·rw[List.concat_eq_append]at e
  subst e
  have hV:(kS (qs++[k])).length=qs.length+1:=by rw[gC,Ab];rfl
  have hVl:(kS (qs++[k])).getD qs.length []=[.lit (.int .i64 k)]:=by
   unfold kS
   rw[Am,Ac,List.getElem?_append_right (by rw[Af];exact Aw _),Af,Nat.sub_self];rfl
  have hVt:(kS (qs++[k])).take qs.length=kS qs:=by
   unfold kS
   rw[Am,List.take_append_of_le_length (by rw[Af];exact Aw _),Al (by rw[Af];exact Aw _)]
  have hVf:=qS (qs++[k])
  have hn1:(qs++[k]).length=qs.length+1:=by rw[Ab];rfl
  rw[hn1]at hbd ⊢
  have hix:(((qs.length+1:Nat):Int) - 1)=(qs.length:Int):=by omega
  generalize kS (qs++[k])=V at *
  by_cases q1:k=-1∨k=0
  ·have hI1:=Hid.mk (hI.out.leaf q1)
   have es1:True:=trivial
   have em:True:=trivial
   have hMs:True:=trivial
   have k3:True:=trivial
   have k4:True:=trivial
   have k5:True:=trivial
   clear hI hz
   rcases q1 with rfl|rfl
   ·have k1:True:=trivial
    have k2:True:=trivial
    repeat'(first|refine zk ?_|(refine zu ?_ ?_<;>intro hc)|(refine zf cn ?_)|(refine zv ?_ ?_<;>intro hg)|omega|simp -dsimp (disch:=try exact zo)only[go_sem,hl,hix,hV,hVl,hVt,hMl,hMs,es1,em,ZT,Ai,k1,k2,k3,k4,k5]|contradiction|rfl)
    all_goals exact AW.stop ⟨⟨(qs,M),hI1⟩,xC 17 17 4 60 qs.length _ _ 1 V _ rfl rfl hV.symm (by rw[hV];omega) rfl hVt hVf (by decide) (by decide) (by decide) (by decide) (by refine⟨?_,?_,?_,?_⟩<;>simp -dsimp (disch:=try exact zo)only[go_sem,hMs]),by show qs.length+2*M.count false<qs.length+1+2*M.count false;omega⟩
   ·have k1:True:=trivial
    have k2:True:=trivial
    repeat'(first|refine zk ?_|(refine zu ?_ ?_<;>intro hc)|(refine zf cn ?_)|(refine zv ?_ ?_<;>intro hg)|omega|simp -dsimp (disch:=try exact zo)only[go_sem,hl,hix,hV,hVl,hVt,hMl,hMs,es1,em,ZT,Ai,k1,k2,k3,k4,k5]|contradiction|rfl)
    all_goals exact AW.stop ⟨⟨(qs,M),hI1⟩,xC 17 17 4 60 qs.length _ _ 1 V _ rfl rfl hV.symm (by rw[hV];omega) rfl hVt hVf (by decide) (by decide) (by decide) (by decide) (by refine⟨?_,?_,?_,?_⟩<;>simp -dsimp (disch:=try exact zo)only[go_sem,hMs]),by show qs.length+2*M.count false<qs.length+1+2*M.count false;omega⟩
  ·have k1:(k=-1)=False:=eq_false (by omega)
   have k2:(k=0)=False:=eq_false (by omega)
   by_cases q2:k<0
   ·rw[hI.out.bad (.inl (by omega))]
    have k3:(k<0)=True:=eq_true q2
    have k4:True:=trivial
    have k5:True:=trivial
    have es1:True:=trivial
    have em:True:=trivial
    have hMs:True:=trivial
    clear hI hz q1
    exact z1
   ·have k3:(k<0)=False:=eq_false q2
    by_cases q3:(N.length:Int)<k
    ·rw[hI.out.bad (.inr (.inl q3))]
     have k4:((N.length:Int)<k)=True:=eq_true q3
     have k5:True:=trivial
     have es1:True:=trivial
     have em:True:=trivial
     have hMs:True:=trivial
     clear hI hz q1
     exact z1
    ·have k4:((N.length:Int)<k)=False:=eq_false q3
     obtain⟨j,rfl⟩:∃ j:Nat,k=(j:Int)+1:=⟨(k - 1).toNat,by omega⟩
     have hj:j<N.length:=by omega
     have hjM:j<M.length:=by rw[hI.out.len];exact hj
     have k5:((j:Int)+1 - 1)=(j:Int):=by omega
     have em:=b0k M j hjM
     have eM:M.getD j false=M[j]:=by rw[Ac,Ag hjM];rfl
     have es1:=w9 N j hj
     have hsj:=hs.out _ (Aj hj)
     have hMs:(bS M).set j [.lit (.bool true)]=bS (M.set j true):=by unfold bS;rw[List.map_set]
     cases hm:M[j]
     ·rw[hm]at em eM
      have hI2:=Hid.mk (fun hc=>hI.out.node hj eM hc)
      have hraw:=Hid.mk (fun hc=>hI.out.raw (Aj hj) hc)
      have hcn:=xP hjM eM
      clear hI hz q1 hm
      generalize N[j]=nd at *
      obtain⟨r,a,c⟩:=nd
      dsimp only at hI2 hraw hsj
      have cn:=c168 r.n1 r.m1 r.n2 r.m2 r.n3 r.m3 r.n4 r.m4 (Ak hsj.a (by decide)) (Ak hsj.b (by decide)) (Ak hsj.c (by decide)) (Ak hsj.d (by decide))
      by_cases hzr:kK r
      ·rw[if_pos (show iv r.n1 r.m1=0∧iv r.n2 r.m2=0∧iv r.n3 r.m3=0 from hzr)]at cn
       rw[hraw.out fun h=>h.1 hzr]
       clear hraw hI2 hzr
       simp only[eH,e4]at cn
       exact z1
      ·rw[if_neg (show ¬ (iv r.n1 r.m1=0∧iv r.n2 r.m2=0∧iv r.n3 r.m3=0)from hzr)]at cn
       change CallOK _ _ [.agg (eRP r)] _ (.tup [.agg (eH (fJ r)),_]) _ at cn
       by_cases hc:eRP r=eH (fJ r)
       ·replace hI2:=Hid.mk (hI2.out ⟨hzr,hc⟩)
        clear hraw
        have es2:eRN (r,a,c)=eRP r++[.lit (.int .i64 a),.lit (.int .i64 c)]:=rfl
        rw[es2,hc]at es1
        rw[hc]at cn
        clear hc hzr es2
        generalize fJ r=p at *
        simp only[eH,e4,List.cons_append,List.nil_append]at cn es1
        repeat'(first|refine c9e 14 17 rfl rfl ?_|refine zk ?_|(refine zu ?_ ?_<;>intro hc)|(refine zf cn ?_)|(refine zv ?_ ?_<;>intro hg)|omega|simp -dsimp (disch:=try exact zo)only[go_sem,hl,hix,hV,hVl,hVt,hMl,hMs,es1,em,ZT,Ai,k1,k2,k3,k4,k5]|contradiction|rfl)
        all_goals
         intro cp
         rcases Nat.lt_or_ge cp (qs.length+2)with hcp|hcp
        ·have q1:(qs.length+2≤cp)=False:=eq_false (by omega)
         have q2:(cp<qs.length+2)=True:=eq_true hcp
         repeat'(first|refine zk ?_|(refine zu ?_ ?_<;>intro hc)|(refine zf cn ?_)|(refine zv ?_ ?_<;>intro hg)|omega|simp -dsimp (disch:=try exact zo)only[go_sem,hl,hix,hV,hVl,hVt,hMl,hMs,es1,em,ZT,Ai,q1,q2,Az,A0,Ax]|contradiction|rfl)
         all_goals refine fun _=>AW.blk (AW.stop ?_)
         all_goals exact⟨⟨(qs++[a,c],M.set j true),hI2⟩,xC 136 17 4 60 (qs++[a,c]).length _ _ 1 _ _ rfl (by rw[Ab];rfl) (by simp only[Ab,gC,Ad,Ae];try omega) (by simp only[Ab,gC,Ad,Ae];try omega) rfl (by rw[Al (by simp only[Ab,gC,Ad,Ae];try omega)];unfold kS;rw[Am];rfl) (fl2 (qS qs) (fun e he=>he)) (by decide) (by decide) (by decide) (by decide) (by refine⟨?_,?_,?_,?_⟩<;>simp -dsimp (disch:=try exact zo)only[go_sem,hMs]),by show (qs++[a,c]).length+2*(M.set j true).count false<qs.length+1+2*M.count false;rw[Ab];simp only[Ad,Ae];omega⟩
        ·have q1:(qs.length+2≤cp)=True:=eq_true hcp
         have q2:(cp<qs.length+2)=False:=eq_false (by omega)
         repeat'(first|refine zk ?_|(refine zu ?_ ?_<;>intro hc)|(refine zf cn ?_)|(refine zv ?_ ?_<;>intro hg)|omega|simp -dsimp (disch:=try exact zo)only[go_sem,hl,hix,hV,hVl,hVt,hMl,hMs,es1,em,ZT,Ai,q1,q2,Az,A0,Ax]|contradiction|rfl)
         all_goals refine fun _=>AW.blk (AW.stop ?_)
         all_goals exact⟨⟨(qs++[a,c],M.set j true),hI2⟩,xC 17 17 4 60 (qs++[a,c]).length _ _ 1 _ _ rfl (by rw[Ab];rfl) (by simp only[Ab,gC,Ad,Ae];try omega) (by simp only[Ab,gC,Ad,Ae];try omega) rfl (by rw[Al (by simp only[Ab,gC,Ad,Ae];try omega)];unfold kS;rw[Am];rfl) (fl2 (qS qs) (fun e he=>he)) (by decide) (by decide) (by decide) (by decide) (by refine⟨?_,?_,?_,?_⟩<;>simp -dsimp (disch:=try exact zo)only[go_sem,hMs]),by show (qs++[a,c]).length+2*(M.set j true).count false<qs.length+1+2*M.count false;rw[Ab];simp only[Ad,Ae];omega⟩
       ·rw[hraw.out fun h=>hc h.2]
        clear hraw hI2
        generalize fJ r=q at *
        have hne:¬ (Zn q.a=r.n1∧Zm q.a=r.m1∧Zn q.b=r.n2∧Zm q.b=r.m2∧Zn q.c=r.n3∧Zm q.c=r.m3∧Zn q.d=r.n4∧Zm q.d=r.m4):=fun h=>hc (by
         unfold eRP eH e4
         obtain⟨h1,h2,h3,h4,h5,h6,h7,h8⟩:=h
         rw[h1,h2,h3,h4,h5,h6,h7,h8])
        clear hc
        simp only[eRP,eH,e4]at cn
        exact z1
     ·rw[hm]at em eM
      rw[hI.out.bad (.inr (.inr ⟨by omega,by rw[k5];exact hjM,by rw[k5];exact eM⟩))]
      clear hI hz q1 hm
      exact z1
end Go.Proofs.Vx
namespace Go.Proofs.Vx
open Go Go.Sx Go.Proofs Tryz
attribute [local irreducible] fnT CallOK CallFr AW aK callV aL aJ aI aM gcaseP hid
theorem b6m:agT prog 124=some false∧agT prog 182=some false∧szT prog 124=some 1∧szT prog 182=some 1:=by and_intros<;>kernel_rfl
attribute [go_sem] b6m
theorem a0w:fnT prog 102=true:=by kernel_rfl
theorem jA:fnT prog 170=true:=by kernel_rfl
theorem c102 (k:Int) (c:aE) (b r:Bool) (hr:(b&&!c.isEmpty)=r) (hn:c.length≤1048576):CallOK prog 102 [.lit (.int .i64 k),.agg [.sl (eS c)],.loc 2 0] [(2,.blk [.lit (.bool b)])] (.lit (.bool r)) [(2,.blk [.lit (.bool r)])]:=by
 refine fL func102 rfl 13 rfl rfl (by simp) (.lit _) (by
  intro q hq
  obtain rfl:=Aa.1 hq
  refine⟨by simp,fun c hc=>?_⟩
  obtain rfl:=Aa.1 hc
  exact .lit _) [.tmp 5] (congrArg Ao results102) ?_
 simp only[aD,Ah]
 have hml:maxLen=9223372036854775807:=rfl
 have cn:=c103 c hn
 subst hr
 generalize c.isEmpty=e at *
 cases b<;>cases e<;>simp only[Bool.and_true,Bool.and_false,As,Aq]
 all_goals repeat'(first|refine zk ?_|(refine zu ?_ ?_<;>intro hc)|(refine AW.ret (b9 ?_ ?_)<;>simp -dsimp (disch:=try exact zo)only[go_sem])|(refine AW.nil (b9 ?_ ?_)<;>simp -dsimp (disch:=try exact zo)only[go_sem])|(refine zq cn ?_)|(refine zv ?_ ?_<;>intro hg)|omega|simp -dsimp (disch:=try exact zo)only[go_sem,As,Aq]|contradiction|rfl)
abbrev iB (k0:Int) (N:List TN) (b:Bool):List (Nat × AV):=[(0,.blk [.clo 170 [.loc 1 0,.fp (eTr k0 N),.loc 0 0]]),(1,.blk [.clo 102 [.loc 2 0]]),(2,.blk [.lit (.bool b)])]
abbrev uV (k0:Int) (N:List TN) (k:Int) (c:aE):List AV:=[.lit (.int .i64 k),.agg [.sl (eS c)],.loc 1 0,.fp (eTr k0 N),.loc 0 0]
theorem cJ {K:Nat→Prop} (k:Int) (N:List TN):In K (.fp (eTr k N)):=.fp _ (by
 intro c hc
 simp only[zM,or_false]at hc
 rcases hc with rfl|rfl
 ·exact .lit _
 ·exact .sl _ (of_eq_true (uU N)))
theorem in170 (k0:Int) (N:List TN) (k:Int) (c:aE) (b:Bool):∀ x∈uV k0 N k c,In (fun i=>i∈(iB k0 N b).map (·.1)) x:=by
 intro x hx
 simp only[zM,or_false]at hx
 rcases hx with rfl|rfl|rfl|rfl|rfl
 ·exact .lit _
 ·exact fO _
 ·exact .loc _ _ (by simp)
 ·exact cJ _ _
 ·exact .loc _ _ (by simp)
theorem u5 (k0:Int) (N:List TN) (b b':Bool):∀ p∈iB k0 N b',p.1∈(iB k0 N b).map (·.1)∧InC (fun i=>i∈(iB k0 N b).map (·.1)) p.2:=by
 intro p hp
 simp only[zM,or_false]at hp
 rcases hp with rfl|rfl|rfl<;>refine⟨by simp,fun c hc=>?_⟩<;>obtain rfl:=Aa.1 hc
 ·refine .clo _ _ fun x hx=>?_
  simp only[zM,or_false]at hx
  rcases hx with rfl|rfl|rfl
  ·exact .loc _ _ (by simp)
  ·exact cJ _ _
  ·exact .loc _ _ (by simp)
 ·refine .clo _ _ fun x hx=>?_
  obtain rfl:=Aa.1 hx
  exact .loc _ _ (by simp)
 ·exact .lit _
theorem lv170 (k0:Int) (N:List TN) (b:Bool):∀ p∈iB k0 N b,p.2.live=true:=by
 intro p hp
 simp only[zM,or_false]at hp
 rcases hp with rfl|rfl|rfl<;>rfl
theorem qW {k0:Int} {N:List TN} {k:Int} {c:aE} {b b':Bool} {i:Nat} {ob:Nat→AV} {E:Eff→Prop} (hf:fnT prog 170=true) (hc:CallOK prog 170 (uV k0 N k c) (iB k0 N b) (.tup []) (iB k0 N b')) (hob:∀ p∈iB k0 N b,ob p.1=p.2) (h:E ⟨.tup [],iB k0 N b',[0,1,2]⟩):callV prog 170 (uV k0 N k c) i ob E :=
 lI _ _ _ hf hc hob (in170 k0 N k c b) (fun p hp=>(u5 k0 N b b p hp).2) (show ([0,1,2]:List Nat).Nodup by decide) (.tup _ (by simp)) (u5 k0 N b b') rfl (lv170 k0 N b) h
theorem a1k {k:Int} {c:aE} {b r:Bool} {i:Nat} {ob:Nat→AV} {E:Eff→Prop} (hf:fnT prog 102=true) (hc:CallOK prog 102 [.lit (.int .i64 k),.agg [.sl (eS c)],.loc 2 0] [(2,.blk [.lit (.bool b)])] (.lit (.bool r)) [(2,.blk [.lit (.bool r)])]) (hob:ob 2=.blk [.lit (.bool b)]) (h:E ⟨.lit (.bool r),[(2,.blk [.lit (.bool r)])],[2]⟩):callV prog 102 [.lit (.int .i64 k),.agg [.sl (eS c)],.loc 2 0] i ob E:=by
 refine j1 2 _ _ _ hf hc hob (fun x hx=>?_) (fun c hc=>?_) (fun c hc=>?_) (.lit _) rfl h
 ·simp only[zM,or_false]at hx
  rcases hx with rfl|rfl|rfl
  ·exact .lit _
  ·exact fO _
  ·exact .loc _ _ rfl
 ·obtain rfl:=Aa.1 hc;exact .lit _
 ·obtain rfl:=Aa.1 hc;exact .lit _
theorem x8 (b:Bool):lfv b≤0:=by cases b<;>decide
set_option maxRecDepth 20000 in
theorem c170 (k0:Int) (N:List TN) (hN:N.length≤14) (hP:∀ n∈N,BPl 6 n.1) (T:BT):∀ (k:Int) (c:aE) (d:Nat) (b:Bool),Rep N T k→d+T.ht≤64→(c=[]∨SmC d c)→CallOK prog 170 (uV k0 N k c) (iB k0 N b) (.tup []) (iB k0 N (b&&T.chk c)):=by
 have hl:(eTS N).length=N.length:=jU N
 induction T with
 | lf b0 =>
  intro k c d b hk _ hc
  have hk0:k≤0:=by rw[show k=lfv b0 from hk];exact x8 b0
  have hn:c.length≤1048576:=by
   rcases hc with rfl|h
   ·exact Av _
   ·have:=h.n;omega
  simp only[BT.chk]
  have cv:=c102 k c b _ rfl hn
  generalize (b&&!c.isEmpty)=r at *
  have k1:(k≤0)=True:=eq_true hk0
  have k2:True:=trivial
  have k5:True:=trivial
  have es1:True:=trivial
  refine fL func170 rfl 49 rfl rfl (by simp) (.tup _ (by simp)) (u5 k0 N b r) [] (congrArg Ao results170) ?_
  simp only[aD,Ah]
  clear hk hc
  cases r
  all_goals repeat'(first|refine zg ?_|(refine zc ?_ ?_<;>intro hc<;>first|simp only[NM]at hc|omega|skip)|refine zr ?_|(refine AW.ret (b9 ?_ (by intro p hp;simp only[zM,or_false]at hp;rcases hp with rfl|rfl|rfl<;>rfl))<;>simp -dsimp (disch:=try exact zo)only[go_sem])|(refine AW.nil (b9 ?_ (by intro p hp;simp only[zM,or_false]at hp;rcases hp with rfl|rfl|rfl<;>rfl))<;>simp -dsimp (disch:=try exact zo)only[go_sem])|(refine a1k a0w cv rfl ?_)|(first|refine qW jA il (by intro p hp;simp only[zM,or_false]at hp;rcases hp with rfl|rfl|rfl<;>rfl) ?_|refine qW jA ir (by intro p hp;simp only[zM,or_false]at hp;rcases hp with rfl|rfl|rfl<;>rfl) ?_)|(refine zq sp ?_)|refine⟨by omega,?_⟩|(refine zb ?_ ?_<;>intro hg<;>(try rw[hg])<;>try simp only[NM]at hg)|omega|simp -dsimp (disch:=try exact zo)only[go_sem,hl,es1,k1,k2,k5,ZT]|contradiction|rfl)
 | nd j p l r ihl ihr =>
  intro k c d b hk hd hc
  obtain⟨rfl,n,hn1,rfl,hn3,hn4⟩:=hk
  have hj:=(Ar.1 hn1).1
  have hje:=(Ar.1 hn1).2
  have es1:=oE N j hj
  rw[hje]at es1
  have hpn:=hP n (List.mem_of_getElem? hn1)
  have hn:c.length≤1048576:=by
   rcases hc with rfl|h
   ·exact Av _
   ·have:=h.n;simp only[BT.ht]at hd;omega
  have cv:=c102 ((j:Int)+1) c b _ rfl hn
  have k1:((j:Int)+1≤0)=False:=eq_false (by omega)
  have k2:((N.length:Int)<(j:Int)+1)=False:=eq_false (by omega)
  have k5:((j:Int)+1 - 1)=(j:Int):=by omega
  have hchk:(b&&(BT.nd j n.1 l r).chk c)=((b&&!c.isEmpty)&&l.chk (aQ n.1 c).1&&r.chk (aQ n.1 c).2):=by simp only[BT.chk,Bool.and_assoc]
  rw[hchk]
  cases hr:(b&&!c.isEmpty)
  ·rw[hr]at cv
   simp only[Bool.false_and]
   refine fL func170 rfl 49 rfl rfl (by simp) (.tup _ (by simp)) (u5 k0 N b false) [] (congrArg Ao results170) ?_
   simp only[aD,Ah]
   clear ihl ihr hr hchk
   have sp:True:=trivial
   have il:True:=trivial
   have ir:True:=trivial
   repeat'(first|refine zg ?_|(refine zc ?_ ?_<;>intro hc<;>first|simp only[NM]at hc|omega|skip)|refine zr ?_|(refine AW.ret (b9 ?_ (by intro p hp;simp only[zM,or_false]at hp;rcases hp with rfl|rfl|rfl<;>rfl))<;>simp -dsimp (disch:=try exact zo)only[go_sem])|(refine AW.nil (b9 ?_ (by intro p hp;simp only[zM,or_false]at hp;rcases hp with rfl|rfl|rfl<;>rfl))<;>simp -dsimp (disch:=try exact zo)only[go_sem])|(refine a1k a0w cv rfl ?_)|(first|refine qW jA il (by intro p hp;simp only[zM,or_false]at hp;rcases hp with rfl|rfl|rfl<;>rfl) ?_|refine qW jA ir (by intro p hp;simp only[zM,or_false]at hp;rcases hp with rfl|rfl|rfl<;>rfl) ?_)|(refine zq sp ?_)|refine⟨by omega,?_⟩|(refine zb ?_ ?_<;>intro hg<;>(try rw[hg])<;>try simp only[NM]at hg)|omega|simp -dsimp (disch:=try exact zo)only[go_sem,hl,es1,k1,k2,k5,ZT]|contradiction|rfl)
  ·rw[hr]at cv
   have hc':SmC d c:=by
    rcases hc with rfl|h
    ·simp at hr
    ·exact h
   have hsm:=wY (b:=n.1) hc' hpn
   have sp:=c21x c n.1 (.inr hc'.toCellOK) (hc'.bd.mono (by simp only[BT.ht]at hd;omega) (by simp only[BT.ht]at hd;omega) (by decide)) (hpn.mono (by decide))
   have il:=ihl n.2.1 (aQ n.1 c).1 (d+1) true hn3 (by simp only[BT.ht]at hd;omega) hsm.1
   have ir:=ihr n.2.2 (aQ n.1 c).2 (d+1) (true&&l.chk (aQ n.1 c).1) hn4 (by simp only[BT.ht]at hd;omega) hsm.2
   simp only[Ay]at il ir ⊢
   clear ihl ihr hr hchk hc hc' hsm hje hn1 hn3 hn4 hpn
   generalize l.chk (aQ n.1 c).1=u at *
   generalize r.chk (aQ n.1 c).2=v at *
   generalize (aQ n.1 c).1=A at *
   generalize (aQ n.1 c).2=B at *
   obtain⟨p,x,y⟩:=n
   dsimp only[eN]at es1 sp il ir
   simp only[eH,e4]at sp
   refine fL func170 rfl 49 rfl rfl (by simp) (.tup _ (by simp)) (u5 k0 N b (u&&v)) [] (congrArg Ao results170) ?_
   simp only[aD,Ah]
   repeat'(first|refine zg ?_|(refine zc ?_ ?_<;>intro hc<;>first|simp only[NM]at hc|omega|skip)|refine zr ?_|(refine AW.ret (b9 ?_ (by intro p hp;simp only[zM,or_false]at hp;rcases hp with rfl|rfl|rfl<;>rfl))<;>simp -dsimp (disch:=try exact zo)only[go_sem])|(refine AW.nil (b9 ?_ (by intro p hp;simp only[zM,or_false]at hp;rcases hp with rfl|rfl|rfl<;>rfl))<;>simp -dsimp (disch:=try exact zo)only[go_sem])|(refine a1k a0w cv rfl ?_)|(first|refine qW jA il (by intro p hp;simp only[zM,or_false]at hp;rcases hp with rfl|rfl|rfl<;>rfl) ?_|refine qW jA ir (by intro p hp;simp only[zM,or_false]at hp;rcases hp with rfl|rfl|rfl<;>rfl) ?_)|(refine zq sp ?_)|refine⟨by omega,?_⟩|(refine zb ?_ ?_<;>intro hg<;>(try rw[hg])<;>try simp only[NM]at hg)|omega|simp -dsimp (disch:=try exact zo)only[go_sem,hl,es1,k1,k2,k5,ZT]|contradiction|rfl)
end Go.Proofs.Vx
namespace Go.Proofs.Vx
open Go Go.Sx Go.Proofs Tryz
attribute [local irreducible] fnT CallOK CallFr AW aK callV aL aJ aI aM gcaseP hid
theorem c4y:zeT prog 182=some [.lit (.nilFunc)]:=by kernel_rfl
attribute [go_sem] c4y
def sg170 (i:Nat):Nat:=if i=0 then 11 else if i=1 then 10 else 0
def tu170 (i:Nat):Nat:=if i=11 then 0 else if i=10 then 1 else 2
abbrev kU (k0:Int) (N:List TN) (b:Bool):List (Nat × AV):=[(11,.blk [.clo 170 [.loc 10 0,.fp (eTr k0 N),.loc 11 0]]),(10,.blk [.clo 102 [.loc 0 0]]),(0,.blk [.lit (.bool b)])]
abbrev argW (k0:Int) (N:List TN) (k:Int) (c:aE):List AV:=[.lit (.int .i64 k),.agg [.sl (eS c)],.loc 10 0,.fp (eTr k0 N),.loc 11 0]
theorem b2b (k0:Int) (N:List TN) (b:Bool):∀ p∈iB k0 N b,g7 (fun i=>i∈[0,1,2]) p.2:=by
 intro p hp
 simp only[zM,or_false]at hp
 rcases hp with rfl|rfl|rfl
 ·intro c hc
  obtain rfl:=Aa.1 hc
  intro x hx
  simp only[zM,or_false]at hx
  rcases hx with rfl|rfl|rfl
  ·simp[fU]
  ·exact cJ _ _
  ·simp[fU]
 ·intro c hc
  obtain rfl:=Aa.1 hc
  intro x hx
  obtain rfl:=Aa.1 hx
  simp[fU]
 ·intro c hc
  obtain rfl:=Aa.1 hc
  exact .lit _
theorem renW {k0:Int} {N:List TN} {k:Int} {c:aE} {b b':Bool} (h:CallOK prog 170 (uV k0 N k c) (iB k0 N b) (.tup []) (iB k0 N b')):CallOK prog 170 (argW k0 N k c) (kU k0 N b) (.tup []) (kU k0 N b'):=by
 have:=h.renG sg170 tu170 (fun p hp=>by
  simp only[zM,or_false]at hp
  rcases hp with rfl|rfl|rfl<;>rfl) (fun p hp=>b2b k0 N b p hp) (fun p hp=>by
  refine⟨?_,b2b k0 N b' p hp⟩
  simp only[zM,or_false]at hp
  rcases hp with rfl|rfl|rfl<;>simp) (.tup _ (by simp)) (fun x hx=>by
  simp only[zM,or_false]at hx
  rcases hx with rfl|rfl|rfl|rfl|rfl
  ·exact .lit _
  ·exact fO _
  ·show (1:Nat)∈[0,1,2];decide
  ·exact cJ _ _
  ·show (0:Nat)∈[0,1,2];decide)
 exact this
theorem obW (k0:Int) (N:List TN) (b b':Bool):∀ p∈kU k0 N b',p.1∈(kU k0 N b).map (·.1)∧InC (fun i=>i∈(kU k0 N b).map (·.1)) p.2:=by
 intro p hp
 simp only[zM,or_false]at hp
 rcases hp with rfl|rfl|rfl<;>refine⟨by simp,fun c hc=>?_⟩<;>obtain rfl:=Aa.1 hc
 ·refine .clo _ _ fun x hx=>?_
  simp only[zM,or_false]at hx
  rcases hx with rfl|rfl|rfl
  ·exact .loc _ _ (by simp)
  ·exact cJ _ _
  ·exact .loc _ _ (by simp)
 ·refine .clo _ _ fun x hx=>?_
  obtain rfl:=Aa.1 hx
  exact .loc _ _ (by simp)
 ·exact .lit _
theorem lvW (k0:Int) (N:List TN) (b:Bool):∀ p∈kU k0 N b,p.2.live=true:=by
 intro p hp
 simp only[zM,or_false]at hp
 rcases hp with rfl|rfl|rfl<;>rfl
theorem callW {k0:Int} {N:List TN} {k:Int} {c:aE} {b b':Bool} {i:Nat} {ob:Nat→AV} {E:Eff→Prop} (hf:fnT prog 170=true) (hc:CallOK prog 170 (argW k0 N k c) (kU k0 N b) (.tup []) (kU k0 N b')) (hob:∀ p∈kU k0 N b,ob p.1=p.2) (h:E ⟨.tup [],kU k0 N b',[11,10,0]⟩):callV prog 170 (argW k0 N k c) i ob E :=
 lI _ _ _ hf hc hob (by
  intro x hx
  simp only[zM,or_false]at hx
  rcases hx with rfl|rfl|rfl|rfl|rfl
  ·exact .lit _
  ·exact fO _
  ·exact .loc _ _ (by simp)
  ·exact cJ _ _
  ·exact .loc _ _ (by simp)) (fun p hp=>(obW k0 N b b p hp).2) (show ([11,10,0]:List Nat).Nodup by decide) (.tup _ (by simp)) (obW k0 N b b') rfl (lvW k0 N b) h
set_option maxRecDepth 20000 in
theorem c101 (k0:Int) (N:List TN) (hN:N.length≤14) (hP:∀ n∈N,BPl 6 n.1) (T:BT) (k:Int) (c:aE) (d:Nat) (b:Bool) (hr:Rep N T k) (hd:d+T.ht≤64) (hc:c=[]∨SmC d c):CallOK prog 101 [.agg (eTr k0 N),.lit (.int .i64 k),.agg [.sl (eS c)],.clo 102 [.loc 0 0]] [(0,.blk [.lit (.bool b)])] (.tup []) [(0,.blk [.lit (.bool (b&&T.chk c))])]:=by
 have cw:=renW (c170 k0 N hN hP T k c d b hr hd hc)
 generalize (b&&T.chk c)=b' at *
 clear hr hd hc hP
 refine fL func101 rfl 14 rfl rfl (by simp) (.tup _ (by simp)) (by
  intro q hq
  obtain rfl:=Aa.1 hq
  refine⟨by simp,fun c hc=>?_⟩
  obtain rfl:=Aa.1 hc
  exact .lit _) [] (congrArg Ao results101) ?_
 simp only[aD,Ah]
 repeat'(first|refine xS 2 rfl ?_|refine zk ?_|(refine zu ?_ ?_<;>intro hc)|(refine zv ?_ ?_<;>intro hg)|omega|simp -dsimp (disch:=try exact zo)only[go_sem]|contradiction|rfl)
 refine Hold.out ?_
 refine AW.weak (zC 8 (t:=[(1,.lit (.int .i64 k)),(4,.fp (eTr k0 N)),(6,.loc 9 0),(7,.loc 10 0),(8,.loc 11 0)]) (o:=[(0,.blk [.lit (.bool b)]),(9,.blk [.sl (eS c)]),(10,.blk [.clo 102 [.loc 0 0]]),(11,.blk [.lit .nilFunc])]) (by
  intro p hp
  simp only[zM,or_false]at hp
  rcases hp with rfl|rfl|rfl|rfl|rfl<;>first|exact .inl rfl|exact .inr rfl) (by
  intro p hp
  simp only[zM,or_false]at hp
  rcases hp with rfl|rfl|rfl|rfl<;>exact⟨by simp,rfl⟩)) ?_
 repeat'(first|refine zk ?_|(refine zu ?_ ?_<;>intro hc)|(refine AW.nil (b9 ?_ (by intro p hp;obtain rfl:=Aa.1 hp;rfl))<;>simp -dsimp (disch:=try exact zo)only[go_sem])|(refine callW jA cw (by intro p hp;simp only[zM,or_false]at hp;rcases hp with rfl|rfl|rfl<;>rfl) ?_)|(refine zv ?_ ?_<;>intro hg)|omega|simp -dsimp (disch:=try exact zo)only[go_sem]|contradiction|rfl)
end Go.Proofs.Vx
namespace Go.Proofs.Vx
open Go Go.Sx Go.Proofs Tryz
attribute [local irreducible] fnT CallOK CallFr AW aK callV aL aJ aI aM gcaseP hid
theorem a0x:fnT prog 101=true:=by kernel_rfl
def vD (p:Pl):RP:=⟨Zn p.a,Zm p.a,Zn p.b,Zm p.b,Zn p.c,Zm p.c,Zn p.d,Zm p.d⟩
theorem a9e {p:Pl} (h:CanH p):kP (vD p)∧fJ (vD p)=p:=by
 have e:fJ (vD p)=p:=by
  show kY (iv (Zn p.a) (Zm p.a)) (iv (Zn p.b) (Zm p.b)) (iv (Zn p.c) (Zm p.c)) (iv (Zn p.d) (Zm p.d))=p
  rw[bB,bB,bB,bB];exact h.nrm
 refine⟨⟨fun k=>h.ne ?_,by rw[e];rfl⟩,e⟩
 have k':iv (Zn p.a) (Zm p.a)=0∧iv (Zn p.b) (Zm p.b)=0∧iv (Zn p.c) (Zm p.c)=0:=k
 rwa [bB,bB,bB]at k'
def iX (N:List TN):List RN:=N.map fun n=>(vD n.1,n.2.1,n.2.2)
theorem b1d (N:List TN):eRT (iX N)=eTS N:=by
 unfold eRT iX eTS
 rw[A3];rfl
theorem c1q {N:List TN} (h:∀ n∈N,CanH n.1):cC (iX N)=N:=by
 unfold cC iX
 rw[A3]
 conv=>rhs;rw[← List.map_id N]
 exact List.map_congr_left fun n hn=>by
  show (fJ (vD n.1),n.2.1,n.2.2)=n
  rw[(a9e (h n hn)).2]
structure TrB (N:List TN) (k:Int) (T:BT):Prop extends TrOK N k T where
 can:∀ n∈N,CanH n.1
 n:N.length≤14
 b:∀ n∈N,BPl 6 n.1
theorem TrB.raw {N:List TN} {k:Int} {T:BT} (h:TrB N k T):true=true↔b8 (cC (iX N)) [k] []∧i4 (iX N):=by
 refine⟨fun _=>⟨?_,fun n hn=>?_⟩,fun _=>rfl⟩
 ·rw[c1q h.can];exact a5a.2 ⟨T,h.rep,h.perm⟩
 ·obtain⟨m,hm,rfl⟩:=An.1 hn
  exact (a9e (h.can m hm)).1
theorem TrB.small {N:List TN} {k:Int} {T:BT} (h:TrB N k T):oR (iX N):=fun n hn=>by
 obtain⟨m,hm,rfl⟩:=An.1 hn
 have:=(h.b m hm).out
 exact⟨this.a,this.b,this.c,this.d⟩
theorem TrB.ht {N:List TN} {k:Int} {T:BT} (h:TrB N k T):T.ht≤14:=by
 have h1:=b2o T
 have h2:=h.len
 have h3:=h.n
 omega
theorem c100t {N:List TN} {k:Int} {T:BT} (h:TrB N k T):CallOK prog 100 [.agg (eTr k N)] [] (.lit (.bool true)) []:=by
 have:CallOK prog 100 [.agg [.lit (.int .i64 k),.sl (eRT (iX N))]] [] (.lit (.bool true)) []:=c100 k (iX N) (by unfold iX;rw[Af];exact h.n) h.small true h.raw
 rw[b1d]at this
 exact this
set_option maxRecDepth 20000 in
theorem c38a (k0:Int) (N:List RN) (hn:N.length≤14) (hs:oR N) (hb:¬ (b8 (cC N) [k0] []∧i4 N)):CallOK prog 38 [.agg (bV k0 N)] [] (.lit (.int .i64 3)) []:=by
 refine zs func38 15 [.tmp 2] results38 ?_
 simp only[aD,Ah]
 have hml:maxLen=9223372036854775807:=rfl
 have cf:=c100 k0 N hn hs false ⟨fun h=>(Bool.false_ne_true h).elim,fun h=>absurd h hb⟩
 clear hb hs hn
 exact z1
theorem c101n {k0 k:Int} {N:List TN} {c:aE} {b b':Bool} (h:CallOK prog 101 [.agg (eTr k0 N),.lit (.int .i64 k),.agg [.sl (eS c)],.clo 102 [.loc 0 0]] [(0,.blk [.lit (.bool b)])] (.tup []) [(0,.blk [.lit (.bool b')])]):CallOK prog 101 [.agg (eTr k0 N),.lit (.int .i64 k),.agg [.sl (eS c)],.clo 102 [.loc 13 0]] [(13,.blk [.lit (.bool b)])] (.tup []) [(13,.blk [.lit (.bool b')])]:=by
 have tp:∀ b:Bool,g7 (fun i=>i∈[0]) (.blk [.lit (.bool b)]):=fun b c hc=>by obtain rfl:=Aa.1 hc;exact .lit _
 have:=h.renG (fun _=>13) (fun _=>0) (fun p hp=>by obtain rfl:=Aa.1 hp;rfl) (fun p hp=>by obtain rfl:=Aa.1 hp;exact tp b) (fun p hp=>by obtain rfl:=Aa.1 hp;exact⟨by simp,tp b'⟩) (.tup _ (by simp)) (fun x hx=>by
  simp only[zM,or_false]at hx
  rcases hx with rfl|rfl|rfl|rfl
  ·exact pA _ _
  ·exact .lit _
  ·exact fO _
  ·intro x hx
   obtain rfl:=Aa.1 hx
   show (0:Nat)∈[0];decide)
 exact this
theorem b0f {k0 k:Int} {N:List TN} {c:aE} {b b':Bool} {i:Nat} {ob:Nat→AV} {E:Eff→Prop} (hf:fnT prog 101=true) (hc:CallOK prog 101 [.agg (eTr k0 N),.lit (.int .i64 k),.agg [.sl (eS c)],.clo 102 [.loc 13 0]] [(13,.blk [.lit (.bool b)])] (.tup []) [(13,.blk [.lit (.bool b')])]) (hob:ob 13=.blk [.lit (.bool b)]) (h:E ⟨.tup [],[(13,.blk [.lit (.bool b')])],[13]⟩):callV prog 101 [.agg (eTr k0 N),.lit (.int .i64 k),.agg [.sl (eS c)],.clo 102 [.loc 13 0]] i ob E:=by
 refine j1 13 _ _ _ hf hc hob (fun x hx=>?_) (fun c hc=>?_) (fun c hc=>?_) (.tup _ (by simp)) rfl h
 ·simp only[zM,or_false]at hx
  rcases hx with rfl|rfl|rfl|rfl
  ·exact pA _ _
  ·exact .lit _
  ·exact fO _
  ·refine .clo _ _ fun x hx=>?_
   obtain rfl:=Aa.1 hx
   exact .loc _ _ rfl
 ·obtain rfl:=Aa.1 hc;exact .lit _
 ·obtain rfl:=Aa.1 hc;exact .lit _
set_option maxRecDepth 20000 in
theorem c38b (k0:Int) (N:List TN) (T:BT) (h:TrB N k0 T):CallOK prog 38 [.agg (eTr k0 N)] [] (.lit (.int .i64 (if T.chk aO=true then 0 else 1))) []:=by
 refine zs func38 15 [.tmp 2] results38 ?_
 simp only[aD,Ah]
 have hml:maxLen=9223372036854775807:=rfl
 have cf:=c100t h
 have hh:=h.ht
 have cw:=c101n (c101 k0 N h.n (fun n hn=>(h.b n hn).mono (by decide)) T k0 aO 6 true h.rep (by omega) (.inr wT))
 simp only[Ay]at cw
 have w0:=c57
 clear h hh
 generalize T.chk aO=u at *
 generalize aO=W at *
 cases u
 ·rw[if_neg (by decide)]
  repeat'(first|refine zk ?_|(refine zu ?_ ?_<;>intro hc)|(refine zq cf ?_)|(refine b0f a0x cw rfl ?_)|(refine zq w0 ?_)|(refine zv ?_ ?_<;>intro hg)|omega|simp -dsimp (disch:=try exact zo)only[go_sem,As,Aq]|contradiction|rfl)
 ·rw[if_pos rfl]
  repeat'(first|refine zk ?_|(refine zu ?_ ?_<;>intro hc)|(refine zq cf ?_)|(refine b0f a0x cw rfl ?_)|(refine zq w0 ?_)|(refine zv ?_ ?_<;>intro hg)|omega|simp -dsimp (disch:=try exact zo)only[go_sem,As,Aq]|contradiction|rfl)
end Go.Proofs.Vx
