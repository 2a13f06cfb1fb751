import Derived.Test.YtjlfgmhmalbiiaaGreatDoorRows
import Derived.JoinedOf
import Derived.Test.YtjlfgmhmalbiiaaGreatDoorXD0
import Derived.Test.YtjlfgmhmalbiiaaGreatDoorXD2
set_option linter.all false
set_option maxHeartbeats 40000000
open Array renaming toList → Au
open List renaming length_map → Aa, length_drop → Ab, length_cons → Ac, length_append → Ad, length_take → Ae, length_nil → Af, take_of_length_le → Ag, take_succ_eq_append_getElem → Aj, drop_eq_nil_of_le → Am, mem_map → Ao, getElem_map → Ap, getElem_mem → Aq, take_zero → Ar, map_take → As, map_drop → At, map_nil → Av, take → Ax
open Nat renaming sub_zero → Ah, zero_add → Ai, reduceAdd → Ak, lt_or_ge → Al, zero_le → An, le_refl → Aw
namespace Go.Proofs.Vx
open Go Go.Sx Go.Proofs Tryz
attribute [local irreducible] fnT CallOK CallFr AW aK callV aL aJ aI aM gcaseP hid
theorem b6h:agT prog 62=some false∧agT prog 79=some true∧arT prog 62=none∧fdT prog 64 1=some (1,1,false)∧fdT prog 79 0=some (0,8,true)∧slT prog 62=some (79,10)∧bI prog 62=false∧szT prog 62=some 1∧szT prog 79=some 10∧zeT prog 79=some [.lit (.bool false),.lit (.string ⟨#[]⟩),.lit (.bool false),.lit (.string ⟨#[]⟩),.lit (.bool false),.lit (.string ⟨#[]⟩),.lit (.bool false),.lit (.string ⟨#[]⟩),.lit (.int .i64 0),.lit (.int .i64 0)]:=by and_intros<;>kernel_rfl
attribute [go_sem] b6h
theorem c5l:fnT prog 123=true:=by kernel_rfl
theorem c5k:fnT prog 125=true:=by kernel_rfl
theorem c126 (a b:Pl) (ha:Bs 268435456 a.a a.b a.c a.d) (hb:Bs 268435456 b.a b.b b.c b.d):CallOK prog 126 [.agg (eH a),.agg (eH b)] [] (.lit (.int .i64 (gR a b))) []:=by
 refine zs func126 41 [.tmp 4] results126 ?_
 simp only[aD,Ak]
 have d1:=c113 a.a b.a (by have:=ha.a;omega) (by have:=hb.a;omega)
 have d2:=c113 a.b b.b (by have:=ha.b;omega) (by have:=hb.b;omega)
 have d3:=c113 a.c b.c (by have:=ha.c;omega) (by have:=hb.c;omega)
 have d4:=c113 a.d b.d (by have:=ha.d;omega) (by have:=hb.d;omega)
 unfold gR
 clear ha hb
 obtain⟨a1,a2,a3,a4⟩:=a
 obtain⟨b1,b2,b3,b4⟩:=b
 dsimp only at *
 generalize sg (a1 - b1)=u1 at *
 generalize sg (a2 - b2)=u2 at *
 generalize sg (a3 - b3)=u3 at *
 generalize sg (a4 - b4)=u4 at *
 by_cases q1:u1=0
 ·have k1:=eq_true q1
  rw[if_neg (by simp[q1])]
  by_cases q2:u2=0
  ·have k2:=eq_true q2
   rw[if_neg (by simp[q2])]
   by_cases q3:u3=0
   ·have k3:=eq_true q3
    rw[if_neg (by simp[q3])]
    by_cases q4:u4=0
    ·have k4:=eq_true q4
     rw[q4]
     exact z1f
    ·have k4:=eq_false q4
     exact z1f
   ·have k3:=eq_false q3
    rw[if_pos q3]
    have k4:True:=trivial
    exact z1f
  ·have k2:=eq_false q2
   rw[if_pos q2]
   have k3:True:=trivial
   have k4:True:=trivial
   exact z1f
 ·have k1:=eq_false q1
  rw[if_pos q1]
  have k2:True:=trivial
  have k3:True:=trivial
  have k4:True:=trivial
  exact z1f
theorem c58 (k:Int) (N:List TN) (hn:N.length≤268435456) (hb:∀ n∈N,BPl 6 n.1):CallOK prog 58 [.agg (eTr k N)] [] (.sl ((eK (N.map (·.1))).map eH)) []:=by
 refine fF func58 rfl 23 rfl rfl (by rw[iI,r5];trivial) [.tmp 2] (congrArg Au results58) ?_
 simp only[aD,Ak]
 have hml:maxLen=9223372036854775807:=rfl
 have hl:(eTS N).length=N.length:=jU N
 have hbs:∀ p∈N.map (·.1),Bs 268435456 p.a p.b p.c p.d:=fun p hp=>by
  obtain⟨n,hn,rfl⟩:=Ao.1 hp
  exact ((hb n hn).mono (l:=268435456) (by decide)).out
 have hNl:(N.map (·.1)).length=N.length:=Aa _
 clear hb
 repeat'(first|refine zk ?_|(refine zu ?_ ?_<;>intro hc)|(refine zv ?_ ?_<;>intro hg)|omega|simp -dsimp (disch:=try exact zo)only[go_sem,hl]|contradiction|rfl)
 refine AW.loop (fun z:{i:Nat // i≤N.length}=>⟨[(9,.lit (.int .i64 z.1)),(8,.lit (.int .i64 N.length)),(7,.sl (eTS N)),(3,.ref 15 0 z.1 z.1)],[(15,.vec 8 (((N.map (·.1)).take z.1).map eH))],60⟩) (fun z=>N.length - z.1) ⟨0,An _⟩ (Weak.trans (Weak.nil 3 8 (by decide) rfl) (aR (by refine⟨?_,?_,?_,?_⟩<;>simp -dsimp (disch:=try exact zo)only[go_sem,Av,Af,Ar,ZC]))) ?_
 rintro⟨i,hi⟩
 dsimp only
 by_cases hlt:i<N.length
 ·have es1:=oE N i hlt
  have hR0:(N.map (·.1)).take (i+1)=(N.map (·.1)).take i++[N[i].1]:=by
   rw[Aj (by omega),Ap]
  have hR1:((N.map (·.1)).take (i+1)).map eH=((N.map (·.1)).take i).map eH++[eH N[i].1]:=by rw[hR0,List.map_append];rfl
  have hRl:(((N.map (·.1)).take i).map eH).length=i:=by rw[Aa,Ae];omega
  have hR2:True:=trivial
  clear hR0 hbs
  generalize ((N.map (·.1)).take i).map eH=R at *
  generalize N[i]=nd at *
  obtain⟨p,a,c⟩:=nd
  simp only[eN]at es1
  simp only[eH,e4]at hR1
  repeat'(first|refine zk ?_|(refine zu ?_ ?_<;>intro hc)|(refine zv ?_ ?_<;>intro hg)|omega|simp -dsimp (disch:=try exact zo)only[go_sem,hl,es1,hRl,ZT]|contradiction|rfl)
  all_goals exact AW.stop ⟨⟨i+1,by omega⟩,(aR (by refine⟨?_,?_,?_,?_⟩<;>first|(simp -dsimp (disch:=try exact zo)only[go_sem,hR1,ZC];done)|(simp -dsimp (disch:=try exact zo)only[go_sem,ZC];done))),by dsimp only;omega⟩
 ·have hil:i=N.length:=by omega
  subst hil
  have e1:(N.map (·.1)).take N.length=N.map (·.1):=Ag (by omega)
  rw[e1,← b7l]
  have c5:=c123 (N.map (·.1)) hbs (by omega)
  have c6:=c125 (iF (N.map (·.1))) (by rw[lL];omega)
  rw[lL]at c6
  rw[hNl]at c5 c6 ⊢
  clear hbs e1
  repeat'(first|refine zk ?_|(refine zu ?_ ?_<;>intro hc)|(refine j1 15 _ _ _ c5l (mX c5 (rH _) (rH _) (.tup _ (by simp)) (by simp[iW,yK]) 15) rfl (by simp[rQ,yK]) (rH _) (rH _) (.tup _ (by simp)) rfl ?_)|(refine j1 15 _ _ _ c5k (mX c6 (rH _) trivial (by rw[iI,r5];trivial) (by simp[iW]) 15) rfl (by simp[rQ]) (rH _) trivial (by rw[iI,r5];trivial) rfl ?_)|(refine zv ?_ ?_<;>intro hg)|omega|simp -dsimp (disch:=try exact zo)only[go_sem,hl]|contradiction|rfl)
end Go.Proofs.Vx
namespace Go.Proofs.Vx
open Go Go.Sx Go.Proofs Tryz
attribute [local irreducible] fnT CallOK CallFr AW aK callV aL aJ aI aM gcaseP hid
theorem b2s (R:List Pl) (q:Nat):(∀ e∈(R.map eH).drop q,e.length=8)=True:=eq_true fun e he=>by
 obtain⟨y,_,rfl⟩:=Ao.1 (List.mem_of_mem_drop he)
 rfl
theorem b1f (cp:Nat):(0<cp)=True∧(cp≤0)=False∨(0<cp)=False∧(cp≤0)=True:=by
 by_cases h:0<cp
 ·exact .inl ⟨eq_true h,eq_false (by omega)⟩
 ·exact .inr ⟨eq_false h,eq_true (by omega)⟩
theorem a7m (l:List Pl):(eK l).length≤l.length:=by
 have key:∀ (l r:List Pl),(l.foldl (fun r p=>aX p r) r).length≤l.length+r.length:=by
  intro l
  induction l with
  | nil=>intro r;simp
  | cons a l ih=>intro r;have:=ih (aX a r);have:=c3b a r;simp only[List.foldl_cons,Ac];omega
 exact key l []
theorem c3a {l:List Pl} {p:Pl}:p∈eK l↔p∈l:=((a7n l [] List.Pairwise.nil).2 p).trans (by simp)
theorem c59 (k:Int) (N:List TN) (hn:N.length≤268435456) (hb:∀ n∈N,BPl 6 n.1):CallOK prog 59 [.agg (eTr k N)] [] (.sl ((eK (N.map (·.1))).map eH)) []:=by
 refine fF func59 rfl 58 rfl rfl (by rw[iI,r5];trivial) [.tmp 2] (congrArg Au results59) ?_
 simp only[aD,Ak]
 have hml:maxLen=9223372036854775807:=rfl
 have hl:(eTS N).length=N.length:=jU N
 have hz:eK []=[]:=rfl
 have hbs:∀ p∈N.map (·.1),Bs 268435456 p.a p.b p.c p.d:=fun p hp=>by
  obtain⟨n,hn,rfl⟩:=Ao.1 hp
  exact ((hb n hn).mono (l:=268435456) (by decide)).out
 have hNl:(N.map (·.1)).length=N.length:=Aa _
 clear hb
 repeat'(first|refine zk ?_|(refine zu ?_ ?_<;>intro hc)|(refine zv ?_ ?_<;>intro hg)|omega|simp -dsimp (disch:=try exact zo)only[go_sem,hl]|contradiction|rfl)
 refine AW.loop (fun z:{i:Nat // i≤N.length}=>⟨[(3,.ref 12 0 (eK ((N.map (·.1)).take z.1)).length (eK ((N.map (·.1)).take z.1)).length),(4,.lit (.int .i64 z.1)),(1,.loc 8 0)],[(12,.vec 8 ((eK ((N.map (·.1)).take z.1)).map eH)),(8,.blk (eTr k N))],60⟩) (fun z=>N.length - z.1) ⟨0,An _⟩ (Weak.trans (Weak.nil 3 8 (by decide) rfl) (aR (by refine⟨?_,?_,?_,?_⟩<;>simp -dsimp (disch:=try exact zo)only[go_sem,hz,Av,Af,Ar,ZC]))) ?_
 rintro⟨i,hi⟩
 dsimp only
 by_cases hlt:i<N.length
 ·have es1:=oE N i hlt
  have hins:eK ((N.map (·.1)).take (i+1))=aX N[i].1 (eK ((N.map (·.1)).take i)):=by
   rw[Aj (by omega),b8k,Ap]
  have hRn:(eK ((N.map (·.1)).take i)).length≤268435456:=by
   have:=a7m ((N.map (·.1)).take i)
   rw[Ae]at this;omega
  have hp:=hbs _ (List.mem_map_of_mem (f:=(·.1)) (Aq hlt))
  have hRb:∀ r∈eK ((N.map (·.1)).take i),Bs 268435456 r.a r.b r.c r.d:=fun r hr=>hbs r (List.mem_of_mem_take (c3a.1 hr))
  generalize eK ((N.map (·.1)).take i)=R at *
  generalize N[i]=nd at *
  obtain⟨p,a,c⟩:=nd
  simp only[eN]at es1
  dsimp only at hins hp
  replace hRb:=Hid.mk hRb
  have hWl:(R.map eH).length=R.length:=Aa _
  clear hbs
  repeat'(first|refine zk ?_|(refine zu ?_ ?_<;>intro hc)|(refine zv ?_ ?_<;>intro hg)|omega|simp -dsimp (disch:=try exact zo)only[go_sem,hl,es1,ZT]|contradiction|rfl)
  refine AW.loop (fun z:{q:Nat // q≤R.length∧Hid (∀ j (h:j<R.length),j<q→gR R[j] p<0)}=>⟨[(6,.lit (.int .i64 z.1)),(5,.loc 71 0),(4,.lit (.int .i64 i)),(3,.ref 12 0 R.length R.length),(1,.loc 8 0)],[(71,.blk (eH p)),(12,.vec 8 (R.map eH)),(8,.blk (eTr k N))],120⟩) (fun z=>R.length - z.1) ⟨0,An _,Hid.mk (fun j _ h=>absurd h (Nat.not_lt_zero _))⟩ zw ?_
  rintro⟨q,hq,hI⟩
  dsimp only
  by_cases hlq:q<R.length
  ·have e1:=eH_getD R q hlq
   have cq:=c126 R[q] p (hRb.out _ (Aq hlq)) hp
   have hI1:=Hid.mk (show gR R[q] p<0→∀ j (h:j<R.length),j<q+1→gR R[j] p<0 from fun hc j h h2=>by
    by_cases e:j=q
    ·subst e;exact hc
    ·exact hI.out j h (by omega))
   have hin:=Hid.mk (show R[q]=p→aX p R=R from fun e=>c7t hlq hI.out e)
   have hnw:=Hid.mk (show ¬ gR R[q] p<0→R[q]≠p→aX p R=R.take q++p::R.drop q from fun h1 h2=>a7o hq hI.out fun _=>⟨h1,h2⟩)
   clear hI hRb hp
   generalize R[q]=y at *
   generalize gR y p=c at *
   by_cases hc:c<0
   ·have k1:=eq_true hc
    replace hI1:=Hid.mk (hI1.out hc)
    have k2:True:=trivial
    clear hin hnw hc
    obtain⟨a1,a2,a3,a4⟩:=y
    simp only[eH,e4]at e1 cq
    repeat'(first|refine zk ?_|(refine zu ?_ ?_<;>intro hc)|(refine zf cq ?_)|(refine zv ?_ ?_<;>intro hg)|omega|simp -dsimp (disch:=try exact zo)only[go_sem,hl,hWl,e1,k1,k2,ZT]|contradiction|rfl)
    all_goals exact AW.stop ⟨⟨q+1,by omega,hI1⟩,zw,by dsimp only;omega⟩
   ·have k1:=eq_false hc
    by_cases he:y=p
    ·rw[hin.out he]at hins
     clear hin hnw hI1 hc
     have k2:(y.a=p.a∧y.b=p.b∧y.c=p.c∧y.d=p.d)=True:=eq_true (by subst he;simp)
     clear he
     obtain⟨a1,a2,a3,a4⟩:=y
     simp only[eH,e4]at e1 cq
     dsimp only at k2
     repeat'(first|refine zk ?_|(refine zu ?_ ?_<;>intro hc)|(refine zf cq ?_)|(refine zv ?_ ?_<;>intro hg)|omega|simp -dsimp (disch:=try exact zo)only[go_sem,hl,hWl,e1,k1,k2,ZT]|contradiction|rfl)
     all_goals exact AW.stop ⟨⟨i+1,by omega⟩,zw,by dsimp only;omega⟩
    ·have hnew:=hnw.out hc he
     have hlen:(aX p R).length=R.length+1:=by rw[hnew,Ad,Ac,Ae,Ab];omega
     clear hin hnw hI1 hc
     have k2:(y.a=p.a∧y.b=p.b∧y.c=p.c∧y.d=p.d)=False:=eq_false (fun e=>he (by obtain⟨a1,a2,a3,a4⟩:=y;obtain⟨b1,b2,b3,b4⟩:=p;simp only at e;obtain⟨rfl,rfl,rfl,rfl⟩:=e;rfl))
     clear he
     obtain⟨a1,a2,a3,a4⟩:=y
     simp only[eH,e4]at e1 cq
     dsimp only at k2
     repeat'(first|refine a1o 10 12 rfl rfl ?_|refine zk ?_|(refine zu ?_ ?_<;>intro hc)|(refine zf cq ?_)|(refine zv ?_ ?_<;>intro hg)|omega|simp -dsimp (disch:=try exact zo)only[go_sem,hl,hWl,e1,k1,k2,ZT]|contradiction|rfl)
     all_goals intro cp hcp
     all_goals have p5:(q+(R.length - q)≤R.length)=True:=eq_true (by omega)
     all_goals have p6:(1+(R.length - q)=R.length - q+1)=True:=eq_true (by omega)
     all_goals have hT:((R.map eH).drop q).take (R.length - q)=(R.map eH).drop q:=Ag (by rw[Ab,Aa];exact Aw _)
     all_goals have hTl:((R.map eH).drop q).length=R.length - q:=by rw[Ab,Aa]
     all_goals have hT2:∀ x:List AV,Ax (1+(R.length - q)) (x::(R.map eH).drop q)=x::(R.map eH).drop q:=fun x=>Ag (by rw[Ac,hTl];omega)
     all_goals have he8:(∀ e∈(R.map eH).drop q,e.length=8)=True:=b2s R q
     all_goals have p00:=b1f cp
     all_goals have hV:(R.map eH).take q++eH p::(R.map eH).drop q=(aX p R).map eH:=by rw[hnew];simp[As,At]
     all_goals rcases Al R.length cp with hcq|hcq
     ·obtain⟨p0,pz⟩:=p00.resolve_right (fun k=>by have:=of_eq_true k.2;omega)
      have p1:(q<cp)=True:=eq_true (by omega)
      have p2:(cp≤q)=False:=eq_false (by omega)
      have p3:(cp<q+(R.length - q+1))=False:=eq_false (by omega)
      have p4:(q+(R.length - q+1)≤cp)=True:=eq_true (by omega)
      repeat'(first|refine fun (_:True)=>?_|refine zk ?_|(refine zu ?_ ?_<;>intro hc)|(refine zv ?_ ?_<;>intro hg)|omega|simp -dsimp (disch:=try exact zo)only[go_sem,hl,hWl,p1,p2,p3,p4,p0,pz,p5,p6,hT,hTl,hT2,he8,Ah,ZT,Ai]|contradiction|rfl)
      all_goals refine AW.stop ⟨⟨i+1,by omega⟩,?_,by dsimp only;omega⟩
      all_goals dsimp only
      all_goals rw[hins]
      all_goals refine i8 12 12 3 60 _ 0 (aX p R).length _ (aX p R).length _ 8 _ ((aX p R).map eH) rfl rfl ?_ ?_ (Aa _) rfl ?_ ?_ (by decide) (by decide) (by decide) (by decide) ?_
      all_goals first|exact hV|exact fun e he=>kB _ e (by rw[← hV];exact he)|(refine⟨?_,?_,?_,?_⟩<;>simp -dsimp (disch:=try exact zo)only[go_sem,hins,ZC])|(simp only[hlen,hTl,hWl,Ad,Ac,Af,Ae,Ab,Aa];done)|(simp only[hlen,hTl,hWl,Ad,Ac,Af,Ae,Ab,Aa];omega)
     ·rcases Al q cp with hcr|hcr
      ·obtain⟨p0,pz⟩:=p00.resolve_right (fun k=>by have:=of_eq_true k.2;omega)
       have p1:(q<cp)=True:=eq_true (by omega)
       have p2:(cp≤q)=False:=eq_false (by omega)
       have p3:(cp<q+(R.length - q+1))=True:=eq_true (by omega)
       have p4:(q+(R.length - q+1)≤cp)=False:=eq_false (by omega)
       repeat'(first|refine fun (_:True)=>?_|refine zk ?_|(refine zu ?_ ?_<;>intro hc)|(refine zv ?_ ?_<;>intro hg)|omega|simp -dsimp (disch:=try exact zo)only[go_sem,hl,hWl,p1,p2,p3,p4,p0,pz,p5,p6,hT,hTl,hT2,he8,Ah,ZT,Ai]|contradiction|rfl)
       all_goals refine AW.stop ⟨⟨i+1,by omega⟩,?_,by dsimp only;omega⟩
       all_goals dsimp only
       all_goals rw[hins]
       all_goals refine i8 154 12 3 60 _ 0 (aX p R).length _ (aX p R).length _ 8 _ ((aX p R).map eH) rfl rfl ?_ ?_ (Aa _) rfl ?_ ?_ (by decide) (by decide) (by decide) (by decide) ?_
       all_goals first|exact hV|exact fun e he=>kB _ e (by rw[← hV];exact he)|(refine⟨?_,?_,?_,?_⟩<;>simp -dsimp (disch:=try exact zo)only[go_sem,hins,ZC])|(simp only[hlen,hTl,hWl,Ad,Ac,Af,Ae,Ab,Aa];done)|(simp only[hlen,hTl,hWl,Ad,Ac,Af,Ae,Ab,Aa];omega)
      ·have p1:(q<cp)=False:=eq_false (by omega)
       have p2:(cp≤q)=True:=eq_true (by omega)
       have p3:(cp<q+1)=True:=eq_true (by omega)
       have p4:(q+1≤cp)=False:=eq_false (by omega)
       have hqe:q=R.length:=by omega
       have hdr:(R.map eH).drop q=[]:=Am (by rw[Aa];omega)
       rw[hdr]at hV
       have htk:(0<cp)=False→(R.map eH).take q=[]:=fun h=>by
        have h1:¬ 0<cp:=of_eq_false h
        rw[show q=0 by omega];rfl
       rcases p00 with⟨p0,pz⟩|⟨p0,pz⟩
       rotate_left
       ·rw[htk p0]at hV
        have hR0:R.length=0:=by have h1:¬ 0<cp:=of_eq_false p0;omega
        repeat'(first|refine fun (_:True)=>?_|refine zk ?_|(refine zu ?_ ?_<;>intro hc)|(refine zv ?_ ?_<;>intro hg)|omega|simp -dsimp (disch:=try exact zo)only[go_sem,hl,hWl,p1,p2,p3,p4,p0,pz,p5,p6,hT,hTl,hT2,he8,Ah,ZT,Ai]|contradiction|rfl)
        all_goals refine AW.stop ⟨⟨i+1,by omega⟩,?_,by dsimp only;omega⟩
        all_goals dsimp only
        all_goals rw[hins]
        all_goals refine i8 154 12 3 60 _ 0 (aX p R).length _ (aX p R).length _ 8 _ ((aX p R).map eH) rfl rfl ?_ ?_ (Aa _) rfl ?_ ?_ (by decide) (by decide) (by decide) (by decide) ?_
        all_goals first|exact hV|exact fun e he=>kB _ e (by rw[← hV];exact he)|(refine⟨?_,?_,?_,?_⟩<;>simp -dsimp (disch:=try exact zo)only[go_sem,hins,ZC])|(simp only[hlen,hTl,hWl,Ad,Ac,Af,Ae,Ab,Aa];done)|(simp only[hlen,hTl,hWl,Ad,Ac,Af,Ae,Ab,Aa];omega)
       all_goals repeat'(first|refine fun (_:True)=>?_|refine zk ?_|(refine zu ?_ ?_<;>intro hc)|(refine zv ?_ ?_<;>intro hg)|omega|simp -dsimp (disch:=try exact zo)only[go_sem,hl,hWl,p1,p2,p3,p4,p0,pz,p5,p6,hT,hTl,hT2,he8,Ah,ZT,Ai]|contradiction|rfl)
       all_goals refine AW.stop ⟨⟨i+1,by omega⟩,?_,by dsimp only;omega⟩
       all_goals dsimp only
       all_goals rw[hins]
       all_goals refine i8 154 12 3 60 _ 0 (aX p R).length _ (aX p R).length _ 8 _ ((aX p R).map eH) rfl rfl ?_ ?_ (Aa _) rfl ?_ ?_ (by decide) (by decide) (by decide) (by decide) ?_
       all_goals first|exact hV|exact fun e he=>kB _ e (by rw[← hV];exact he)|(refine⟨?_,?_,?_,?_⟩<;>simp -dsimp (disch:=try exact zo)only[go_sem,hins,ZC])|(simp only[hlen,hTl,hWl,Ad,Ac,Af,Ae,Ab,Aa];done)|(simp only[hlen,hTl,hWl,Ad,Ac,Af,Ae,Ab,Aa];omega)
  ·have hqR:q=R.length:=by omega
   have hnew:aX p R=R.take q++p::R.drop q:=a7o hq hI.out fun h=>absurd h hlq
   have hlen:(aX p R).length=R.length+1:=by rw[hnew,Ad,Ac,Ae,Ab];omega
   clear hI hRb hp
   have e1:True:=trivial
   have k1:True:=trivial
   have k2:True:=trivial
   have cq:True:=trivial
   repeat'(first|refine a1o 10 12 rfl rfl ?_|refine zk ?_|(refine zu ?_ ?_<;>intro hc)|(refine zf cq ?_)|(refine zv ?_ ?_<;>intro hg)|omega|simp -dsimp (disch:=try exact zo)only[go_sem,hl,hWl,e1,k1,k2,ZT]|contradiction|rfl)
   all_goals intro cp hcp
   all_goals have p5:(q+(R.length - q)≤R.length)=True:=eq_true (by omega)
   all_goals have p6:(1+(R.length - q)=R.length - q+1)=True:=eq_true (by omega)
   all_goals have hT:((R.map eH).drop q).take (R.length - q)=(R.map eH).drop q:=Ag (by rw[Ab,Aa];exact Aw _)
   all_goals have hTl:((R.map eH).drop q).length=R.length - q:=by rw[Ab,Aa]
   all_goals have hT2:∀ x:List AV,Ax (1+(R.length - q)) (x::(R.map eH).drop q)=x::(R.map eH).drop q:=fun x=>Ag (by rw[Ac,hTl];omega)
   all_goals have he8:(∀ e∈(R.map eH).drop q,e.length=8)=True:=b2s R q
   all_goals have p00:=b1f cp
   all_goals have hV:(R.map eH).take q++eH p::(R.map eH).drop q=(aX p R).map eH:=by rw[hnew];simp[As,At]
   all_goals rcases Al R.length cp with hcq|hcq
   ·obtain⟨p0,pz⟩:=p00.resolve_right (fun k=>by have:=of_eq_true k.2;omega)
    have p1:(q<cp)=True:=eq_true (by omega)
    have p2:(cp≤q)=False:=eq_false (by omega)
    have p3:(cp<q+(R.length - q+1))=False:=eq_false (by omega)
    have p4:(q+(R.length - q+1)≤cp)=True:=eq_true (by omega)
    repeat'(first|refine fun (_:True)=>?_|refine zk ?_|(refine zu ?_ ?_<;>intro hc)|(refine zv ?_ ?_<;>intro hg)|omega|simp -dsimp (disch:=try exact zo)only[go_sem,hl,hWl,p1,p2,p3,p4,p0,pz,p5,p6,hT,hTl,hT2,he8,Ah,ZT,Ai]|contradiction|rfl)
    all_goals refine AW.stop ⟨⟨i+1,by omega⟩,?_,by dsimp only;omega⟩
    all_goals dsimp only
    all_goals rw[hins]
    all_goals refine i8 12 12 3 60 _ 0 (aX p R).length _ (aX p R).length _ 8 _ ((aX p R).map eH) rfl rfl ?_ ?_ (Aa _) rfl ?_ ?_ (by decide) (by decide) (by decide) (by decide) ?_
    all_goals first|exact hV|exact fun e he=>kB _ e (by rw[← hV];exact he)|(refine⟨?_,?_,?_,?_⟩<;>simp -dsimp (disch:=try exact zo)only[go_sem,hins,ZC])|(simp only[hlen,hTl,hWl,Ad,Ac,Af,Ae,Ab,Aa];done)|(simp only[hlen,hTl,hWl,Ad,Ac,Af,Ae,Ab,Aa];omega)
   ·rcases Al q cp with hcr|hcr
    ·obtain⟨p0,pz⟩:=p00.resolve_right (fun k=>by have:=of_eq_true k.2;omega)
     have p1:(q<cp)=True:=eq_true (by omega)
     have p2:(cp≤q)=False:=eq_false (by omega)
     have p3:(cp<q+(R.length - q+1))=True:=eq_true (by omega)
     have p4:(q+(R.length - q+1)≤cp)=False:=eq_false (by omega)
     repeat'(first|refine fun (_:True)=>?_|refine zk ?_|(refine zu ?_ ?_<;>intro hc)|(refine zv ?_ ?_<;>intro hg)|omega|simp -dsimp (disch:=try exact zo)only[go_sem,hl,hWl,p1,p2,p3,p4,p0,pz,p5,p6,hT,hTl,hT2,he8,Ah,ZT,Ai]|contradiction|rfl)
     all_goals refine AW.stop ⟨⟨i+1,by omega⟩,?_,by dsimp only;omega⟩
     all_goals dsimp only
     all_goals rw[hins]
     all_goals refine i8 154 12 3 60 _ 0 (aX p R).length _ (aX p R).length _ 8 _ ((aX p R).map eH) rfl rfl ?_ ?_ (Aa _) rfl ?_ ?_ (by decide) (by decide) (by decide) (by decide) ?_
     all_goals first|exact hV|exact fun e he=>kB _ e (by rw[← hV];exact he)|(refine⟨?_,?_,?_,?_⟩<;>simp -dsimp (disch:=try exact zo)only[go_sem,hins,ZC])|(simp only[hlen,hTl,hWl,Ad,Ac,Af,Ae,Ab,Aa];done)|(simp only[hlen,hTl,hWl,Ad,Ac,Af,Ae,Ab,Aa];omega)
    ·have p1:(q<cp)=False:=eq_false (by omega)
     have p2:(cp≤q)=True:=eq_true (by omega)
     have p3:(cp<q+1)=True:=eq_true (by omega)
     have p4:(q+1≤cp)=False:=eq_false (by omega)
     have hqe:q=R.length:=by omega
     have hdr:(R.map eH).drop q=[]:=Am (by rw[Aa];omega)
     rw[hdr]at hV
     have htk:(0<cp)=False→(R.map eH).take q=[]:=fun h=>by
      have h1:¬ 0<cp:=of_eq_false h
      rw[show q=0 by omega];rfl
     rcases p00 with⟨p0,pz⟩|⟨p0,pz⟩
     rotate_left
     ·rw[htk p0]at hV
      have hR0:R.length=0:=by have h1:¬ 0<cp:=of_eq_false p0;omega
      repeat'(first|refine fun (_:True)=>?_|refine zk ?_|(refine zu ?_ ?_<;>intro hc)|(refine zv ?_ ?_<;>intro hg)|omega|simp -dsimp (disch:=try exact zo)only[go_sem,hl,hWl,p1,p2,p3,p4,p0,pz,p5,p6,hT,hTl,hT2,he8,Ah,ZT,Ai]|contradiction|rfl)
      all_goals refine AW.stop ⟨⟨i+1,by omega⟩,?_,by dsimp only;omega⟩
      all_goals dsimp only
      all_goals rw[hins]
      all_goals refine i8 154 12 3 60 _ 0 (aX p R).length _ (aX p R).length _ 8 _ ((aX p R).map eH) rfl rfl ?_ ?_ (Aa _) rfl ?_ ?_ (by decide) (by decide) (by decide) (by decide) ?_
      all_goals first|exact hV|exact fun e he=>kB _ e (by rw[← hV];exact he)|(refine⟨?_,?_,?_,?_⟩<;>simp -dsimp (disch:=try exact zo)only[go_sem,hins,ZC])|(simp only[hlen,hTl,hWl,Ad,Ac,Af,Ae,Ab,Aa];done)|(simp only[hlen,hTl,hWl,Ad,Ac,Af,Ae,Ab,Aa];omega)
     all_goals repeat'(first|refine fun (_:True)=>?_|refine zk ?_|(refine zu ?_ ?_<;>intro hc)|(refine zv ?_ ?_<;>intro hg)|omega|simp -dsimp (disch:=try exact zo)only[go_sem,hl,hWl,p1,p2,p3,p4,p0,pz,p5,p6,hT,hTl,hT2,he8,Ah,ZT,Ai]|contradiction|rfl)
     all_goals refine AW.stop ⟨⟨i+1,by omega⟩,?_,by dsimp only;omega⟩
     all_goals dsimp only
     all_goals rw[hins]
     all_goals refine i8 154 12 3 60 _ 0 (aX p R).length _ (aX p R).length _ 8 _ ((aX p R).map eH) rfl rfl ?_ ?_ (Aa _) rfl ?_ ?_ (by decide) (by decide) (by decide) (by decide) ?_
     all_goals first|exact hV|exact fun e he=>kB _ e (by rw[← hV];exact he)|(refine⟨?_,?_,?_,?_⟩<;>simp -dsimp (disch:=try exact zo)only[go_sem,hins,ZC])|(simp only[hlen,hTl,hWl,Ad,Ac,Af,Ae,Ab,Aa];done)|(simp only[hlen,hTl,hWl,Ad,Ac,Af,Ae,Ab,Aa];omega)
 ·have hil:i=N.length:=by omega
  subst hil
  have e1:(N.map (·.1)).take N.length=N.map (·.1):=Ag (by omega)
  rw[e1]
  have hlen:((eK (N.map (·.1))).map eH).length=(eK (N.map (·.1))).length:=Aa _
  clear hbs e1
  repeat'(first|refine zk ?_|(refine zu ?_ ?_<;>intro hc)|(refine zv ?_ ?_<;>intro hg)|omega|simp -dsimp (disch:=try exact zo)only[go_sem,hl,hlen]|contradiction|rfl)
  all_goals exact frzS hlen
end Go.Proofs.Vx
namespace Go.Proofs.Vx
open Go Go.Sx Go.Proofs Tryz
attribute [local irreducible] fnT CallOK CallFr AW aK callV aL aJ aI aM gcaseP hid
set_option maxRecDepth 20000 in
theorem d2l (k:Int) (N:List RN) (cf:CallOK prog 40 [.agg (bV k N)] [] (.lit (.bool false)) []):CallOK prog 13 [.agg (bV k N)] [] (.lit (.bool true)) []:=by
 refine zs func13 35 [.tmp 2] results13 ?_
 simp only[aD,Ak]
 have zh0:=c36
 exact z1
set_option maxRecDepth 20000 in
theorem c13ok (k:Int) (N:List TN) (T:BT) (h:TrB N k T) (cf:CallOK prog 40 [.agg (eTr k N)] [] (.lit (.bool true)) []):CallOK prog 13 [.agg (eTr k N)] [] (.lit (.bool true)) []:=by
 refine zs func13 35 [.tmp 2] results13 ?_
 simp only[aD,Ak]
 have hml:maxLen=9223372036854775807:=rfl
 have p1:=c58 k N (by have:=h.n;omega) h.b
 have p2:=c59 k N (by have:=h.n;omega) h.b
 have hn:=a7m (N.map (·.1))
 rw[Aa]at hn
 have hn2:=h.n
 clear h
 generalize eK (N.map (·.1))=L at *
 have hWl:(L.map eH).length=L.length:=Aa _
 repeat'(first|refine zk ?_|(refine zu ?_ ?_<;>intro hc)|(refine zf c36 ?_)|(refine zq cf ?_)|(refine zq p1 ?_)|(refine zq p2 ?_)|(refine zv ?_ ?_<;>intro hg)|omega|simp -dsimp (disch:=try exact zo)only[go_sem]|contradiction|rfl)
 refine AW.loop (fun z:{i:Nat // i≤L.length}=>⟨[(5,.lit (.int .i64 z.1)),(4,.sl (L.map eH)),(3,.sl (L.map eH)),(1,.loc 8 0)],[(8,.blk (eTr k N))],60⟩) (fun z=>L.length - z.1) ⟨0,An _⟩ zw ?_
 rintro⟨i,hi⟩
 dsimp only
 by_cases hlt:i<L.length
 ·have es1:=eH_getD L i hlt
  generalize L[i]=y at *
  obtain⟨a1,a2,a3,a4⟩:=y
  simp only[eH,e4]at es1
  have k1:(a1=a1∧a2=a2∧a3=a3∧a4=a4)=True:=eq_true ⟨rfl,rfl,rfl,rfl⟩
  repeat'(first|refine zk ?_|(refine zu ?_ ?_<;>intro hc)|(refine zv ?_ ?_<;>intro hg)|omega|simp -dsimp (disch:=try exact zo)only[go_sem,hWl,es1,k1,ZT]|contradiction|rfl)
  all_goals exact AW.stop ⟨⟨i+1,by omega⟩,zw,by dsimp only;omega⟩
 ·have hil:i=L.length:=by omega
  subst hil
  have es1:True:=trivial
  have k1:True:=trivial
  exact z1
theorem d2e (k:Int) (N:List RN):CallOK prog 13 [.agg (bV k N)] [] (.lit (.bool true)) []:=by
 rcases a5e k N with cf|⟨N',T,h,hc,he,cf⟩
 ·exact d2l k N cf
 ·rw[show bV k N=eTr k N' by rw[bV,he]]
  exact c13ok k N' T h cf
end Go.Proofs.Vx
namespace Go.Proofs.YtjlfgmhmalbiiaaGreatDoor
open Go Go.Proofs
theorem zand {a b:Bool} (h:a=true) (k:b=true):(a&&b)=true:=by rw[h,k];rfl
set_option maxRecDepth 100000 in
theorem fa13:joinedFacts Tryz.prog 13 Tryz.f13 Rows.bspPlanesSpec Rows.bspPlanesRow=true:=by
 unfold joinedFacts
 repeat' with_reducible refine zand ?_ ?_
 all_goals decide +kernel
end Go.Proofs.YtjlfgmhmalbiiaaGreatDoor
