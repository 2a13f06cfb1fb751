import Derived.Test.YtjlfgmhmalbiiaaGreatDoorV35
set_option linter.all false
set_option maxHeartbeats 40000000
namespace Go.Proofs.Vx
open Go Go.Sx Go.Proofs Tryz
attribute [local irreducible] fnT CallOK CallFr AW aJ callV aL aI aH aM gcaseP hid
theorem b4n:agT prog 62=some false∧arT prog 62=none∧fdT prog 64 1=some (1,1,false)∧fdT prog 79 0=some (0,8,true)∧slT prog 62=some (79,10)∧bI prog 62=false∧szT prog 62=some 1:=by and_intros<;>kernel_rfl
attribute [go_sem] b4n
abbrev RN:=RP × Int × Int
abbrev eRN (n:RN):List AV:=[.lit (.bool n.1.n1),.lit (.string n.1.m1),.lit (.bool n.1.n2),.lit (.string n.1.m2),.lit (.bool n.1.n3),.lit (.string n.1.m3),.lit (.bool n.1.n4),.lit (.string n.1.m4),.lit (.int .i64 n.2.1),.lit (.int .i64 n.2.2)]
def eRT (N:List RN):List (List AV):=N.map eRN
theorem wJ (N:List RN) (i:Nat) (h:i<N.length):(eRT N).getD i []=eRN N[i]:=by
 unfold eRT
 rw[List.getD_eq_getElem?_getD,List.getElem?_map,List.getElem?_eq_getElem h];rfl
theorem a1i {K:Nat→Prop} (N:List RN):(∀ e∈eRT N,∀ c∈e,In K c)=True:=eq_true fun e he c hc=>by
 obtain⟨n,_,rfl⟩:=List.mem_map.1 he
 simp only[eRN,List.mem_cons,List.not_mem_nil,or_false]at hc
 rcases hc with rfl|rfl|rfl|rfl|rfl|rfl|rfl|rfl|rfl|rfl<;>exact .lit _
abbrev bF (k:Int) (N:List RN):List AV:=[.lit (.int .i64 k),.sl (eRT N)]
def kI (r:RP):Bool:=decide (4<r.m1.size)||decide (4<r.m2.size)||decide (4<r.m3.size)||decide (4<r.m4.size)
theorem a6n {r:RP} (h:kI r=false):r.m1.size≤4∧r.m2.size≤4∧r.m3.size≤4∧r.m4.size≤4:=by
 unfold kI at h
 simp only[Bool.or_eq_false_iff,decide_eq_false_iff_not]at h
 omega
def qF (N:List RN):Prop:=N.length≤14∧∀ n∈N,kI n.1=false
attribute [go_sem] a1i
theorem sp4 {L:Nat} (r:RP):(r.m1.size≤L∧r.m2.size≤L∧r.m3.size≤L∧r.m4.size≤L)∨L<r.m1.size∨(r.m1.size≤L∧L<r.m2.size)∨(r.m1.size≤L∧r.m2.size≤L∧L<r.m3.size)∨(r.m1.size≤L∧r.m2.size≤L∧r.m3.size≤L∧L<r.m4.size):=by omega
set_option maxRecDepth 20000 in
theorem a9v (k:Int) (N:List RN) (h:14<N.length):CallOK prog 37 [.agg (bF k N)] [] (.lit (.int .i64 1)) []:=by
 refine zs func37 48 [.tmp 2] results37 ?_
 simp only[aC,Nat.reduceAdd]
 have hml:maxLen=9223372036854775807:=rfl
 have hl:(eRT N).length=N.length:=List.length_map _
 have k0:(14<(N.length:Int))=True:=eq_true (by omega)
 exact z1
set_option maxRecDepth 20000 in
theorem c37 (k:Int) (N:List RN) (h:N.length≤14) (b:Bool) (hb:b=true↔∀ n∈N,kI n.1=false):CallOK prog 37 [.agg (bF k N)] [] (.lit (.int .i64 (if b=true then 0 else 1))) []:=by
 refine zs func37 48 [.tmp 2] results37 ?_
 simp only[aC,Nat.reduceAdd]
 have hml:maxLen=9223372036854775807:=rfl
 have hl:(eRT N).length=N.length:=List.length_map _
 have k0:(14<(N.length:Int))=False:=eq_false (by omega)
 replace hb:=Hid.mk hb
 repeat'(first|refine zk ?_|(refine zu ?_ ?_<;>intro hc)|(refine zv ?_ ?_<;>intro hg)|omega|simp -dsimp (disch:=try exact zo)only[go_sem,hl,k0]|contradiction|rfl)
 refine AW.loop (fun z:{i:Nat // i≤N.length∧Hid (∀ j (h:j<N.length),j<i→kI N[j].1=false)}=>⟨[(3,.lit (.int .i64 z.1)),(1,.loc 8 0)],[(8,.blk [.lit (.int .i64 k),.sl (eRT N)])],60⟩) (fun z=>N.length - z.1) ⟨0,Nat.zero_le _,Hid.mk (fun j _ h=>absurd h (Nat.not_lt_zero _))⟩ zw ?_
 rintro⟨i,hi,hI⟩
 dsimp only
 by_cases hlt:i<N.length
 ·have es1:=wJ N i hlt
  have hI1:=Hid.mk (show kI N[i].1=false→∀ j (h:j<N.length),j<i+1→kI N[j].1=false from fun hx j h h2=>by
   by_cases q:j=i
   ·subst q;exact hx
   ·exact hI.out j h (by omega))
  have hbad:kI N[i].1=true→b=false:=fun hx=>by
   cases hb0:b
   ·rfl
   ·have:=hb.out.1 hb0 _ (List.getElem_mem hlt);rw[hx]at this;contradiction
  generalize N[i]=n at *
  obtain⟨r,x,y⟩:=n
  dsimp only[eRN]at es1 hI1 hbad
  cases hx:kI r
  ·obtain⟨h1,h2,h3,h4⟩:=a6n hx
   replace hI1:=Hid.mk (hI1.out hx)
   have k1:(4<(r.m1.size:Int))=False:=eq_false (by omega)
   have k2:(4<(r.m2.size:Int))=False:=eq_false (by omega)
   have k3:(4<(r.m3.size:Int))=False:=eq_false (by omega)
   have k4:(4<(r.m4.size:Int))=False:=eq_false (by omega)
   clear hbad hx
   repeat'(first|refine zk ?_|(refine zu ?_ ?_<;>intro hc)|(refine zv ?_ ?_<;>intro hg)|omega|simp -dsimp (disch:=try exact zo)only[go_sem,hl,es1,ZT,k1,k2,k3,k4]|contradiction|rfl)
   all_goals exact AW.stop ⟨⟨i+1,by omega,hI1⟩,zw,by dsimp only;omega⟩
  ·rw[hbad hx,if_neg (by decide)]
   have hx':4<r.m1.size∨4<r.m2.size∨4<r.m3.size∨4<r.m4.size:=by
    unfold kI at hx
    simp only[Bool.or_eq_true,decide_eq_true_eq]at hx
    omega
   clear hbad hx hI1 hb
   rcases (sp4 (L:=4) r).resolve_left (by omega)with q|q|q|q
   ·have k1:(4<(r.m1.size:Int))=True:=eq_true (by omega)
    have k2:True:=trivial
    have k3:True:=trivial
    have k4:True:=trivial
    clear q
    exact z1
   ·have k1:(4<(r.m1.size:Int))=False:=eq_false (by omega)
    have k2:(4<(r.m2.size:Int))=True:=eq_true (by omega)
    have k3:True:=trivial
    have k4:True:=trivial
    clear q
    exact z1
   ·have k1:(4<(r.m1.size:Int))=False:=eq_false (by omega)
    have k2:(4<(r.m2.size:Int))=False:=eq_false (by omega)
    have k3:(4<(r.m3.size:Int))=True:=eq_true (by omega)
    have k4:True:=trivial
    clear q
    exact z1
   ·have k1:(4<(r.m1.size:Int))=False:=eq_false (by omega)
    have k2:(4<(r.m2.size:Int))=False:=eq_false (by omega)
    have k3:(4<(r.m3.size:Int))=False:=eq_false (by omega)
    have k4:(4<(r.m4.size:Int))=True:=eq_true (by omega)
    clear q
    exact z1
 ·have hil:i=N.length:=by omega
  subst hil
  have hall:b=true:=hb.out.2 fun n hn=>by
   obtain⟨j,hj,rfl⟩:=List.getElem_of_mem hn
   exact hI.out j hj hj
  rw[if_pos hall]
  exact z1
set_option maxRecDepth 20000 in
theorem c45 (r:RP):CallOK prog 45 [.agg (eRP r)] [] (.lit (.int .i64 (if b8 r=true then 1 else 0))) []:=by
 refine zs func45 29 [.tmp 2] results45 ?_
 simp only[aC,Nat.reduceAdd]
 simp only[eRP]
 have hb:b8 r=true↔¬ (r.m1.size≤6∧r.m2.size≤6∧r.m3.size≤6∧r.m4.size≤6):=by
  unfold b8
  simp only[Bool.or_eq_true,decide_eq_true_eq]
  omega
 by_cases h0:b8 r=true
 ·rw[if_pos h0]
  replace hb:=hb.1 h0
  clear h0
  rcases (sp4 (L:=6) r).resolve_left hb with q|q|q|q
  ·have k1:(6<(r.m1.size:Int))=True:=eq_true (by omega)
   have k2:True:=trivial
   have k3:True:=trivial
   have k4:True:=trivial
   clear q
   exact z1
  ·have k1:(6<(r.m1.size:Int))=False:=eq_false (by omega)
   have k2:(6<(r.m2.size:Int))=True:=eq_true (by omega)
   have k3:True:=trivial
   have k4:True:=trivial
   clear q
   exact z1
  ·have k1:(6<(r.m1.size:Int))=False:=eq_false (by omega)
   have k2:(6<(r.m2.size:Int))=False:=eq_false (by omega)
   have k3:(6<(r.m3.size:Int))=True:=eq_true (by omega)
   have k4:True:=trivial
   clear q
   exact z1
  ·have k1:(6<(r.m1.size:Int))=False:=eq_false (by omega)
   have k2:(6<(r.m2.size:Int))=False:=eq_false (by omega)
   have k3:(6<(r.m3.size:Int))=False:=eq_false (by omega)
   have k4:(6<(r.m4.size:Int))=True:=eq_true (by omega)
   clear q
   exact z1
 ·rw[if_neg h0]
  have q:r.m1.size≤6∧r.m2.size≤6∧r.m3.size≤6∧r.m4.size≤6:=Classical.byContradiction fun h=>h0 (hb.2 h)
  clear hb h0
  have k1:(6<(r.m1.size:Int))=False:=eq_false (by omega)
  have k2:(6<(r.m2.size:Int))=False:=eq_false (by omega)
  have k3:(6<(r.m3.size:Int))=False:=eq_false (by omega)
  have k4:(6<(r.m4.size:Int))=False:=eq_false (by omega)
  clear q
  exact z1
set_option maxRecDepth 20000 in
theorem c41 (r:RP):CallOK prog 41 [.agg (eRP r)] [] (.lit (.int .i64 (if b8 r=true then 1 else 0))) []:=by
 refine zs func41 24 [.tmp 2] results41 ?_
 simp only[aC,Nat.reduceAdd]
 simp only[eRP]
 have hb:b8 r=true↔¬ (r.m1.size≤6∧r.m2.size≤6∧r.m3.size≤6∧r.m4.size≤6):=by
  unfold b8
  simp only[Bool.or_eq_true,decide_eq_true_eq]
  omega
 by_cases h0:b8 r=true
 ·rw[if_pos h0]
  replace hb:=hb.1 h0
  clear h0
  rcases (sp4 (L:=6) r).resolve_left hb with q|q|q|q
  ·have k1:(6<(r.m1.size:Int))=True:=eq_true (by omega)
   have k2:True:=trivial
   have k3:True:=trivial
   have k4:True:=trivial
   clear q
   exact z1e
  ·have k1:(6<(r.m1.size:Int))=False:=eq_false (by omega)
   have k2:(6<(r.m2.size:Int))=True:=eq_true (by omega)
   have k3:True:=trivial
   have k4:True:=trivial
   clear q
   exact z1e
  ·have k1:(6<(r.m1.size:Int))=False:=eq_false (by omega)
   have k2:(6<(r.m2.size:Int))=False:=eq_false (by omega)
   have k3:(6<(r.m3.size:Int))=True:=eq_true (by omega)
   have k4:True:=trivial
   clear q
   exact z1e
  ·have k1:(6<(r.m1.size:Int))=False:=eq_false (by omega)
   have k2:(6<(r.m2.size:Int))=False:=eq_false (by omega)
   have k3:(6<(r.m3.size:Int))=False:=eq_false (by omega)
   have k4:(6<(r.m4.size:Int))=True:=eq_true (by omega)
   clear q
   exact z1e
 ·rw[if_neg h0]
  have q:r.m1.size≤6∧r.m2.size≤6∧r.m3.size≤6∧r.m4.size≤6:=Classical.byContradiction fun h=>h0 (hb.2 h)
  clear hb h0
  have k1:(6<(r.m1.size:Int))=False:=eq_false (by omega)
  have k2:(6<(r.m2.size:Int))=False:=eq_false (by omega)
  have k3:(6<(r.m3.size:Int))=False:=eq_false (by omega)
  have k4:(6<(r.m4.size:Int))=False:=eq_false (by omega)
  clear q
  exact z1e
end Go.Proofs.Vx
namespace Go.Proofs.Vx
open Go Go.Sx Go.Proofs Tryz
attribute [local irreducible] fnT CallOK CallFr AW aJ callV aL aI aH aM gcaseP hid
def j8 (r:RP):Prop:=¬ gZ r∧eRP r=eH (bR r)
structure RB (K:Nat) (r:RP):Prop where
 a:r.m1.size≤K
 b:r.m2.size≤K
 c:r.m3.size≤K
 d:r.m4.size≤K
theorem a7i {K:Nat} {r:RP} (h:RB K r) (hz:¬ gZ r):BPl K (bR r):=by
 obtain⟨d1,d2,d3,d4⟩:=j4 (iv r.n1 r.m1) (iv r.n2 r.m2) (iv r.n3 r.m3) (iv r.n4 r.m4)
 have hG:0<g4 (iv r.n1 r.m1) (iv r.n2 r.m2) (iv r.n3 r.m3) (iv r.n4 r.m4):=by
  apply Nat.pos_of_ne_zero
  intro h0
  rw[h0]at d1 d2 d3
  exact hz ⟨by simpa using d1,by simpa using d2,by simpa using d3⟩
 have z1:=dK r.n1 r.m1
 have z2:=dK r.n2 r.m2
 have z3:=dK r.n3 r.m3
 have z4:=dK r.n4 r.m4
 have b1:=h.a
 have b2:=h.b
 have b3:=h.c
 have b4:=h.d
 exact⟨⟨Nat.le_trans (mO d1 hG) (by omega),Nat.le_trans (mO d2 hG) (by omega),Nat.le_trans (mO d3 hG) (by omega),Nat.le_trans (mO d4 hG) (by omega)⟩⟩
end Go.Proofs.Vx
namespace Go.Sx
set_option linter.unusedVariables false
set_option linter.unusedSimpArgs false
theorem GOk.ob {c:Cx} {g:Gh} {ob ob':Nat→AV} (h:GOk c g ob) (h1:∀ l,ObjOk g l (ob' l)) (h2:∀ l,aE g l (ob' l)=aE g l (ob l)):GOk c g ob' :=
 ⟨h.os,h.tape,h.output,h.size,h.old,h.fzo,h.fzn,h.fzx,h1,fun l b hb=>h.own l b (by rw[← h2];exact hb),fun l l' b hb hb'=>h.dis l l' b (by rw[← h2];exact hb) (by rw[← h2];exact hb')⟩
theorem c6g {P:Program} {nt:Nat} {R:AS→Prop} {kk:List Itm} {S:AS} {x:Code} (l k:Nat) (es:List (List AV)) (h:look S.o l=.vec k es) (hcont:∀ cp,AW P nt R (.code x::kk) { t:=S.t,o:=(l,.vcp k es cp)::S.o,nx:=S.nx }):AW P nt R (.code x::kk) S:=by
 intro c a w hP hs
 obtain⟨g,rfl,hg,ht,hsz,hu,hln,h8⟩:=hs
 refine hcont (g.des l).cap c a g.w hP ⟨g,rfl,hg.ob (fun l'=>?_) (fun l'=>?_),ht,hsz,hu,hln,h8⟩
 ·show ObjOk g l' (if l=l' then _ else _)
  split
  ·rename_i e;subst e
   have:=hg.obj l
   rw[h]at this
   exact⟨this,rfl⟩
  ·exact hg.obj l'
 ·show aE g l' (if l=l' then _ else _)=_
  split
  ·rename_i e;subst e;rw[h];rfl
  ·rfl
theorem b4f {S:AS} (l k:Nat) (es:List (List AV)) (cp:Nat) (h:look S.o l=.vcp k es cp):Weak S { t:=S.t,o:=(l,.vec k es)::S.o,nx:=S.nx }:=by
 intro c nt a w hs
 obtain⟨g,rfl,hg,ht,hsz,hu,hln,h8⟩:=hs
 refine⟨g,rfl,hg.ob (fun l'=>?_) (fun l'=>?_),ht,hsz,hu,hln,h8⟩
 ·show ObjOk g l' (if l=l' then _ else _)
  split
  ·rename_i e;subst e
   have:=hg.obj l
   rw[h]at this
   exact this.1
  ·exact hg.obj l'
 ·show aE g l' (if l=l' then _ else _)=_
  split
  ·rename_i e;subst e;rw[h];rfl
  ·rfl
end Go.Sx
namespace Go.Sx
set_option linter.unusedVariables false
set_option linter.unusedSimpArgs false
theorem a6p {S : AS} (N M d n o n' p m k : Nat) (es : List (List AV)) {t ob : List (Nat × AV)} (hd : look S.t d = .ref N o n' m) (hm0 : m = es.length) (hp : p ≤ es.length) (hN : look S.o N = .vec k es) (hcs : ∀ e ∈ es, ∀ c ∈ e, Flat c) (hN8 : 8 ≤ N) (hM8 : 8 ≤ M) (hMn : M < n) (h8 : 8 ≤ n)
  (ht:fQ t S.t) (ho:fQ ob S.o) (it:oR n M N t) (io:oS n M N ob):Weak S ⟨(d,.ref M o n' p)::t,(M,.vec k (es.take p))::ob,n⟩:=by
 intro c nt a w hs
 obtain⟨g,rfl,hg,htk,hsz,hu,hln,_⟩:=hs
 let g':Gh:={ g with us:=fun l=>(g.us l∧Mk n M N l)∨l=M,des:=fun l=>if l=M then g.des N else g.des l,len:=fun l=>if l=M then p else g.len l }
 have hK:∀ l,Mk n M N l→g.us l→g'.us l∧g'.blk l=g.blk l∧g'.des l=g.des l∧g'.len l=g.len l:=fun l hl hu=>⟨.inl ⟨hu,hl⟩,rfl,if_neg hl.2.2,if_neg hl.2.2⟩
 have hcar:∀ {x:AV} {v:Value},Rel g x v→In (Mk n M N) x→Rel g' x v:=fun h hi=>cZ (g:=g) (g':=g') (K:=Mk n M N) (fun b hb=>⟨hb,rfl⟩) hK h hi
 have hT:=mJ ht
 have hO:=mJ ho
 have iT:=a4s it
 have iO:=a4t io
 have hlo:∀ q,look ob q=.any∨(Mk n M N q∧InC (Mk n M N) (look ob q)∧look S.o q=look ob q):=fun q=>by
  rcases @jT ob q with h|h
  ·exact .inl h
  ·exact .inr ⟨(iO _ h).1,(iO _ h).2,hO _ h⟩
 have hokN:=hg.obj N
 have hownN:=hg.own N
 rw[hN]at hokN hownN
 have hdM:g'.des M=g.des N:=if_pos rfl
 have hlM:g'.len M=p:=if_pos rfl
 have hpl:(es.take p).length=p:=by rw[List.length_take];omega
 have hbl:∀ q b,q≠M→aE g' q (look ob q)=some b→q≠N∧aE g q (look S.o q)=some b:=by
  intro q b hq hb
  rcases hlo q with h|⟨k1,k2,k3⟩
  ·rw[h]at hb;simp[aE]at hb
  ·rw[k3]
   refine⟨k1.2.1,?_⟩
   generalize look ob q=x at hb ⊢
   have e:g'.des q=g.des q:=if_neg hq
   cases x<;>simp only[aE]at hb ⊢<;>first|exact hb|(rw[← e];exact hb)
 have hl2:∀ q,look ((M,AV.vec k (es.take p))::ob) q=if M=q then .vec k (es.take p)else look ob q:=fun q=>rfl
 have hblk2:∀ q b,aE g' q (look ((M,AV.vec k (es.take p))::ob) q)=some b→(q=M∧(g.des N).b=some b)∨(q≠M∧q≠N∧aE g q (look S.o q)=some b):=by
  intro q b hb
  rw[hl2]at hb
  by_cases hq:M=q
  ·rw[if_pos hq]at hb
   subst hq
   simp only[aE,hdM]at hb
   exact .inl ⟨rfl,hb⟩
  ·rw[if_neg hq]at hb
   obtain⟨k1,k2⟩:=hbl q b (fun e=>hq e.symm) hb
   exact .inr ⟨fun e=>hq e.symm,k1,k2⟩
 have hbN:∀ b,(g.des N).b=some b→aE g N (look S.o N)=some b:=fun b h=>by rw[hN];exact h
 refine⟨g',rfl,⟨hg.os,hg.tape,hg.output,hg.size,hg.old,hg.fzo,hg.fzn,hg.fzx,fun q=>?_,fun q b hb=>?_,fun q q' b hb hb'=>?_⟩,⟨htk.1,fun q=>?_⟩,hsz,fun l hl=>?_,?_,h8⟩
 ·show ObjOk g' q (look ((M,AV.vec k (es.take p))::ob) q)
  rw[hl2]
  by_cases hq:M=q
  ·rw[if_pos hq]
   subst hq
   obtain⟨h1,h2,h3,h4,h5,h6⟩:=hokN
   refine⟨.inr rfl,by rw[hdM];exact h2,by rw[hlM,hpl],h4,fun e he=>h5 e (List.mem_of_mem_take he),?_⟩
   rw[hdM]
   rcases h6 with⟨m1,m2,m3⟩|⟨b,vs,m1,m2,m3,m4,m5,m6,m7⟩
   ·exact .inl ⟨m1,by rw[m2,List.take_nil],m3⟩
   ·refine .inr ⟨b,vs,m1,m2,by omega,m4,m5,fun i i1 i2=>m6 i i1 (Nat.lt_of_lt_of_le i2 (Nat.mul_le_mul_right _ (by omega))),fun i i1 j i2 i3=>?_⟩
    have e1:(es.take p)[i]=es[i]'(by omega):=List.getElem_take
    have i1':i<es.length:=by omega
    have i2':j<es[i].length:=by rw[← e1];exact i2
    have:=(m7 i i1' j i2' i3).flat (g':=g') (hcs _ (List.getElem_mem i1') _ (List.getElem_mem i2'))
    simpa only[e1]using this
  ·rw[if_neg hq]
   rcases hlo q with h|⟨k1,k2,k3⟩
   ·rw[h];trivial
   ·have:=hg.obj q
    rw[k3]at this
    exact r9 (g:=g) (g':=g') (K:=Mk n M N) rfl (fun b hb=>hb) hK k1 k2 this
 ·rcases hblk2 q b hb with⟨rfl,h⟩|⟨_,_,h⟩
  ·exact hg.own N b (hbN b h)
  ·exact hg.own q b h
 ·rcases hblk2 q b hb with⟨rfl,h⟩|⟨k1,k2,k3⟩<;>rcases hblk2 q' b hb' with⟨e1,e2⟩|⟨l1,l2,l3⟩
  ·exact e1.symm
  ·exact absurd (hg.dis N q' b (hbN b h) l3).symm l2
  ·exact absurd (hg.dis q N b k3 (hbN b e2)) k2
  ·exact hg.dis q q' b k3 l3
 ·show Rel g' (look ((d,AV.ref M o n' p)::t) q) _
  simp only[look]
  by_cases hq:d=q
  ·rw[if_pos hq]
   subst hq
   have:=htk.2 d
   rw[hd]at this
   generalize a.tmps.getD d undef=v at this
   cases this with
   | ref _ _ _ _ _ hu' hm' hc' hv'=>exact .ref (g:=g') M o n' p v (.inr rfl) (by rw[hlM];exact Nat.le_refl _) hc' (fun _=>by rw[hdM];exact hv' (hm0.trans hokN.2.2.1.symm))
  ·rw[if_neg hq]
   rcases @jT t q with h|h
   ·rw[h];exact .any _
   ·have h1:=hT _ h
    simp only at h1
    have h2:=htk.2 q
    rw[h1]at h2
    exact hcar h2 (iT _ h)
 ·rcases hl with⟨_,h⟩|rfl
  ·exact h.1
  ·exact hMn
 ·intro l hl
  obtain⟨h1,h2,h3⟩:=hln l hl
  have e1:l≠M:=by omega
  have e2:l≠N:=by omega
  refine⟨h1,.inl ⟨h2,by omega,e2,e1⟩,?_⟩
  have d1:g'.des l=g.des l:=if_neg e1
  have d2:g'.len l=g.len l:=if_neg e1
  rw[d1,d2]
  exact h3
theorem fl2 {V X:List (List AV)} {a c:Value} (hV:∀ e∈V,∀ x∈e,Flat x) (hX:∀ e∈X,e∈V):∀ e∈X++[[AV.lit a],[AV.lit c]],∀ x∈e,Flat x:=fun e he x hx=>by
 rcases List.mem_append.1 he with he|he
 ·exact hV e (hX e he) x hx
 ·simp only[zM,or_false]at he
  rcases he with rfl|rfl<;>obtain rfl:=List.mem_singleton.1 hx<;>exact .lit _
theorem wL {S : AS} (N M d n o o' n' q p m k : Nat) (es es' : List (List AV)) {t ob : List (Nat × AV)} (hd : look S.t d = .ref N o q m) (ho : o = o') (hq : q = n') (hm : m = es.length) (hp : es'.length = p) (hN : look S.o N = .vec k es) (he : es = es') (hcs : ∀ e ∈ es, ∀ c ∈ e, Flat c) (hN8 : 8 ≤ N) (hM8 : 8 ≤ M) (hMn : M < n) (h8 : 8 ≤ n)
  (h:fQ t S.t∧fQ ob S.o∧oR n M N t∧oS n M N ob):Weak S ⟨(d,.ref M o' n' p)::t,(M,.vec k es')::ob,n⟩:=by
 subst ho hq he hp
 have:=a6p N M d n o q es.length m k es hd hm (Nat.le_refl _) hN hcs hN8 hM8 hMn h8 h.1 h.2.1 h.2.2.1 h.2.2.2
 rwa [List.take_length]at this
@[irreducible] def Hold (p:Prop):Prop:=p
theorem Hold.out {p:Prop} (h:p):Hold p:=by unfold Hold;exact h
theorem Hold.use {p:Prop} (h:Hold p):p:=by unfold Hold at h;exact h
theorem b2y {P : Program} {f l L k : Nat} {es : List (List AV)} {i : Nat} {ob : Nat → AV} {E : Eff → Prop} {b : Value} (r : AV) (hf : fnT P f = true) (hc : CallOK P f [.sl es, .lit b] [] r []) (hob : ob l = .vec k es) (hL : es.length = L) (hin : ∀ e ∈ es, ∀ c ∈ e, In (fun _ => False) c) (hr : Flat r)
  (h:E ⟨r,[],[l]⟩):callV P f [.ref l 0 L L,.lit b] i ob E:=by
 refine b9 r hf ?_ ?_ hr h
 ·simp only[List.map_cons,List.map_nil,bwa,tJ hob hL];exact hc
 ·simp only[List.map_cons,List.map_nil,bwa,tJ hob hL,List.mem_cons,List.not_mem_nil,or_false]
  rintro a (rfl|rfl)
  ·exact .sl es hin
  ·exact .lit _
def a1y (n:Nat):Code→Bool
 | .region m _ _=>m == n
 | _=>false
theorem c6h {P:Program} {nt:Nat} {R:AS→Prop} {kk:List Itm} {S:AS} {x:Code} {k:Nat} {es:List (List AV)} (n l:Nat) (hx:a1y n x=true) (h:look S.o l=.vec k es) (hcont:∀ cp,AW P nt R (.code x::kk) { t:=S.t,o:=(l,.vcp k es cp)::S.o,nx:=S.nx }):AW P nt R (.code x::kk) S:=c6g l k es h hcont
theorem c6i {P:Program} {nt:Nat} {R:AS→Prop} {kk:List Itm} {S:AS} {x:Code} {k:Nat} {es:List (List AV)} (n l:Nat) (hx:a1y n x=true) (h:look S.o l=.vec k es) (hcont:∀ cp,es.length≤cp→AW P nt R (.code x::kk) { t:=S.t,o:=(l,.vcp k es cp)::S.o,nx:=S.nx }):AW P nt R (.code x::kk) S:=by
 intro c a w hP hs
 obtain⟨g,rfl,hg,ht,hsz,hu,hln,h8⟩:=id hs
 have hle:es.length≤(g.des l).cap:=by
  have:=hg.obj l
  rw[h]at this
  rcases this.2.2.2.2.2 with⟨_,e,_⟩|⟨_,_,_,_,e,_⟩
  ·rw[e];exact Nat.zero_le _
  ·exact e
 refine hcont (g.des l).cap hle c a g.w hP ⟨g,rfl,hg.ob (fun l'=>?_) (fun l'=>?_),ht,hsz,hu,hln,h8⟩
 ·show ObjOk g l' (if l=l' then _ else _)
  split
  ·rename_i e;subst e
   have:=hg.obj l
   rw[h]at this
   exact⟨this,rfl⟩
  ·exact hg.obj l'
 ·show aE g l' (if l=l' then _ else _)=_
  split
  ·rename_i e;subst e;rw[h];rfl
  ·rfl
theorem wM {S : AS} (N M d n n' q m k : Nat) (es es' : List (List AV)) {t ob : List (Nat × AV)} (hd : look S.t d = .ref N 0 q m) (hq : q = n') (hm : m = es.length) (hp : n' ≤ es.length) (hN : look S.o N = .vec k es) (he : es.take n' = es') (hcs : ∀ e ∈ es, ∀ c ∈ e, Flat c) (hN8 : 8 ≤ N) (hM8 : 8 ≤ M) (hMn : M < n) (h8 : 8 ≤ n)
  (h:fQ t S.t∧fQ ob S.o∧oR n M N t∧oS n M N ob):Weak S ⟨(d,.ref M 0 n' n')::t,(M,.vec k es')::ob,n⟩:=by
 subst hq
 rw[← he]
 exact a6p N M d n 0 q q m k es hd hm hp hN hcs hN8 hM8 hMn h8 h.1 h.2.1 h.2.2.1 h.2.2.2
theorem tK {P:Program} {nt:Nat} {R:AS→Prop} {kk:List Itm} {S:AS} {x:Code} (n:Nat) (hx:a1y n x=true) (h:Hold (AW P nt R (.code x::kk) S)):AW P nt R (.code x::kk) S:=h.use
end Go.Sx
namespace Go.Proofs.Vx
open Go Go.Sx Go.Proofs Tryz
attribute [local irreducible] fnT CallOK CallFr AW aJ callV aL aI aH aM gcaseP hid
theorem b4m:agT prog 79=some true∧arT prog 180=none∧byT prog 4=some 1∧fdT prog 64 0=some (0,1,false)∧fdT prog 79 1=some (8,1,false)∧fdT prog 79 2=some (9,1,false)∧slT prog 180=some (4,1)∧bI prog 180=false∧szT prog 79=some 10∧zeT prog 4=some [.lit (.bool false)]∧zeT prog 79=some [.lit (.bool false),.lit (.string ⟨#[]⟩),.lit (.bool false),.lit (.string ⟨#[]⟩),.lit (.bool false),.lit (.string ⟨#[]⟩),.lit (.bool false),.lit (.string ⟨#[]⟩),.lit (.int .i64 0),.lit (.int .i64 0)]:=by and_intros<;>kernel_rfl
attribute [go_sem] b4m
theorem c2u:fnT prog 169=true:=by kernel_rfl
def bS (M:List Bool):List (List AV):=M.map fun b=>[.lit (.bool b)]
theorem a9z (M:List Bool):(bS M).length=M.length:=List.length_map _
theorem a8l (M:List Bool) (i:Nat) (h:i<M.length):(bS M).getD i []=[.lit (.bool M[i])]:=by
 unfold bS
 rw[List.getD_eq_getElem?_getD,List.getElem?_map,List.getElem?_eq_getElem h];rfl
theorem b1j {K:Nat→Prop} (M:List Bool):(∀ e∈bS M,∀ c∈e,In K c)=True:=eq_true fun e he c hc=>by
 obtain⟨n,_,rfl⟩:=List.mem_map.1 he
 obtain rfl:=List.mem_singleton.1 hc
 exact .lit _
def kS (ks:List Int):List (List AV):=ks.map fun k=>[.lit (.int .i64 k)]
theorem fP (ks:List Int):(kS ks).length=ks.length:=List.length_map _
theorem kS_in {K:Nat→Prop} (M:List Int):(∀ e∈kS M,∀ c∈e,In K c)=True:=eq_true fun e he c hc=>by
 obtain⟨n,_,rfl⟩:=List.mem_map.1 he
 obtain rfl:=List.mem_singleton.1 hc
 exact .lit _
theorem pZ (M:List Int):∀ e∈kS M,∀ c∈e,Flat c:=fun e he c hc=>by
 obtain⟨n,_,rfl⟩:=List.mem_map.1 he
 obtain rfl:=List.mem_singleton.1 hc
 exact .lit _
attribute [go_sem] b1j kS_in
theorem c216 (M:List Bool) (hn:M.length≤1048576) (r:Int) (h1:∀ j (h:j<M.length),M[j]=false→(∀ i (h2:i<M.length),i<j→M[i]=true)→r=j) (h2:(∀ j (h:j<M.length),M[j]=true)→r=-1):CallOK prog 216 [.sl (bS M),.lit (.bool false)] [] (.lit (.int .i64 r)) []:=by
 refine zs func216 19 [.tmp 4] results216 ?_
 simp only[aC,Nat.reduceAdd]
 have hml:maxLen=9223372036854775807:=rfl
 have hl:=a9z M
 replace h1:=Hid.mk h1
 replace h2:=Hid.mk h2
 repeat'(first|refine zk ?_|(refine zu ?_ ?_<;>intro hc)|(refine zv ?_ ?_<;>intro hg)|omega|simp -dsimp (disch:=try exact zo)only[go_sem,hl]|contradiction|rfl)
 refine AW.loop (fun z:{i:Nat // i≤M.length∧Hid (∀ j (h:j<M.length),j<i→M[j]=true)}=>⟨[(8,.lit (.int .i64 z.1)),(7,.lit (.int .i64 M.length)),(0,.sl (bS M)),(1,.lit (.bool false))],[],60⟩) (fun z=>M.length - z.1) ⟨0,Nat.zero_le _,Hid.mk (fun j _ h=>absurd h (Nat.not_lt_zero _))⟩ zw ?_
 rintro⟨i,hi,hI⟩
 dsimp only
 by_cases hlt:i<M.length
 ·have es1:=a8l M i hlt
  have hI1:=Hid.mk (show M[i]=true→∀ j (h:j<M.length),j<i+1→M[j]=true from fun hx j h h2=>by
   by_cases q:j=i
   ·subst q;exact hx
   ·exact hI.out j h (by omega))
  have hr:=fun hx=>h1.out i hlt hx fun j h h'=>hI.out j h h'
  generalize M[i]=m at *
  cases m
  ·rw[hr rfl]
   clear hr hI1
   exact z1
  ·replace hI1:=Hid.mk (hI1.out rfl)
   clear hr
   repeat'(first|refine zk ?_|(refine zu ?_ ?_<;>intro hc)|(refine zv ?_ ?_<;>intro hg)|omega|simp -dsimp (disch:=try exact zo)only[go_sem,hl,es1,ZT]|contradiction|rfl)
   all_goals exact AW.stop ⟨⟨i+1,by omega,hI1⟩,zw,by dsimp only;omega⟩
 ·have hil:i=M.length:=by omega
  subst hil
  rw[h2.out fun j h=>hI.out j h h]
  exact z1
theorem c169 (M:List Bool) (hn:M.length≤1048576) (b:Bool) (hb:b=true↔∀ x∈M,x=true):CallOK prog 169 [.sl (bS M),.lit (.bool false)] [] (.lit (.bool (!b))) []:=by
 obtain⟨r,h1,h2,h3⟩:∃ r:Int,(∀ j (h:j<M.length),M[j]=false→(∀ i (h2:i<M.length),i<j→M[i]=true)→r=j)∧((∀ j (h:j<M.length),M[j]=true)→r=-1)∧((0≤r)↔(!b)=true):=by
  by_cases ha:∀ x∈M,x=true
  ·refine⟨-1,fun j h hx _=>?_,fun _=>rfl,?_⟩
   ·rw[ha _ (List.getElem_mem h)]at hx;cases hx
   ·rw[hb.2 ha];simp
  ·have hbf:b=false:=by cases hq:b;rfl;exact absurd (hb.1 hq) ha
   have hm:false∈M:=by
    refine Classical.byContradiction fun hq=>ha fun x hx=>?_
    cases x
    ·exact absurd hx hq
    ·rfl
   have hex:∃ j,∃ h:j<M.length,M[j]=false:=List.getElem_of_mem hm
   have hmin:∃ j,(∃ h:j<M.length,M[j]=false)∧∀ i (h2:i<M.length),i<j→M[i]=true:=by
    obtain⟨j,hj⟩:=hex
    induction j using Nat.strongRecOn with
    | _ j ih =>
     by_cases hall:∀ i (h2:i<M.length),i<j→M[i]=true
     ·exact⟨j,hj,hall⟩
     ·obtain⟨i,hi⟩:=Classical.not_forall.1 hall
      obtain⟨h2,hi⟩:=Classical.not_forall.1 hi
      obtain⟨h3,hi⟩:=Classical.not_forall.1 hi
      exact ih i h3 ⟨h2,by simpa using hi⟩
   obtain⟨j,⟨hj,hx⟩,hmn⟩:=hmin
   refine⟨j,fun i h h4 h5=>?_,fun h=>(by rw[h j hj]at hx;cases hx),by rw[hbf];simp⟩
   rcases Nat.lt_trichotomy i j with q|q|q
   ·rw[hmn i h q]at h4;cases h4
   ·rw[q]
   ·rw[h5 j hj q]at hx;cases hx
 have ci:=c216 M hn r h1 h2
 clear h1 h2 hb
 generalize (!b)=b' at *
 have k1:(0≤r)=(b'=true):=propext h3
 refine zs func169 9 [.tmp 4] results169 ?_
 simp only[aC,Nat.reduceAdd]
 cases b'
 ·have k1:(0≤r)=False:=by rw[k1];simp
  exact z1
 ·have k1:(0≤r)=True:=by rw[k1];simp
  exact z1
def b6 (N:List RN):List TN:=N.map fun n=>(bR n.1,n.2.1,n.2.2)
theorem sO (N:List RN):(b6 N).length=N.length:=List.length_map _
theorem a5e {N:List RN} {j:Nat} (h:j<N.length):(b6 N)[j]?=some (bR N[j].1,N[j].2.1,N[j].2.2):=by
 unfold b6
 rw[List.getElem?_map,List.getElem?_eq_getElem h];rfl
def iM (N:List RN):Prop:=∀ n∈N,j8 n.1
def oE (N:List RN):Prop:=∀ n∈N,RB 6 n.1
structure FI (N:List RN) (b:Bool) (ks:List Int) (M:List Bool):Prop where
 eq:b=true↔bZ (b6 N) ks (mtB M)∧iM N
 len:M.length=N.length
 can:∀ j (h:j<N.length),M.getD j false=true→j8 N[j].1
 bd:ks.length+2*M.count false≤29
theorem w5 {M:List Bool} {j:Nat} (hj:j<M.length) (h:M.getD j false=false):(M.set j true).count false+1=M.count false:=by
 have e:M[j]=false:=by rw[List.getD_eq_getElem?_getD,List.getElem?_eq_getElem hj]at h;exact h
 have hpos:0<M.count false:=List.count_pos_iff.2 (e▸List.getElem_mem hj)
 rw[List.count_set hj]
 simp[e]
 omega
theorem FI.leaf {N:List RN} {b:Bool} {ks:List Int} {k:Int} {M:List Bool} (h:FI N b (ks++[k]) M) (hk:k=-1∨k=0):FI N b ks M :=
 ⟨by rw[h.eq,yL,a2z hk],h.len,h.can,by have:=h.bd;rw[List.length_append,List.length_singleton]at this;omega⟩
theorem FI.bad {N:List RN} {b:Bool} {ks:List Int} {k:Int} {M:List Bool} (h:FI N b (ks++[k]) M) (hk:k < -1∨N.length<k∨(1≤k∧(k - 1).toNat<M.length∧M.getD (k - 1).toNat false=true)):b=false:=by
 cases hb:b
 ·rfl
 ·refine absurd (yL.1 (h.eq.1 hb).1) (a3u ?_)
  rw[sO]
  rcases hk with hk|hk|⟨h1,h2,h3⟩
  ·exact .inl hk
  ·exact .inr (.inl hk)
  ·exact .inr (.inr ⟨h1,n5.2 ⟨h2,h3⟩⟩)
theorem FI.raw {N:List RN} {b:Bool} {ks:List Int} {M:List Bool} (h:FI N b ks M) {n:RN} (hn:n∈N) (hc:¬ j8 n.1):b=false:=by
 cases hb:b
 ·rfl
 ·exact absurd ((h.eq.1 hb).2 n hn) hc
theorem FI.node {N:List RN} {b:Bool} {ks:List Int} {M:List Bool} {j:Nat} (hj:j<N.length) (h:FI N b (ks++[(j:Int)+1]) M) (hm:M.getD j false=false) (hc:j8 N[j].1):FI N b (ks++[N[j].2.1,N[j].2.2]) (M.set j true):=by
 have hjM:j<M.length:=by rw[h.len];exact hj
 refine⟨?_,by rw[List.length_set];exact h.len,fun i hi hx=>?_,?_⟩
 ·rw[h.eq,yL,a2y (a5e hj),a3r]
  exact and_congr (uY (.refl _) (a7m hjM hm).symm) Iff.rfl
 ·rw[a5w hjM]at hx
  by_cases q:i=j
  ·subst q;exact hc
  ·rw[if_neg q]at hx;exact h.can i hi hx
 ·have h1:=w5 hjM hm
  have:=h.bd
  simp only[List.length_append,List.length_cons,List.length_nil]at this ⊢
  omega
theorem FI.done {N:List RN} {b:Bool} {M:List Bool} (h:FI N b [] M):b=true↔∀ x∈M,x=true:=by
 rw[h.eq,a3t (by rw[sO];exact h.len)]
 refine⟨And.left,fun hx=>⟨hx,fun n hn=>?_⟩⟩
 obtain⟨j,hj,rfl⟩:=List.getElem_of_mem hn
 refine h.can j hj ?_
 have hjM:j<M.length:=by rw[h.len];exact hj
 rw[List.getD_eq_getElem?_getD,List.getElem?_eq_getElem hjM]
 exact hx _ (List.getElem_mem hjM)
theorem FI.zero {N:List RN} {b:Bool} {k:Int} (hn:N.length≤14) (hb:b=true↔bZ (b6 N) [k] []∧iM N):FI N b [k] (List.replicate N.length false):=by
 refine⟨by rw[a7n];exact hb,List.length_replicate,fun j h hx=>?_,?_⟩
 ·rw[List.getD_eq_getElem?_getD,List.getElem?_replicate,if_pos h]at hx;cases hx
 ·rw[List.count_replicate];simp only[List.length_cons,List.length_nil];split<;>omega
set_option maxRecDepth 20000 in
theorem c100 (k0:Int) (N:List RN) (hn:N.length≤14) (hs:oE N) (b:Bool) (hb:b=true↔bZ (b6 N) [k0] []∧iM N):CallOK prog 100 [.agg (bF k0 N)] [] (.lit (.bool b)) []:=by
 refine zs func100 88 [.tmp 2] results100 ?_
 simp only[aC,Nat.reduceAdd]
 have hml:maxLen=9223372036854775807:=rfl
 have hl:(eRT N).length=N.length:=List.length_map _
 have hz:=FI.zero hn hb
 have hrep:List.replicate N.length [AV.lit (.bool false)]=bS (List.replicate N.length false):=by unfold bS;rw[List.map_replicate]
 have hone:[[AV.lit (.int .i64 k0)]]=kS [k0]:=rfl
 replace hs:=Hid.mk hs
 replace hz:=Hid.mk hz
 clear hb
 repeat'(first|refine zk ?_|(refine zu ?_ ?_<;>intro hc)|(refine zv ?_ ?_<;>intro hg)|omega|simp -dsimp (disch:=try exact zo)only[go_sem,hl,hrep,hone]|contradiction|rfl)
 refine AW.loop (fun z:{z:List Int × List Bool // Hid (FI N b z.1 z.2)}=>⟨[(4,.ref 17 0 z.1.1.length z.1.1.length),(3,.ref 13 0 N.length N.length),(1,.loc 8 0)],[(17,.vec 1 (kS z.1.1)),(13,.vec 1 (bS z.1.2)),(8,.blk [.lit (.int .i64 k0),.sl (eRT N)])],60⟩) (fun z=>z.1.1.length+2*z.1.2.count false) ⟨([k0],List.replicate N.length false),hz⟩ zw ?_
 rintro⟨⟨ks,M⟩,hI⟩
 dsimp only
 have hbd:=hI.out.bd
 dsimp only at hbd
 have hMl:(bS M).length=N.length:=(a9z M).trans hI.out.len
 rcases List.eq_nil_or_concat ks with rfl|⟨qs,k,e⟩
 ·have hd:=hI.out.done
  have hk0:(kS []).length=0:=rfl
  have cc:=c169 M (by rw[hI.out.len];omega) b hd
  clear hI hd hz
  repeat'(first|refine zk ?_|(refine zu ?_ ?_<;>intro hc)|(refine b2y _ c2u cc rfl hMl (of_eq_true (b1j _)) (.lit _) ?_)|(refine zv ?_ ?_<;>intro hg)|omega|simp -dsimp (disch:=try exact zo)only[go_sem,hMl,hk0,Bool.not_not]|contradiction|rfl)
 ·rw[List.concat_eq_append]at e
  subst e
  have hV:(kS (qs++[k])).length=qs.length+1:=by rw[fP,List.length_append];rfl
  have hVl:(kS (qs++[k])).getD qs.length []=[.lit (.int .i64 k)]:=by
   unfold kS
   rw[List.map_append,List.getD_eq_getElem?_getD,List.getElem?_append_right (by rw[List.length_map];exact Nat.le_refl _),List.length_map,Nat.sub_self];rfl
  have hVt:(kS (qs++[k])).take qs.length=kS qs:=by
   unfold kS
   rw[List.map_append,List.take_append_of_le_length (by rw[List.length_map];exact Nat.le_refl _),List.take_of_length_le (by rw[List.length_map];exact Nat.le_refl _)]
  have hVf:=pZ (qs++[k])
  have hn1:(qs++[k]).length=qs.length+1:=by rw[List.length_append];rfl
  rw[hn1]at hbd ⊢
  have hix:(((qs.length+1:Nat):Int) - 1)=(qs.length:Int):=by omega
  generalize kS (qs++[k])=V at *
  by_cases q1:k=-1∨k=0
  ·have hI1:=Hid.mk (hI.out.leaf q1)
   have es1:True:=trivial
   have em:True:=trivial
   have hMs:True:=trivial
   have k3:True:=trivial
   have k4:True:=trivial
   have k5:True:=trivial
   clear hI hz
   rcases q1 with rfl|rfl
   ·have k1:True:=trivial
    have k2:True:=trivial
    repeat'(first|refine zk ?_|(refine zu ?_ ?_<;>intro hc)|(refine zf cn ?_)|(refine zv ?_ ?_<;>intro hg)|omega|simp -dsimp (disch:=try exact zo)only[go_sem,hl,hix,hV,hVl,hVt,hMl,hMs,es1,em,ZT,Nat.add_sub_cancel,k1,k2,k3,k4,k5]|contradiction|rfl)
    all_goals exact AW.stop ⟨⟨(qs,M),hI1⟩,wM 17 17 4 60 qs.length _ _ 1 V _ rfl rfl hV.symm (by rw[hV];omega) rfl hVt hVf (by decide) (by decide) (by decide) (by decide) (by refine⟨?_,?_,?_,?_⟩<;>simp -dsimp (disch:=try exact zo)only[go_sem,hMs]),by show qs.length+2*M.count false<qs.length+1+2*M.count false;omega⟩
   ·have k1:True:=trivial
    have k2:True:=trivial
    repeat'(first|refine zk ?_|(refine zu ?_ ?_<;>intro hc)|(refine zf cn ?_)|(refine zv ?_ ?_<;>intro hg)|omega|simp -dsimp (disch:=try exact zo)only[go_sem,hl,hix,hV,hVl,hVt,hMl,hMs,es1,em,ZT,Nat.add_sub_cancel,k1,k2,k3,k4,k5]|contradiction|rfl)
    all_goals exact AW.stop ⟨⟨(qs,M),hI1⟩,wM 17 17 4 60 qs.length _ _ 1 V _ rfl rfl hV.symm (by rw[hV];omega) rfl hVt hVf (by decide) (by decide) (by decide) (by decide) (by refine⟨?_,?_,?_,?_⟩<;>simp -dsimp (disch:=try exact zo)only[go_sem,hMs]),by show qs.length+2*M.count false<qs.length+1+2*M.count false;omega⟩
  ·have k1:(k=-1)=False:=eq_false (by omega)
   have k2:(k=0)=False:=eq_false (by omega)
   by_cases q2:k<0
   ·rw[hI.out.bad (.inl (by omega))]
    have k3:(k<0)=True:=eq_true q2
    have k4:True:=trivial
    have k5:True:=trivial
    have es1:True:=trivial
    have em:True:=trivial
    have hMs:True:=trivial
    clear hI hz q1
    exact z1
   ·have k3:(k<0)=False:=eq_false q2
    by_cases q3:(N.length:Int)<k
    ·rw[hI.out.bad (.inr (.inl q3))]
     have k4:((N.length:Int)<k)=True:=eq_true q3
     have k5:True:=trivial
     have es1:True:=trivial
     have em:True:=trivial
     have hMs:True:=trivial
     clear hI hz q1
     exact z1
    ·have k4:((N.length:Int)<k)=False:=eq_false q3
     obtain⟨j,rfl⟩:∃ j:Nat,k=(j:Int)+1:=⟨(k - 1).toNat,by omega⟩
     have hj:j<N.length:=by omega
     have hjM:j<M.length:=by rw[hI.out.len];exact hj
     have k5:((j:Int)+1 - 1)=(j:Int):=by omega
     have em:=a8l M j hjM
     have eM:M.getD j false=M[j]:=by rw[List.getD_eq_getElem?_getD,List.getElem?_eq_getElem hjM];rfl
     have es1:=wJ N j hj
     have hsj:=hs.out _ (List.getElem_mem hj)
     have hMs:(bS M).set j [.lit (.bool true)]=bS (M.set j true):=by unfold bS;rw[List.map_set]
     cases hm:M[j]
     ·rw[hm]at em eM
      have hI2:=Hid.mk (fun hc=>hI.out.node hj eM hc)
      have hraw:=Hid.mk (fun hc=>hI.out.raw (List.getElem_mem hj) hc)
      have hcn:=w5 hjM eM
      clear hI hz q1 hm
      generalize N[j]=nd at *
      obtain⟨r,a,c⟩:=nd
      dsimp only at hI2 hraw hsj
      have cn:=c168 r.n1 r.m1 r.n2 r.m2 r.n3 r.m3 r.n4 r.m4 (Nat.lt_of_le_of_lt hsj.a (by decide)) (Nat.lt_of_le_of_lt hsj.b (by decide)) (Nat.lt_of_le_of_lt hsj.c (by decide)) (Nat.lt_of_le_of_lt hsj.d (by decide))
      by_cases hzr:gZ r
      ·rw[if_pos (show iv r.n1 r.m1=0∧iv r.n2 r.m2=0∧iv r.n3 r.m3=0 from hzr)]at cn
       rw[hraw.out fun h=>h.1 hzr]
       clear hraw hI2 hzr
       simp only[eH,e4]at cn
       exact z1
      ·rw[if_neg (show ¬ (iv r.n1 r.m1=0∧iv r.n2 r.m2=0∧iv r.n3 r.m3=0)from hzr)]at cn
       change CallOK _ _ [.agg (eRP r)] _ (.tup [.agg (eH (bR r)),_]) _ at cn
       by_cases hc:eRP r=eH (bR r)
       ·replace hI2:=Hid.mk (hI2.out ⟨hzr,hc⟩)
        clear hraw
        have es2:eRN (r,a,c)=eRP r++[.lit (.int .i64 a),.lit (.int .i64 c)]:=rfl
        rw[es2,hc]at es1
        rw[hc]at cn
        clear hc hzr es2
        generalize bR r=p at *
        simp only[eH,e4,List.cons_append,List.nil_append]at cn es1
        repeat'(first|refine c6h 14 17 rfl rfl ?_|refine zk ?_|(refine zu ?_ ?_<;>intro hc)|(refine zf cn ?_)|(refine zv ?_ ?_<;>intro hg)|omega|simp -dsimp (disch:=try exact zo)only[go_sem,hl,hix,hV,hVl,hVt,hMl,hMs,es1,em,ZT,Nat.add_sub_cancel,k1,k2,k3,k4,k5]|contradiction|rfl)
        all_goals
         intro cp
         rcases Nat.lt_or_ge cp (qs.length+2)with hcp|hcp
        ·have q1:(qs.length+2≤cp)=False:=eq_false (by omega)
         have q2:(cp<qs.length+2)=True:=eq_true hcp
         repeat'(first|refine zk ?_|(refine zu ?_ ?_<;>intro hc)|(refine zf cn ?_)|(refine zv ?_ ?_<;>intro hg)|omega|simp -dsimp (disch:=try exact zo)only[go_sem,hl,hix,hV,hVl,hVt,hMl,hMs,es1,em,ZT,Nat.add_sub_cancel,q1,q2,Nat.sub_zero,Nat.zero_add,List.drop_zero]|contradiction|rfl)
         all_goals refine fun _=>AW.blk (AW.stop ?_)
         all_goals exact⟨⟨(qs++[a,c],M.set j true),hI2⟩,wM 136 17 4 60 (qs++[a,c]).length _ _ 1 _ _ rfl (by rw[List.length_append];rfl) (by simp only[List.length_append,fP,List.length_cons,List.length_nil];try omega) (by simp only[List.length_append,fP,List.length_cons,List.length_nil];try omega) rfl (by rw[List.take_of_length_le (by simp only[List.length_append,fP,List.length_cons,List.length_nil];try omega)];unfold kS;rw[List.map_append];rfl) (fl2 (pZ qs) (fun e he=>he)) (by decide) (by decide) (by decide) (by decide) (by refine⟨?_,?_,?_,?_⟩<;>simp -dsimp (disch:=try exact zo)only[go_sem,hMs]),by show (qs++[a,c]).length+2*(M.set j true).count false<qs.length+1+2*M.count false;rw[List.length_append];simp only[List.length_cons,List.length_nil];omega⟩
        ·have q1:(qs.length+2≤cp)=True:=eq_true hcp
         have q2:(cp<qs.length+2)=False:=eq_false (by omega)
         repeat'(first|refine zk ?_|(refine zu ?_ ?_<;>intro hc)|(refine zf cn ?_)|(refine zv ?_ ?_<;>intro hg)|omega|simp -dsimp (disch:=try exact zo)only[go_sem,hl,hix,hV,hVl,hVt,hMl,hMs,es1,em,ZT,Nat.add_sub_cancel,q1,q2,Nat.sub_zero,Nat.zero_add,List.drop_zero]|contradiction|rfl)
         all_goals refine fun _=>AW.blk (AW.stop ?_)
         all_goals exact⟨⟨(qs++[a,c],M.set j true),hI2⟩,wM 17 17 4 60 (qs++[a,c]).length _ _ 1 _ _ rfl (by rw[List.length_append];rfl) (by simp only[List.length_append,fP,List.length_cons,List.length_nil];try omega) (by simp only[List.length_append,fP,List.length_cons,List.length_nil];try omega) rfl (by rw[List.take_of_length_le (by simp only[List.length_append,fP,List.length_cons,List.length_nil];try omega)];unfold kS;rw[List.map_append];rfl) (fl2 (pZ qs) (fun e he=>he)) (by decide) (by decide) (by decide) (by decide) (by refine⟨?_,?_,?_,?_⟩<;>simp -dsimp (disch:=try exact zo)only[go_sem,hMs]),by show (qs++[a,c]).length+2*(M.set j true).count false<qs.length+1+2*M.count false;rw[List.length_append];simp only[List.length_cons,List.length_nil];omega⟩
       ·rw[hraw.out fun h=>hc h.2]
        clear hraw hI2
        generalize bR r=q at *
        have hne:¬ (Zn q.a=r.n1∧Zm q.a=r.m1∧Zn q.b=r.n2∧Zm q.b=r.m2∧Zn q.c=r.n3∧Zm q.c=r.m3∧Zn q.d=r.n4∧Zm q.d=r.m4):=fun h=>hc (by
         unfold eRP eH e4
         obtain⟨h1,h2,h3,h4,h5,h6,h7,h8⟩:=h
         rw[h1,h2,h3,h4,h5,h6,h7,h8])
        clear hc
        simp only[eRP,eH,e4]at cn
        exact z1
     ·rw[hm]at em eM
      rw[hI.out.bad (.inr (.inr ⟨by omega,by rw[k5];exact hjM,by rw[k5];exact eM⟩))]
      clear hI hz q1 hm
      exact z1
end Go.Proofs.Vx
