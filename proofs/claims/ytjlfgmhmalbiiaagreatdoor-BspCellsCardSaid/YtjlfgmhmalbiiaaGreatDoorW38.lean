import Derived.Test.YtjlfgmhmalbiiaaGreatDoorW37
set_option linter.all false
set_option maxHeartbeats 40000000
open Bool renaming or_eq_true → At
open List renaming length_append → Aa, getD_eq_getElem?_getD → Ab, length_cons → Ac, getElem?_eq_getElem → Ad, length_map → Ae, length_nil → Af, getElem_mem → Ag, mem_singleton → Aj, take_of_length_le → Al, map_append → Am, getElem_of_mem → An, replicate → Ao, getElem?_map → Ap, mem_map → Ar, not_mem_nil → Au, drop_zero → Ax, mem_cons → Ay, map_cons → Az, map_nil → A3
open Nat renaming add_sub_cancel → Ah, reduceAdd → Ai, lt_of_le_of_lt → Ak, le_refl → Aq, le_trans → As, zero_le → Av, not_lt_zero → Aw, sub_zero → A4, zero_add → A5
namespace Go.Proofs.Vx
open Go Go.Sx Go.Proofs Tryz
attribute [local irreducible] fnT CallOK CallFr AW aI callV aL aJ aH aK gcaseP hid
theorem b5i:agT prog 62=some false∧arT prog 62=none∧fdT prog 64 1=some (1,1,false)∧fdT prog 79 0=some (0,8,true)∧slT prog 62=some (79,10)∧bH prog 62=false∧szT prog 62=some 1:=by and_intros<;>kernel_rfl
attribute [go_sem] b5i
abbrev RN:=RP × Int × Int
abbrev eRN (n:RN):List AV:=[.lit (.bool n.1.n1),.lit (.string n.1.m1),.lit (.bool n.1.n2),.lit (.string n.1.m2),.lit (.bool n.1.n3),.lit (.string n.1.m3),.lit (.bool n.1.n4),.lit (.string n.1.m4),.lit (.int .i64 n.2.1),.lit (.int .i64 n.2.2)]
def eRT (N:List RN):List (List AV):=N.map eRN
theorem wN (N:List RN) (i:Nat) (h:i<N.length):(eRT N).getD i []=eRN N[i]:=by
 unfold eRT
 rw[Ab,Ap,Ad h];rfl
theorem a1m {K:Nat→Prop} (N:List RN):(∀ e∈eRT N,∀ c∈e,In K c)=True:=eq_true fun e he c hc=>by
 obtain⟨n,_,rfl⟩:=Ar.1 he
 simp only[eRN,Ay,Au,or_false]at hc
 rcases hc with rfl|rfl|rfl|rfl|rfl|rfl|rfl|rfl|rfl|rfl<;>exact .lit _
abbrev b5 (k:Int) (N:List RN):List AV:=[.lit (.int .i64 k),.sl (eRT N)]
def kO (r:RP):Bool:=decide (4<r.m1.size)||decide (4<r.m2.size)||decide (4<r.m3.size)||decide (4<r.m4.size)
theorem a6t {r:RP} (h:kO r=false):r.m1.size≤4∧r.m2.size≤4∧r.m3.size≤4∧r.m4.size≤4:=by
 unfold kO at h
 simp only[Bool.or_eq_false_iff,decide_eq_false_iff_not]at h
 omega
def qK (N:List RN):Prop:=N.length≤14∧∀ n∈N,kO n.1=false
attribute [go_sem] a1m
theorem sp4 {L:Nat} (r:RP):(r.m1.size≤L∧r.m2.size≤L∧r.m3.size≤L∧r.m4.size≤L)∨L<r.m1.size∨(r.m1.size≤L∧L<r.m2.size)∨(r.m1.size≤L∧r.m2.size≤L∧L<r.m3.size)∨(r.m1.size≤L∧r.m2.size≤L∧r.m3.size≤L∧L<r.m4.size):=by omega
set_option maxRecDepth 20000 in
theorem b0l (k:Int) (N:List RN) (h:14<N.length):CallOK prog 37 [.agg (b5 k N)] [] (.lit (.int .i64 1)) []:=by
 refine zs func37 48 [.tmp 2] results37 ?_
 simp only[aD,Ai]
 have hml:maxLen=9223372036854775807:=rfl
 have hl:(eRT N).length=N.length:=Ae _
 have k0:(14<(N.length:Int))=True:=eq_true (by omega)
 exact z1
set_option maxRecDepth 20000 in
theorem c37 (k:Int) (N:List RN) (h:N.length≤14) (b:Bool) (hb:b=true↔∀ n∈N,kO n.1=false):CallOK prog 37 [.agg (b5 k N)] [] (.lit (.int .i64 (if b=true then 0 else 1))) []:=by
 refine zs func37 48 [.tmp 2] results37 ?_
 simp only[aD,Ai]
 have hml:maxLen=9223372036854775807:=rfl
 have hl:(eRT N).length=N.length:=Ae _
 have k0:(14<(N.length:Int))=False:=eq_false (by omega)
 replace hb:=Hid.mk hb
 repeat'(first|refine zk ?_|(refine zu ?_ ?_<;>intro hc)|(refine zv ?_ ?_<;>intro hg)|omega|simp -dsimp (disch:=try exact zo)only[go_sem,hl,k0]|contradiction|rfl)
 refine AW.loop (fun z:{i:Nat // i≤N.length∧Hid (∀ j (h:j<N.length),j<i→kO N[j].1=false)}=>⟨[(3,.lit (.int .i64 z.1)),(1,.loc 8 0)],[(8,.blk [.lit (.int .i64 k),.sl (eRT N)])],60⟩) (fun z=>N.length - z.1) ⟨0,Av _,Hid.mk (fun j _ h=>absurd h (Aw _))⟩ zw ?_
 rintro⟨i,hi,hI⟩
 dsimp only
 by_cases hlt:i<N.length
 ·have es1:=wN N i hlt
  have hI1:=Hid.mk (show kO N[i].1=false→∀ j (h:j<N.length),j<i+1→kO N[j].1=false from fun hx j h h2=>by
   by_cases q:j=i
   ·subst q;exact hx
   ·exact hI.out j h (by omega))
  have hbad:kO N[i].1=true→b=false:=fun hx=>by
   cases hb0:b
   ·rfl
   ·have:=hb.out.1 hb0 _ (Ag hlt);rw[hx]at this;contradiction
  generalize N[i]=n at *
  obtain⟨r,x,y⟩:=n
  dsimp only[eRN]at es1 hI1 hbad
  cases hx:kO r
  ·obtain⟨h1,h2,h3,h4⟩:=a6t hx
   replace hI1:=Hid.mk (hI1.out hx)
   have k1:(4<(r.m1.size:Int))=False:=eq_false (by omega)
   have k2:(4<(r.m2.size:Int))=False:=eq_false (by omega)
   have k3:(4<(r.m3.size:Int))=False:=eq_false (by omega)
   have k4:(4<(r.m4.size:Int))=False:=eq_false (by omega)
   clear hbad hx
   repeat'(first|refine zk ?_|(refine zu ?_ ?_<;>intro hc)|(refine zv ?_ ?_<;>intro hg)|omega|simp -dsimp (disch:=try exact zo)only[go_sem,hl,es1,ZT,k1,k2,k3,k4]|contradiction|rfl)
   all_goals exact AW.stop ⟨⟨i+1,by omega,hI1⟩,zw,by dsimp only;omega⟩
  ·rw[hbad hx,if_neg (by decide)]
   have hx':4<r.m1.size∨4<r.m2.size∨4<r.m3.size∨4<r.m4.size:=by
    unfold kO at hx
    simp only[At,decide_eq_true_eq]at hx
    omega
   clear hbad hx hI1 hb
   rcases (sp4 (L:=4) r).resolve_left (by omega)with q|q|q|q
   ·have k1:(4<(r.m1.size:Int))=True:=eq_true (by omega)
    have k2:True:=trivial
    have k3:True:=trivial
    have k4:True:=trivial
    clear q
    exact z1
   ·have k1:(4<(r.m1.size:Int))=False:=eq_false (by omega)
    have k2:(4<(r.m2.size:Int))=True:=eq_true (by omega)
    have k3:True:=trivial
    have k4:True:=trivial
    clear q
    exact z1
   ·have k1:(4<(r.m1.size:Int))=False:=eq_false (by omega)
    have k2:(4<(r.m2.size:Int))=False:=eq_false (by omega)
    have k3:(4<(r.m3.size:Int))=True:=eq_true (by omega)
    have k4:True:=trivial
    clear q
    exact z1
   ·have k1:(4<(r.m1.size:Int))=False:=eq_false (by omega)
    have k2:(4<(r.m2.size:Int))=False:=eq_false (by omega)
    have k3:(4<(r.m3.size:Int))=False:=eq_false (by omega)
    have k4:(4<(r.m4.size:Int))=True:=eq_true (by omega)
    clear q
    exact z1
 ·have hil:i=N.length:=by omega
  subst hil
  have hall:b=true:=hb.out.2 fun n hn=>by
   obtain⟨j,hj,rfl⟩:=An hn
   exact hI.out j hj hj
  rw[if_pos hall]
  exact z1
set_option maxRecDepth 20000 in
theorem c45 (r:RP):CallOK prog 45 [.agg (eRP r)] [] (.lit (.int .i64 (if gR r=true then 1 else 0))) []:=by
 refine zs func45 29 [.tmp 2] results45 ?_
 simp only[aD,Ai]
 simp only[eRP]
 have hb:gR r=true↔¬ (r.m1.size≤6∧r.m2.size≤6∧r.m3.size≤6∧r.m4.size≤6):=by
  unfold gR
  simp only[At,decide_eq_true_eq]
  omega
 by_cases h0:gR r=true
 ·rw[if_pos h0]
  replace hb:=hb.1 h0
  clear h0
  rcases (sp4 (L:=6) r).resolve_left hb with q|q|q|q
  ·have k1:(6<(r.m1.size:Int))=True:=eq_true (by omega)
   have k2:True:=trivial
   have k3:True:=trivial
   have k4:True:=trivial
   clear q
   exact z1
  ·have k1:(6<(r.m1.size:Int))=False:=eq_false (by omega)
   have k2:(6<(r.m2.size:Int))=True:=eq_true (by omega)
   have k3:True:=trivial
   have k4:True:=trivial
   clear q
   exact z1
  ·have k1:(6<(r.m1.size:Int))=False:=eq_false (by omega)
   have k2:(6<(r.m2.size:Int))=False:=eq_false (by omega)
   have k3:(6<(r.m3.size:Int))=True:=eq_true (by omega)
   have k4:True:=trivial
   clear q
   exact z1
  ·have k1:(6<(r.m1.size:Int))=False:=eq_false (by omega)
   have k2:(6<(r.m2.size:Int))=False:=eq_false (by omega)
   have k3:(6<(r.m3.size:Int))=False:=eq_false (by omega)
   have k4:(6<(r.m4.size:Int))=True:=eq_true (by omega)
   clear q
   exact z1
 ·rw[if_neg h0]
  have q:r.m1.size≤6∧r.m2.size≤6∧r.m3.size≤6∧r.m4.size≤6:=Classical.byContradiction fun h=>h0 (hb.2 h)
  clear hb h0
  have k1:(6<(r.m1.size:Int))=False:=eq_false (by omega)
  have k2:(6<(r.m2.size:Int))=False:=eq_false (by omega)
  have k3:(6<(r.m3.size:Int))=False:=eq_false (by omega)
  have k4:(6<(r.m4.size:Int))=False:=eq_false (by omega)
  clear q
  exact z1
set_option maxRecDepth 20000 in
theorem c41 (r:RP):CallOK prog 41 [.agg (eRP r)] [] (.lit (.int .i64 (if gR r=true then 1 else 0))) []:=by
 refine zs func41 24 [.tmp 2] results41 ?_
 simp only[aD,Ai]
 simp only[eRP]
 have hb:gR r=true↔¬ (r.m1.size≤6∧r.m2.size≤6∧r.m3.size≤6∧r.m4.size≤6):=by
  unfold gR
  simp only[At,decide_eq_true_eq]
  omega
 by_cases h0:gR r=true
 ·rw[if_pos h0]
  replace hb:=hb.1 h0
  clear h0
  rcases (sp4 (L:=6) r).resolve_left hb with q|q|q|q
  ·have k1:(6<(r.m1.size:Int))=True:=eq_true (by omega)
   have k2:True:=trivial
   have k3:True:=trivial
   have k4:True:=trivial
   clear q
   exact z1e
  ·have k1:(6<(r.m1.size:Int))=False:=eq_false (by omega)
   have k2:(6<(r.m2.size:Int))=True:=eq_true (by omega)
   have k3:True:=trivial
   have k4:True:=trivial
   clear q
   exact z1e
  ·have k1:(6<(r.m1.size:Int))=False:=eq_false (by omega)
   have k2:(6<(r.m2.size:Int))=False:=eq_false (by omega)
   have k3:(6<(r.m3.size:Int))=True:=eq_true (by omega)
   have k4:True:=trivial
   clear q
   exact z1e
  ·have k1:(6<(r.m1.size:Int))=False:=eq_false (by omega)
   have k2:(6<(r.m2.size:Int))=False:=eq_false (by omega)
   have k3:(6<(r.m3.size:Int))=False:=eq_false (by omega)
   have k4:(6<(r.m4.size:Int))=True:=eq_true (by omega)
   clear q
   exact z1e
 ·rw[if_neg h0]
  have q:r.m1.size≤6∧r.m2.size≤6∧r.m3.size≤6∧r.m4.size≤6:=Classical.byContradiction fun h=>h0 (hb.2 h)
  clear hb h0
  have k1:(6<(r.m1.size:Int))=False:=eq_false (by omega)
  have k2:(6<(r.m2.size:Int))=False:=eq_false (by omega)
  have k3:(6<(r.m3.size:Int))=False:=eq_false (by omega)
  have k4:(6<(r.m4.size:Int))=False:=eq_false (by omega)
  clear q
  exact z1e
end Go.Proofs.Vx
namespace Go.Proofs.Vx
open Go Go.Sx Go.Proofs Tryz
attribute [local irreducible] fnT CallOK CallFr AW aI callV aL aJ aH aK gcaseP hid
def j8 (r:RP):Prop:=¬ j6 r∧eRP r=eH (eY r)
structure RB (K:Nat) (r:RP):Prop where
 a:r.m1.size≤K
 b:r.m2.size≤K
 c:r.m3.size≤K
 d:r.m4.size≤K
theorem c5h {K:Nat} {r:RP} (h:RB K r) (hz:¬ j6 r):BPl K (eY r):=by
 obtain⟨d1,d2,d3,d4⟩:=j4 (iv r.n1 r.m1) (iv r.n2 r.m2) (iv r.n3 r.m3) (iv r.n4 r.m4)
 have hG:0<g4 (iv r.n1 r.m1) (iv r.n2 r.m2) (iv r.n3 r.m3) (iv r.n4 r.m4):=by
  apply Nat.pos_of_ne_zero
  intro h0
  rw[h0]at d1 d2 d3
  exact hz ⟨by simpa using d1,by simpa using d2,by simpa using d3⟩
 have z1:=eA r.n1 r.m1
 have z2:=eA r.n2 r.m2
 have z3:=eA r.n3 r.m3
 have z4:=eA r.n4 r.m4
 have b1:=h.a
 have b2:=h.b
 have b3:=h.c
 have b4:=h.d
 exact⟨⟨As (mR d1 hG) (by omega),As (mR d2 hG) (by omega),As (mR d3 hG) (by omega),As (mR d4 hG) (by omega)⟩⟩
end Go.Proofs.Vx
namespace Go.Sx
set_option linter.unusedVariables false
set_option linter.unusedSimpArgs false
theorem GOk.ob {c:Cx} {g:Gh} {ob ob':Nat→AV} (h:GOk c g ob) (h1:∀ l,ObjOk g l (ob' l)) (h2:∀ l,aE g l (ob' l)=aE g l (ob l)):GOk c g ob' :=
 ⟨h.os,h.tape,h.output,h.size,h.old,h.fzo,h.fzn,h.fzx,h1,fun l b hb=>h.own l b (by rw[← h2];exact hb),fun l l' b hb hb'=>h.dis l l' b (by rw[← h2];exact hb) (by rw[← h2];exact hb')⟩
theorem c7g {P:Program} {nt:Nat} {R:AS→Prop} {kk:List Itm} {S:AS} {x:Code} (l k:Nat) (es:List (List AV)) (h:look S.o l=.vec k es) (hcont:∀ cp,AW P nt R (.code x::kk) { t:=S.t,o:=(l,.vcp k es cp)::S.o,nx:=S.nx }):AW P nt R (.code x::kk) S:=by
 intro c a w hP hs
 obtain⟨g,rfl,hg,ht,hsz,hu,hln,h8⟩:=hs
 refine hcont (g.des l).cap c a g.w hP ⟨g,rfl,hg.ob (fun l'=>?_) (fun l'=>?_),ht,hsz,hu,hln,h8⟩
 ·show ObjOk g l' (if l=l' then _ else _)
  split
  ·rename_i e;subst e
   have:=hg.obj l
   rw[h]at this
   exact⟨this,rfl⟩
  ·exact hg.obj l'
 ·show aE g l' (if l=l' then _ else _)=_
  split
  ·rename_i e;subst e;rw[h];rfl
  ·rfl
theorem b4z {S:AS} (l k:Nat) (es:List (List AV)) (cp:Nat) (h:look S.o l=.vcp k es cp):Weak S { t:=S.t,o:=(l,.vec k es)::S.o,nx:=S.nx }:=by
 intro c nt a w hs
 obtain⟨g,rfl,hg,ht,hsz,hu,hln,h8⟩:=hs
 refine⟨g,rfl,hg.ob (fun l'=>?_) (fun l'=>?_),ht,hsz,hu,hln,h8⟩
 ·show ObjOk g l' (if l=l' then _ else _)
  split
  ·rename_i e;subst e
   have:=hg.obj l
   rw[h]at this
   exact this.1
  ·exact hg.obj l'
 ·show aE g l' (if l=l' then _ else _)=_
  split
  ·rename_i e;subst e;rw[h];rfl
  ·rfl
end Go.Sx
namespace Go.Sx
set_option linter.unusedVariables false
set_option linter.unusedSimpArgs false
theorem a6v {S : AS} (N M d n o n' p m k : Nat) (es : List (List AV)) {t ob : List (Nat × AV)} (hd : look S.t d = .ref N o n' m) (hm0 : m = es.length) (hp : p ≤ es.length) (hN : look S.o N = .vec k es) (hcs : ∀ e ∈ es, ∀ c ∈ e, Flat c) (hN8 : 8 ≤ N) (hM8 : 8 ≤ M) (hMn : M < n) (h8 : 8 ≤ n)
  (ht:fR t S.t) (ho:fR ob S.o) (it:oX n M N t) (io:oY n M N ob):Weak S ⟨(d,.ref M o n' p)::t,(M,.vec k (es.take p))::ob,n⟩:=by
 intro c nt a w hs
 obtain⟨g,rfl,hg,htk,hsz,hu,hln,_⟩:=hs
 let g':Gh:={ g with us:=fun l=>(g.us l∧Mk n M N l)∨l=M,des:=fun l=>if l=M then g.des N else g.des l,len:=fun l=>if l=M then p else g.len l }
 have hK:∀ l,Mk n M N l→g.us l→g'.us l∧g'.blk l=g.blk l∧g'.des l=g.des l∧g'.len l=g.len l:=fun l hl hu=>⟨.inl ⟨hu,hl⟩,rfl,if_neg hl.2.2,if_neg hl.2.2⟩
 have hcar:∀ {x:AV} {v:Value},Rel g x v→In (Mk n M N) x→Rel g' x v:=fun h hi=>cY (g:=g) (g':=g') (K:=Mk n M N) (fun b hb=>⟨hb,rfl⟩) hK h hi
 have hT:=mM ht
 have hO:=mM ho
 have iT:=a4w it
 have iO:=a4x io
 have hlo:∀ q,look ob q=.any∨(Mk n M N q∧InC (Mk n M N) (look ob q)∧look S.o q=look ob q):=fun q=>by
  rcases @jV ob q with h|h
  ·exact .inl h
  ·exact .inr ⟨(iO _ h).1,(iO _ h).2,hO _ h⟩
 have hokN:=hg.obj N
 have hownN:=hg.own N
 rw[hN]at hokN hownN
 have hdM:g'.des M=g.des N:=if_pos rfl
 have hlM:g'.len M=p:=if_pos rfl
 have hpl:(es.take p).length=p:=by rw[List.length_take];omega
 have hbl:∀ q b,q≠M→aE g' q (look ob q)=some b→q≠N∧aE g q (look S.o q)=some b:=by
  intro q b hq hb
  rcases hlo q with h|⟨k1,k2,k3⟩
  ·rw[h]at hb;simp[aE]at hb
  ·rw[k3]
   refine⟨k1.2.1,?_⟩
   generalize look ob q=x at hb ⊢
   have e:g'.des q=g.des q:=if_neg hq
   cases x<;>simp only[aE]at hb ⊢<;>first|exact hb|(rw[← e];exact hb)
 have hl2:∀ q,look ((M,AV.vec k (es.take p))::ob) q=if M=q then .vec k (es.take p)else look ob q:=fun q=>rfl
 have hblk2:∀ q b,aE g' q (look ((M,AV.vec k (es.take p))::ob) q)=some b→(q=M∧(g.des N).b=some b)∨(q≠M∧q≠N∧aE g q (look S.o q)=some b):=by
  intro q b hb
  rw[hl2]at hb
  by_cases hq:M=q
  ·rw[if_pos hq]at hb
   subst hq
   simp only[aE,hdM]at hb
   exact .inl ⟨rfl,hb⟩
  ·rw[if_neg hq]at hb
   obtain⟨k1,k2⟩:=hbl q b (fun e=>hq e.symm) hb
   exact .inr ⟨fun e=>hq e.symm,k1,k2⟩
 have hbN:∀ b,(g.des N).b=some b→aE g N (look S.o N)=some b:=fun b h=>by rw[hN];exact h
 refine⟨g',rfl,⟨hg.os,hg.tape,hg.output,hg.size,hg.old,hg.fzo,hg.fzn,hg.fzx,fun q=>?_,fun q b hb=>?_,fun q q' b hb hb'=>?_⟩,⟨htk.1,fun q=>?_⟩,hsz,fun l hl=>?_,?_,h8⟩
 ·show ObjOk g' q (look ((M,AV.vec k (es.take p))::ob) q)
  rw[hl2]
  by_cases hq:M=q
  ·rw[if_pos hq]
   subst hq
   obtain⟨h1,h2,h3,h4,h5,h6⟩:=hokN
   refine⟨.inr rfl,by rw[hdM];exact h2,by rw[hlM,hpl],h4,fun e he=>h5 e (List.mem_of_mem_take he),?_⟩
   rw[hdM]
   rcases h6 with⟨m1,m2,m3⟩|⟨b,vs,m1,m2,m3,m4,m5,m6,m7⟩
   ·exact .inl ⟨m1,by rw[m2,List.take_nil],m3⟩
   ·refine .inr ⟨b,vs,m1,m2,by omega,m4,m5,fun i i1 i2=>m6 i i1 (Nat.lt_of_lt_of_le i2 (Nat.mul_le_mul_right _ (by omega))),fun i i1 j i2 i3=>?_⟩
    have e1:(es.take p)[i]=es[i]'(by omega):=List.getElem_take
    have i1':i<es.length:=by omega
    have i2':j<es[i].length:=by rw[← e1];exact i2
    have:=(m7 i i1' j i2' i3).flat (g':=g') (hcs _ (Ag i1') _ (Ag i2'))
    simpa only[e1]using this
  ·rw[if_neg hq]
   rcases hlo q with h|⟨k1,k2,k3⟩
   ·rw[h];trivial
   ·have:=hg.obj q
    rw[k3]at this
    exact sK (g:=g) (g':=g') (K:=Mk n M N) rfl (fun b hb=>hb) hK k1 k2 this
 ·rcases hblk2 q b hb with⟨rfl,h⟩|⟨_,_,h⟩
  ·exact hg.own N b (hbN b h)
  ·exact hg.own q b h
 ·rcases hblk2 q b hb with⟨rfl,h⟩|⟨k1,k2,k3⟩<;>rcases hblk2 q' b hb' with⟨e1,e2⟩|⟨l1,l2,l3⟩
  ·exact e1.symm
  ·exact absurd (hg.dis N q' b (hbN b h) l3).symm l2
  ·exact absurd (hg.dis q N b k3 (hbN b e2)) k2
  ·exact hg.dis q q' b k3 l3
 ·show Rel g' (look ((d,AV.ref M o n' p)::t) q) _
  simp only[look]
  by_cases hq:d=q
  ·rw[if_pos hq]
   subst hq
   have:=htk.2 d
   rw[hd]at this
   generalize a.tmps.getD d undef=v at this
   cases this with
   | ref _ _ _ _ _ hu' hm' hc' hv'=>exact .ref (g:=g') M o n' p v (.inr rfl) (by rw[hlM];exact Aq _) hc' (fun _=>by rw[hdM];exact hv' (hm0.trans hokN.2.2.1.symm))
  ·rw[if_neg hq]
   rcases @jV t q with h|h
   ·rw[h];exact .any _
   ·have h1:=hT _ h
    simp only at h1
    have h2:=htk.2 q
    rw[h1]at h2
    exact hcar h2 (iT _ h)
 ·rcases hl with⟨_,h⟩|rfl
  ·exact h.1
  ·exact hMn
 ·intro l hl
  obtain⟨h1,h2,h3⟩:=hln l hl
  have e1:l≠M:=by omega
  have e2:l≠N:=by omega
  refine⟨h1,.inl ⟨h2,by omega,e2,e1⟩,?_⟩
  have d1:g'.des l=g.des l:=if_neg e1
  have d2:g'.len l=g.len l:=if_neg e1
  rw[d1,d2]
  exact h3
theorem fl2 {V X:List (List AV)} {a c:Value} (hV:∀ e∈V,∀ x∈e,Flat x) (hX:∀ e∈X,e∈V):∀ e∈X++[[AV.lit a],[AV.lit c]],∀ x∈e,Flat x:=fun e he x hx=>by
 rcases List.mem_append.1 he with he|he
 ·exact hV e (hX e he) x hx
 ·simp only[zM,or_false]at he
  rcases he with rfl|rfl<;>obtain rfl:=Aj.1 hx<;>exact .lit _
theorem wP {S : AS} (N M d n o o' n' q p m k : Nat) (es es' : List (List AV)) {t ob : List (Nat × AV)} (hd : look S.t d = .ref N o q m) (ho : o = o') (hq : q = n') (hm : m = es.length) (hp : es'.length = p) (hN : look S.o N = .vec k es) (he : es = es') (hcs : ∀ e ∈ es, ∀ c ∈ e, Flat c) (hN8 : 8 ≤ N) (hM8 : 8 ≤ M) (hMn : M < n) (h8 : 8 ≤ n)
  (h:fR t S.t∧fR ob S.o∧oX n M N t∧oY n M N ob):Weak S ⟨(d,.ref M o' n' p)::t,(M,.vec k es')::ob,n⟩:=by
 subst ho hq he hp
 have:=a6v N M d n o q es.length m k es hd hm (Aq _) hN hcs hN8 hM8 hMn h8 h.1 h.2.1 h.2.2.1 h.2.2.2
 rwa [List.take_length]at this
@[irreducible] def Hold (p:Prop):Prop:=p
theorem Hold.out {p:Prop} (h:p):Hold p:=by unfold Hold;exact h
theorem Hold.use {p:Prop} (h:Hold p):p:=by unfold Hold at h;exact h
theorem b3r {P : Program} {f l L k : Nat} {es : List (List AV)} {i : Nat} {ob : Nat → AV} {E : Eff → Prop} {b : Value} (r : AV) (hf : fnT P f = true) (hc : CallOK P f [.sl es, .lit b] [] r []) (hob : ob l = .vec k es) (hL : es.length = L) (hin : ∀ e ∈ es, ∀ c ∈ e, In (fun _ => False) c) (hr : Flat r)
  (h:E ⟨r,[],[l]⟩):callV P f [.ref l 0 L L,.lit b] i ob E:=by
 refine bU r hf ?_ ?_ hr h
 ·simp only[Az,A3,bwa,tU hob hL];exact hc
 ·simp only[Az,A3,bwa,tU hob hL,Ay,Au,or_false]
  rintro a (rfl|rfl)
  ·exact .sl es hin
  ·exact .lit _
def a2b (n:Nat):Code→Bool
 | .region m _ _=>m == n
 | _=>false
theorem c7h {P:Program} {nt:Nat} {R:AS→Prop} {kk:List Itm} {S:AS} {x:Code} {k:Nat} {es:List (List AV)} (n l:Nat) (hx:a2b n x=true) (h:look S.o l=.vec k es) (hcont:∀ cp,AW P nt R (.code x::kk) { t:=S.t,o:=(l,.vcp k es cp)::S.o,nx:=S.nx }):AW P nt R (.code x::kk) S:=c7g l k es h hcont
theorem c7i {P:Program} {nt:Nat} {R:AS→Prop} {kk:List Itm} {S:AS} {x:Code} {k:Nat} {es:List (List AV)} (n l:Nat) (hx:a2b n x=true) (h:look S.o l=.vec k es) (hcont:∀ cp,es.length≤cp→AW P nt R (.code x::kk) { t:=S.t,o:=(l,.vcp k es cp)::S.o,nx:=S.nx }):AW P nt R (.code x::kk) S:=by
 intro c a w hP hs
 obtain⟨g,rfl,hg,ht,hsz,hu,hln,h8⟩:=id hs
 have hle:es.length≤(g.des l).cap:=by
  have:=hg.obj l
  rw[h]at this
  rcases this.2.2.2.2.2 with⟨_,e,_⟩|⟨_,_,_,_,e,_⟩
  ·rw[e];exact Av _
  ·exact e
 refine hcont (g.des l).cap hle c a g.w hP ⟨g,rfl,hg.ob (fun l'=>?_) (fun l'=>?_),ht,hsz,hu,hln,h8⟩
 ·show ObjOk g l' (if l=l' then _ else _)
  split
  ·rename_i e;subst e
   have:=hg.obj l
   rw[h]at this
   exact⟨this,rfl⟩
  ·exact hg.obj l'
 ·show aE g l' (if l=l' then _ else _)=_
  split
  ·rename_i e;subst e;rw[h];rfl
  ·rfl
theorem wQ {S : AS} (N M d n n' q m k : Nat) (es es' : List (List AV)) {t ob : List (Nat × AV)} (hd : look S.t d = .ref N 0 q m) (hq : q = n') (hm : m = es.length) (hp : n' ≤ es.length) (hN : look S.o N = .vec k es) (he : es.take n' = es') (hcs : ∀ e ∈ es, ∀ c ∈ e, Flat c) (hN8 : 8 ≤ N) (hM8 : 8 ≤ M) (hMn : M < n) (h8 : 8 ≤ n)
  (h:fR t S.t∧fR ob S.o∧oX n M N t∧oY n M N ob):Weak S ⟨(d,.ref M 0 n' n')::t,(M,.vec k es')::ob,n⟩:=by
 subst hq
 rw[← he]
 exact a6v N M d n 0 q q m k es hd hm hp hN hcs hN8 hM8 hMn h8 h.1 h.2.1 h.2.2.1 h.2.2.2
theorem a0w {P:Program} {nt:Nat} {R:AS→Prop} {kk:List Itm} {S:AS} {x:Code} (n:Nat) (hx:a2b n x=true) (h:Hold (AW P nt R (.code x::kk) S)):AW P nt R (.code x::kk) S:=h.use
end Go.Sx
namespace Go.Proofs.Vx
open Go Go.Sx Go.Proofs Tryz
attribute [local irreducible] fnT CallOK CallFr AW aI callV aL aJ aH aK gcaseP hid
theorem b5h:agT prog 79=some true∧arT prog 180=none∧byT prog 4=some 1∧fdT prog 64 0=some (0,1,false)∧fdT prog 79 1=some (8,1,false)∧fdT prog 79 2=some (9,1,false)∧slT prog 180=some (4,1)∧bH prog 180=false∧szT prog 79=some 10∧zeT prog 4=some [.lit (.bool false)]∧zeT prog 79=some [.lit (.bool false),.lit (.string ⟨#[]⟩),.lit (.bool false),.lit (.string ⟨#[]⟩),.lit (.bool false),.lit (.string ⟨#[]⟩),.lit (.bool false),.lit (.string ⟨#[]⟩),.lit (.int .i64 0),.lit (.int .i64 0)]:=by and_intros<;>kernel_rfl
attribute [go_sem] b5h
theorem c3u:fnT prog 169=true:=by kernel_rfl
def bS (M:List Bool):List (List AV):=M.map fun b=>[.lit (.bool b)]
theorem b0q (M:List Bool):(bS M).length=M.length:=Ae _
theorem a8x (M:List Bool) (i:Nat) (h:i<M.length):(bS M).getD i []=[.lit (.bool M[i])]:=by
 unfold bS
 rw[Ab,Ap,Ad h];rfl
theorem b2d {K:Nat→Prop} (M:List Bool):(∀ e∈bS M,∀ c∈e,In K c)=True:=eq_true fun e he c hc=>by
 obtain⟨n,_,rfl⟩:=Ar.1 he
 obtain rfl:=Aj.1 hc
 exact .lit _
def kS (ks:List Int):List (List AV):=ks.map fun k=>[.lit (.int .i64 k)]
theorem fQ (ks:List Int):(kS ks).length=ks.length:=Ae _
theorem kS_in {K:Nat→Prop} (M:List Int):(∀ e∈kS M,∀ c∈e,In K c)=True:=eq_true fun e he c hc=>by
 obtain⟨n,_,rfl⟩:=Ar.1 he
 obtain rfl:=Aj.1 hc
 exact .lit _
theorem p8 (M:List Int):∀ e∈kS M,∀ c∈e,Flat c:=fun e he c hc=>by
 obtain⟨n,_,rfl⟩:=Ar.1 he
 obtain rfl:=Aj.1 hc
 exact .lit _
attribute [go_sem] b2d kS_in
theorem c216 (M:List Bool) (hn:M.length≤1048576) (r:Int) (h1:∀ j (h:j<M.length),M[j]=false→(∀ i (h2:i<M.length),i<j→M[i]=true)→r=j) (h2:(∀ j (h:j<M.length),M[j]=true)→r=-1):CallOK prog 216 [.sl (bS M),.lit (.bool false)] [] (.lit (.int .i64 r)) []:=by
 refine zs func216 19 [.tmp 4] results216 ?_
 simp only[aD,Ai]
 have hml:maxLen=9223372036854775807:=rfl
 have hl:=b0q M
 replace h1:=Hid.mk h1
 replace h2:=Hid.mk h2
 repeat'(first|refine zk ?_|(refine zu ?_ ?_<;>intro hc)|(refine zv ?_ ?_<;>intro hg)|omega|simp -dsimp (disch:=try exact zo)only[go_sem,hl]|contradiction|rfl)
 refine AW.loop (fun z:{i:Nat // i≤M.length∧Hid (∀ j (h:j<M.length),j<i→M[j]=true)}=>⟨[(8,.lit (.int .i64 z.1)),(7,.lit (.int .i64 M.length)),(0,.sl (bS M)),(1,.lit (.bool false))],[],60⟩) (fun z=>M.length - z.1) ⟨0,Av _,Hid.mk (fun j _ h=>absurd h (Aw _))⟩ zw ?_
 rintro⟨i,hi,hI⟩
 dsimp only
 by_cases hlt:i<M.length
 ·have es1:=a8x M i hlt
  have hI1:=Hid.mk (show M[i]=true→∀ j (h:j<M.length),j<i+1→M[j]=true from fun hx j h h2=>by
   by_cases q:j=i
   ·subst q;exact hx
   ·exact hI.out j h (by omega))
  have hr:=fun hx=>h1.out i hlt hx fun j h h'=>hI.out j h h'
  generalize M[i]=m at *
  cases m
  ·rw[hr rfl]
   clear hr hI1
   exact z1
  ·replace hI1:=Hid.mk (hI1.out rfl)
   clear hr
   repeat'(first|refine zk ?_|(refine zu ?_ ?_<;>intro hc)|(refine zv ?_ ?_<;>intro hg)|omega|simp -dsimp (disch:=try exact zo)only[go_sem,hl,es1,ZT]|contradiction|rfl)
   all_goals exact AW.stop ⟨⟨i+1,by omega,hI1⟩,zw,by dsimp only;omega⟩
 ·have hil:i=M.length:=by omega
  subst hil
  rw[h2.out fun j h=>hI.out j h h]
  exact z1
theorem c169 (M:List Bool) (hn:M.length≤1048576) (b:Bool) (hb:b=true↔∀ x∈M,x=true):CallOK prog 169 [.sl (bS M),.lit (.bool false)] [] (.lit (.bool (!b))) []:=by
 obtain⟨r,h1,h2,h3⟩:∃ r:Int,(∀ j (h:j<M.length),M[j]=false→(∀ i (h2:i<M.length),i<j→M[i]=true)→r=j)∧((∀ j (h:j<M.length),M[j]=true)→r=-1)∧((0≤r)↔(!b)=true):=by
  by_cases ha:∀ x∈M,x=true
  ·refine⟨-1,fun j h hx _=>?_,fun _=>rfl,?_⟩
   ·rw[ha _ (Ag h)]at hx;cases hx
   ·rw[hb.2 ha];simp
  ·have hbf:b=false:=by cases hq:b;rfl;exact absurd (hb.1 hq) ha
   have hm:false∈M:=by
    refine Classical.byContradiction fun hq=>ha fun x hx=>?_
    cases x
    ·exact absurd hx hq
    ·rfl
   have hex:∃ j,∃ h:j<M.length,M[j]=false:=An hm
   have hmin:∃ j,(∃ h:j<M.length,M[j]=false)∧∀ i (h2:i<M.length),i<j→M[i]=true:=by
    obtain⟨j,hj⟩:=hex
    induction j using Nat.strongRecOn with
    | _ j ih =>
     by_cases hall:∀ i (h2:i<M.length),i<j→M[i]=true
     ·exact⟨j,hj,hall⟩
     ·obtain⟨i,hi⟩:=Classical.not_forall.1 hall
      obtain⟨h2,hi⟩:=Classical.not_forall.1 hi
      obtain⟨h3,hi⟩:=Classical.not_forall.1 hi
      exact ih i h3 ⟨h2,by simpa using hi⟩
   obtain⟨j,⟨hj,hx⟩,hmn⟩:=hmin
   refine⟨j,fun i h h4 h5=>?_,fun h=>(by rw[h j hj]at hx;cases hx),by rw[hbf];simp⟩
   rcases Nat.lt_trichotomy i j with q|q|q
   ·rw[hmn i h q]at h4;cases h4
   ·rw[q]
   ·rw[h5 j hj q]at hx;cases hx
 have ci:=c216 M hn r h1 h2
 clear h1 h2 hb
 generalize (!b)=b' at *
 have k1:(0≤r)=(b'=true):=propext h3
 refine zs func169 9 [.tmp 4] results169 ?_
 simp only[aD,Ai]
 cases b'
 ·have k1:(0≤r)=False:=by rw[k1];simp
  exact z1
 ·have k1:(0≤r)=True:=by rw[k1];simp
  exact z1
def bZ (N:List RN):List TN:=N.map fun n=>(eY n.1,n.2.1,n.2.2)
theorem sY (N:List RN):(bZ N).length=N.length:=Ae _
theorem a5h {N:List RN} {j:Nat} (h:j<N.length):(bZ N)[j]?=some (eY N[j].1,N[j].2.1,N[j].2.2):=by
 unfold bZ
 rw[Ap,Ad h];rfl
def iR (N:List RN):Prop:=∀ n∈N,j8 n.1
def oM (N:List RN):Prop:=∀ n∈N,RB 6 n.1
structure FI (N:List RN) (b:Bool) (ks:List Int) (M:List Bool):Prop where
 eq:b=true↔bV (bZ N) ks (mtB M)∧iR N
 len:M.length=N.length
 can:∀ j (h:j<N.length),M.getD j false=true→j8 N[j].1
 bd:ks.length+2*M.count false≤29
theorem w9 {M:List Bool} {j:Nat} (hj:j<M.length) (h:M.getD j false=false):(M.set j true).count false+1=M.count false:=by
 have e:M[j]=false:=by rw[Ab,Ad hj]at h;exact h
 have hpos:0<M.count false:=List.count_pos_iff.2 (e▸Ag hj)
 rw[List.count_set hj]
 simp[e]
 omega
theorem FI.leaf {N:List RN} {b:Bool} {ks:List Int} {k:Int} {M:List Bool} (h:FI N b (ks++[k]) M) (hk:k=-1∨k=0):FI N b ks M :=
 ⟨by rw[h.eq,yK,a3c hk],h.len,h.can,by have:=h.bd;rw[Aa,List.length_singleton]at this;omega⟩
theorem FI.bad {N:List RN} {b:Bool} {ks:List Int} {k:Int} {M:List Bool} (h:FI N b (ks++[k]) M) (hk:k < -1∨N.length<k∨(1≤k∧(k - 1).toNat<M.length∧M.getD (k - 1).toNat false=true)):b=false:=by
 cases hb:b
 ·rfl
 ·refine absurd (yK.1 (h.eq.1 hb).1) (a3x ?_)
  rw[sY]
  rcases hk with hk|hk|⟨h1,h2,h3⟩
  ·exact .inl hk
  ·exact .inr (.inl hk)
  ·exact .inr (.inr ⟨h1,oC.2 ⟨h2,h3⟩⟩)
theorem FI.raw {N:List RN} {b:Bool} {ks:List Int} {M:List Bool} (h:FI N b ks M) {n:RN} (hn:n∈N) (hc:¬ j8 n.1):b=false:=by
 cases hb:b
 ·rfl
 ·exact absurd ((h.eq.1 hb).2 n hn) hc
theorem FI.node {N:List RN} {b:Bool} {ks:List Int} {M:List Bool} {j:Nat} (hj:j<N.length) (h:FI N b (ks++[(j:Int)+1]) M) (hm:M.getD j false=false) (hc:j8 N[j].1):FI N b (ks++[N[j].2.1,N[j].2.2]) (M.set j true):=by
 have hjM:j<M.length:=by rw[h.len];exact hj
 refine⟨?_,by rw[List.length_set];exact h.len,fun i hi hx=>?_,?_⟩
 ·rw[h.eq,yK,a3b (a5h hj),a3u]
  exact and_congr (vE (.refl _) (a7u hjM hm).symm) Iff.rfl
 ·rw[a6a hjM]at hx
  by_cases q:i=j
  ·subst q;exact hc
  ·rw[if_neg q]at hx;exact h.can i hi hx
 ·have h1:=w9 hjM hm
  have:=h.bd
  simp only[Aa,Ac,Af]at this ⊢
  omega
theorem FI.done {N:List RN} {b:Bool} {M:List Bool} (h:FI N b [] M):b=true↔∀ x∈M,x=true:=by
 rw[h.eq,a3w (by rw[sY];exact h.len)]
 refine⟨And.left,fun hx=>⟨hx,fun n hn=>?_⟩⟩
 obtain⟨j,hj,rfl⟩:=An hn
 refine h.can j hj ?_
 have hjM:j<M.length:=by rw[h.len];exact hj
 rw[Ab,Ad hjM]
 exact hx _ (Ag hjM)
theorem FI.zero {N:List RN} {b:Bool} {k:Int} (hn:N.length≤14) (hb:b=true↔bV (bZ N) [k] []∧iR N):FI N b [k] (Ao N.length false):=by
 refine⟨by rw[a7v];exact hb,List.length_replicate,fun j h hx=>?_,?_⟩
 ·rw[Ab,List.getElem?_replicate,if_pos h]at hx;cases hx
 ·rw[List.count_replicate];simp only[Ac,Af];split<;>omega
set_option maxRecDepth 20000 in
theorem c100 (k0:Int) (N:List RN) (hn:N.length≤14) (hs:oM N) (b:Bool) (hb:b=true↔bV (bZ N) [k0] []∧iR N):CallOK prog 100 [.agg (b5 k0 N)] [] (.lit (.bool b)) []:=by
 refine zs func100 88 [.tmp 2] results100 ?_
 simp only[aD,Ai]
 have hml:maxLen=9223372036854775807:=rfl
 have hl:(eRT N).length=N.length:=Ae _
 have hz:=FI.zero hn hb
 have hrep:Ao N.length [AV.lit (.bool false)]=bS (Ao N.length false):=by unfold bS;rw[List.map_replicate]
 have hone:[[AV.lit (.int .i64 k0)]]=kS [k0]:=rfl
 replace hs:=Hid.mk hs
 replace hz:=Hid.mk hz
 clear hb
 repeat'(first|refine zk ?_|(refine zu ?_ ?_<;>intro hc)|(refine zv ?_ ?_<;>intro hg)|omega|simp -dsimp (disch:=try exact zo)only[go_sem,hl,hrep,hone]|contradiction|rfl)
 refine AW.loop (fun z:{z:List Int × List Bool // Hid (FI N b z.1 z.2)}=>⟨[(4,.ref 17 0 z.1.1.length z.1.1.length),(3,.ref 13 0 N.length N.length),(1,.loc 8 0)],[(17,.vec 1 (kS z.1.1)),(13,.vec 1 (bS z.1.2)),(8,.blk [.lit (.int .i64 k0),.sl (eRT N)])],60⟩) (fun z=>z.1.1.length+2*z.1.2.count false) ⟨([k0],Ao N.length false),hz⟩ zw ?_
 rintro⟨⟨ks,M⟩,hI⟩
 dsimp only
 have hbd:=hI.out.bd
 dsimp only at hbd
 have hMl:(bS M).length=N.length:=(b0q M).trans hI.out.len
 rcases List.eq_nil_or_concat ks with rfl|⟨qs,k,e⟩
 ·have hd:=hI.out.done
  have hk0:(kS []).length=0:=rfl
  have cc:=c169 M (by rw[hI.out.len];omega) b hd
  clear hI hd hz
  repeat'(first|refine zk ?_|(refine zu ?_ ?_<;>intro hc)|(refine b3r _ c3u cc rfl hMl (of_eq_true (b2d _)) (.lit _) ?_)|(refine zv ?_ ?_<;>intro hg)|omega|simp -dsimp (disch:=try exact zo)only[go_sem,hMl,hk0,Bool.not_not]|contradiction|rfl)
 ·rw[List.concat_eq_append]at e
  subst e
  have hV:(kS (qs++[k])).length=qs.length+1:=by rw[fQ,Aa];rfl
  have hVl:(kS (qs++[k])).getD qs.length []=[.lit (.int .i64 k)]:=by
   unfold kS
   rw[Am,Ab,List.getElem?_append_right (by rw[Ae];exact Aq _),Ae,Nat.sub_self];rfl
  have hVt:(kS (qs++[k])).take qs.length=kS qs:=by
   unfold kS
   rw[Am,List.take_append_of_le_length (by rw[Ae];exact Aq _),Al (by rw[Ae];exact Aq _)]
  have hVf:=p8 (qs++[k])
  have hn1:(qs++[k]).length=qs.length+1:=by rw[Aa];rfl
  rw[hn1]at hbd ⊢
  have hix:(((qs.length+1:Nat):Int) - 1)=(qs.length:Int):=by omega
  generalize kS (qs++[k])=V at *
  by_cases q1:k=-1∨k=0
  ·have hI1:=Hid.mk (hI.out.leaf q1)
   have es1:True:=trivial
   have em:True:=trivial
   have hMs:True:=trivial
   have k3:True:=trivial
   have k4:True:=trivial
   have k5:True:=trivial
   clear hI hz
   rcases q1 with rfl|rfl
   ·have k1:True:=trivial
    have k2:True:=trivial
    repeat'(first|refine zk ?_|(refine zu ?_ ?_<;>intro hc)|(refine zf cn ?_)|(refine zv ?_ ?_<;>intro hg)|omega|simp -dsimp (disch:=try exact zo)only[go_sem,hl,hix,hV,hVl,hVt,hMl,hMs,es1,em,ZT,Ah,k1,k2,k3,k4,k5]|contradiction|rfl)
    all_goals exact AW.stop ⟨⟨(qs,M),hI1⟩,wQ 17 17 4 60 qs.length _ _ 1 V _ rfl rfl hV.symm (by rw[hV];omega) rfl hVt hVf (by decide) (by decide) (by decide) (by decide) (by refine⟨?_,?_,?_,?_⟩<;>simp -dsimp (disch:=try exact zo)only[go_sem,hMs]),by show qs.length+2*M.count false<qs.length+1+2*M.count false;omega⟩
   ·have k1:True:=trivial
    have k2:True:=trivial
    repeat'(first|refine zk ?_|(refine zu ?_ ?_<;>intro hc)|(refine zf cn ?_)|(refine zv ?_ ?_<;>intro hg)|omega|simp -dsimp (disch:=try exact zo)only[go_sem,hl,hix,hV,hVl,hVt,hMl,hMs,es1,em,ZT,Ah,k1,k2,k3,k4,k5]|contradiction|rfl)
    all_goals exact AW.stop ⟨⟨(qs,M),hI1⟩,wQ 17 17 4 60 qs.length _ _ 1 V _ rfl rfl hV.symm (by rw[hV];omega) rfl hVt hVf (by decide) (by decide) (by decide) (by decide) (by refine⟨?_,?_,?_,?_⟩<;>simp -dsimp (disch:=try exact zo)only[go_sem,hMs]),by show qs.length+2*M.count false<qs.length+1+2*M.count false;omega⟩
  ·have k1:(k=-1)=False:=eq_false (by omega)
   have k2:(k=0)=False:=eq_false (by omega)
   by_cases q2:k<0
   ·rw[hI.out.bad (.inl (by omega))]
    have k3:(k<0)=True:=eq_true q2
    have k4:True:=trivial
    have k5:True:=trivial
    have es1:True:=trivial
    have em:True:=trivial
    have hMs:True:=trivial
    clear hI hz q1
    exact z1
   ·have k3:(k<0)=False:=eq_false q2
    by_cases q3:(N.length:Int)<k
    ·rw[hI.out.bad (.inr (.inl q3))]
     have k4:((N.length:Int)<k)=True:=eq_true q3
     have k5:True:=trivial
     have es1:True:=trivial
     have em:True:=trivial
     have hMs:True:=trivial
     clear hI hz q1
     exact z1
    ·have k4:((N.length:Int)<k)=False:=eq_false q3
     obtain⟨j,rfl⟩:∃ j:Nat,k=(j:Int)+1:=⟨(k - 1).toNat,by omega⟩
     have hj:j<N.length:=by omega
     have hjM:j<M.length:=by rw[hI.out.len];exact hj
     have k5:((j:Int)+1 - 1)=(j:Int):=by omega
     have em:=a8x M j hjM
     have eM:M.getD j false=M[j]:=by rw[Ab,Ad hjM];rfl
     have es1:=wN N j hj
     have hsj:=hs.out _ (Ag hj)
     have hMs:(bS M).set j [.lit (.bool true)]=bS (M.set j true):=by unfold bS;rw[List.map_set]
     cases hm:M[j]
     ·rw[hm]at em eM
      have hI2:=Hid.mk (fun hc=>hI.out.node hj eM hc)
      have hraw:=Hid.mk (fun hc=>hI.out.raw (Ag hj) hc)
      have hcn:=w9 hjM eM
      clear hI hz q1 hm
      generalize N[j]=nd at *
      obtain⟨r,a,c⟩:=nd
      dsimp only at hI2 hraw hsj
      have cn:=c168 r.n1 r.m1 r.n2 r.m2 r.n3 r.m3 r.n4 r.m4 (Ak hsj.a (by decide)) (Ak hsj.b (by decide)) (Ak hsj.c (by decide)) (Ak hsj.d (by decide))
      by_cases hzr:j6 r
      ·rw[if_pos (show iv r.n1 r.m1=0∧iv r.n2 r.m2=0∧iv r.n3 r.m3=0 from hzr)]at cn
       rw[hraw.out fun h=>h.1 hzr]
       clear hraw hI2 hzr
       simp only[eH,e4]at cn
       exact z1
      ·rw[if_neg (show ¬ (iv r.n1 r.m1=0∧iv r.n2 r.m2=0∧iv r.n3 r.m3=0)from hzr)]at cn
       change CallOK _ _ [.agg (eRP r)] _ (.tup [.agg (eH (eY r)),_]) _ at cn
       by_cases hc:eRP r=eH (eY r)
       ·replace hI2:=Hid.mk (hI2.out ⟨hzr,hc⟩)
        clear hraw
        have es2:eRN (r,a,c)=eRP r++[.lit (.int .i64 a),.lit (.int .i64 c)]:=rfl
        rw[es2,hc]at es1
        rw[hc]at cn
        clear hc hzr es2
        generalize eY r=p at *
        simp only[eH,e4,List.cons_append,List.nil_append]at cn es1
        repeat'(first|refine c7h 14 17 rfl rfl ?_|refine zk ?_|(refine zu ?_ ?_<;>intro hc)|(refine zf cn ?_)|(refine zv ?_ ?_<;>intro hg)|omega|simp -dsimp (disch:=try exact zo)only[go_sem,hl,hix,hV,hVl,hVt,hMl,hMs,es1,em,ZT,Ah,k1,k2,k3,k4,k5]|contradiction|rfl)
        all_goals
         intro cp
         rcases Nat.lt_or_ge cp (qs.length+2)with hcp|hcp
        ·have q1:(qs.length+2≤cp)=False:=eq_false (by omega)
         have q2:(cp<qs.length+2)=True:=eq_true hcp
         repeat'(first|refine zk ?_|(refine zu ?_ ?_<;>intro hc)|(refine zf cn ?_)|(refine zv ?_ ?_<;>intro hg)|omega|simp -dsimp (disch:=try exact zo)only[go_sem,hl,hix,hV,hVl,hVt,hMl,hMs,es1,em,ZT,Ah,q1,q2,A4,A5,Ax]|contradiction|rfl)
         all_goals refine fun _=>AW.blk (AW.stop ?_)
         all_goals exact⟨⟨(qs++[a,c],M.set j true),hI2⟩,wQ 136 17 4 60 (qs++[a,c]).length _ _ 1 _ _ rfl (by rw[Aa];rfl) (by simp only[Aa,fQ,Ac,Af];try omega) (by simp only[Aa,fQ,Ac,Af];try omega) rfl (by rw[Al (by simp only[Aa,fQ,Ac,Af];try omega)];unfold kS;rw[Am];rfl) (fl2 (p8 qs) (fun e he=>he)) (by decide) (by decide) (by decide) (by decide) (by refine⟨?_,?_,?_,?_⟩<;>simp -dsimp (disch:=try exact zo)only[go_sem,hMs]),by show (qs++[a,c]).length+2*(M.set j true).count false<qs.length+1+2*M.count false;rw[Aa];simp only[Ac,Af];omega⟩
        ·have q1:(qs.length+2≤cp)=True:=eq_true hcp
         have q2:(cp<qs.length+2)=False:=eq_false (by omega)
         repeat'(first|refine zk ?_|(refine zu ?_ ?_<;>intro hc)|(refine zf cn ?_)|(refine zv ?_ ?_<;>intro hg)|omega|simp -dsimp (disch:=try exact zo)only[go_sem,hl,hix,hV,hVl,hVt,hMl,hMs,es1,em,ZT,Ah,q1,q2,A4,A5,Ax]|contradiction|rfl)
         all_goals refine fun _=>AW.blk (AW.stop ?_)
         all_goals exact⟨⟨(qs++[a,c],M.set j true),hI2⟩,wQ 17 17 4 60 (qs++[a,c]).length _ _ 1 _ _ rfl (by rw[Aa];rfl) (by simp only[Aa,fQ,Ac,Af];try omega) (by simp only[Aa,fQ,Ac,Af];try omega) rfl (by rw[Al (by simp only[Aa,fQ,Ac,Af];try omega)];unfold kS;rw[Am];rfl) (fl2 (p8 qs) (fun e he=>he)) (by decide) (by decide) (by decide) (by decide) (by refine⟨?_,?_,?_,?_⟩<;>simp -dsimp (disch:=try exact zo)only[go_sem,hMs]),by show (qs++[a,c]).length+2*(M.set j true).count false<qs.length+1+2*M.count false;rw[Aa];simp only[Ac,Af];omega⟩
       ·rw[hraw.out fun h=>hc h.2]
        clear hraw hI2
        generalize eY r=q at *
        have hne:¬ (Zn q.a=r.n1∧Zm q.a=r.m1∧Zn q.b=r.n2∧Zm q.b=r.m2∧Zn q.c=r.n3∧Zm q.c=r.m3∧Zn q.d=r.n4∧Zm q.d=r.m4):=fun h=>hc (by
         unfold eRP eH e4
         obtain⟨h1,h2,h3,h4,h5,h6,h7,h8⟩:=h
         rw[h1,h2,h3,h4,h5,h6,h7,h8])
        clear hc
        simp only[eRP,eH,e4]at cn
        exact z1
     ·rw[hm]at em eM
      rw[hI.out.bad (.inr (.inr ⟨by omega,by rw[k5];exact hjM,by rw[k5];exact eM⟩))]
      clear hI hz q1 hm
      exact z1
end Go.Proofs.Vx
