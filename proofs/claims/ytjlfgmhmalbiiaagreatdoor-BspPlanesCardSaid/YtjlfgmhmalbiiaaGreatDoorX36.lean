import Derived.Test.YtjlfgmhmalbiiaaGreatDoorX35
set_option linter.all false
set_option maxHeartbeats 16000000
open List renaming length_map → Ab, getD_eq_getElem?_getD → Ad, getElem?_eq_getElem → Ae, not_mem_nil → Af, getElem_mem → Ag, length_pos_iff → Ah, mem_cons → Ai, getElem?_map → Aj, map_cons → Ak, mem_map → Al, map_nil → Am
open Nat renaming reduceAdd → Aa, le_trans → Ac, zero_le → An, le_refl → Ao
namespace Go.Proofs.Vx
open Go Go.Sx Go.Proofs Tryz
attribute [local irreducible] fnT CallOK CallFr AW aK callV aL aJ aI aM gcaseP hid
theorem b6p:agT prog 64=some true∧plT prog 64=some [(0,1),(1,1)]∧szT prog 64=some 2∧zeT prog 64=some [.lit (.int .i64 0),.lit (.slice none 0 0)]:=by and_intros<;>kernel_rfl
attribute [go_sem] b6p
abbrev eN (n:TN):List AV:=[.lit (.bool (Zn n.1.a)),.lit (.string (Zm n.1.a)),.lit (.bool (Zn n.1.b)),.lit (.string (Zm n.1.b)),.lit (.bool (Zn n.1.c)),.lit (.string (Zm n.1.c)),.lit (.bool (Zn n.1.d)),.lit (.string (Zm n.1.d)),.lit (.int .i64 n.2.1),.lit (.int .i64 n.2.2)]
def eTS (N:List TN):List (List AV):=N.map eN
theorem oE (N:List TN) (i:Nat) (h:i<N.length):(eTS N).getD i []=eN N[i]:=by
 unfold eTS
 rw[Ad,Aj,Ae h];rfl
theorem uU {K:Nat→Prop} (N:List TN):(∀ e∈eTS N,∀ c∈e,In K c)=True:=eq_true fun e he c hc=>by
 obtain⟨n,_,rfl⟩:=Al.1 he
 simp only[eN,Ai,Af,or_false]at hc
 rcases hc with rfl|rfl|rfl|rfl|rfl|rfl|rfl|rfl|rfl|rfl<;>exact .lit _
theorem jU (N:List TN):(eTS N).length=N.length:=Ab _
abbrev eTr (k:Int) (N:List TN):List AV:=[.lit (.int .i64 k),.sl (eTS N)]
theorem pA {K:Nat→Prop} (k:Int) (N:List TN):In K (.agg (eTr k N)):=.agg _ (by
 intro c hc
 simp only[zM,or_false]at hc
 rcases hc with rfl|rfl
 ·exact .lit _
 ·exact .sl _ (of_eq_true (uU N)))
theorem a8y {g:Gh} {k:Int} {v:Value} (h:Rel g (.agg [.lit (.int .i64 k),.lit (.slice none 0 0)]) v):Rel g (.agg (eTr k [])) v:=by
 cases h with
 | agg _ vs hs ho hr =>
  refine .agg _ _ hs ho fun i h1 h2=>?_
  match i,h1 with
  | 0,_=>exact hr 0 (by simp) h2
  | 1,_ =>
   have:=hr 1 (by simp) h2
   simp only[List.getElem_cons_succ,List.getElem_cons_zero]at this ⊢
   generalize vs[1]=x at this
   cases this
   exact .slnil
attribute [go_sem] uU
theorem c103 (c:aE) (hn:c.length≤1048576):CallOK prog 103 [.agg [.sl (eS c)]] [] (.lit (.bool c.isEmpty)) []:=by
 refine zs func103 7 [.tmp 2] results103 ?_
 simp only[aD,Aa]
 have hml:maxLen=9223372036854775807:=rfl
 have hl:(eS c).length=c.length:=Ab _
 by_cases h0:c=[]
 ·have k0:((c.length:Int)=0)=True:=eq_true (by subst h0;rfl)
  rw[show c.isEmpty=true by subst h0;rfl]
  clear h0
  exact z1
 ·have k0:((c.length:Int)=0)=False:=eq_false (by have:=Ah.2 h0;omega)
  rw[show c.isEmpty=false by simpa using h0]
  clear h0
  exact z1
theorem c110 (c:aE) (hn:c.length≤1048576):CallOK prog 110 [.agg [.sl (eS c)]] [] (.lit (.bool c.isEmpty)) []:=by
 refine zs func110 7 [.tmp 2] results110 ?_
 simp only[aD,Aa]
 have hml:maxLen=9223372036854775807:=rfl
 have hl:(eS c).length=c.length:=Ab _
 by_cases h0:c=[]
 ·have k0:((c.length:Int)=0)=True:=eq_true (by subst h0;rfl)
  rw[show c.isEmpty=true by subst h0;rfl]
  clear h0
  exact z1
 ·have k0:((c.length:Int)=0)=False:=eq_false (by have:=Ah.2 h0;omega)
  rw[show c.isEmpty=false by simpa using h0]
  clear h0
  exact z1
theorem c49x  : CallOK prog 49 [] [] (.agg [.lit (.int .i64 (-1)),.lit (.slice none 0 0)]) []:=by
 refine zs func49 2 [.cell 0 64] results49 ?_
 simp only[aD,Aa]
 exact z1
theorem c49:CallOK prog 49 [] [] (.agg (eTr (-1) [])) []:=c49x.wk fun g v=>a8y
theorem c99 (x y z:Int) (hx:-1000≤x∧x≤1000) (hy:-1000≤y∧y≤1000) (hz:-1000≤z∧z≤1000):CallOK prog 99 [.lit (.int .i64 x),.lit (.int .i64 y),.lit (.int .i64 z)] [] (.agg (eP ⟨x,y,z,1⟩)) []:=by
 refine zs func99 15 [.cell 6 51] results99 ?_
 simp only[aD,Aa]
 have cx:=sK x hx
 have cy:=sK y hy
 have cz:=sK z hz
 simp only[eP,e4]
 have zh0:=vG
 exact z1
theorem d1x (a:Int):[AV.lit (.bool false),AV.lit (.string (Zm a))]=eZ (a.natAbs:Int):=by
 unfold eZ Zm Zn
 have:¬ ((a.natAbs:Int)<0):=by omega
 simp[this]
def edS (w:Int):List Int→Int
 | []=>1
 | a::r=>if 1000*w<a.natAbs then -1 else if (a.natAbs:Int)=1000*w then (if edS w r=-1 then -1 else 0)else edS w r
theorem b8x (w:Int) (l:List Int):edS w l=-1∨edS w l=0∨edS w l=1:=by
 induction l with
 | nil=>exact .inr (.inr rfl)
 | cons a r ih =>
  unfold edS
  split
  ·exact .inl rfl
  ·split
   ·split
    ·exact .inl rfl
    ·exact .inr (.inl rfl)
   ·exact ih
theorem b0a (x:Pt):rZ x=edS x.w [x.x,x.y,x.z]:=by
 unfold rZ
 simp only[edS]
 have hn:∀ a:Int,¬ (1000*x.w<(a.natAbs:Int)∧(a.natAbs:Int)=1000*x.w):=fun a=>by omega
 by_cases a1:1000*x.w<(x.x.natAbs:Int)<;>by_cases a2:1000*x.w<(x.y.natAbs:Int)<;>by_cases a3:1000*x.w<(x.z.natAbs:Int)<;>by_cases e1:(x.x.natAbs:Int)=1000*x.w<;>by_cases e2:(x.y.natAbs:Int)=1000*x.w<;>by_cases e3:(x.z.natAbs:Int)=1000*x.w<;>first|(exfalso;omega)|simp[a1,a2,a3,e1,e2,e3]
theorem c106 (x:Pt) (hb:BPt 268435456 x):CallOK prog 106 [.agg (eP x)] [] (.lit (.int .i64 (rZ x))) []:=by
 refine zs func106 32 [.tmp 2] results106 ?_
 simp only[aD,Aa]
 have hml:maxLen=9223372036854775807:=rfl
 have hw:=hb.out.d
 have h1000:(Zm 1000).size≤2:=(bX _ _).2 (by decide)
 have cm:=bA 1000 x.w (by omega) (by omega)
 have hm:(Zm (1000*x.w)).size≤268435458:=Ac (aP 1000 x.w h1000 hw) (by omega)
 have hz:∀ a:Int,(Zm a).size≤268435456→(Zm (a.natAbs:Int)).size≤268435456:=fun a h=>by
  have:Zm (a.natAbs:Int)=Zm a:=by unfold Zm;simp
  rwa [this]
 have k1:=fE (x.x.natAbs:Int) (1000*x.w) (by have:=hz _ hb.out.a;omega) (by omega)
 have k2:=fE (x.y.natAbs:Int) (1000*x.w) (by have:=hz _ hb.out.b;omega) (by omega)
 have k3:=fE (x.z.natAbs:Int) (1000*x.w) (by have:=hz _ hb.out.c;omega) (by omega)
 rw[← d1x]at k1 k2 k3
 rw[b0a]
 simp only[edS]
 clear hb hz hm hw
 obtain⟨x,y,z,w⟩:=x
 simp only[eP,e4]at *
 have case:∀ a:Int,(sg ((a.natAbs:Int) - 1000*w)=1∧1000*w<(a.natAbs:Int))∨(sg ((a.natAbs:Int) - 1000*w)=0∧(a.natAbs:Int)=1000*w)∨(sg ((a.natAbs:Int) - 1000*w)=-1∧¬ 1000*w<(a.natAbs:Int)∧¬ (a.natAbs:Int)=1000*w):=fun a=>by
  rcases g9 ((a.natAbs:Int) - 1000*w)with⟨e,h⟩|⟨e,h⟩|⟨e,h⟩
  all_goals first|exact .inl ⟨by omega,by omega⟩|exact .inr (.inl ⟨by omega,by omega⟩)|exact .inr (.inr ⟨by omega,by omega,by omega⟩)
 rcases case x with⟨g1,q1⟩|⟨g1,q1⟩|⟨g1,q1,q1'⟩<;>rcases case y with⟨g2,q2⟩|⟨g2,q2⟩|⟨g2,q2,q2'⟩<;>rcases case z with⟨g3,q3⟩|⟨g3,q3⟩|⟨g3,q3,q3'⟩<;>simp only[g1,g2,g3]at k1 k2 k3<;>simp only[*,if_true,if_false,reduceIte,Int.reduceNeg,Int.reduceEq,Int.lt_irrefl]<;>clear g1 g2 g3 case
 all_goals try have zh0:=(c67 1000 (by decide))
 all_goals exact z1d
end Go.Proofs.Vx
namespace Go.Proofs.Vx
open Go Go.Sx Go.Proofs Tryz
attribute [local irreducible] fnT CallOK CallFr AW aK callV aL aJ aI aM gcaseP hid
theorem b6o:agT prog 62=some false∧arT prog 62=none∧fdT prog 64 1=some (1,1,false)∧fdT prog 79 0=some (0,8,true)∧slT prog 62=some (79,10)∧bI prog 62=false∧szT prog 62=some 1:=by and_intros<;>kernel_rfl
attribute [go_sem] b6o
abbrev RN:=RP × Int × Int
abbrev eRN (n:RN):List AV:=[.lit (.bool n.1.n1),.lit (.string n.1.m1),.lit (.bool n.1.n2),.lit (.string n.1.m2),.lit (.bool n.1.n3),.lit (.string n.1.m3),.lit (.bool n.1.n4),.lit (.string n.1.m4),.lit (.int .i64 n.2.1),.lit (.int .i64 n.2.2)]
def eRT (N:List RN):List (List AV):=N.map eRN
theorem w9 (N:List RN) (i:Nat) (h:i<N.length):(eRT N).getD i []=eRN N[i]:=by
 unfold eRT
 rw[Ad,Aj,Ae h];rfl
theorem a2g {K:Nat→Prop} (N:List RN):(∀ e∈eRT N,∀ c∈e,In K c)=True:=eq_true fun e he c hc=>by
 obtain⟨n,_,rfl⟩:=Al.1 he
 simp only[eRN,Ai,Af,or_false]at hc
 rcases hc with rfl|rfl|rfl|rfl|rfl|rfl|rfl|rfl|rfl|rfl<;>exact .lit _
abbrev bV (k:Int) (N:List RN):List AV:=[.lit (.int .i64 k),.sl (eRT N)]
def lG (r:RP):Bool:=decide (4<r.m1.size)||decide (4<r.m2.size)||decide (4<r.m3.size)||decide (4<r.m4.size)
theorem a8h {r:RP} (h:lG r=false):r.m1.size≤4∧r.m2.size≤4∧r.m3.size≤4∧r.m4.size≤4:=by
 unfold lG at h
 simp only[Bool.or_eq_false_iff,decide_eq_false_iff_not]at h
 omega
def q9 (N:List RN):Prop:=N.length≤14∧∀ n∈N,lG n.1=false
attribute [go_sem] a2g
theorem sp4 {L:Nat} (r:RP):(r.m1.size≤L∧r.m2.size≤L∧r.m3.size≤L∧r.m4.size≤L)∨L<r.m1.size∨(r.m1.size≤L∧L<r.m2.size)∨(r.m1.size≤L∧r.m2.size≤L∧L<r.m3.size)∨(r.m1.size≤L∧r.m2.size≤L∧r.m3.size≤L∧L<r.m4.size):=by omega
set_option maxRecDepth 20000 in
theorem b1r (k:Int) (N:List RN) (h:14<N.length):CallOK prog 37 [.agg (bV k N)] [] (.lit (.int .i64 1)) []:=by
 refine zs func37 48 [.tmp 2] results37 ?_
 simp only[aD,Aa]
 have hml:maxLen=9223372036854775807:=rfl
 have hl:(eRT N).length=N.length:=Ab _
 have k0:(14<(N.length:Int))=True:=eq_true (by omega)
 exact z1
set_option maxRecDepth 20000 in
theorem c37 (k:Int) (N:List RN) (h:N.length≤14) (b:Bool) (hb:b=true↔∀ n∈N,lG n.1=false):CallOK prog 37 [.agg (bV k N)] [] (.lit (.int .i64 (if b=true then 0 else 1))) []:=by
 refine zs func37 48 [.tmp 2] results37 ?_
 simp only[aD,Aa]
 have hml:maxLen=9223372036854775807:=rfl
 have hl:(eRT N).length=N.length:=Ab _
 have k0:(14<(N.length:Int))=False:=eq_false (by omega)
 replace hb:=Hid.mk hb
 repeat'(first|refine zk ?_|(refine zu ?_ ?_<;>intro hc)|(refine zv ?_ ?_<;>intro hg)|omega|simp -dsimp (disch:=try exact zo)only[go_sem,hl,k0]|contradiction|rfl)
 refine AW.loop (fun z:{i:Nat // i≤N.length∧Hid (∀ j (h:j<N.length),j<i→lG N[j].1=false)}=>⟨[(3,.lit (.int .i64 z.1)),(1,.loc 8 0)],[(8,.blk [.lit (.int .i64 k),.sl (eRT N)])],60⟩) (fun z=>N.length - z.1) ⟨0,An _,Hid.mk (fun j _ h=>absurd h (Nat.not_lt_zero _))⟩ zw ?_
 rintro⟨i,hi,hI⟩
 dsimp only
 by_cases hlt:i<N.length
 ·have es1:=w9 N i hlt
  have hI1:=Hid.mk (show lG N[i].1=false→∀ j (h:j<N.length),j<i+1→lG N[j].1=false from fun hx j h h2=>by
   by_cases q:j=i
   ·subst q;exact hx
   ·exact hI.out j h (by omega))
  have hbad:lG N[i].1=true→b=false:=fun hx=>by
   cases hb0:b
   ·rfl
   ·have:=hb.out.1 hb0 _ (Ag hlt);rw[hx]at this;contradiction
  generalize N[i]=n at *
  obtain⟨r,x,y⟩:=n
  dsimp only[eRN]at es1 hI1 hbad
  cases hx:lG r
  ·obtain⟨h1,h2,h3,h4⟩:=a8h hx
   replace hI1:=Hid.mk (hI1.out hx)
   have k1:(4<(r.m1.size:Int))=False:=eq_false (by omega)
   have k2:(4<(r.m2.size:Int))=False:=eq_false (by omega)
   have k3:(4<(r.m3.size:Int))=False:=eq_false (by omega)
   have k4:(4<(r.m4.size:Int))=False:=eq_false (by omega)
   clear hbad hx
   repeat'(first|refine zk ?_|(refine zu ?_ ?_<;>intro hc)|(refine zv ?_ ?_<;>intro hg)|omega|simp -dsimp (disch:=try exact zo)only[go_sem,hl,es1,ZT,k1,k2,k3,k4]|contradiction|rfl)
   all_goals exact AW.stop ⟨⟨i+1,by omega,hI1⟩,zw,by dsimp only;omega⟩
  ·rw[hbad hx,if_neg (by decide)]
   have hx':4<r.m1.size∨4<r.m2.size∨4<r.m3.size∨4<r.m4.size:=by
    unfold lG at hx
    simp only[Bool.or_eq_true,decide_eq_true_eq]at hx
    omega
   clear hbad hx hI1 hb
   rcases (sp4 (L:=4) r).resolve_left (by omega)with q|q|q|q
   ·have k1:(4<(r.m1.size:Int))=True:=eq_true (by omega)
    have k2:True:=trivial
    have k3:True:=trivial
    have k4:True:=trivial
    clear q
    exact z1
   ·have k1:(4<(r.m1.size:Int))=False:=eq_false (by omega)
    have k2:(4<(r.m2.size:Int))=True:=eq_true (by omega)
    have k3:True:=trivial
    have k4:True:=trivial
    clear q
    exact z1
   ·have k1:(4<(r.m1.size:Int))=False:=eq_false (by omega)
    have k2:(4<(r.m2.size:Int))=False:=eq_false (by omega)
    have k3:(4<(r.m3.size:Int))=True:=eq_true (by omega)
    have k4:True:=trivial
    clear q
    exact z1
   ·have k1:(4<(r.m1.size:Int))=False:=eq_false (by omega)
    have k2:(4<(r.m2.size:Int))=False:=eq_false (by omega)
    have k3:(4<(r.m3.size:Int))=False:=eq_false (by omega)
    have k4:(4<(r.m4.size:Int))=True:=eq_true (by omega)
    clear q
    exact z1
 ·have hil:i=N.length:=by omega
  subst hil
  have hall:b=true:=hb.out.2 fun n hn=>by
   obtain⟨j,hj,rfl⟩:=List.getElem_of_mem hn
   exact hI.out j hj hj
  rw[if_pos hall]
  exact z1
end Go.Proofs.Vx
namespace Go.Proofs.Vx
open Go Go.Sx Go.Proofs Tryz
attribute [local irreducible] fnT CallOK CallFr AW aK callV aL aJ aI aM gcaseP hid
def kP (r:RP):Prop:=¬ kK r∧eRP r=eH (fJ r)
structure RB (K:Nat) (r:RP):Prop where
 a:r.m1.size≤K
 b:r.m2.size≤K
 c:r.m3.size≤K
 d:r.m4.size≤K
theorem c7a {K:Nat} {r:RP} (h:RB K r) (hz:¬ kK r):BPl K (fJ r):=by
 obtain⟨d1,d2,d3,d4⟩:=mB (iv r.n1 r.m1) (iv r.n2 r.m2) (iv r.n3 r.m3) (iv r.n4 r.m4)
 have hG:0<g4 (iv r.n1 r.m1) (iv r.n2 r.m2) (iv r.n3 r.m3) (iv r.n4 r.m4):=by
  apply Nat.pos_of_ne_zero
  intro h0
  rw[h0]at d1 d2 d3
  exact hz ⟨by simpa using d1,by simpa using d2,by simpa using d3⟩
 have z1:=eJ r.n1 r.m1
 have z2:=eJ r.n2 r.m2
 have z3:=eJ r.n3 r.m3
 have z4:=eJ r.n4 r.m4
 have b1:=h.a
 have b2:=h.b
 have b3:=h.c
 have b4:=h.d
 exact⟨⟨Ac (m8 d1 hG) (by omega),Ac (m8 d2 hG) (by omega),Ac (m8 d3 hG) (by omega),Ac (m8 d4 hG) (by omega)⟩⟩
end Go.Proofs.Vx
namespace Go.Sx
set_option linter.unusedVariables false
set_option linter.unusedSimpArgs false
theorem GOk.ob {c:Cx} {g:Gh} {ob ob':Nat→AV} (h:GOk c g ob) (h1:∀ l,ObjOk g l (ob' l)) (h2:∀ l,aF g l (ob' l)=aF g l (ob l)):GOk c g ob' :=
 ⟨h.os,h.tape,h.output,h.size,h.old,h.fzo,h.fzn,h.fzx,h1,fun l b hb=>h.own l b (by rw[← h2];exact hb),fun l l' b hb hb'=>h.dis l l' b (by rw[← h2];exact hb) (by rw[← h2];exact hb')⟩
theorem c9d {P:Program} {nt:Nat} {R:AS→Prop} {kk:List Itm} {S:AS} {x:Code} (l k:Nat) (es:List (List AV)) (h:look S.o l=.vec k es) (hcont:∀ cp,AW P nt R (.code x::kk) { t:=S.t,o:=(l,.vcp k es cp)::S.o,nx:=S.nx }):AW P nt R (.code x::kk) S:=by
 intro c a w hP hs
 obtain⟨g,rfl,hg,ht,hsz,hu,hln,h8⟩:=hs
 refine hcont (g.des l).cap c a g.w hP ⟨g,rfl,hg.ob (fun l'=>?_) (fun l'=>?_),ht,hsz,hu,hln,h8⟩
 ·show ObjOk g l' (if l=l' then _ else _)
  split
  ·rename_i e;subst e
   have:=hg.obj l
   rw[h]at this
   exact⟨this,rfl⟩
  ·exact hg.obj l'
 ·show aF g l' (if l=l' then _ else _)=_
  split
  ·rename_i e;subst e;rw[h];rfl
  ·rfl
theorem b6c {S:AS} (l k:Nat) (es:List (List AV)) (cp:Nat) (h:look S.o l=.vcp k es cp):Weak S { t:=S.t,o:=(l,.vec k es)::S.o,nx:=S.nx }:=by
 intro c nt a w hs
 obtain⟨g,rfl,hg,ht,hsz,hu,hln,h8⟩:=hs
 refine⟨g,rfl,hg.ob (fun l'=>?_) (fun l'=>?_),ht,hsz,hu,hln,h8⟩
 ·show ObjOk g l' (if l=l' then _ else _)
  split
  ·rename_i e;subst e
   have:=hg.obj l
   rw[h]at this
   exact this.1
  ·exact hg.obj l'
 ·show aF g l' (if l=l' then _ else _)=_
  split
  ·rename_i e;subst e;rw[h];rfl
  ·rfl
end Go.Sx
namespace Go.Sx
set_option linter.unusedVariables false
set_option linter.unusedSimpArgs false
theorem a8l {S : AS} (N M d n o n' p m k : Nat) (es : List (List AV)) {t ob : List (Nat × AV)} (hd : look S.t d = .ref N o n' m) (hm0 : m = es.length) (hp : p ≤ es.length) (hN : look S.o N = .vec k es) (hcs : ∀ e ∈ es, ∀ c ∈ e, Flat c) (hN8 : 8 ≤ N) (hM8 : 8 ≤ M) (hMn : M < n) (h8 : 8 ≤ n)
  (ht:gH t S.t) (ho:gH ob S.o) (it:pB n M N t) (io:pC n M N ob):Weak S ⟨(d,.ref M o n' p)::t,(M,.vec k (es.take p))::ob,n⟩:=by
 intro c nt a w hs
 obtain⟨g,rfl,hg,htk,hsz,hu,hln,_⟩:=hs
 let g':Gh:={ g with us:=fun l=>(g.us l∧Mk n M N l)∨l=M,des:=fun l=>if l=M then g.des N else g.des l,len:=fun l=>if l=M then p else g.len l }
 have hK:∀ l,Mk n M N l→g.us l→g'.us l∧g'.blk l=g.blk l∧g'.des l=g.des l∧g'.len l=g.len l:=fun l hl hu=>⟨.inl ⟨hu,hl⟩,rfl,if_neg hl.2.2,if_neg hl.2.2⟩
 have hcar:∀ {x:AV} {v:Value},Rel g x v→In (Mk n M N) x→Rel g' x v:=fun h hi=>cX (g:=g) (g':=g') (K:=Mk n M N) (fun b hb=>⟨hb,rfl⟩) hK h hi
 have hT:=mY ht
 have hO:=mY ho
 have iT:=a6e it
 have iO:=a6f io
 have hlo:∀ q,look ob q=.any∨(Mk n M N q∧InC (Mk n M N) (look ob q)∧look S.o q=look ob q):=fun q=>by
  rcases @j6 ob q with h|h
  ·exact .inl h
  ·exact .inr ⟨(iO _ h).1,(iO _ h).2,hO _ h⟩
 have hokN:=hg.obj N
 have hownN:=hg.own N
 rw[hN]at hokN hownN
 have hdM:g'.des M=g.des N:=if_pos rfl
 have hlM:g'.len M=p:=if_pos rfl
 have hpl:(es.take p).length=p:=by rw[List.length_take];omega
 have hbl:∀ q b,q≠M→aF g' q (look ob q)=some b→q≠N∧aF g q (look S.o q)=some b:=by
  intro q b hq hb
  rcases hlo q with h|⟨k1,k2,k3⟩
  ·rw[h]at hb;simp[aF]at hb
  ·rw[k3]
   refine⟨k1.2.1,?_⟩
   generalize look ob q=x at hb ⊢
   have e:g'.des q=g.des q:=if_neg hq
   cases x<;>simp only[aF]at hb ⊢<;>first|exact hb|(rw[← e];exact hb)
 have hl2:∀ q,look ((M,AV.vec k (es.take p))::ob) q=if M=q then .vec k (es.take p)else look ob q:=fun q=>rfl
 have hblk2:∀ q b,aF g' q (look ((M,AV.vec k (es.take p))::ob) q)=some b→(q=M∧(g.des N).b=some b)∨(q≠M∧q≠N∧aF g q (look S.o q)=some b):=by
  intro q b hb
  rw[hl2]at hb
  by_cases hq:M=q
  ·rw[if_pos hq]at hb
   subst hq
   simp only[aF,hdM]at hb
   exact .inl ⟨rfl,hb⟩
  ·rw[if_neg hq]at hb
   obtain⟨k1,k2⟩:=hbl q b (fun e=>hq e.symm) hb
   exact .inr ⟨fun e=>hq e.symm,k1,k2⟩
 have hbN:∀ b,(g.des N).b=some b→aF g N (look S.o N)=some b:=fun b h=>by rw[hN];exact h
 refine⟨g',rfl,⟨hg.os,hg.tape,hg.output,hg.size,hg.old,hg.fzo,hg.fzn,hg.fzx,fun q=>?_,fun q b hb=>?_,fun q q' b hb hb'=>?_⟩,⟨htk.1,fun q=>?_⟩,hsz,fun l hl=>?_,?_,h8⟩
 ·show ObjOk g' q (look ((M,AV.vec k (es.take p))::ob) q)
  rw[hl2]
  by_cases hq:M=q
  ·rw[if_pos hq]
   subst hq
   obtain⟨h1,h2,h3,h4,h5,h6⟩:=hokN
   refine⟨.inr rfl,by rw[hdM];exact h2,by rw[hlM,hpl],h4,fun e he=>h5 e (List.mem_of_mem_take he),?_⟩
   rw[hdM]
   rcases h6 with⟨m1,m2,m3⟩|⟨b,vs,m1,m2,m3,m4,m5,m6,m7⟩
   ·exact .inl ⟨m1,by rw[m2,List.take_nil],m3⟩
   ·refine .inr ⟨b,vs,m1,m2,by omega,m4,m5,fun i i1 i2=>m6 i i1 (Nat.lt_of_lt_of_le i2 (Nat.mul_le_mul_right _ (by omega))),fun i i1 j i2 i3=>?_⟩
    have e1:(es.take p)[i]=es[i]'(by omega):=List.getElem_take
    have i1':i<es.length:=by omega
    have i2':j<es[i].length:=by rw[← e1];exact i2
    have:=(m7 i i1' j i2' i3).flat (g':=g') (hcs _ (Ag i1') _ (Ag i2'))
    simpa only[e1]using this
  ·rw[if_neg hq]
   rcases hlo q with h|⟨k1,k2,k3⟩
   ·rw[h];trivial
   ·have:=hg.obj q
    rw[k3]at this
    exact tB (g:=g) (g':=g') (K:=Mk n M N) rfl (fun b hb=>hb) hK k1 k2 this
 ·rcases hblk2 q b hb with⟨rfl,h⟩|⟨_,_,h⟩
  ·exact hg.own N b (hbN b h)
  ·exact hg.own q b h
 ·rcases hblk2 q b hb with⟨rfl,h⟩|⟨k1,k2,k3⟩<;>rcases hblk2 q' b hb' with⟨e1,e2⟩|⟨l1,l2,l3⟩
  ·exact e1.symm
  ·exact absurd (hg.dis N q' b (hbN b h) l3).symm l2
  ·exact absurd (hg.dis q N b k3 (hbN b e2)) k2
  ·exact hg.dis q q' b k3 l3
 ·show Rel g' (look ((d,AV.ref M o n' p)::t) q) _
  simp only[look]
  by_cases hq:d=q
  ·rw[if_pos hq]
   subst hq
   have:=htk.2 d
   rw[hd]at this
   generalize a.tmps.getD d undef=v at this
   cases this with
   | ref _ _ _ _ _ hu' hm' hc' hv'=>exact .ref (g:=g') M o n' p v (.inr rfl) (by rw[hlM];exact Ao _) hc' (fun _=>by rw[hdM];exact hv' (hm0.trans hokN.2.2.1.symm))
  ·rw[if_neg hq]
   rcases @j6 t q with h|h
   ·rw[h];exact .any _
   ·have h1:=hT _ h
    simp only at h1
    have h2:=htk.2 q
    rw[h1]at h2
    exact hcar h2 (iT _ h)
 ·rcases hl with⟨_,h⟩|rfl
  ·exact h.1
  ·exact hMn
 ·intro l hl
  obtain⟨h1,h2,h3⟩:=hln l hl
  have e1:l≠M:=by omega
  have e2:l≠N:=by omega
  refine⟨h1,.inl ⟨h2,by omega,e2,e1⟩,?_⟩
  have d1:g'.des l=g.des l:=if_neg e1
  have d2:g'.len l=g.len l:=if_neg e1
  rw[d1,d2]
  exact h3
theorem fl2 {V X:List (List AV)} {a c:Value} (hV:∀ e∈V,∀ x∈e,Flat x) (hX:∀ e∈X,e∈V):∀ e∈X++[[AV.lit a],[AV.lit c]],∀ x∈e,Flat x:=fun e he x hx=>by
 rcases List.mem_append.1 he with he|he
 ·exact hV e (hX e he) x hx
 ·simp only[zM,or_false]at he
  rcases he with rfl|rfl<;>obtain rfl:=List.mem_singleton.1 hx<;>exact .lit _
theorem i8 {S : AS} (N M d n o o' n' q p m k : Nat) (es es' : List (List AV)) {t ob : List (Nat × AV)} (hd : look S.t d = .ref N o q m) (ho : o = o') (hq : q = n') (hm : m = es.length) (hp : es'.length = p) (hN : look S.o N = .vec k es) (he : es = es') (hcs : ∀ e ∈ es, ∀ c ∈ e, Flat c) (hN8 : 8 ≤ N) (hM8 : 8 ≤ M) (hMn : M < n) (h8 : 8 ≤ n)
  (h:gH t S.t∧gH ob S.o∧pB n M N t∧pC n M N ob):Weak S ⟨(d,.ref M o' n' p)::t,(M,.vec k es')::ob,n⟩:=by
 subst ho hq he hp
 have:=a8l N M d n o q es.length m k es hd hm (Ao _) hN hcs hN8 hM8 hMn h8 h.1 h.2.1 h.2.2.1 h.2.2.2
 rwa [List.take_length]at this
@[irreducible] def Hold (p:Prop):Prop:=p
theorem Hold.out {p:Prop} (h:p):Hold p:=by unfold Hold;exact h
theorem Hold.use {p:Prop} (h:Hold p):p:=by unfold Hold at h;exact h
theorem b4v {P : Program} {f l L k : Nat} {es : List (List AV)} {i : Nat} {ob : Nat → AV} {E : Eff → Prop} {b : Value} (r : AV) (hf : fnT P f = true) (hc : CallOK P f [.sl es, .lit b] [] r []) (hob : ob l = .vec k es) (hL : es.length = L) (hin : ∀ e ∈ es, ∀ c ∈ e, In (fun _ => False) c) (hr : Flat r)
  (h:E ⟨r,[],[l]⟩):callV P f [.ref l 0 L L,.lit b] i ob E:=by
 refine dY r hf ?_ ?_ hr h
 ·simp only[Ak,Am,bwa,uK hob hL];exact hc
 ·simp only[Ak,Am,bwa,uK hob hL,Ai,Af,or_false]
  rintro a (rfl|rfl)
  ·exact .sl es hin
  ·exact .lit _
def a2z (n:Nat):Code→Bool
 | .region m _ _=>m == n
 | _=>false
theorem c9e {P:Program} {nt:Nat} {R:AS→Prop} {kk:List Itm} {S:AS} {x:Code} {k:Nat} {es:List (List AV)} (n l:Nat) (hx:a2z n x=true) (h:look S.o l=.vec k es) (hcont:∀ cp,AW P nt R (.code x::kk) { t:=S.t,o:=(l,.vcp k es cp)::S.o,nx:=S.nx }):AW P nt R (.code x::kk) S:=c9d l k es h hcont
theorem a1o {P:Program} {nt:Nat} {R:AS→Prop} {kk:List Itm} {S:AS} {x:Code} {k:Nat} {es:List (List AV)} (n l:Nat) (hx:a2z n x=true) (h:look S.o l=.vec k es) (hcont:∀ cp,es.length≤cp→AW P nt R (.code x::kk) { t:=S.t,o:=(l,.vcp k es cp)::S.o,nx:=S.nx }):AW P nt R (.code x::kk) S:=by
 intro c a w hP hs
 obtain⟨g,rfl,hg,ht,hsz,hu,hln,h8⟩:=id hs
 have hle:es.length≤(g.des l).cap:=by
  have:=hg.obj l
  rw[h]at this
  rcases this.2.2.2.2.2 with⟨_,e,_⟩|⟨_,_,_,_,e,_⟩
  ·rw[e];exact An _
  ·exact e
 refine hcont (g.des l).cap hle c a g.w hP ⟨g,rfl,hg.ob (fun l'=>?_) (fun l'=>?_),ht,hsz,hu,hln,h8⟩
 ·show ObjOk g l' (if l=l' then _ else _)
  split
  ·rename_i e;subst e
   have:=hg.obj l
   rw[h]at this
   exact⟨this,rfl⟩
  ·exact hg.obj l'
 ·show aF g l' (if l=l' then _ else _)=_
  split
  ·rename_i e;subst e;rw[h];rfl
  ·rfl
theorem xC {S : AS} (N M d n n' q m k : Nat) (es es' : List (List AV)) {t ob : List (Nat × AV)} (hd : look S.t d = .ref N 0 q m) (hq : q = n') (hm : m = es.length) (hp : n' ≤ es.length) (hN : look S.o N = .vec k es) (he : es.take n' = es') (hcs : ∀ e ∈ es, ∀ c ∈ e, Flat c) (hN8 : 8 ≤ N) (hM8 : 8 ≤ M) (hMn : M < n) (h8 : 8 ≤ n)
  (h:gH t S.t∧gH ob S.o∧pB n M N t∧pC n M N ob):Weak S ⟨(d,.ref M 0 n' n')::t,(M,.vec k es')::ob,n⟩:=by
 subst hq
 rw[← he]
 exact a8l N M d n 0 q q m k es hd hm hp hN hcs hN8 hM8 hMn h8 h.1 h.2.1 h.2.2.1 h.2.2.2
theorem xS {P:Program} {nt:Nat} {R:AS→Prop} {kk:List Itm} {S:AS} {x:Code} (n:Nat) (hx:a2z n x=true) (h:Hold (AW P nt R (.code x::kk) S)):AW P nt R (.code x::kk) S:=h.use
end Go.Sx
