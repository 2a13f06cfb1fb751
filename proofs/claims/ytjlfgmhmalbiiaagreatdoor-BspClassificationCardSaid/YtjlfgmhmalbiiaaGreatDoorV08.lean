import Derived.Deep.LoopGhost
import Derived.ControlIn
import Derived.Test.YtjlfgmhmalbiiaaGreatDoorV07
set_option linter.all false
namespace Go.Sx
set_option linter.unusedVariables false
set_option linter.unusedSimpArgs false
theorem a9f {F : Fence} {n : Nat} {P : Program} {Q : Exit → Act → World → Prop} {a : Act} {w : World} {c : Code} (I : Nat → Act → World → Prop) (n₀ : Nat) (h₀ : I n₀ a w)
  (round:∀ m a w,I m a w→c.wpIn F n P (Exit.then (fun a' w'=>∃ n',n'<m∧I n' a' w') Q) a w):(Code.loop c).wpIn F n P Q a w:=by
 refine wpIn_loop (fun a w=>∃ n,I n a w) (fun a w=>leastOf (fun n=>I n a w)) ⟨n₀,h₀⟩ ?_
 intro a w hI
 refine wpIn_mono (round _ a w (leastOf_spec hI).1) ?_
 intro e a' w' hq
 cases e with
 | normal =>
  obtain⟨n',hlt,hI'⟩:=hq
  exact show (∃ n,I n a' w')∧leastOf (fun n=>I n a' w')<leastOf (fun n=>I n a w)from⟨⟨n',hI'⟩,Nat.lt_of_le_of_lt ((leastOf_spec ⟨n',hI'⟩).2 n' hI') hlt⟩
 | exit id=>exact hq
 | goto l=>exact hq
 | ret=>exact hq
 | panic ch=>exact hq
 | outgrown=>exact hq
abbrev mark (D:Nat):Deferred:={ target:=.collected D,args:=#[] }
def Mkd (c:Cx) (g:Gh) (ob:Nat→AV) (D:Nat):Prop:=c.w0.heap.size≤D∧¬ g.fz D∧(∀ l b,aE g l (ob l)=some b→b≠D)∧g.w.heap[D]?=some (.deferred (some []))
structure Le (c c':Cx):Prop where
 P:c'.P=c.P
 ro:c'.ro=c.ro
 sz:c.w0.heap.size≤c'.w0.heap.size
 back:∀ g ob,GOk c' g ob→GOk c g ob
 lnk:∀ g,Lnk c' g→Lnk c g
 ds:∃ Ds:List Nat,c'.ds=Ds.map mark++c.ds∧Ds.Nodup∧∀ D∈Ds,D<c'.w0.heap.size∧c.w0.heap.size≤D∧∀ g ob,GOk c' g ob→Mkd c g ob D
theorem Le.refl (c:Cx):Le c c:=⟨rfl,rfl,Nat.le_refl _,fun _ _ h=>h,fun _ h=>h,[],rfl,List.Pairwise.nil,fun D h=>by simp at h⟩
theorem Le.trans {a b c:Cx} (h:Le a b) (k:Le b c):Le a c:=by
 obtain⟨Ds,d1,d2,d3⟩:=h.ds
 obtain⟨Es,e1,e2,e3⟩:=k.ds
 refine⟨k.P.trans h.P,k.ro.trans h.ro,Nat.le_trans h.sz k.sz,fun g ob q=>h.back g ob (k.back g ob q),fun g q=>h.lnk g (k.lnk g q),Es++Ds,by rw[e1,d1];simp,?_,?_⟩
 ·rw[List.nodup_append]
  refine⟨e2,d2,fun x hx y hy e=>?_⟩
  subst e
  exact absurd (d3 x hy).1 (Nat.not_lt.2 (e3 x hx).2.1)
 ·intro D hD
  rcases List.mem_append.1 hD with hD|hD
  ·obtain⟨h1,h0,h2⟩:=e3 D hD
   refine⟨h1,Nat.le_trans h.sz h0,fun g ob q=>?_⟩
   obtain⟨q1,q2,q3,q4⟩:=h2 g ob q
   exact⟨Nat.le_trans h.sz q1,q2,q3,q4⟩
  ·obtain⟨h1,h0,h2⟩:=d3 D hD
   exact⟨Nat.lt_of_lt_of_le h1 k.sz,h0,fun g ob q=>h2 g ob (k.back g ob q)⟩
def iP (c:Cx) (nt:Nat) (Q:Exit→AS→Prop):Exit→Act→World→Prop
 | .panic _,_,_|.outgrown,_,_=>False
 | e,a,w=>∃ c' S,Le c c'∧Q e S∧Sim c' nt S a w
theorem b7m {c c':Cx} {nt:Nat} {Q:Exit→AS→Prop} (hl:Le c c') (e:Exit) (a:Act) (w:World):iP c' nt Q e a w→iP c nt Q e a w:=by
 cases e<;>simp only[iP]<;>first|exact fun h=>h.elim|(rintro⟨d,S,h0,h1,h2⟩;exact⟨d,S,hl.trans h0,h1,h2⟩)
def AWp (P:Program) (nt:Nat) (code:Code) (Q:Exit→AS→Prop) (S:AS):Prop :=
 ∀ c a w,c.P=P→Sim c nt S a w→code.wpIn (Fw c.ro) 0 P (iP c nt Q) a w
theorem AWp.le {P:Program} {nt:Nat} {code:Code} {Q:Exit→AS→Prop} {S:AS} (h:AWp P nt code Q S) {c c':Cx} (hl:Le c c') (hP:c.P=P) {a:Act} {w:World} (hs:Sim c' nt S a w):code.wpIn (Fw c.ro) 0 P (iP c nt Q) a w:=by
 have:=h c' a w (hl.P.trans hP) hs
 rw[hl.ro]at this
 exact wpIn_mono this (b7m hl)
inductive Itm where
 | code (c:Code)
 | blk (id:Nat)
 | stop (I:AS→Prop)
def Qof (P:Program) (nt:Nat) (R:AS→Prop):List Itm→Exit→AS→Prop
 | [],.normal,S=>R S
 | [],.ret,S=>R S
 | [],_,_=>False
 | .code c::k,.normal,S=>AWp P nt c (Qof P nt R k) S
 | .code _::k,e,S=>Qof P nt R k e S
 | .blk id::k,.exit j,S=>if j=id then Qof P nt R k .normal S else Qof P nt R k (.exit j) S
 | .blk _::k,e,S=>Qof P nt R k e S
 | .stop I::_,.normal,S=>I S
 | .stop _::k,e,S=>Qof P nt R k e S
def AW (P:Program) (nt:Nat) (R:AS→Prop) (k:List Itm) (S:AS):Prop:=Qof P nt R k .normal S
variable {P:Program} {nt:Nat} {R:AS→Prop} {k:List Itm} {S:AS}
theorem AW.nil (h:R S):AW P nt R [] S:=h
theorem AW.blk {id:Nat} (h:AW P nt R k S):AW P nt R (.blk id::k) S:=h
theorem AW.stop {I:AS→Prop} (h:I S):AW P nt R (.stop I::k) S:=h
theorem AW.skip (h:AW P nt R k S):AW P nt R (.code .skip::k) S:=fun c a w _ hs=>wpIn_skip ⟨c,S,.refl c,h,hs⟩
theorem AW.seq {x y:Code} (h:AW P nt R (.code x::.code y::k) S):AW P nt R (.code (.seq x y)::k) S:=by
 intro c a w hP hs
 refine wpIn_seq (wpIn_mono (h c a w hP hs) ?_)
 intro e a' w' hq
 cases e<;>simp only[Exit.then]<;>simp only[iP]at hq
 ·obtain⟨c',S',hl,h1,h2⟩:=hq
  exact AWp.le h1 hl hP h2
 all_goals first|exact hq.elim|exact hq
def unwind (id:Nat):List Itm→Option (List Itm)
 | []=>none
 | .blk j::k=>if id=j then some k else unwind id k
 | _::k=>unwind id k
theorem b9h {id:Nat} {k':List Itm}:∀ {k:List Itm},unwind id k=some k'→Qof P nt R k' .normal S→Qof P nt R k (.exit id) S:=by
 intro k
 induction k with
 | nil=>intro h;simp[unwind]at h
 | cons x k ih =>
  intro h hq
  cases x with
  | code c=>simp only[unwind]at h;exact ih h hq
  | stop I=>simp only[unwind]at h;exact ih h hq
  | blk j =>
   simp only[unwind]at h
   simp only[Qof]
   split at h
   ·rename_i e
    simp only[Option.some.injEq]at h
    subst h
    rw[if_pos e]
    exact hq
   ·rename_i e
    rw[if_neg e]
    exact ih h hq
theorem c2x:∀ {k:List Itm},R S→Qof P nt R k .ret S:=by
 intro k
 induction k with
 | nil=>exact fun h=>h
 | cons x k ih=>intro h;cases x<;>exact ih h
theorem AW.exit {id:Nat} {k':List Itm} (hu:unwind id k=some k') (h:AW P nt R k' S):AW P nt R (.code (.exit id)::k) S:=fun c a w _ hs=>wpIn_exit ⟨c,S,.refl c,b9h hu h,hs⟩
theorem AW.ret (h:R S):AW P nt R (.code .ret::k) S:=fun c a w _ hs=>wpIn_ret ⟨c,S,.refl c,c2x h,hs⟩
theorem AW.block {id:Nat} {x:Code} (h:AW P nt R (.code x::.blk id::k) S):AW P nt R (.code (.block id x)::k) S:=by
 intro c a w hP hs
 refine wpIn_block (wpIn_mono (h c a w hP hs) ?_)
 intro e a' w' hq
 cases e<;>simp only[Exit.inBlock]<;>simp only[iP]at hq ⊢<;>(try exact hq)
 obtain⟨c',S',hl,h1,h2⟩:=hq
 simp only[Qof]at h1
 split
 ·rename_i e
  rw[if_pos e]at h1
  exact⟨c',S',hl,h1,h2⟩
 ·rename_i e
  rw[if_neg e]at h1
  exact⟨c',S',hl,h1,h2⟩
theorem AW.cond {c:Operand} {x y:Code} {b:Bool} (hc:rdO (look S.t) c=.lit (.bool b)) (ht:b=true→AW P nt R (.code x::k) S) (hf:b=false→AW P nt R (.code y::k) S):AW P nt R (.code (.cond c x y)::k) S:=by
 intro cx a w hP hs
 have hev:a.eval c=.bool b:=by
  obtain⟨g,rfl,hg,htk,_⟩:=hs
  have:=yK htk c
  rw[hc]at this
  generalize a.eval c=v at this
  cases this
  rfl
 exact wpIn_cond_split hev (fun e=>ht e cx a w hP hs) (fun e=>hf e cx a w hP hs)
theorem AW.region {id:Nat} {ops:Array Oper} (h:aN P nt ops.toList ops.toList 0 S [] fun S' _=>AW P nt R k { S' with nx:=S.nx+ops.size }):AW P nt R (.code (.region id ops false)::k) S:=by
 intro c a w hP hs
 subst hP
 exact wpIn_region (b1a h hs fun S' fs a w hk hs'=>⟨c,_,.refl c,hk,hs'⟩)
theorem c2z {id : Nat} {ops : Array Oper} (hm : P.follows .mixedOrders = true) (h : aN P nt ops.toList ops.toList 0 S [] fun S' fs => mA ops fs = true ∧ AW P nt R k { S' with nx := S.nx + ops.size }) :
  AW P nt R (.code (.region id ops true)::k) S:=by
 intro c a w hP hs
 subst hP
 refine wpIn_region_any hm (b1b h ?_ fun S' fs a w hk hs'=>⟨c,_,.refl c,hk,hs'⟩)
 obtain⟨g,rfl,hg,ht,hsz,hu,hln,h8⟩:=hs
 obtain⟨he,hg'⟩:=hg.same { g.w with drawn:=g.w.drawn+1 } rfl rfl ⟨rfl,Nat.le_succ _⟩ rfl
 exact⟨_,rfl,hg',ht.mono he,hsz,hu,hln.mono he,h8⟩
def Weak (S T:AS):Prop:=∀ c nt a w,Sim c nt S a w→Sim c nt T a w
theorem Weak.trans {S T U:AS} (h:Weak S T) (h':Weak T U):Weak S U:=fun c nt a w hs=>h' c nt a w (h c nt a w hs)
theorem AW.weak {x:Code} {T:AS} (hw:Weak S T) (h:AW P nt R (.code x::k) T):AW P nt R (.code x::k) S:=fun c a w hP hs=>h c a w hP (hw c nt a w hs)
theorem AW.loop {x:Code} {α:Type} (St:α→AS) (μ:α→Nat) (x0:α) (h0:Weak S (St x0)) (h:∀ z,AW P nt R (.code x::.stop (fun S'=>∃ z',Weak S' (St z')∧μ z'<μ z)::k) (St z)):AW P nt R (.code (.loop x)::k) S:=by
 intro c a w hP hs
 refine a9f (fun n a w=>∃ z c',μ z=n∧Le c c'∧Sim c' nt (St z) a w) (μ x0) ⟨x0,c,rfl,.refl c,h0 c nt a w hs⟩ ?_
 rintro n a w ⟨z,c',rfl,hl,hz⟩
 refine wpIn_mono (AWp.le (h z) hl hP hz) ?_
 intro e a' w' hq
 cases e<;>simp only[Exit.then]<;>simp only[iP]at hq ⊢<;>(try exact hq)
 obtain⟨c2,S',hl2,⟨z',h1,h2⟩,h3⟩:=hq
 exact⟨_,h2,z',c2,rfl,hl2,h1 c2 nt a' w' h3⟩
theorem a6e {x:Code} {α:Type} (J:α→AS) (h:AW P nt R (.code x::.stop (fun S'=>∃ z,Weak S' (J z))::k) S) (h2:∀ z,AW P nt R k (J z)):AW P nt R (.code x::k) S:=by
 intro c a w hP hs
 refine wpIn_mono (h c a w hP hs) ?_
 intro e a' w' hq
 cases e<;>simp only[iP]at hq ⊢<;>(try exact hq)
 obtain⟨c2,S',hl2,⟨z,h1⟩,h3⟩:=hq
 exact⟨c2,_,hl2,h2 z,h1 c2 nt a' w' h3⟩
theorem a1v {S:AS} {t o:List (Nat × AV)} {nx:Nat} (ht:∀ p∈t,look S.t p.1=p.2) (ho:∀ p∈o,look S.o p.1=p.2) (hnx:S.nx≤nx):Weak S ⟨t,o,nx⟩:=by
 have hl:∀ (l s:List (Nat × AV)),(∀ p∈l,look s p.1=p.2)→∀ k,look l k=.any∨look l k=look s k:=by
  intro l s
  induction l with
  | nil=>intro _ k;exact .inl rfl
  | cons p l ih =>
   intro h k
   obtain⟨i,a⟩:=p
   simp only[look]
   by_cases hi:i=k
   ·rw[if_pos hi]
    right
    have:=h (i,a) (by simp)
    simp only at this
    rw[← hi,this]
   ·rw[if_neg hi]
    exact ih (fun p hp=>h p (by simp[hp])) k
 intro c nt a w hs
 obtain⟨g,rfl,hg,htk,hsz,hu,hln,h8⟩:=hs
 have hlo:=hl o S.o ho
 have hlt:=hl t S.t ht
 have hbl:∀ l b,aE g l (look o l)=some b→aE g l (look S.o l)=some b:=by
  intro l b hb
  rcases hlo l with h|h
  ·rw[h]at hb;simp[aE]at hb
  ·rw[← h];exact hb
 refine⟨g,rfl,⟨hg.os,hg.tape,hg.output,hg.size,hg.old,hg.fzo,hg.fzn,hg.fzx,fun l=>?_,fun l b hb=>hg.own l b (hbl l b hb),fun l l' b hb hb'=>hg.dis l l' b (hbl l b hb) (hbl l' b hb')⟩,⟨htk.1,fun k=>?_⟩,hsz,fun l hl=>Nat.lt_of_lt_of_le (hu l hl) hnx,hln,Nat.le_trans h8 hnx⟩
 ·show ObjOk g l (look o l)
  rcases hlo l with h|h
  ·rw[h];trivial
  ·rw[h];exact hg.obj l
 ·show Rel g (look t k) _
  rcases hlt k with h|h
  ·rw[h];exact .any _
  ·rw[h];exact htk.2 k
end Go.Sx
namespace Go.Sx
set_option linter.unusedVariables false
set_option linter.unusedSimpArgs false
def InS (K:Nat→Prop) (S:AS):Prop:=(∀ p∈S.t,In K p.2)∧(∀ p∈S.o,K p.1∧InC K p.2)
theorem jM:∀ {l:List (Nat × AV)} {k:Nat},look l k=.any∨(k,look l k)∈l:=by
 intro l
 induction l with
 | nil=>intro k;exact .inl rfl
 | cons p l ih =>
  intro k
  obtain⟨i,a⟩:=p
  simp only[look]
  by_cases hi:i=k
  ·rw[if_pos hi,hi];exact .inr (by simp)
  ·rw[if_neg hi]
   rcases @ih k with h|h
   ·exact .inl h
   ·exact .inr (by simp[h])
theorem rK {g g':Gh} {K:Nat→Prop} {l:Nat} {a:AV} (hw:g'.w=g.w) (hf:∀ b,g.fz b→g'.fz b) (hK:∀ l,K l→g.us l→g'.us l∧g'.blk l=g.blk l∧g'.des l=g.des l∧g'.len l=g.len l) (hl:K l) (hi:InC K a) (h:ObjOk g l a):ObjOk g' l a:=by
 have hcar:∀ {x v},Rel g x v→In K x→Rel g' x v:=fun h hi=>cY (g:=g) (g':=g') (K:=K) (fun b hb=>⟨hf b hb,by rw[hw]⟩) hK h hi
 cases a with
 | blk cs =>
  obtain⟨hu,vs,e,h1,h2,h3,h4⟩:=h
  obtain⟨u1,u2,u3,u4⟩:=hK l hl hu
  exact⟨u1,vs,e,by rw[hw,u2];exact h1,h2,h3,fun i a1 a2=>hcar (h4 i a1 a2) (hi _ (List.getElem_mem a1))⟩
 | vec k es =>
  obtain⟨hu,h1,h2,h3,h4,h5⟩:=h
  obtain⟨u1,u2,u3,u4⟩:=hK l hl hu
  refine⟨u1,by rw[u3];exact h1,by rw[u4];exact h2,h3,h4,?_⟩
  rw[u3,hw]
  rcases h5 with h5|⟨b,vs,h6,h7,h8,h9,h10,h11,h12⟩
  ·exact .inl h5
  ·exact .inr ⟨b,vs,h6,h7,h8,h9,h10,h11,fun i a1 j a2 a3=>hcar (h12 i a1 j a2 a3) (hi _ (List.getElem_mem a1) _ (List.getElem_mem a2))⟩
 | vcp k es cp =>
  obtain⟨⟨hu,h1,h2,h3,h4,h5⟩,h6⟩:=h
  obtain⟨u1,u2,u3,u4⟩:=hK l hl hu
  refine⟨⟨u1,by rw[u3];exact h1,by rw[u4];exact h2,h3,h4,?_⟩,by rw[u3];exact h6⟩
  rw[u3,hw]
  rcases h5 with h5|⟨b,vs,h6,h7,h8,h9,h10,h11,h12⟩
  ·exact .inl h5
  ·exact .inr ⟨b,vs,h6,h7,h8,h9,h10,h11,fun i a1 j a2 a3=>hcar (h12 i a1 j a2 a3) (hi _ (List.getElem_mem a1) _ (List.getElem_mem a2))⟩
 | mpo es =>
  obtain⟨hu,arr,clock,h1,h2⟩:=h
  obtain⟨u1,u2,u3,u4⟩:=hK l hl hu
  exact⟨u1,arr,clock,by rw[hw,u2];exact h1,h2⟩
 | ito m n s =>
  obtain⟨hu,hm,h1⟩:=h
  obtain⟨u1,u2,u3,u4⟩:=hK l hl hu
  obtain⟨v1,v2,v3,v4⟩:=hK m hi hm
  exact⟨u1,v1,by rw[hw,u2,v2];exact h1⟩
 | lpo L fn nt ps asg body ts =>
  obtain⟨hu,hL,tm,df,h1,h2,h3⟩:=h
  obtain⟨u1,u2,u3,u4⟩:=hK l hl hu
  exact⟨u1,u2.trans hL,tm,df,by rw[hw];exact h1,h2,fun t=>hcar (h3 t) (vG hi t)⟩
 | _=>trivial
theorem b1u {S:AS} {n:Nat} (h8:8≤n) (h:InS (fun l=>l<n) S):Weak S { S with nx:=n }:=by
 intro c nt a w hs
 obtain⟨g,rfl,hg,htk,hsz,hu,hln,_⟩:=hs
 let g':Gh:={ g with us:=fun l=>g.us l∧l<n }
 have hK:∀ l,l<n→g.us l→g'.us l∧g'.blk l=g.blk l∧g'.des l=g.des l∧g'.len l=g.len l:=fun l hl hu=>⟨⟨hu,hl⟩,rfl,rfl,rfl⟩
 have hblk:∀ l x,aE g' l x=aE g l x:=fun l x=>by cases x<;>rfl
 refine⟨g',rfl,⟨hg.os,hg.tape,hg.output,hg.size,hg.old,hg.fzo,hg.fzn,hg.fzx,fun l=>?_,fun l b hb=>?_,fun l l' b hb hb'=>?_⟩,⟨htk.1,fun k=>?_⟩,hsz,fun l hl=>hl.2,fun l hl=>by obtain⟨h1,h2,h3⟩:=hln l hl;exact⟨h1,⟨h2,by omega⟩,h3⟩,h8⟩
 ·rcases @jM S.o l with h1|h1
  ·rw[h1];trivial
  ·exact rK (g:=g) (g':=g') (K:=fun l=>l<n) rfl (fun b hb=>hb) hK (h.2 _ h1).1 (h.2 _ h1).2 (hg.obj l)
 ·rw[hblk]at hb;exact hg.own l b hb
 ·rw[hblk]at hb hb';exact hg.dis l l' b hb hb'
 ·have hin:In (fun l=>l<n) (look S.t k):=by
   rcases @jM S.t k with h1|h1
   ·rw[h1];exact .any
   ·exact h.1 _ h1
  exact cY (g:=g) (g':=g') (K:=fun l=>l<n) (fun b hb=>⟨hb,rfl⟩) hK (htk.2 k) hin
theorem Weak.nil {S:AS} (d k:Nat) (hk:0<k) (h:look S.t d=.lit (.slice none 0 0)):Weak S { t:=(d,.ref S.nx 0 0 0)::S.t,o:=(S.nx,.vec k [])::S.o,nx:=S.nx+1 }:=by
 intro c nt a w hs
 obtain⟨g,rfl,hg,htk,hsz,hu,hln,h8⟩:=hs
 obtain⟨g',a1,a2,a3,a4,a5⟩:=yP hg S.nx k 0 (fun h=>by have:=hu _ h;omega) hk
 refine⟨g',a1,a3,⟨htk.1,fun t=>?_⟩,hsz,fun l hl=>?_,hln.mono a2,by simp only;omega⟩
 ·simp only[look]
  by_cases ht:d=t
  ·subst ht
   rw[if_pos rfl]
   have:=htk.2 d
   rw[h]at this
   generalize a.tmps.getD d undef=v at this
   cases this
   exact a4
  ·rw[if_neg ht]
   exact (htk.2 t).mono a2
 ·rcases a5 l hl with h|h
  ·have:=hu l h;simp only;omega
  ·simp only;omega
theorem jK {S:AS} (l j k:Nat) (cs:List AV) (hk:0<k) (h:look S.o l=.blk cs) (hj:j<cs.length) (hn:cs[j]=.lit (.slice none 0 0)) (hl:l<S.nx):Weak S { t:=S.t,o:=(l,.blk (cs.set j (.ref S.nx 0 0 0)))::(S.nx,.vec k [])::S.o,nx:=S.nx+1 }:=by
 intro c nt a w hs
 obtain⟨g,rfl,hg,htk,hsz,hu,hln,h8⟩:=hs
 obtain⟨g',a1,a2,a3,a4,a5⟩:=yP hg S.nx k 0 (fun h=>by have:=hu _ h;omega) hk
 have hne:S.nx≠l:=by omega
 have hok:=a3.obj l
 have hb0:aE g' l (upd (look S.o) [(S.nx,.vec k [])] l)=some (g'.blk l):=by simp only[upd,if_neg hne,h,aE]
 simp only[upd,if_neg hne,h]at hok
 obtain⟨h1,vs,e,h2,h3,h4,h5⟩:=hok
 have a6:GOk c g' (upd (upd (look S.o) [(S.nx,.vec k [])]) [(l,.blk (cs.set j (.ref S.nx 0 0 0)))]):=by
  refine a3.turn (Ev.refl g') l _ rfl Tp.rfl rfl (Nat.le_refl _) rfl (fun _ _=>⟨rfl,rfl,rfl⟩) (fun b _ _=>rfl) ⟨h1,vs,e,h2,by simpa using h3,h4,fun i i1 i2=>?_⟩ (fun b hb=>.inl ?_)
  ·by_cases hij:j=i
   ·subst hij
    have:=h5 j hj i2
    rw[hn]at this
    simp only[List.getElem_set_self]
    generalize vs[j]=x at this
    cases this
    exact a4
   ·rw[List.getElem_set_ne hij]
    exact h5 i (by simpa using i1) i2
  ·rw[hb0]
   exact hb
 refine⟨g',a1,a6,⟨htk.1,fun t=>(htk.2 t).mono a2⟩,hsz,fun l' hl'=>?_,hln.mono a2,by simp only;omega⟩
 rcases a5 l' hl' with h|h
 ·have:=hu l' h;simp only;omega
 ·simp only;omega
def fzl (l:Nat) (c:AV) (a:AV):AV :=
 match a with
 | .loc l' o=>if l'=l then bw (fun _=>c) (.loc l' o)else a
 | .vp l' i j m=>if l'=l then bw (fun _=>c) (.vp l' i j m)else a
 | .ref l' o n m=>if l'=l then bw (fun _=>c) (.ref l' o n m)else a
 | .bs l' o k n=>if l'=l then bw (fun _=>c) (.bs l' o k n)else a
 | .agg cs=>.agg (cs.map fun x=>match x with
  | .loc l' o=>if l'=l then bw (fun _=>c) (.loc l' o)else x
  | .vp l' i j m=>if l'=l then bw (fun _=>c) (.vp l' i j m)else x
  | .ref l' o n m=>if l'=l then bw (fun _=>c) (.ref l' o n m)else x
  | .bs l' o k n=>if l'=l then bw (fun _=>c) (.bs l' o k n)else x
  | x=>x)
 | a=>a
def jQ (g:Gh) (l:Nat) (c:AV):Gh:={ g with fz:=fun b=>g.fz b∨aE g l c=some b }
theorem rP (g:Gh) (l:Nat) (c:AV):Ev g (jQ g l c):=⟨fun b hb=>⟨.inl hb,rfl⟩,fun l hl=>⟨hl,rfl,Nat.le_refl _,fun _=>rfl⟩⟩
theorem GOk.only {c:Cx} {g:Gh} {ob:Nat→AV} (h:GOk c g ob) (l:Nat):GOk c g (fun l'=>if l'=l then ob l else .any):=by
 have hb:∀ l' b,aE g l' (if l'=l then ob l else .any)=some b→l'=l∧aE g l (ob l)=some b:=by
  intro l' b hb
  split at hb
  ·rename_i e;subst e;exact⟨rfl,hb⟩
  ·simp[aE]at hb
 refine⟨h.os,h.tape,h.output,h.size,h.old,h.fzo,h.fzn,h.fzx,fun l'=>?_,fun l' b hl=>h.own l b (hb l' b hl).2,fun l1 l2 b h1 h2=>(hb l1 b h1).1.trans (hb l2 b h2).1.symm⟩
 show ObjOk g l' (if l'=l then ob l else .any)
 split
 ·rename_i e;subst e;exact h.obj l'
 ·trivial
theorem c0t {c:Cx} {g:Gh} {ob:Nat→AV} (hg:GOk c g ob) (l:Nat) {a:AV} {v:Value} (hid:oC a=[l]) (h:Rel g a v):Rel (jQ g l (ob l)) (bw (fun _=>ob l) a) v:=by
 have h1:=nS (hg.only l) h
 have e:bw (fun l'=>if l'=l then ob l else .any) a=bw (fun _=>ob l) a:=u5 fun l' hl'=>by
  rw[hid]at hl'
  simp only[List.mem_singleton]at hl'
  subst hl'
  simp
 rw[← e]
 have hev:Ev (gF g fun l'=>if l'=l then ob l else .any) (jQ g l (ob l)):=by
  refine⟨fun b hb=>⟨?_,rfl⟩,fun l hl=>⟨hl,rfl,Nat.le_refl _,fun _=>rfl⟩⟩
  rcases hb with hb|⟨l',hb⟩
  ·exact .inl hb
  ·right
   dsimp only at hb
   split at hb
   ·rename_i e;subst e;exact hb
   ·simp[aE]at hb
 exact h1.mono hev
theorem a4w {c:Cx} {g:Gh} {ob:Nat→AV} (hg:GOk c g ob) (l:Nat) {a:AV} {v:Value} (h:Rel g a v):Rel (jQ g l (ob l)) (fzl l (ob l) a) v:=by
 have single:∀ {x:AV} {v:Value},Rel g x v→Rel (jQ g l (ob l)) (match x with
  | .loc l' o=>if l'=l then bw (fun _=>ob l) (.loc l' o)else x
  | .vp l' i j m=>if l'=l then bw (fun _=>ob l) (.vp l' i j m)else x
  | .ref l' o n m=>if l'=l then bw (fun _=>ob l) (.ref l' o n m)else x
  | .bs l' o k n=>if l'=l then bw (fun _=>ob l) (.bs l' o k n)else x
  | x=>x) v:=by
  intro x v h
  cases x<;>simp only<;>(try exact h.mono (rP g l (ob l))) <;>
  ·split
   ·rename_i e
    subst e
    exact c0t hg _ rfl h
   ·exact h.mono (rP g l (ob l))
 cases a with
 | agg cs =>
  cases h with
  | agg _ vs hs ho hr =>
   refine .agg _ _ (by simpa using hs) ho fun i h1 h2=>?_
   simp only[List.getElem_map]
   exact single (hr i (by simpa using h1) h2)
 | loc l' o=>exact single h
 | vp l' i j m=>exact single h
 | ref l' o n m=>exact single h
 | bs l' o k n=>exact single h
 | _=>exact h.mono (rP g l (ob l))
theorem w6 {S:AS} (l:Nat) {t o:List (Nat × AV)} (ht:∀ p∈t,look S.t p.1=p.2∨fzl l (look S.o l) (look S.t p.1)=p.2) (ho:∀ p∈o,p.1≠l∧look S.o p.1=p.2):Weak S ⟨t,o,S.nx⟩:=by
 intro c nt a w hs
 obtain⟨g,rfl,hg,htk,hsz,hu,hln,h8⟩:=hs
 have hlo:∀ k,look o k=.any∨(k≠l∧look o k=look S.o k):=fun k=>by
  rcases @jM o k with h|h
  ·exact .inl h
  ·exact .inr ⟨(ho _ h).1,(ho _ h).2.symm⟩
 have hev:=rP g l (look S.o l)
 have hbl:∀ k b,aE (jQ g l (look S.o l)) k (look o k)=some b→k≠l∧aE g k (look S.o k)=some b:=by
  intro k b hb
  rcases hlo k with h|⟨hk,h⟩
  ·rw[h]at hb;simp[aE]at hb
  ·rw[h]at hb
   refine⟨hk,?_⟩
   generalize look S.o k=x at hb ⊢
   cases x<;>exact hb
 refine⟨jQ g l (look S.o l),rfl,⟨hg.os,hg.tape,hg.output,hg.size,hg.old,fun b hb=>.inl (hg.fzo b hb),fun b hb=>?_,fun b hb=>?_,fun k=>?_,fun k b hb=>?_,fun k k' b hb hb'=>hg.dis k k' b (hbl k b hb).2 (hbl k' b hb').2⟩,⟨htk.1,fun k=>?_⟩,hsz,hu,hln.mono hev,h8⟩
 ·rcases hb with hb|hb
  ·exact hg.fzn b hb
  ·rcases (hg.own l b hb).1 with h|h
   ·exact .inr (.inl h)
   ·exact .inr (.inr h)
 ·rcases hb with hb|hb
  ·exact hg.fzx b hb
  ·exact (hg.obj l).lt hb
 ·show ObjOk _ k (look o k)
  rcases hlo k with h|⟨hk,h⟩
  ·rw[h];trivial
  ·rw[h]
   exact (hg.obj k).keep hev ⟨rfl,rfl⟩ fun b hb=>rfl
 ·obtain⟨hk,hb2⟩:=hbl k b hb
  refine⟨(hg.own k b hb2).1,?_⟩
  rintro (h|h)
  ·exact (hg.own k b hb2).2 h
  ·exact hk (hg.dis k l b hb2 h)
 ·show Rel _ (look t k) _
  rcases @jM t k with h|h
  ·rw[h];exact .any _
  ·rcases ht _ h with h1|h1
   ·simp only at h1
    rw[← h1]
    exact (htk.2 k).mono hev
   ·simp only at h1
    rw[← h1]
    exact a4w hg l (htk.2 k)
end Go.Sx
namespace Go.Sx
set_option linter.unusedVariables false
set_option linter.unusedSimpArgs false
def mT (P:Program) (S:AS):ResultVar→AV→Prop
 | .tmp t,x=>look S.t t=x
 | .cell a t,x=>∃ ag s,agT P t=some ag∧szT P t=some s∧(ag=true∨s=1)∧jD ag s (look S.t a) (look S.o) fun e=>e.val=x
def lB (P:Program) (S:AS):List ResultVar→AV→Prop
 | [],r=>r=.tup []
 | [x],r=>mT P S x r
 | xs,r=>∃ vs:List AV,r=.tup vs∧xs.length=vs.length∧∀ i (h1:i<xs.length) (h2:i<vs.length),mT P S xs[i] vs[i]
def bwc (ob:Nat→AV):AV→AV
 | .agg cs=>.agg (cs.map (bw ob))
 | .clo f cs=>.clo f (cs.map (bw ob))
 | a=>bw ob a
def bwr (ob:Nat→AV):AV→AV
 | .tup cs=>.tup (cs.map (bwc ob))
 | a=>bwc ob a
theorem a4x {c:Cx} {g:Gh} {ob:Nat→AV} (hg:GOk c g ob) {a:AV} {v:Value} (h:Rel g a v):Rel (gF g ob) (bwc ob a) v:=by
 cases a with
 | agg cs =>
  cases h with
  | agg _ vs hs ho hr=>exact .agg _ _ (by simpa using hs) ho fun i h1 h2=>by simp only[List.getElem_map];exact nS hg (hr i (by simpa using h1) h2)
 | clo f cs =>
  cases h with
  | clo _ _ vs hs hr=>exact .clo _ _ _ (by simpa using hs) fun i h1 h2=>by simp only[List.getElem_map];exact nS hg (hr i (by simpa using h1) h2)
 | _=>exact nS hg h
theorem c0v {c:Cx} {g:Gh} {ob:Nat→AV} (hg:GOk c g ob) {a:AV} {v:Value} (h:Rel g a v):Rel (gF g ob) (bwr ob a) v:=by
 cases a with
 | tup cs =>
  cases h with
  | tup _ vs hs hr=>exact .tup _ _ (by simpa using hs) fun i h1 h2=>by simp only[List.getElem_map];exact a4x hg (hr i (by simpa using h1) h2)
 | _=>exact a4x hg h
def RetA (P:Program) (rs:List ResultVar) (r:AV) (S:AS):Prop:=∃ x,lB P S rs x∧bwr (look S.o) x=r
def RetB (P:Program) (rs:List ResultVar) (r:AV) (post:List (Nat × AV)) (S:AS):Prop:=lB P S rs r∧∀ p∈post,look S.o p.1=p.2
def resF (a:Act):ResultVar→Sem Value
 | .tmp t=>pure (a.tmps.getD t undef)
 | .cell p t=>do loadVar t (← asAddr (a.tmps.getD p undef))
theorem b7f {c : Cx} {g : Gh} {S : AS} {a : Act} (hg : GOk c g (look S.o)) (ht : TOk g (look S.t) a) : ∀ (xs : List ResultVar) (vs : List AV), xs.length = vs.length →
  (∀ i (h1:i<xs.length) (h2:i<vs.length),mT c.P S xs[i] vs[i])→∃ us:List Value,(xs.mapM (resF a)).run c.P g.w=.ok us g.w∧RelL g vs us:=by
 have one:∀ x v,mT c.P S x v→∃ u,(resF a x).run c.P g.w=.ok u g.w∧Rel g v u:=by
  intro x v h
  cases x with
  | tmp t=>simp only[mT]at h;subst h;exact⟨_,rfl,ht.2 t⟩
  | cell p t =>
   obtain⟨ag,s,h1,h2,h3,h4⟩:=h
   obtain⟨e,he,heo,hr⟩:=a3o (c:=c) (g:=g) (v:=undef) h1 h2 h3 h4
   obtain⟨u,hu1,hu2⟩:=hr (look S.o) (fun _ _=>rfl) g _ hg (ht.2 p)
   subst he
   refine⟨u,?_,hu2⟩
   simp only[resF]
   generalize a.tmps.getD p undef=q at hu1
   unfold Instr.loadAt Instr.sureAddr at hu1
   cases q with
   | pointer q =>
    cases q with
    | none=>simp[Sem.run_bind]at hu1
    | some q=>simpa [Sem.run_bind,asAddr]using hu1
   | _=>simp[Sem.run_bind]at hu1
 intro xs
 induction xs with
 | nil=>intro vs hl _;obtain rfl:vs=[]:=List.eq_nil_of_length_eq_zero hl.symm;exact⟨[],rfl,.nil⟩
 | cons x xs ih =>
  intro vs hl h
  cases vs with
  | nil=>simp at hl
  | cons v vs =>
   obtain⟨u,hu1,hu2⟩:=one x v (h 0 (by simp) (by simp))
   obtain⟨us,hs1,hs2⟩:=ih vs (by simpa using hl) fun i h1 h2=>h (i+1) (by simpa using h1) (by simpa using h2)
   exact⟨u::us,by simp[List.mapM_cons,Sem.run_bind,hu1,hs1],.cons hu2 hs2⟩
theorem rI {c:Cx} {g:Gh} {S:AS} {a:Act} {fn:Func} {r:AV} (h:lB c.P S fn.results.toList r) (hg:GOk c g (look S.o)) (ht:TOk g (look S.t) a):∃ v,(results fn a.tmps).run c.P g.w=.ok v g.w∧Rel g r v:=by
 have key : ∀ vs : List AV, fn.results.toList.length = vs.length → (∀ i (h1 : i < fn.results.toList.length) (h2 : i < vs.length), mT c.P S fn.results.toList[i] vs[i]) →
   ∃ us:List Value,(results fn a.tmps).run c.P g.w=.ok (if h:us.toArray.size=1 then us.toArray[0]else .tuple us.toArray) g.w∧RelL g vs us:=by
  intro vs hl hv
  obtain⟨us,h1,h2⟩:=b7f hg ht fn.results.toList vs hl hv
  refine⟨us,?_,h2⟩
  have e:results fn a.tmps=(do let vs ← fn.results.mapM (resF a);pure (if h:vs.size=1 then vs[0]else .tuple vs)):=by
   unfold results
   congr 1
  rw[e,Sem.run_bind,Array.mapM_eq_mapM_toList,Sem.run_map,h1]
  rfl
 generalize hxs:fn.results.toList=xs at h key
 cases xs with
 | nil =>
  simp only[lB]at h
  subst h
  obtain⟨us,h1,h2⟩:=key [] rfl (fun i h=>by simp at h)
  obtain rfl:us=[]:=List.eq_nil_of_length_eq_zero h2.1
  exact⟨_,h1,by simpa using Rel.tup [] #[] rfl (fun i h=>by simp at h)⟩
 | cons x xs =>
  cases xs with
  | nil =>
   simp only[lB]at h
   obtain⟨us,h1,h2⟩:=key [r] rfl (fun i h1 h2=>by
    have:i=0:=by simpa using h2
    subst this
    exact h)
   have hl:=h2.1
   match us,hl with
   | [u],_=>exact⟨u,by simpa using h1,h2.2 0 (by simp) (by simp)⟩
  | cons y ys =>
   simp only[lB]at h
   obtain⟨vs,rfl,hl,hv⟩:=h
   obtain⟨us,h1,h2⟩:=key vs hl hv
   have hl2:¬ us.toArray.size=1:=by
    have:=h2.1
    simp only[List.length_cons]at hl
    simp
    omega
   rw[dif_neg hl2]at h1
   exact⟨_,h1,.tup _ _ (by simpa using h2.1) fun i a1 a2=>by simpa using h2.2 i a1 (by simpa using a2)⟩
def aD:Nat→List AV→List (Nat × AV)
 | _,[]=>[]
 | i,a::r=>(i,a)::aD (i+1) r
theorem a0t:∀ (args:List AV) (i k:Nat),look (aD i args) k=if i≤k∧k<i+args.length then args.getD (k - i) .any else .any:=by
 intro args
 induction args with
 | nil=>intro i k;simp only[aD,look,List.length_nil];rw[if_neg (by omega)]
 | cons a args ih =>
  intro i k
  simp only[aD,look,ih,List.length_cons]
  by_cases hik:i=k
  ·subst hik
   rw[if_pos rfl,if_pos (by omega)]
   simp
  ·rw[if_neg hik]
   by_cases hc:i+1≤k∧k<i+1+args.length
   ·rw[if_pos hc,if_pos (by omega)]
    have:k - i=(k - (i+1))+1:=by omega
    rw[this]
    simp
   ·rw[if_neg hc,if_neg (by omega)]
theorem a2y (pre:List (Nat × AV)):look pre=upd aI pre:=by
 funext l
 induction pre with
 | nil=>rfl
 | cons p pre ih=>obtain⟨i,a⟩:=p;simp only[look,upd,ih]
theorem rT {P : Program} {f : Nat} {fn : Func} {args : List AV} {pre : List (Nat × AV)} {n : Nat} (hn : ∀ p ∈ pre, p.1 < 8) (h8 : 8 ≤ n) (hargs : args.length ≤ fn.ntmps) {g : Gh} {vals : List Value} (hus : ∀ l, g.us l ↔ l ∈ pre.map (·.1)) (hg : GOk (bK P g (upd aI pre)) g (upd aI pre)) (hr : RelL g args vals) :
  Sim (bK P g (upd aI pre)) fn.ntmps ⟨aD 0 args,pre,n⟩ { tmps:=vals.toArray++Array.replicate (fn.ntmps - vals.toArray.size) undef,defers:=[] } g.w:=by
 have hl:=hr.1
 refine⟨g,rfl,by show GOk _ g (look pre);rw[a2y];exact hg,⟨trivial,fun k=>?_⟩,⟨by simp;omega,rfl,fun l h=>by cases h⟩,fun l hl=>?_,fun l hl=>?_,h8⟩
 ·show Rel g (look (aD 0 args) k) _
  rw[a0t]
  split
  ·rename_i h
   have hk:k<args.length:=by omega
   rw[Array.getD_eq_getD_getElem?,Array.getElem?_append_left (by simp;omega)]
   simp only[Nat.sub_zero,List.getElem?_toArray,List.getD,List.getElem?_eq_getElem hk,Option.getD_some]
   rw[List.getElem?_eq_getElem (by omega)]
   exact hr.2 k hk (by omega)
  ·exact .any _
 ·obtain⟨p,hp,rfl⟩:=List.mem_map.1 ((hus l).1 hl)
  have:=hn p hp
  simp only
  omega
 ·have hl':g.us l:=hl
  obtain⟨p,hp,rfl⟩:=List.mem_map.1 ((hus l).1 hl')
  exact⟨hn p hp,hl',rfl,Nat.le_refl _,fun _=>rfl⟩
theorem rH {P : Program} {f : FuncId} {fn : Func} {code : Code} {args : Array Value} {w : World} {R : Ending → World → Prop} (hf : P.funcs[f]? = some fn) (hb : fn.body = some code)
  (h:code.wpIn (Fw none) 0 P (bodyPostM (Fw none) 0 P fn R) { tmps:=args++Array.replicate (fn.ntmps - args.size) undef,defers:=[] } w):Calls P f args w R :=
 (callsIn_wide (n:=0)).1 (callsIn_of_wp_marks hf hb trivial h)
theorem GOk.shut {c : Cx} {g : Gh} {ob : Nat → AV} {D : Nat} (o : Obj) (hg : GOk c g ob) (h1 : c.w0.heap.size ≤ D) (h2 : ¬ g.fz D) (h3 : ∀ l b, aE g l (ob l) = some b → b ≠ D) :
  Ev g { g with w:=g.w.putObj D o }∧GOk c { g with w:=g.w.putObj D o } ob:=by
 have he:Ev g { g with w:=g.w.putObj D o }:=⟨fun b hb=>⟨hb,World.putObj_heap_other (fun e=>h2 (e▸hb))⟩,fun l hl=>⟨hl,rfl,Nat.le_refl _,fun _=>rfl⟩⟩
 have hbk:∀ l x,aE { g with w:=g.w.putObj D o } l x=aE g l x:=fun l x=>by cases x<;>rfl
 refine⟨he,hg.os,hg.tape,hg.output,by simp only[World.putObj_size];exact hg.size,fun b hb hw=>?_,hg.fzo,hg.fzn,fun b hb=>by simp only[World.putObj_size];exact hg.fzx b hb,fun l=>?_,fun l b hb=>?_,fun l l' b hb hb'=>?_⟩
 ·exact (World.putObj_heap_other (show b≠D by omega)).trans (hg.old b hb hw)
 ·exact (hg.obj l).keep he ⟨rfl,rfl⟩ fun b hb=>World.putObj_heap_other (h3 l b hb)
 ·rw[hbk]at hb;exact hg.own l b hb
 ·rw[hbk]at hb hb';exact hg.dis l l' b hb hb'
theorem rY {c : Cx} {P : Program} {fn : Func} {R : AS → Prop} {Rr : Ending → World → Prop} (hP : c.P = P) (hds : c.ds = []) (h : ∀ S g a, R S → GOk c g (look S.o) → TOk g (look S.t) a → a.tmps.size = fn.ntmps → Lnk c g → ∃ v, (results fn a.tmps).run P g.w = .ok v g.w ∧ Rr (.returned v) g.w)
  (e:Exit) (a:Act) (w:World) (hq:iP c fn.ntmps (Qof P fn.ntmps R []) e a w):bodyPostM (Fw none) 0 P fn Rr e a w:=by
 have key:∀ (Ds:List Nat) (S:AS) (g:Gh),R S→Ds.Nodup→GOk c g (look S.o)→TOk g (look S.t) a→a.tmps.size=fn.ntmps→Lnk c g→(∀ D∈Ds,Mkd c g (look S.o) D)→LeavesInM (Fw none) 0 P fn a.tmps Rr (Ds.map mark) .returning g.w:=by
  intro Ds
  induction Ds with
  | nil =>
   intro S g hS _ hg ht hsz hln _
   exact h S g a hS hg ht hsz hln
  | cons D Ds ih =>
   intro S g hS hnd hg ht hsz hln hD
   obtain⟨k1,k2,k3,k4⟩:=hD D (by simp)
   obtain⟨he,hg'⟩:=hg.shut (.deferred none) k1 k2 k3
   refine⟨by simp,.inl ⟨D,_,rfl,run_takeDeferred k4,?_⟩⟩
   refine ih S _ hS (List.nodup_cons.1 hnd).2 hg' (ht.mono he) hsz (hln.mono he) fun E hE=>?_
   obtain⟨q1,q2,q3,q4⟩:=hD E (by simp[hE])
   refine⟨q1,q2,fun l b hb=>q3 l b (by rw[← hb];cases look S.o l<;>rfl),?_⟩
   have hne:E≠D:=fun e=>(List.nodup_cons.1 hnd).1 (e▸hE)
   exact (World.putObj_heap_other hne).trans q4
 have fin:∀ c' S,Le c c'→R S→Sim c' fn.ntmps S a w→LeavesInM (Fw none) 0 P fn a.tmps Rr a.defers .returning w:=by
  rintro c' S hl hS ⟨g,rfl,hg,ht,hsz,hu,hln,_⟩
  obtain⟨Ds,d1,d2,d3⟩:=hl.ds
  rw[hsz.2.1,d1,hds,List.append_nil]
  exact key Ds S g hS d2 (hl.back _ _ hg) ht hsz.1 (hl.lnk _ hln) fun D hD=>(d3 D hD).2.2 g _ hg
 cases e with
 | normal=>obtain⟨c',S,hl,h1,h2⟩:=hq;exact fin c' S hl h1 h2
 | ret=>obtain⟨c',S,hl,h1,h2⟩:=hq;exact fin c' S hl h1 h2
 | exit id=>obtain⟨c',S,hl,h1,h2⟩:=hq;exact h1.elim
 | goto l=>obtain⟨c',S,hl,h1,h2⟩:=hq;exact h1.elim
 | panic ch=>exact hq.elim
 | outgrown=>exact hq.elim
theorem Flat.in {K:Nat→Prop} {a:AV} (h:Flat a):In K a:=by
 induction h with
 | lit v=>exact .lit v
 | agg cs _ ih=>exact .agg cs ih
 | tup cs _ ih=>exact .tup cs ih
theorem a2v {P : Program} {f : Nat} {fn : Func} {code : Code} {args : List AV} {r : AV} (hf : P.funcs[f]? = some fn) (hb : fn.body = some code) (ha : args.length ≤ fn.ntmps) (hin : In (fun _ => False) r)
  (h:AW P fn.ntmps (RetA P fn.results.toList r) [.code code] ⟨aD 0 args,[],8⟩):CallOK P f args [] r []:=by
 intro g vals hus hg hr
 have hsim:=rT (P:=P) (f:=f) (fn:=fn) (n:=8) (pre:=[]) (by simp) (Nat.le_refl _) ha hus hg hr
 refine rH hf hb (wpIn_mono (h _ _ _ rfl hsim) (rY rfl rfl fun S g1 a hS hg1 ht hsz hu=>?_))
 obtain⟨x,hx,hxr⟩:=hS
 obtain⟨v,hv,hvr⟩:=rI (c:=bK P g (upd aI [])) hx hg1 ht
 have hrel:=c0v hg1 hvr
 rw[hxr]at hrel
 let g2:Gh:={ gF g1 (look S.o)with us:=g.us }
 have hus':∀ l,¬ g.us l:=fun l hl=>by simpa using (hus l).1 hl
 have hnoW:∀ b,¬ (bK P g (upd aI [])).W0 b:=by rintro b ⟨l,hl⟩;simp[upd,aI,aE]at hl
 have hold:∀ b,b<g.w.heap.size→g1.w.heap[b]?=g.w.heap[b]?:=fun b hb=>hg1.old b hb (hnoW b)
 refine⟨v,hv,v,g2,rfl,rfl,⟨fun b hb=>⟨.inl (hg1.fzo b hb),hold b (hg.fzx b hb)⟩,fun l hl=>(hus' l hl).elim⟩,fun l=>Iff.rfl,?_,?_⟩
 ·refine⟨hg1.os,hg1.tape,hg1.output,hg1.size,hg1.old,fun b hb=>.inl (hg1.fzo b hb),?_,?_,fun l=>trivial,fun l b hb=>by simp[upd,aI,aE]at hb,fun l l' b hb=>by simp[upd,aI,aE]at hb⟩
  ·rintro b (hb|⟨l,hb⟩)
   ·exact hg1.fzn b hb
   ·rcases (hg1.own l b hb).1 with h|h
    ·exact .inr (.inl h)
    ·exact .inr (.inr h)
  ·rintro b (hb|⟨l,hb⟩)
   ·exact hg1.fzx b hb
   ·exact (hg1.obj l).lt hb
 ·exact cY (g:=gF g1 (look S.o)) (g':=g2) (K:=fun _=>False) (fun b hb=>⟨hb,rfl⟩) (fun l hl=>hl.elim) hrel hin
theorem b1w {P : Program} {f : Nat} {fn : Func} {code : Code} {args : List AV} {pre post : List (Nat × AV)} {r : AV} (hf : P.funcs[f]? = some fn) (hb : fn.body = some code) (ha : args.length ≤ fn.ntmps) (hn : ∀ p ∈ pre, p.1 < 8) (hin : In (fun _ => False) r)
  (hpost:∀ p∈post,p.1∈pre.map (·.1)∧InC (fun l=>l∈pre.map (·.1)) p.2)
  (h:AW P fn.ntmps (RetB P fn.results.toList r post) [.code code] ⟨aD 0 args,pre,8⟩):CallOK P f args pre r post:=by
 intro g vals hus hg hr
 have hsim:=rT (P:=P) (f:=f) (fn:=fn) (n:=8) (pre:=pre) hn (Nat.le_refl _) ha hus hg hr
 refine rH hf hb (wpIn_mono (h _ _ _ rfl hsim) (rY rfl rfl fun S g1 a hS hg1 ht hsz hln=>?_))
 obtain⟨hx,hpo⟩:=hS
 obtain⟨v,hv,hvr⟩:=rI (c:=bK P g (upd aI pre)) hx hg1 ht
 let g2:Gh:={ g1 with us:=g.us }
 have hfz:∀ b,g.fz b→g1.w.heap[b]?=g.w.heap[b]?:=fun b hb=>hg1.old b (hg.fzx b hb) fun⟨l,hl⟩=>(hg.own l b hl).2 hb
 have hK:∀ l,l∈pre.map (·.1)→g1.us l→g2.us l∧g2.blk l=g1.blk l∧g2.des l=g1.des l∧g2.len l=g1.len l:=fun l hl hu=>⟨(hus l).2 hl,rfl,rfl,rfl⟩
 have hblk:∀ l x,aE g2 l x=aE g1 l x:=fun l x=>by cases x<;>rfl
 have hob:∀ l,upd aI post l=.any∨(l∈post.map (·.1)∧upd aI post l=look S.o l):=fun l=>by
  by_cases hm:l∈post.map (·.1)
  ·exact .inr ⟨hm,(hpo _ (nN (ob:=aI) rfl hm)).symm⟩
  ·exact .inl (gO hm)
 have hbl:∀ l b,aE g2 l (upd aI post l)=some b→aE g1 l (look S.o l)=some b:=fun l b hb=>by
  rcases hob l with h|⟨_,h⟩
  ·rw[h]at hb;simp[aE]at hb
  ·rw[h,hblk]at hb;exact hb
 refine⟨v,hv,v,g2,rfl,rfl,⟨fun b hb=>⟨hg1.fzo b hb,hfz b hb⟩,fun l hl=>⟨hl,(hln l hl).2.2⟩⟩,fun l=>Iff.rfl,?_,?_⟩
 ·refine⟨hg1.os,hg1.tape,hg1.output,hg1.size,hg1.old,hg1.fzo,hg1.fzn,hg1.fzx,fun l=>?_,fun l b hb=>hg1.own l b (hbl l b hb),fun l l' b hb hb'=>hg1.dis l l' b (hbl l b hb) (hbl l' b hb')⟩
  rcases hob l with h|⟨hm,h⟩
  ·rw[h];trivial
  ·obtain⟨p,hp,rfl⟩:=List.mem_map.1 hm
   have hp2:=hpost p hp
   have e:look S.o p.1=p.2:=hpo p hp
   rw[h]
   refine rK (g:=g1) (g':=g2) (K:=fun l=>l∈pre.map (·.1)) rfl (fun b hb=>hb) hK hp2.1 (by rw[e];exact hp2.2) (hg1.obj p.1)
 ·exact cY (g:=g1) (g':=g2) (K:=fun _=>False) (fun b hb=>⟨hb,rfl⟩) (fun l hl=>hl.elim) hvr hin
def RetF (P:Program) (rs:List ResultVar) (k:Nat) (es:List (List AV)) (S:AS):Prop:=∃ l,lB P S rs (.ref l 0 es.length es.length)∧look S.o l=.vec k es
theorem b4v {P : Program} {f : Nat} {fn : Func} {code : Code} {args : List AV} {k : Nat} {es : List (List AV)} (hf : P.funcs[f]? = some fn) (hb : fn.body = some code) (ha : args.length ≤ fn.ntmps) (hfl : ∀ e ∈ es, ∀ c ∈ e, Flat c)
  (h:AW P fn.ntmps (RetF P fn.results.toList k es) [.code code] ⟨aD 0 args,[],8⟩):CallFr P f args k es:=by
 intro g vals hus hg hr
 have hsim:=rT (P:=P) (f:=f) (fn:=fn) (n:=8) (pre:=[]) (by simp) (Nat.le_refl _) ha (fun l=>by simp[hus l]) hg hr
 refine rH hf hb (wpIn_mono (h _ _ _ rfl hsim) (rY rfl rfl fun S g1 a hS hg1 ht hsz hu=>?_))
 obtain⟨l,hx,hl⟩:=hS
 obtain⟨v,hv,hvr⟩:=rI (c:=bK P g (upd aI [])) hx hg1 ht
 have hnoW:∀ b,¬ (bK P g (upd aI [])).W0 b:=by rintro b ⟨l,hl⟩;simp[upd,aI,aE]at hl
 have hold:∀ b,b<g.w.heap.size→g1.w.heap[b]?=g.w.heap[b]?:=fun b hb=>hg1.old b hb (hnoW b)
 have hok:=hg1.obj l
 have hown:=hg1.own l
 rw[hl]at hok hown
 obtain⟨hus',hk,hln,hk0,hke,h5⟩:=hok
 refine⟨v,hv,v,rfl,hg1.os,hg1.tape,hg1.output,hg1.size,hold,hk0,hke,?_⟩
 cases hvr with
 | ref _ _ _ _ _ hu' hm hc hvv =>
  have hvv:=hvv hln.symm
  rcases h5 with⟨h6,rfl,h7⟩|⟨b,vs,h6,h7,h8,h9,h10,h11,h12⟩
  ·left
   refine⟨rfl,?_⟩
   rw[hvv]
   simp[Des.slice,h6,h7]
  ·right
   refine⟨b,(g1.des l).cap,vs,(g1.des l).e,by rw[hvv];simp[Des.slice,h6],?_,h7,h8,h9,h10,h11,fun g i a1 j a2 a3=>(h12 i a1 j a2 a3).flat (hfl _ (List.getElem_mem a1) _ (List.getElem_mem a2))⟩
   rcases (hown b (by simp[aE,h6])).1 with h|h
   ·exact absurd h (hnoW b)
   ·exact h
theorem b4t {P : Program} {f : Nat} {fn : Func} {code : Code} {args : List AV} {k : Nat} {es : List (List AV)} (hf : P.funcs[f]? = some fn) (hb : fn.body = some code) (ha : args.length ≤ fn.ntmps) (hin : ∀ e ∈ es, ∀ c ∈ e, In (fun _ => False) c)
  (h:AW P fn.ntmps (RetF P fn.results.toList k es) [.code code] ⟨aD 0 args,[],8⟩):CallVc P f args k es:=by
 intro g vals hus hg hr
 have hsim:=rT (P:=P) (f:=f) (fn:=fn) (n:=8) (pre:=[]) (by simp) (Nat.le_refl _) ha (fun l=>by simp[hus l]) hg hr
 refine rH hf hb (wpIn_mono (h _ _ _ rfl hsim) (rY rfl rfl fun S g1 a hS hg1 ht hsz hu=>?_))
 obtain⟨l,hx,hl⟩:=hS
 obtain⟨v,hv,hvr⟩:=rI (c:=bK P g (upd aI [])) hx hg1 ht
 have hnoW:∀ b,¬ (bK P g (upd aI [])).W0 b:=by rintro b ⟨l,hl⟩;simp[upd,aI,aE]at hl
 have hold:∀ b,b<g.w.heap.size→g1.w.heap[b]?=g.w.heap[b]?:=fun b hb=>hg1.old b hb (hnoW b)
 have hok:=hg1.obj l
 have hown:=hg1.own l
 rw[hl]at hok hown
 obtain⟨hus',hk,hln,hk0,hke,h5⟩:=hok
 let g2:Gh:={ g1 with us:=fun _=>False }
 refine⟨v,hv,v,g2,rfl,rfl,⟨fun b hb=>⟨hg1.fzo b hb,hold b (hg.fzx b hb)⟩,fun l hl=>(hus l hl).elim⟩,fun l hl=>hl,⟨hg1.os,hg1.tape,hg1.output,hg1.size,hg1.old,hg1.fzo,hg1.fzn,hg1.fzx,fun l=>trivial,fun l b hb=>by simp[upd,aI,aE]at hb,fun l l' b hb=>by simp[upd,aI,aE]at hb⟩,hk0,hke,?_⟩
 cases hvr with
 | ref _ _ _ _ _ hu' hm hc hvv =>
  have hvv:=hvv hln.symm
  rcases h5 with⟨h6,rfl,h7⟩|⟨b,vs,h6,h7,h8,h9,h10,h11,h12⟩
  ·left
   refine⟨rfl,?_⟩
   rw[hvv]
   simp[Des.slice,h6,h7]
  ·right
   have ho:=hown b (by simp[aE,h6])
   refine⟨b,(g1.des l).cap,vs,(g1.des l).e,by rw[hvv];simp[Des.slice,h6],?_,ho.2,h7,h8,h9,h10,h11,fun i a1 j a2 a3=>cY (g:=g1) (g':=g2) (K:=fun _=>False) (fun b hb=>⟨hb,rfl⟩) (fun l hl=>hl.elim) (h12 i a1 j a2 a3) (hin _ (List.getElem_mem a1) _ (List.getElem_mem a2))⟩
   rcases ho.1 with h|h
   ·exact absurd h (hnoW b)
   ·exact h
def RetN (P:Program) (rs:List ResultVar) (r:AV) (S:AS):Prop:=∃ x,lB P S rs x∧bwn (look S.o) x=r
theorem b4u {P : Program} {f : Nat} {fn : Func} {code : Code} {args : List AV} {r : AV} (hf : P.funcs[f]? = some fn) (hb : fn.body = some code) (ha : args.length ≤ fn.ntmps) (hfl : FlatS r)
  (h:AW P fn.ntmps (RetN P fn.results.toList r) [.code code] ⟨aD 0 args,[],8⟩):CallNw P f args r:=by
 intro g vals hus hg hr
 have hsim:=rT (P:=P) (f:=f) (fn:=fn) (n:=8) (pre:=[]) (by simp) (Nat.le_refl _) ha (fun l=>by simp[hus l]) hg hr
 refine rH hf hb (wpIn_mono (h _ _ _ rfl hsim) (rY rfl rfl fun S g1 a hS hg1 ht hsz hu=>?_))
 obtain⟨x,hx,rfl⟩:=hS
 obtain⟨v,hv,hvr⟩:=rI (c:=bK P g (upd aI [])) hx hg1 ht
 have hnoW:∀ b,¬ (bK P g (upd aI [])).W0 b:=by rintro b ⟨l,hl⟩;simp[upd,aI,aE]at hl
 have hold:∀ b,b<g.w.heap.size→g1.w.heap[b]?=g.w.heap[b]?:=fun b hb=>hg1.old b hb (hnoW b)
 exact⟨v,hv,v,rfl,hg1.os,hg1.tape,hg1.output,hg1.size,hold,c0w hg1 hnoW hvr hfl⟩
end Go.Sx
