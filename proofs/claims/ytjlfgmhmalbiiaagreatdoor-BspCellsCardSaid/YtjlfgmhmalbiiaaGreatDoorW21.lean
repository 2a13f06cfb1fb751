import Derived.Test.YtjlfgmhmalbiiaaGreatDoorW20
set_option linter.all false
set_option maxHeartbeats 3200000
open Array renaming toList → Al
open Bool renaming not_eq_true' → Af
open Int renaming mul_comm → Ad
open List renaming getElem_mem → Aa, getD_eq_getElem?_getD → Ab, getElem_map → Ac, mem_map → Ae, length_map → Ag
open Nat renaming reduceAdd → Ak
open Rat renaming mul_nonneg → Ah, mul_pos → Ai, intCast_pos → Aj, le_total → Am
namespace Go.Sx
set_option linter.unusedVariables false
set_option linter.unusedSimpArgs false
def rn1 (σ:Nat→Nat):AV→AV
 | .loc i o=>.loc (σ i) o
 | .ref i o n m=>.ref (σ i) o n m
 | .vp i j q m=>.vp (σ i) j q m
 | .bs i o k n=>.bs (σ i) o k n
 | .mp i=>.mp (σ i)
 | a=>a
def rnA (σ:Nat→Nat):AV→AV
 | .clo f cs=>.clo f (cs.map (rn1 σ))
 | a=>rn1 σ a
def fK (K:Nat→Prop):AV→Prop
 | .loc i _=>K i
 | .ref i _ _ _=>K i
 | .vp i _ _ _=>K i
 | .bs i _ _ _=>K i
 | .mp i=>K i
 | a=>In (fun _=>False) a
def g6 (K:Nat→Prop):AV→Prop
 | .clo _ cs=>∀ c∈cs,fK K c
 | a=>fK K a
def rnC (σ:Nat→Nat):AV→AV
 | .blk cs=>.blk (cs.map (rnA σ))
 | .lpo L fn nt ps asg body ts=>.lpo L fn nt ps asg body (ts.map (rnA σ))
 | a=>a
def gP (K:Nat→Prop):AV→Prop
 | .blk cs=>∀ c∈cs,g6 K c
 | .lpo _ _ _ _ _ _ ts=>∀ c∈ts,g6 K c
 | a=>InC (fun _=>False) a
theorem a7h {σ:Nat→Nat} {K:Nat→Prop} {g G:Gh} (hf:∀ b,g.fz b→G.fz b∧G.w.heap[b]?=g.w.heap[b]?) (hn:∀ i,K i→G.us (σ i)∧G.blk (σ i)=g.blk i∧G.des (σ i)=g.des i∧G.len (σ i)=g.len i) {a:AV} {v:Value} (ht:fK K a) (h:Rel g a v):Rel G (rn1 σ a) v:=by
 have hcl:∀ {x:AV} {v:Value},Rel g x v→In (fun _=>False) x→Rel G x v:=fun hx hi=>cY (K:=fun _=>False) hf (fun l hl=>hl.elim) hx hi
 cases a with
 | loc i o =>
  obtain⟨h1,h2,h3,h4⟩:=hn i ht
  cases h with|loc _ _ hu=>rw[← h2];exact .loc (g:=G) (σ i) o h1
 | ref i o n m =>
  obtain⟨h1,h2,h3,h4⟩:=hn i ht
  cases h with|ref _ _ _ _ _ hu hm hc hv=>exact .ref (g:=G) (σ i) o n m _ h1 (by rw[h4];exact hm) hc (by rw[h4,h3];exact hv)
 | vp i j q m =>
  obtain⟨h1,h2,h3,h4⟩:=hn i ht
  cases h with|vp _ _ _ _ _ hu hm hc hv=>exact .vp (g:=G) (σ i) j q m _ h1 (by rw[h4];exact hm) hc (by rw[h4,h3];exact hv)
 | bs i o k n =>
  obtain⟨h1,h2,h3,h4⟩:=hn i ht
  cases h with|bs _ _ _ _ cap hu hc=>rw[← h2];exact .bs (g:=G) (σ i) o k n cap h1 hc
 | mp i =>
  obtain⟨h1,h2,h3,h4⟩:=hn i ht
  cases h with|mp _ hu=>rw[← h2];exact .mp (g:=G) (σ i) h1
 | _=>exact hcl h ht
theorem a9n {σ:Nat→Nat} {K:Nat→Prop} {g G:Gh} (hf:∀ b,g.fz b→G.fz b∧G.w.heap[b]?=g.w.heap[b]?) (hn:∀ i,K i→G.us (σ i)∧G.blk (σ i)=g.blk i∧G.des (σ i)=g.des i∧G.len (σ i)=g.len i) {a:AV} {v:Value} (ht:g6 K a) (h:Rel g a v):Rel G (rnA σ a) v:=by
 cases a with
 | clo f cs =>
  cases h with
  | clo _ _ vs hs hh =>
   exact .clo _ _ _ (by simpa using hs) fun i h1 h2=>by
    simp only[Ac]
    exact a7h hf hn (ht _ (Aa (by simpa using h1))) (hh i (by simpa using h1) h2)
 | _=>refine a7h hf hn ?_ h;exact ht
theorem a8e {f:AV→AV} (hf:f .any=.any) (ts:List AV) (t:Nat):(ts.map f).getD t .any=f (ts.getD t .any):=by
 rw[Ab,Ab,List.getElem?_map]
 cases ts[t]?<;>simp[hf]
theorem a4f {K:Nat→Prop} {ts:List AV} (h:∀ c∈ts,g6 K c) (t:Nat):g6 K (ts.getD t .any):=by
 rw[Ab]
 cases hq:ts[t]? with
 | none=>exact In.any
 | some c=>exact h _ (List.mem_of_getElem? hq)
theorem c9i {σ:Nat→Nat} {K:Nat→Prop} {g G:Gh} (hw:G.w=g.w) (hf:∀ b,g.fz b→G.fz b) (hn:∀ i,K i→G.us (σ i)∧G.blk (σ i)=g.blk i∧G.des (σ i)=g.des i∧G.len (σ i)=g.len i) {i:Nat} (hi:K i) {x:AV} (hx:gP K x) (h:ObjOk g i x):ObjOk G (σ i) (rnC σ x):=by
 have hf':∀ b,g.fz b→G.fz b∧G.w.heap[b]?=g.w.heap[b]?:=fun b hb=>⟨hf b hb,by rw[hw]⟩
 obtain⟨n1,n2,n3,n4⟩:=hn i hi
 cases x with
 | blk cs =>
  obtain⟨_,vs,e,k1,k2,k3,k4⟩:=h
  refine⟨n1,vs,e,by rw[hw,n2];exact k1,by simpa using k2,k3,fun j a1 a2=>?_⟩
  simp only[Ac]
  exact a9n hf' hn (hx _ (Aa (by simpa using a1))) (k4 j (by simpa using a1) a2)
 | vec k es =>
  obtain⟨_,k1,k2,k3,k4,k5⟩:=h
  refine⟨n1,by rw[n3];exact k1,by rw[n4];exact k2,k3,k4,?_⟩
  rw[n3,hw]
  rcases k5 with k5|⟨b,vs,m1,m2,m3,m4,m5,m6,m7⟩
  ·exact .inl k5
  ·exact .inr ⟨b,vs,m1,m2,m3,m4,m5,m6,fun q a1 j a2 a3=>cY (K:=fun _=>False) hf' (fun l hl=>hl.elim) (m7 q a1 j a2 a3) (hx _ (Aa a1) _ (Aa a2))⟩
 | vcp k es cp =>
  obtain⟨⟨_,k1,k2,k3,k4,k5⟩,k6⟩:=h
  refine⟨⟨n1,by rw[n3];exact k1,by rw[n4];exact k2,k3,k4,?_⟩,by rw[n3];exact k6⟩
  rw[n3,hw]
  rcases k5 with k5|⟨b,vs,m1,m2,m3,m4,m5,m6,m7⟩
  ·exact .inl k5
  ·exact .inr ⟨b,vs,m1,m2,m3,m4,m5,m6,fun q a1 j a2 a3=>cY (K:=fun _=>False) hf' (fun l hl=>hl.elim) (m7 q a1 j a2 a3) (hx _ (Aa a1) _ (Aa a2))⟩
 | mpo es=>obtain⟨_,arr,clock,k1,k2⟩:=h;exact⟨n1,arr,clock,by rw[hw,n2];exact k1,k2⟩
 | lpo L fn nt ps asg body ts =>
  obtain⟨_,hL,tm,df,k1,k2,k3⟩:=h
  exact⟨n1,n2.trans hL,tm,df,by rw[hw];exact k1,k2,fun t=>by rw[a8e rfl];exact a9n hf' hn (a4f hx t) (k3 t)⟩
 | _=>trivial
theorem d0q {σ:Nat→Nat} {g G:Gh} {i:Nat} (h1:G.blk (σ i)=g.blk i) (h2:G.des (σ i)=g.des i) (x:AV):aE G (σ i) (rnC σ x)=aE g i x:=by
 cases x<;>simp[aE,rnC,h1,h2]
def rnL (σ:Nat→Nat) (l:List (Nat × AV)):List (Nat × AV):=l.map fun p=>(σ p.1,rnC σ p.2)
theorem a9j {σ τ:Nat→Nat} {i:Nat} (hi:τ (σ i)=i):∀ {l:List (Nat × AV)},(∀ p∈l,τ (σ p.1)=p.1)→upd aF (rnL σ l) (σ i)=rnC σ (upd aF l i):=by
 intro l
 induction l with
 | nil=>intro _;rfl
 | cons p l ih =>
  intro h
  obtain⟨j,a⟩:=p
  have hj:τ (σ j)=j:=h (j,a) (by simp)
  simp only[rnL,List.map_cons,upd]at ih ⊢
  by_cases e:j=i
  ·rw[if_pos e,if_pos (by rw[e])]
  ·rw[if_neg e,if_neg (fun e2=>e (hj.symm.trans ((congrArg τ e2).trans hi)))]
   exact ih fun p hp=>h p (by simp[hp])
theorem b3x {σ:Nat→Nat} {l:List (Nat × AV)} {j:Nat} (h:∀ p∈l,σ p.1≠j):upd aF (rnL σ l) j=.any:=by
 have:=gU (ob:=aF) (e:=rnL σ l) (l:=j) (by
  intro hm
  obtain⟨p,hp,e⟩:=Ae.1 hm
  obtain⟨q,hq,rfl⟩:=Ae.1 hp
  exact h q hq e)
 rw[this];rfl
theorem CallOK.renG {P : Program} {f : Nat} {args : List AV} {pre post : List (Nat × AV)} {r : AV} (σ τ : Nat → Nat) (h : CallOK P f args pre r post) (hτ : ∀ p ∈ pre, τ (σ p.1) = p.1) (hpre : ∀ p ∈ pre, gP (fun i => i ∈ pre.map (·.1)) p.2)
  (hpost:∀ p∈post,p.1∈pre.map (·.1)∧gP (fun i=>i∈pre.map (·.1)) p.2) (hr:In (fun _=>False) r) (hargs:∀ x∈args,g6 (fun i=>i∈pre.map (·.1)) x) :
  CallOK P f (args.map (rnA σ)) (rnL σ pre) r (rnL σ post):=by
 intro g vals hus hg hrel
 let K:Nat→Prop:=fun i=>i∈pre.map (·.1)
 have hτK:∀ i,K i→τ (σ i)=i:=fun i hi=>by
  obtain⟨p,hp,rfl⟩:=Ae.1 hi
  exact hτ p hp
 have hτpost:∀ p∈post,τ (σ p.1)=p.1:=fun p hp=>hτK _ (hpost p hp).1
 have hnm:∀ j,j∈(rnL σ pre).map (·.1)↔∃ i,K i∧σ i=j:=fun j=>by
  simp only[rnL,List.map_map,Ae,K]
  constructor
  ·rintro⟨p,hp,rfl⟩;exact⟨p.1,⟨p,hp,rfl⟩,rfl⟩
  ·rintro⟨i,⟨p,hp,rfl⟩,rfl⟩;exact⟨p,hp,rfl⟩
 let g0:Gh:={ w:=g.w,fz:=g.fz,us:=K,blk:=fun i=>g.blk (σ i),des:=fun i=>g.des (σ i),len:=fun i=>g.len (σ i) }
 have husσ:∀ i,K i→g.us (σ i):=fun i hi=>(hus _).2 ((hnm _).2 ⟨i,hi,rfl⟩)
 have e0:∀ i,K i→upd aF (rnL σ pre) (σ i)=rnC σ (upd aF pre i):=fun i hi=>a9j (hτK i hi) hτ
 have n0:∀ i,¬ K i→upd aF pre i=.any:=fun i hi=>gU hi
 have back1:∀ {a:AV} {v:Value},fK K a→Rel g (rn1 σ a) v→Rel g0 a v:=by
  intro a v ht hv
  have hf:∀ b,g.fz b→g0.fz b∧g0.w.heap[b]?=g.w.heap[b]?:=fun b hb=>⟨hb,rfl⟩
  cases a with
  | loc i o=>simp only[rn1]at hv;cases hv with|loc _ _ hu=>exact .loc (g:=g0) i o ht
  | ref i o n m=>simp only[rn1]at hv;cases hv with|ref _ _ _ _ _ hu hm hc hv=>exact .ref (g:=g0) i o n m _ ht hm hc hv
  | vp i j q m=>simp only[rn1]at hv;cases hv with|vp _ _ _ _ _ hu hm hc hv=>exact .vp (g:=g0) i j q m _ ht hm hc hv
  | bs i o k n=>simp only[rn1]at hv;cases hv with|bs _ _ _ _ cap hu hc=>exact .bs (g:=g0) i o k n cap ht hc
  | mp i=>simp only[rn1]at hv;cases hv with|mp _ hu=>exact .mp (g:=g0) i ht
  | _=>exact cY (K:=fun _=>False) hf (fun l hl=>hl.elim) hv ht
 have back:∀ {a:AV} {v:Value},g6 K a→Rel g (rnA σ a) v→Rel g0 a v:=by
  intro a v ht hv
  cases a with
  | clo f cs =>
   simp only[rnA]at hv
   cases hv with
   | clo _ _ vs hs hh =>
    exact .clo (g:=g0) _ _ _ (by simpa using hs) fun i h1 h2=>by
     have:=hh i (by simpa using h1) h2
     simp only[Ac]at this
     exact back1 (ht _ (Aa h1)) this
  | _=>refine back1 ?_ hv;exact ht
 have topPre:∀ i,gP K (upd aF pre i):=fun i=>by
  by_cases hi:K i
  ·exact hpre _ (oK (ob:=aF) rfl hi)
  ·rw[n0 i hi];exact trivial
 have objBack:∀ i,K i→∀ x,gP K x→ObjOk g (σ i) (rnC σ x)→ObjOk g0 i x:=by
  intro i hi x hx hok
  cases x with
  | blk cs =>
   obtain⟨_,vs,e,k1,k2,k3,k4⟩:=hok
   refine⟨hi,vs,e,k1,by simpa using k2,k3,fun j a1 a2=>?_⟩
   have:=k4 j (by simpa using a1) a2
   simp only[Ac]at this
   exact back (hx _ (Aa a1)) this
  | vec k es =>
   obtain⟨_,k1,k2,k3,k4,k5⟩:=hok
   refine⟨hi,k1,k2,k3,k4,?_⟩
   rcases k5 with k5|⟨b,vs,m1,m2,m3,m4,m5,m6,m7⟩
   ·exact .inl k5
   ·exact .inr ⟨b,vs,m1,m2,m3,m4,m5,m6,fun q a1 j a2 a3=>cY (g:=g) (g':=g0) (K:=fun _=>False) (fun b hb=>⟨hb,rfl⟩) (fun l hl=>hl.elim) (m7 q a1 j a2 a3) (hx _ (Aa a1) _ (Aa a2))⟩
  | vcp k es cp =>
   obtain⟨⟨_,k1,k2,k3,k4,k5⟩,k6⟩:=hok
   refine⟨⟨hi,k1,k2,k3,k4,?_⟩,k6⟩
   rcases k5 with k5|⟨b,vs,m1,m2,m3,m4,m5,m6,m7⟩
   ·exact .inl k5
   ·exact .inr ⟨b,vs,m1,m2,m3,m4,m5,m6,fun q a1 j a2 a3=>cY (g:=g) (g':=g0) (K:=fun _=>False) (fun b hb=>⟨hb,rfl⟩) (fun l hl=>hl.elim) (m7 q a1 j a2 a3) (hx _ (Aa a1) _ (Aa a2))⟩
  | mpo es=>obtain⟨_,arr,clock,k1,k2⟩:=hok;exact⟨hi,arr,clock,k1,k2⟩
  | lpo L fn nt ps asg body ts =>
   obtain⟨_,hL,tm,df,k1,k2,k3⟩:=hok
   exact⟨hi,hL,tm,df,k1,k2,fun t=>back (a4f hx t) (by have:=k3 t;rwa [a8e rfl]at this)⟩
  | _=>trivial
 have blkBack:∀ i x,aE g0 i x=aE g (σ i) (rnC σ x):=fun i x=>by cases x<;>simp[aE,rnC,g0]
 have b0:∀ i b,aE g0 i (upd aF pre i)=some b→K i∧aE g (σ i) (upd aF (rnL σ pre) (σ i))=some b:=by
  intro i b hb
  by_cases hi:K i
  ·exact⟨hi,by rw[e0 i hi,← blkBack];exact hb⟩
  ·rw[n0 i hi]at hb;simp[aE]at hb
 have inj:∀ i i',K i→K i'→σ i=σ i'→i=i':=fun i i' h1 h2 e=>by rw[← hτK i h1,← hτK i' h2,e]
 have hg0:GOk (bG P g0 (upd aF pre)) g0 (upd aF pre):=by
  refine⟨rfl,Tp.rfl,rfl,Nat.le_refl _,fun _ _ _=>rfl,fun b hb=>hb,fun b hb=>.inl hb,hg.fzx,fun i=>?_,fun i b hb=>⟨.inl ⟨i,hb⟩,(hg.own _ b (b0 i b hb).2).2⟩,fun i i' b h1 h2=>inj i i' (b0 i b h1).1 (b0 i' b h2).1 (hg.dis _ _ b (b0 i b h1).2 (b0 i' b h2).2)⟩
  by_cases hi:K i
  ·have:=hg.obj (σ i)
   rw[e0 i hi]at this
   exact objBack i hi _ (topPre i) this
  ·rw[n0 i hi];trivial
 have hrel0:RelL g0 args vals:=by
  refine⟨by simpa using hrel.1,fun i h1 h2=>?_⟩
  have h3:=hrel.2 i (by simpa using h1) h2
  simp only[Ac]at h3
  exact back (hargs _ (Aa h1)) h3
 refine (h g0 vals (fun i=>Iff.rfl) hg0 hrel0).mono ?_
 rintro e w' ⟨v,g',rfl,rfl,he,hus',hg',hrr⟩
 let g1:Gh:={ w:=g'.w,fz:=g'.fz,us:=g.us,blk:=fun j=>g'.blk (τ j),des:=fun j=>g'.des (τ j),len:=fun j=>g'.len (τ j) }
 have hn:∀ i,K i→g1.us (σ i)∧g1.blk (σ i)=g'.blk i∧g1.des (σ i)=g'.des i∧g1.len (σ i)=g'.len i:=fun i hi=>by
  refine⟨husσ i hi,?_,?_,?_⟩<;>simp only[g1,hτK i hi]
 have e1:∀ i,K i→upd aF (rnL σ post) (σ i)=rnC σ (upd aF post i):=fun i hi=>a9j (hτK i hi) hτpost
 have topPost:∀ i,gP K (upd aF post i):=fun i=>by
  by_cases hi:i∈post.map (·.1)
  ·exact (hpost _ (oK (ob:=aF) rfl hi)).2
  ·rw[gU hi];exact trivial
 have nj:∀ j,(∃ i,K i∧σ i=j)∨upd aF (rnL σ post) j=.any:=fun j=>by
  by_cases hj:∃ i,K i∧σ i=j
  ·exact .inl hj
  ·exact .inr (b3x fun p hp e=>hj ⟨p.1,(hpost p hp).1,e⟩)
 have b1:∀ j b,aE g1 j (upd aF (rnL σ post) j)=some b→∃ i,K i∧σ i=j∧aE g' i (upd aF post i)=some b:=by
  intro j b hb
  rcases nj j with⟨i,hi,rfl⟩|hj
  ·refine⟨i,hi,rfl,?_⟩
   rw[e1 i hi]at hb
   rw[← d0q (σ:=σ) (g:=g') (G:=g1) (hn i hi).2.1 (hn i hi).2.2.1]
   exact hb
  ·rw[hj]at hb;simp[aE]at hb
 have hW:∀ b,(bG P g0 (upd aF pre)).W0 b→(bG P g (upd aF (rnL σ pre))).W0 b:=by
  rintro b ⟨i,hi⟩
  exact⟨σ i,(b0 i b hi).2⟩
 refine⟨v,g1,rfl,rfl,⟨he.fz,fun j hj=>?_⟩,fun i=>Iff.rfl,?_,?_⟩
 ·obtain⟨i,hi,rfl⟩:=(hnm j).1 ((hus j).1 hj)
  obtain⟨k1,k2,k3,k4⟩:=he.us i hi
  obtain⟨n1,n2,n3,n4⟩:=hn i hi
  exact⟨hj,by rw[n2];exact k2,by rw[n4];exact k3,fun e=>by rw[n3];exact k4 (by rw[← n4];exact e)⟩
 ·refine⟨hg'.os,hg'.tape,hg'.output,hg'.size,fun b hb hw=>hg'.old b hb (fun hw'=>hw (hW b hw')),hg'.fzo,fun b hb=>?_,hg'.fzx,fun j=>?_,fun j b hb=>?_,fun j j' b h1 h2=>?_⟩
  ·rcases hg'.fzn b hb with h|h|h
   ·exact .inl h
   ·exact .inr (.inl (hW b h))
   ·exact .inr (.inr h)
  ·show ObjOk g1 j _
   rcases nj j with⟨i,hi,rfl⟩|hj
   ·rw[e1 i hi]
    exact c9i (g:=g') (G:=g1) rfl (fun b hb=>hb) hn hi (topPost i) (hg'.obj i)
   ·rw[hj];trivial
  ·obtain⟨i,hi,rfl,k⟩:=b1 j b hb
   obtain⟨k1,k2⟩:=hg'.own i b k
   exact⟨k1.elim (fun h=>.inl (hW b h)) .inr,k2⟩
  ·obtain⟨i,hi,rfl,k⟩:=b1 j b h1
   obtain⟨i',hi',rfl,k'⟩:=b1 j' b h2
   rw[hg'.dis i i' b k k']
 ·exact cY (g:=g') (g':=g1) (K:=fun _=>False) (fun b hb=>⟨hb,rfl⟩) (fun l hl=>hl.elim) hrr hr
end Go.Sx
namespace Go.Sx
theorem kP {P : Program} {f : Nat} {args : List AV} {i : Nat} {ob : Nat → AV} {E : Eff → Prop} (pre : List (Nat × AV)) (r : AV) (post : List (Nat × AV)) (hf : fnT P f = true) (hc : CallOK P f args pre r post) (hob : ∀ p ∈ pre, ob p.1 = p.2) (hin : ∀ x ∈ args, In (fun k => k ∈ pre.map (·.1)) x)
  (ha:∀ p∈pre,InC (fun k=>k∈pre.map (·.1)) p.2) (hnd:(pre.map (·.1)).Nodup) (hr:In (fun _=>False) r) (hb:∀ p∈post,p.1∈pre.map (·.1)∧InC (fun k=>k∈pre.map (·.1)) p.2) (hall:(pre.map (·.1)).all (fun l=>(post.map (·.1)).contains l)=true)
  (hl:∀ p∈pre,p.2.live=true) (h:E ⟨r,post,pre.map (·.1)⟩):callV P f args i ob E:=by
 refine .inr (.inl ⟨pre,r,post,hf,hc,hob,hin,ha,hnd,hr,hb,hall,?_,h⟩)
 intro k hk
 obtain⟨p,hp,rfl⟩:=Ae.1 hk
 rw[hob p hp]
 exact hl p hp
end Go.Sx
namespace Go.Proofs.Vx
open Go Go.Sx Go.Proofs Tryz
attribute [local irreducible] fnT CallOK CallFr AW aI callV aL aJ aH aK gcaseP hid
theorem b8s:agT prog 31=some false∧byT prog 58=some 120∧szT prog 31=some 1:=by and_intros<;>kernel_rfl
attribute [go_sem] b8s
theorem c69a (l:List (Pl × List Pt)) (hn:l.length≤1048576) (p:Pl) (vs:List Pt) (h0:vs≠[]) (hvn:vs.length≤268435456):CallOK prog 69 [.loc 0 0,.agg (eG p vs)] [(0,.blk [.ref 1 0 l.length l.length]),(1,.vec 9 (eS l))] (.tup []) [(0,.blk [.ref 1 0 (l++[(p,vs)]).length (l++[(p,vs)]).length]),(1,.vec 9 (eS (l++[(p,vs)])))]:=by
 refine fC func69 rfl 16 rfl rfl (by simp) (.tup _ (by simp)) (by
  intro q hq
  simp only[zM,or_false]at hq
  rcases hq with rfl|rfl
  ·refine⟨by simp,fun c hc=>?_⟩
   simp only[zM,or_false]at hc
   subst hc
   exact .ref _ _ _ _ (by simp)
  ·exact⟨by simp,fun e he c hc=>of_eq_true (lS _) e he c hc⟩) [] (congrArg Al results69) ?_
 simp only[aD,Ak]
 have hml:maxLen=9223372036854775807:=rfl
 have hl1:(eS l).length=l.length:=Ag _
 have hl:(vs.map eP).length=vs.length:=Ag _
 have h1:0<vs.length:=List.length_pos_iff.2 h0
 have hl2:(l++[(p,vs)]).length=l.length+1:=by simp
 have hm2:eS (l++[(p,vs)])=eS l++[eG p vs]:=by simp[eS]
 repeat'(first|refine zk ?_|(refine zu ?_ ?_<;>intro hc)|(refine AW.ret (bW ?_ ?_)<;>simp -dsimp (disch:=try exact zo)only[go_sem,hl2,hm2])|(refine AW.nil (bW ?_ ?_)<;>simp -dsimp (disch:=try exact zo)only[go_sem,hl2,hm2])|(refine zv ?_ ?_<;>intro hg)|omega|simp -dsimp (disch:=try exact zo)only[go_sem,hl,hl1,zl,hl2,hm2]|contradiction|rfl)
theorem c69b (l:List (Pl × List Pt)) (hn:l.length≤1048576)  : CallOK prog 69 [.loc 0 0,.agg eG0] [(0,.blk [.ref 1 0 l.length l.length]),(1,.vec 9 (eS l))] (.tup []) [(0,.blk [.ref 1 0 (l).length (l).length]),(1,.vec 9 (eS (l)))]:=by
 refine fC func69 rfl 16 rfl rfl (by simp) (.tup _ (by simp)) (by
  intro q hq
  simp only[zM,or_false]at hq
  rcases hq with rfl|rfl
  ·refine⟨by simp,fun c hc=>?_⟩
   simp only[zM,or_false]at hc
   subst hc
   exact .ref _ _ _ _ (by simp)
  ·exact⟨by simp,fun e he c hc=>of_eq_true (lS _) e he c hc⟩) [] (congrArg Al results69) ?_
 simp only[aD,Ak]
 have hml:maxLen=9223372036854775807:=rfl
 have hl1:(eS l).length=l.length:=Ag _
 have hl:True:=trivial
 have hl2:True:=trivial
 have hm2:True:=trivial
 repeat'(first|refine zk ?_|(refine zu ?_ ?_<;>intro hc)|(refine AW.ret (bW ?_ ?_)<;>simp -dsimp (disch:=try exact zo)only[go_sem,hl2,hm2])|(refine AW.nil (bW ?_ ?_)<;>simp -dsimp (disch:=try exact zo)only[go_sem,hl2,hm2])|(refine zv ?_ ?_<;>intro hg)|omega|simp -dsimp (disch:=try exact zo)only[go_sem,hl,hl1,zl,hl2,hm2]|contradiction|rfl)
end Go.Proofs.Vx
namespace Geo
structure V where
 x:Rat
 y:Rat
 z:Rat
deriving DecidableEq
def V.add (a b:V):V:=⟨a.x+b.x,a.y+b.y,a.z+b.z⟩
def V.sub (a b:V):V:=⟨a.x - b.x,a.y - b.y,a.z - b.z⟩
def d0x (t:Rat) (a:V):V:=⟨t*a.x,t*a.y,t*a.z⟩
instance:Add V:=⟨V.add⟩
instance:Sub V:=⟨V.sub⟩
instance:HMul Rat V V:=⟨d0x⟩
def dot (a b:V):Rat:=a.x*b.x+a.y*b.y+a.z*b.z
def aA (a b:V):V:=⟨a.y*b.z - a.z*b.y,a.z*b.x - a.x*b.z,a.x*b.y - a.y*b.x⟩
theorem V.ext {a b:V} (hx:a.x=b.x) (hy:a.y=b.y) (hz:a.z=b.z):a=b:=by
 cases a;cases b;simp only at hx hy hz;subst hx hy hz;rfl
@[simp] theorem gO (a b:V):(a+b).x=a.x+b.x:=rfl
@[simp] theorem gN (a b:V):(a+b).y=a.y+b.y:=rfl
@[simp] theorem gM (a b:V):(a+b).z=a.z+b.z:=rfl
@[simp] theorem dM (a b:V):(a - b).x=a.x - b.x:=rfl
@[simp] theorem dL (a b:V):(a - b).y=a.y - b.y:=rfl
@[simp] theorem dK (a b:V):(a - b).z=a.z - b.z:=rfl
@[simp] theorem c9 (t:Rat) (a:V):(t*a).x=t*a.x:=rfl
@[simp] theorem c8 (t:Rat) (a:V):(t*a).y=t*a.y:=rfl
@[simp] theorem c7 (t:Rat) (a:V):(t*a).z=t*a.z:=rfl
structure H where
 n:V
 d:Rat
deriving DecidableEq
def H.at (h:H) (p:V):Rat:=dot h.n p - h.d
def ori (n a b c:V):Rat:=dot n (aA (b - a) (c - a))
theorem fD {a b:Rat} (h:a≤b):a<b∨a=b:=by
 by_cases e:a=b
 ·exact .inr e
 ·exact .inl (Rat.lt_of_le_of_ne h e)
theorem a2f (a:V):0≤dot a a:=by
 have h:∀ q:Rat,0≤q*q:=fun q=>by
  rcases Am (a:=0) (b:=q)with h|h
  ·exact Ah h h
  ·have:=Ah (a:=-q) (b:=-q) (by grind) (by grind);grind
 have:=h a.x;have:=h a.y;have:=h a.z
 unfold dot;grind
theorem jS (q:Rat):0≤q*q:=by
 have:=a2f ⟨q,0,0⟩;simp only[dot]at this;grind
theorem yG {a:V} (h:dot a a≠0):0<dot a a:=by have:=a2f a;grind
theorem pC {a:V} (h:dot a a=0):a=⟨0,0,0⟩:=by
 have hx:=jS a.x;have hy:=jS a.y;have hz:=jS a.z
 unfold dot at h
 have h1:a.x*a.x=0:=by grind
 have h2:a.y*a.y=0:=by grind
 have h3:a.z*a.z=0:=by grind
 have k:∀ q:Rat,q*q=0→q=0:=fun q hq=>by
  rcases Rat.mul_eq_zero.1 hq with h|h<;>exact h
 exact V.ext (k _ h1) (k _ h2) (k _ h3)
theorem a0h (n a b c:V):ori n a b c=ori n b c a:=by simp only[ori,dot,aA,dM,dL,dK];grind
theorem wK (n a b c:V):ori n b a c=- ori n a b c:=by simp only[ori,dot,aA,dM,dL,dK];grind
theorem oR (n a c:V):ori n a c c=0:=by simp only[ori,dot,aA,dM,dL,dK];grind
theorem uL (n a c:V):ori n a c a=0:=by simp only[ori,dot,aA,dM,dL,dK];grind
def bP (t:Rat) (p q:V):V:=p+t*(q - p)
theorem jF (n a b:V) (t:Rat) (p q:V):ori n a b (bP t p q)=(1 - t)*ori n a b p+t*ori n a b q:=by
 simp only[ori,dot,aA,bP,dM,dL,dK,gO,gN,gM,c9,c8,c7];grind
theorem j0 (h:H) (t:Rat) (p q:V):h.at (bP t p q)=(1 - t)*h.at p+t*h.at q:=by
 simp only[H.at,dot,bP,dM,dL,dK,gO,gN,gM,c9,c8,c7];grind
theorem bE (h:H) (p q:V):dot h.n (p - q)=h.at p - h.at q:=by
 simp only[H.at,dot,dM,dL,dK];grind
theorem par {e n g : V} (h1 : dot e n = 0) (h2 : dot e g = 0) :
  dot (aA n g) (aA n g)*e=dot e (aA n g)*aA n g:=by
 have k:∀ e n g:V,dot (aA n g) (aA n g)*e.x=dot e (aA n g)*(aA n g).x+((aA n g).y*n.z - (aA n g).z*n.y)*dot e g - ((aA n g).y*g.z - (aA n g).z*g.y)*dot e n:=by
  intro e n g;simp only[dot,aA];grind
 have k2:∀ e n g:V,dot (aA n g) (aA n g)*e.y=dot e (aA n g)*(aA n g).y+((aA n g).z*n.x - (aA n g).x*n.z)*dot e g - ((aA n g).z*g.x - (aA n g).x*g.z)*dot e n:=by
  intro e n g;simp only[dot,aA];grind
 have k3:∀ e n g:V,dot (aA n g) (aA n g)*e.z=dot e (aA n g)*(aA n g).z+((aA n g).x*n.y - (aA n g).y*n.x)*dot e g - ((aA n g).x*g.y - (aA n g).y*g.x)*dot e n:=by
  intro e n g;simp only[dot,aA];grind
 apply V.ext
 ·simp only[c9];rw[k,h1,h2];grind
 ·simp only[c8];rw[k2,h1,h2];grind
 ·simp only[c7];rw[k3,h1,h2];grind
theorem wG (n g u:V):dot n (aA (aA n g) u)=dot n g*dot n u - dot n n*dot g u:=by simp only[dot,aA];grind
theorem b9i (n g u:V):dot g (aA (aA n g) u)=dot g g*dot n u - dot n g*dot g u:=by simp only[dot,aA];grind
theorem b9j (n g u:V):dot n (aA u (aA n g))=dot n n*dot g u - dot n g*dot n u:=by simp only[dot,aA];grind
theorem pE (t:Rat) (a b:V):aA (t*a) b=t*aA a b:=by apply V.ext<;>simp only[aA,c9,c8,c7]<;>grind
theorem a2o (t:Rat) (a b:V):aA a (t*b)=t*aA a b:=by apply V.ext<;>simp only[aA,c9,c8,c7]<;>grind
theorem kR (t:Rat) (a b:V):dot a (t*b)=t*dot a b:=by simp only[dot,c9,c8,c7];grind
theorem a4a (t:Rat) (a b:V):dot (t*a) b=t*dot a b:=by simp only[dot,c9,c8,c7];grind
theorem jW (a b:V):dot a b=dot b a:=by simp only[dot];grind
theorem tI {h g : H} {q r z : V} (hq : h.at q = 0) (hr : h.at r = 0) (gq : g.at q = 0) (gr : g.at r = 0) (hz : h.at z = 0) :
  dot (aA h.n g.n) (aA h.n g.n)*ori h.n q r z=- (dot (r - q) (aA h.n g.n)*(dot h.n h.n*g.at z)):=by
 have e1:dot (r - q) h.n=0:=by rw[jW,bE];grind
 have e2:dot (r - q) g.n=0:=by rw[jW,bE];grind
 have e3:dot h.n (z - q)=0:=by rw[bE];grind
 have e4:dot g.n (z - q)=g.at z:=by rw[bE];grind
 have hp:=par e1 e2
 unfold ori
 rw[← kR,← pE,hp,pE,kR,wG,e3,e4]
 grind
theorem b6l {h g : H} {q r x : V} (hq : h.at q = 0) (hr : h.at r = 0) (gq : g.at q = 0) (gr : g.at r = 0) (gx : g.at x = 0) :
  dot (aA h.n g.n) (aA h.n g.n)*ori g.n q r x=dot (r - q) (aA h.n g.n)*(dot g.n g.n*h.at x):=by
 have e1:dot (r - q) h.n=0:=by rw[jW,bE];grind
 have e2:dot (r - q) g.n=0:=by rw[jW,bE];grind
 have e3:dot g.n (x - q)=0:=by rw[bE];grind
 have e4:dot h.n (x - q)=h.at x:=by rw[bE];grind
 have hp:=par e1 e2
 unfold ori
 rw[← kR,← pE,hp,pE,kR,b9i,e3,e4]
 grind
theorem zN {h g : H} {q r a b : V} (hq : h.at q = 0) (hr : h.at r = 0) (gq : g.at q = 0) (gr : g.at r = 0) (ha : h.at a = 0) (hb : h.at b = 0) :
  dot (aA h.n g.n) (aA h.n g.n)*(ori h.n a b r - ori h.n a b q)=(dot r (aA h.n g.n) - dot q (aA h.n g.n))*(dot h.n h.n*(g.at b - g.at a)):=by
 have e1:dot (r - q) h.n=0:=by rw[jW,bE];grind
 have e2:dot (r - q) g.n=0:=by rw[jW,bE];grind
 have e3:dot h.n (b - a)=0:=by rw[bE];grind
 have e4:dot g.n (b - a)=g.at b - g.at a:=by rw[bE]
 have hp:=par e1 e2
 have e5:ori h.n a b r - ori h.n a b q=dot h.n (aA (b - a) (r - q)):=by simp only[ori,dot,aA,dM,dL,dK];grind
 have e6:dot r (aA h.n g.n) - dot q (aA h.n g.n)=dot (r - q) (aA h.n g.n):=by simp only[dot,dM,dL,dK];grind
 rw[e5,e6,← kR,← a2o,hp,a2o,kR,b9j,e3,e4]
 grind
theorem pN {h g:H} {a w:V} (hn:h.n≠⟨0,0,0⟩) (ha:h.at a=h.at w) (hg:g.at a≠g.at w):0<dot (aA h.n g.n) (aA h.n g.n):=by
 apply yG
 intro h0
 have hc:=pC h0
 have e:dot h.n h.n*dot g.n (w - a)=dot h.n g.n*dot h.n (w - a) - dot h.n (aA (aA h.n g.n) (w - a)):=by rw[wG];grind
 rw[hc,bE,bE,ha]at e
 have e2:dot h.n (aA ⟨0,0,0⟩ (w - a))=0:=by simp only[dot,aA];grind
 rw[e2]at e
 have:dot h.n h.n=0:=by grind
 exact hn (pC this)
theorem sS {n a b c:V} (h:ori n a b c≠0):n≠⟨0,0,0⟩:=by
 intro e;apply h;rw[e];simp only[ori,dot];grind
theorem fP {n:V} (h:n≠⟨0,0,0⟩):0<dot n n:=yG fun e=>h (pC e)
theorem a7t {g:H} {a b:V} (h:g.at a≠g.at b):g.n≠⟨0,0,0⟩:=by
 intro e;apply h;simp only[H.at,e,dot];grind
theorem a2n {h g : H} {a b w : V} (ha : h.at a = 0) (hb : h.at b = 0) (ga : g.at a = 0) (gb : g.at b = 0) (hw : h.at w = 0) (gw : g.at w < 0) (ho : 0 < ori h.n a b w) :
  ∃ k:Rat,0<k∧∀ x,g.at x=0→ori g.n b a x=k * - h.at x:=by
 have hn:h.n≠⟨0,0,0⟩:=sS (a:=a) (b:=b) (c:=w) (by grind)
 have gn:g.n≠⟨0,0,0⟩:=a7t (a:=a) (b:=w) (by grind)
 have hN:=pN (h:=h) (g:=g) (a:=a) (w:=w) hn (by grind) (by grind)
 have h1:=tI ha hb ga gb hw
 have h2:=fun x=>b6l (x:=x) ha hb ga gb
 have hnn:=fP hn
 have gnn:=fP gn
 generalize dot (aA h.n g.n) (aA h.n g.n)=N at *
 have hE:0<dot (b - a) (aA h.n g.n):=by
  have p1:=Ai hN ho
  have p2:0<dot h.n h.n * - g.at w:=Ai hnn (by grind)
  rcases Am (a:=dot (b - a) (aA h.n g.n)) (b:=0)with h0|h0
  ·exfalso
   have:=Ah (a:=- dot (b - a) (aA h.n g.n)) (b:=dot h.n h.n * - g.at w) (by grind) (by grind)
   grind
  ·rcases fD h0 with h0|h0
   ·exact h0
   ·exfalso;rw[← h0]at h1;grind
 refine⟨dot (b - a) (aA h.n g.n)*dot g.n g.n / N,?_,fun x hx=>?_⟩
 ·rw[Rat.div_def];exact Ai (Ai hE gnn) (Rat.inv_pos.2 hN)
 ·have e:=h2 x hx
  have hN':N≠0:=by grind
  rw[wK]
  have e3:ori g.n a b x=(dot (b - a) (aA h.n g.n)*dot g.n g.n / N)*h.at x:=by grind
  rw[e3];grind
end Geo
namespace Go.Sx
set_option linter.unusedVariables false
def tv (p:Pt):Geo.V:=⟨(p.x:Rat) / (p.w:Rat),(p.y:Rat) / (p.w:Rat),(p.z:Rat) / (p.w:Rat)⟩
def ltV (a b:Geo.V):Prop:=a.x<b.x∨(a.x=b.x∧(a.y<b.y∨(a.y=b.y∧a.z<b.z)))
instance (a b:Geo.V):Decidable (ltV a b):=by unfold ltV;infer_instance
theorem a3r (a:Geo.V):¬ ltV a a:=by unfold ltV;grind
theorem a4r {a b c:Geo.V} (h:ltV a b) (k:ltV b c):ltV a c:=by unfold ltV at *;grind
theorem a3q {a b c:Geo.V} (h:¬ ltV a b) (k:¬ ltV b c):¬ ltV a c:=by unfold ltV at *;grind
theorem c9n {a b:Geo.V} (h:¬ ltV a b) (k:¬ ltV b a):a=b:=by unfold ltV at *;apply Geo.V.ext<;>grind
theorem tL {a b c d:Int} (hb:0<b) (hd:0<d):(a:Rat) / (b:Rat)<(c:Rat) / (d:Rat)↔a*d - c*b<0:=by
 have hb':(0:Rat)<(b:Rat):=Aj.2 hb
 have hd':(0:Rat)<(d:Rat):=Aj.2 hd
 rw[Rat.lt_div_iff hd']
 have e:(a:Rat) / (b:Rat)*(d:Rat)=((a*d:Int):Rat) / (b:Rat):=by rw[Rat.intCast_mul,Rat.div_def,Rat.div_def];grind
 rw[e,Rat.div_lt_iff hb',← Rat.intCast_mul,Rat.intCast_lt_intCast]
 omega
theorem tM {a b c d:Int} (hb:0<b) (hd:0<d):(a:Rat) / (b:Rat)=(c:Rat) / (d:Rat)↔a*d - c*b=0:=by
 have h1:=tL (a:=a) (c:=c) hb hd
 have h2:=tL (a:=c) (c:=a) hd hb
 constructor
 ·intro h
  have k1:¬ a*d - c*b<0:=fun hh=>by have:=h1.2 hh;grind
  have k2:¬ c*b - a*d<0:=fun hh=>by have:=h2.2 hh;grind
  omega
 ·intro h
  have k1:¬ (a:Rat) / (b:Rat)<(c:Rat) / (d:Rat):=fun hh=>by have:=h1.1 hh;omega
  have k2:¬ (c:Rat) / (d:Rat)<(a:Rat) / (b:Rat):=fun hh=>by have:=h2.1 hh;omega
  grind
theorem yR (z:Int):sg z<0↔z<0:=by rcases gS z with⟨e,h⟩|⟨e,h⟩|⟨e,h⟩<;>omega
theorem b3b (z:Int):sg z=0↔z=0:=by rcases gS z with⟨e,h⟩|⟨e,h⟩|⟨e,h⟩<;>omega
theorem a8o {a b:Pt} (ha:0<a.w) (hb:0<b.w):rU a b<0↔ltV (tv a) (tv b):=by
 unfold rU ltV tv
 dsimp only
 have x1:=tL (a:=a.x) (c:=b.x) ha hb
 have x2:=tM (a:=a.x) (c:=b.x) ha hb
 have y1:=tL (a:=a.y) (c:=b.y) ha hb
 have y2:=tM (a:=a.y) (c:=b.y) ha hb
 have z1:=tL (a:=a.z) (c:=b.z) ha hb
 rw[x1,x2,y1,y2,z1]
 simp only[ne_eq,b3b]
 split
 ·rw[yR];omega
 ·split
  ·rw[yR];omega
  ·rw[yR];omega
theorem c1q {a b:Pt} {s t:Int} (h1:s*a.x=t*b.x) (h2:s*a.y=t*b.y) (h3:s*a.z=t*b.z) (h4:s*a.w=t*b.w):s.natAbs*g4 a.x a.y a.z a.w=t.natAbs*g4 b.x b.y b.z b.w:=by
 rw[← w7,← w7,h1,h2,h3,h4]
theorem iE {a b:Pt} (ha:CanP a) (hb:CanP b) (h:tv a=tv b):a=b:=by
 have hx:a.x*b.w - b.x*a.w=0:=(tM ha.w hb.w).1 (congrArg Geo.V.x h)
 have hy:a.y*b.w - b.y*a.w=0:=(tM ha.w hb.w).1 (congrArg Geo.V.y h)
 have hz:a.z*b.w - b.z*a.w=0:=(tM ha.w hb.w).1 (congrArg Geo.V.z h)
 have hs:=c1q (a:=a) (b:=b) (s:=b.w) (t:=a.w) (by rw[Ad b.w,Ad a.w];omega) (by rw[Ad b.w,Ad a.w];omega) (by rw[Ad b.w,Ad a.w];omega) (Ad _ _)
 rw[ha.g,hb.g]at hs
 have hw:a.w=b.w:=by have:=ha.w;have:=hb.w;omega
 have hp:=ha.w
 rw[← hw]at hx hy hz
 have key:∀ p q:Int,p*a.w - q*a.w=0→p=q:=fun p q h=>by
  have:p*a.w=q*a.w:=by omega
  exact Int.eq_of_mul_eq_mul_right (by omega) this
 cases a;cases b
 simp only at *
 rw[key _ _ hx,key _ _ hy,key _ _ hz,hw]
def leP (a b:Pt):Bool:=!decide (ltV (tv b) (tv a))
def gY (l:List Pt):List Pt:=l.mergeSort leP
theorem b6w (a b c:Pt) (h:leP a b=true) (k:leP b c=true):leP a c=true:=by
 simp only[leP,Af,decide_eq_false_iff_not]at *
 exact a3q k h
theorem b6x (a b:Pt):(leP a b||leP b a)=true:=by
 simp only[leP,Bool.or_eq_true,Af,decide_eq_false_iff_not]
 by_cases h:ltV (tv b) (tv a)
 ·exact .inr fun k=>a3r _ (a4r h k)
 ·exact .inl h
theorem yP (l:List Pt):(gY l).Perm l:=List.mergeSort_perm l leP
theorem nY (l:List Pt):(gY l).length=l.length:=(yP l).length_eq
theorem a4h {l:List Pt} {p:Pt}:p∈gY l↔p∈l:=(yP l).mem_iff
theorem b9o (l:List Pt):(gY l).Pairwise fun a b=>leP a b=true:=List.pairwise_mergeSort b6w b6x l
theorem c1i {a b:Pt} (ha:CanP a) (hb:CanP b) (h:leP a b=true) (k:leP b a=true):a=b:=by
 simp only[leP,Af,decide_eq_false_iff_not]at *
 exact iE ha hb (c9n k h)
theorem b2u {l m:List Pt} (hc:∀ p∈l,CanP p) (hp:m.Perm l) (hs:m.Pairwise fun a b=>leP a b=true):m=gY l :=
 List.Perm.eq_of_pairwise (le:=fun a b=>leP a b=true) (fun a b ha hb h k=>c1i (hc _ (hp.mem_iff.1 ha)) (hc _ (a4h.1 hb)) h k) hs (b9o l) (hp.trans (yP l).symm)
end Go.Sx
