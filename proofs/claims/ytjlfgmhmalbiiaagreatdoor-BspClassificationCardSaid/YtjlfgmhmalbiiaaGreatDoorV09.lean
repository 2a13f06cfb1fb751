import Derived.KernelRfl
import Derived.Test.YtjlfgmhmalbiiaaGreatDoorV08
set_option linter.all false
namespace Go.Sx
set_option linter.unusedVariables false
set_option linter.unusedSimpArgs false
def rn (l:Nat):AV→AV
 | .loc 0 o=>.loc l o
 | .ref 0 o n m=>.ref l o n m
 | .vp 0 i j m=>.vp l i j m
 | .bs 0 o k n=>.bs l o k n
 | a=>a
def jE:AV→Prop
 | .loc i _=>i=0
 | .ref i _ _ _=>i=0
 | .vp i _ _ _=>i=0
 | .bs i _ _ _=>i=0
 | a=>In (fun _=>False) a
theorem oM {P : Program} {f : Nat} {args : List AV} {a b r : AV} (h : CallOK P f args [(0, a)] r [(0, b)]) (ha : InC (fun _ => False) a) (hb : InC (fun _ => False) b) (hr : In (fun _ => False) r) (hargs : ∀ x ∈ args, jE x) (l : Nat) :
  CallOK P f (args.map (rn l)) [(l,a)] r [(l,b)]:=by
 intro g vals hus hg hrel
 let g0:Gh:={ w:=g.w,fz:=g.fz,us:=fun i=>i=0,blk:=fun _=>g.blk l,des:=fun _=>g.des l,len:=fun _=>g.len l }
 have hul:g.us l:=(hus l).2 (by simp)
 have hob0:∀ i,i≠0→upd aI [(0,a)] i=.any:=fun i hi=>by simp[upd,aI];intro e;exact absurd e.symm hi
 have hobl:∀ i,i≠l→upd aI [(l,a)] i=.any:=fun i hi=>by simp[upd,aI];intro e;exact absurd e.symm hi
 have hcl:∀ {G G':Gh} {x:AV} {v:Value},(∀ b,G.fz b→G'.fz b∧G'.w.heap[b]?=G.w.heap[b]?)→Rel G x v→In (fun _=>False) x→Rel G' x v:=fun hf hx hi=>cY (K:=fun _=>False) hf (fun l hl=>hl.elim) hx hi
 have hobj:∀ (G G':Gh) (i j:Nat) (x:AV),InC (fun _=>False) x→G'.w=G.w→(∀ b,G.fz b→G'.fz b)→G'.us j→G'.blk j=G.blk i→G'.des j=G.des i→G'.len j=G.len i→ObjOk G i x→ObjOk G' j x:=by
  intro G G' i j x hx hw hf hu h1 h2 h3 hok
  cases x with
  | blk cs =>
   obtain⟨_,vs,e,k1,k2,k3,k4⟩:=hok
   exact⟨hu,vs,e,by rw[hw,h1];exact k1,k2,k3,fun i a1 a2=>hcl (fun b hb=>⟨hf b hb,by rw[hw]⟩) (k4 i a1 a2) (hx _ (List.getElem_mem a1))⟩
  | vec k es =>
   obtain⟨_,k1,k2,k3,k4,k5⟩:=hok
   refine⟨hu,by rw[h2];exact k1,by rw[h3];exact k2,k3,k4,?_⟩
   rw[h2,hw]
   rcases k5 with k5|⟨b,vs,m1,m2,m3,m4,m5,m6,m7⟩
   ·exact .inl k5
   ·exact .inr ⟨b,vs,m1,m2,m3,m4,m5,m6,fun i a1 j a2 a3=>hcl (fun b hb=>⟨hf b hb,by rw[hw]⟩) (m7 i a1 j a2 a3) (hx _ (List.getElem_mem a1) _ (List.getElem_mem a2))⟩
  | vcp k es cp =>
   obtain⟨⟨_,k1,k2,k3,k4,k5⟩,k6⟩:=hok
   refine⟨⟨hu,by rw[h2];exact k1,by rw[h3];exact k2,k3,k4,?_⟩,by rw[h2];exact k6⟩
   rw[h2,hw]
   rcases k5 with k5|⟨b,vs,m1,m2,m3,m4,m5,m6,m7⟩
   ·exact .inl k5
   ·exact .inr ⟨b,vs,m1,m2,m3,m4,m5,m6,fun i a1 j a2 a3=>hcl (fun b hb=>⟨hf b hb,by rw[hw]⟩) (m7 i a1 j a2 a3) (hx _ (List.getElem_mem a1) _ (List.getElem_mem a2))⟩
  | mpo es=>obtain⟨_,arr,clock,k1,k2⟩:=hok;exact⟨hu,arr,clock,by rw[hw,h1];exact k1,k2⟩
  | ito m n s=>exact hx.elim
  | lpo L fn nt ps asg body ts=>obtain⟨_,hL,tm,df,k1,k2,k3⟩:=hok;exact⟨hu,h1.trans hL,tm,df,by rw[hw];exact k1,k2,fun t=>hcl (fun b hb=>⟨hf b hb,by rw[hw]⟩) (k3 t) (vG hx t)⟩
  | _=>trivial
 have hblk:∀ (G G':Gh) (i j:Nat) (x:AV),G'.blk j=G.blk i→G'.des j=G.des i→aE G' j x=aE G i x:=by
  intro G G' i j x h1 h2
  cases x<;>simp[aE,h1,h2]
 have hb0:∀ i b',aE g0 i (upd aI [(0,a)] i)=some b'→i=0∧aE g l (upd aI [(l,a)] l)=some b':=by
  intro i b' hb'
  by_cases hi:i=0
  ·subst hi
   refine⟨rfl,?_⟩
   simp only[upd,if_true]at hb' ⊢
   rw[← hb']
   exact (hblk g g0 l 0 a rfl rfl).symm
  ·rw[hob0 i hi]at hb';simp[aE]at hb'
 have hg0:GOk (bK P g0 (upd aI [(0,a)])) g0 (upd aI [(0,a)]):=by
  refine⟨rfl,Tp.rfl,rfl,Nat.le_refl _,fun _ _ _=>rfl,fun b hb=>hb,fun b hb=>.inl hb,hg.fzx,fun i=>?_,fun i b' hb'=>⟨.inl ⟨i,hb'⟩,(hg.own l b' (hb0 i b' hb').2).2⟩,fun i i' b' h1 h2=>(hb0 i b' h1).1.trans (hb0 i' b' h2).1.symm⟩
  by_cases hi:i=0
  ·subst hi
   have:=hg.obj l
   simp only[upd,if_true]at this ⊢
   exact hobj g g0 l 0 a ha rfl (fun b hb=>hb) rfl rfl rfl rfl this
  ·rw[hob0 i hi];trivial
 have hrel0:RelL g0 args vals:=by
  refine⟨by simpa using hrel.1,fun i h1 h2=>?_⟩
  have h3:=hrel.2 i (by simpa using h1) h2
  simp only[List.getElem_map]at h3
  have ht:=hargs _ (List.getElem_mem h1)
  generalize args[i]=x at h3 ht
  generalize vals[i]=v at h3
  cases x with
  | loc j o=>simp only[jE]at ht;subst ht;simp only[rn]at h3;cases h3 with|loc _ _ hu=>exact .loc (g:=g0) 0 o rfl
  | ref j o n m=>simp only[jE]at ht;subst ht;simp only[rn]at h3;cases h3 with|ref _ _ _ _ _ hu hm hc hv=>exact .ref (g:=g0) 0 o n m _ rfl hm hc hv
  | vp j o n m=>simp only[jE]at ht;subst ht;simp only[rn]at h3;cases h3 with|vp _ _ _ _ _ hu hm hc hv=>exact .vp (g:=g0) 0 o n m _ rfl hm hc hv
  | bs j o k n=>simp only[jE]at ht;subst ht;simp only[rn]at h3;cases h3 with|bs _ _ _ _ cap hu hc=>exact .bs (g:=g0) 0 o k n cap rfl hc
  | _=>simp only[rn]at h3;exact hcl (G:=g) (G':=g0) (fun b hb=>⟨hb,rfl⟩) h3 ht
 refine (h g0 vals (fun i=>by simp[g0]) hg0 hrel0).mono ?_
 rintro e w' ⟨v,g',rfl,rfl,he,hus',hg',hrr⟩
 let g1:Gh:={ w:=g'.w,fz:=g'.fz,us:=g.us,blk:=fun _=>g'.blk 0,des:=fun _=>g'.des 0,len:=fun _=>g'.len 0 }
 have hl:∀ i,g.us i→i=l:=fun i hi=>by simpa using (hus i).1 hi
 have h0:g'.us 0:=(hus' 0).2 rfl
 have hW:∀ b',(bK P g0 (upd aI [(0,a)])).W0 b'→(bK P g (upd aI [(l,a)])).W0 b':=by
  rintro b' ⟨i,hi⟩
  exact⟨l,(hb0 i b' hi).2⟩
 have hb1:∀ i b',aE g1 i (upd aI [(l,b)] i)=some b'→i=l∧aE g' 0 (upd aI [(0,b)] 0)=some b':=by
  intro i b' hb'
  by_cases hi:i=l
  ·subst hi
   refine⟨rfl,?_⟩
   simp only[upd,if_true]at hb' ⊢
   rw[← hb']
   exact (hblk g' g1 0 i b rfl rfl).symm
  ·have:upd aI [(l,b)] i=.any:=by simp[upd,aI];intro e;exact absurd e.symm hi
   rw[this]at hb';simp[aE]at hb'
 obtain⟨e1,e2,e3,e4⟩:=he.us 0 rfl
 refine⟨v,g1,rfl,rfl,⟨he.fz,fun i hi=>?_⟩,fun i=>Iff.rfl,?_,?_⟩
 ·obtain rfl:=hl i hi
  exact⟨hi,e2,e3,e4⟩
 ·refine⟨hg'.os,hg'.tape,hg'.output,hg'.size,fun b' hb' hw=>hg'.old b' hb' (fun hw'=>hw (hW b' hw')),hg'.fzo,fun b' hb'=>?_,hg'.fzx,fun i=>?_,fun i b' hb'=>?_,fun i i' b' h1 h2=>(hb1 i b' h1).1.trans (hb1 i' b' h2).1.symm⟩
  ·rcases hg'.fzn b' hb' with h|h|h
   ·exact .inl h
   ·exact .inr (.inl (hW b' h))
   ·exact .inr (.inr h)
  ·by_cases hi:i=l
   ·subst hi
    have:=hg'.obj 0
    simp only[upd,if_true]at this ⊢
    exact hobj g' g1 0 i b hb rfl (fun b hb=>hb) hul rfl rfl rfl this
   ·have:upd aI [(l,b)] i=.any:=by simp[upd,aI];intro e;exact absurd e.symm hi
    show ObjOk g1 i _
    rw[this];trivial
  ·obtain⟨k1,k2⟩:=hg'.own 0 b' (hb1 i b' hb').2
   refine⟨?_,k2⟩
   rcases k1 with h|h
   ·exact .inl (hW b' h)
   ·exact .inr h
 ·exact hcl (G:=g') (G':=g1) (fun b hb=>⟨hb,rfl⟩) hrr hr
theorem CallFr.ok {P:Program} {f:Nat} {args:List AV} {k:Nat} {es:List (List AV)} (h:CallFr P f args k es):CallOK P f args [] (.sl es) []:=by
 intro g vals hus hg hr
 have hno:∀ l,¬ g.us l:=fun l hl=>by simpa using (hus l).1 hl
 refine (h g vals hno hg hr).mono ?_
 rintro e w' ⟨v,rfl,hos,htp,hou,hsz,hold,hk0,hke,hv⟩
 have hany:∀ l,upd aI [] l=.any:=fun l=>rfl
 rcases hv with⟨rfl,rfl⟩|⟨b,cap,vs,ety,rfl,hb0,hb,hc,hm,hs,h1,h2⟩
 ·refine⟨_,{ g with w:=w' },rfl,rfl,⟨fun b hb=>⟨hb,hold b (hg.fzx b hb)⟩,fun l hl=>(hno l hl).elim⟩,fun l=>Iff.rfl,?_,.slnil⟩
  exact⟨hos.trans hg.os,htp.trans hg.tape,hou.trans hg.output,hsz,fun b hb _=>hold b hb,hg.fzo,hg.fzn,fun b hb=>Nat.lt_of_lt_of_le (hg.fzx b hb) hsz,fun l=>trivial,fun l b hb=>by simp[hany,aE]at hb,fun l l' b hb=>by simp[hany,aE]at hb⟩
 ·let g1:Gh:={ g with w:=w',fz:=fun x=>g.fz x∨x=b }
  have hlt:b<w'.heap.size:=Array.getElem?_eq_some_iff.1 hb |>.1
  refine⟨_,g1,rfl,rfl,⟨fun b hb=>⟨.inl hb,hold b (hg.fzx b hb)⟩,fun l hl=>(hno l hl).elim⟩,fun l=>Iff.rfl,?_,?_⟩
  ·refine⟨hos.trans hg.os,htp.trans hg.tape,hou.trans hg.output,hsz,fun b hb _=>hold b hb,fun b hb=>.inl (hg.fzo b hb),?_,?_,fun l=>trivial,fun l b hb=>by simp[hany,aE]at hb,fun l l' b hb=>by simp[hany,aE]at hb⟩
   ·rintro x (hx|rfl)
    ·exact hg.fzn x hx
    ·exact .inr (.inr hb0)
   ·rintro x (hx|rfl)
    ·exact Nat.lt_of_lt_of_le (hg.fzx x hx) hsz
    ·exact hlt
  ·refine .sl (g:=g1) es b 0 cap k vs ety (0,0) (.inr rfl) hb hc (fun i hi=>hke _ (List.getElem_mem hi)) (fun _=>?_) (fun j hj hjk=>?_) (fun i a1 j a2 a3=>?_)
   ·rw[hs,Nat.zero_add];exact Nat.mul_le_mul_right _ hc
   ·simp only[Nat.zero_add]at hj ⊢
    exact h1 j hj hjk
   ·simp only[Nat.zero_add]at a3 ⊢
    exact h2 g1 i a1 j a2 a3
end Go.Sx
namespace Go.Sx
set_option linter.unusedVariables false
def n7 (P:Program) (S:AS) (x:ResultVar) (E:AV→Prop):Prop :=
 match x with
 | .tmp t=>E (look S.t t)
 | .cell a t=>match agT P t,szT P t with
  | some ag,some s=>(ag=true∨s=1)∧jD ag s (look S.t a) (look S.o) fun e=>E e.val
  | _,_=>False
def n5 (P:Program) (S:AS):List ResultVar→(List AV→Prop)→Prop
 | [],E=>E []
 | x::xs,E=>n7 P S x fun v=>n5 P S xs fun vs=>E (v::vs)
def kZ (P:Program) (S:AS) (xs:List ResultVar) (E:AV→Prop):Prop :=
 match xs with
 | []=>E (.tup [])
 | [x]=>n7 P S x E
 | xs=>n5 P S xs fun vs=>E (.tup vs)
theorem b7k {ag:Bool} {s:Nat} {a:AV} {ob:Nat→AV} {E:Eff→Prop} (h:jD ag s a ob E):∃ e,E e∧jD ag s a ob fun e'=>e'.val=e.val:=by
 unfold jD at h ⊢
 split at h
 ·exact⟨_,h.2,h.1,rfl⟩
 ·split at h
  ·rename_i h1
   exact⟨_,h.2,h.1,rfl⟩
  ·exact h.elim
 ·split at h
  ·rename_i h1
   exact⟨_,h.2.2.2,h.1,h.2.1,h.2.2.1,rfl⟩
  ·exact h.elim
 ·exact h.elim
theorem a2d {P:Program} {S:AS} {x:ResultVar} {E:AV→Prop} (h:n7 P S x E):∃ v,mT P S x v∧E v:=by
 cases x with
 | tmp t=>exact⟨_,rfl,h⟩
 | cell a t =>
  simp only[n7]at h
  split at h
  ·rename_i ag s h1 h2
   obtain⟨e,he,hl⟩:=b7k h.2
   exact⟨e.val,⟨ag,s,h1,h2,h.1,hl⟩,he⟩
  ·exact h.elim
theorem b2u {P:Program} {S:AS}:∀ {xs:List ResultVar} {E:List AV→Prop},n5 P S xs E→∃ vs:List AV,xs.length=vs.length∧(∀ i (h1:i<xs.length) (h2:i<vs.length),mT P S xs[i] vs[i])∧E vs:=by
 intro xs
 induction xs with
 | nil=>intro E h;exact⟨[],rfl,fun i h1=>by simp at h1,h⟩
 | cons x xs ih =>
  intro E h
  simp only[n5]at h
  obtain⟨v,h1,h2⟩:=a2d h
  obtain⟨vs,h3,h4,h5⟩:=ih h2
  refine⟨v::vs,by simp[h3],fun i a1 a2=>?_,h5⟩
  cases i with
  | zero=>exact h1
  | succ i=>exact h4 i (by simpa using a1) (by simpa using a2)
theorem uK {P:Program} {S:AS} {xs:List ResultVar} {E:AV→Prop} (h:kZ P S xs E):∃ v,lB P S xs v∧E v:=by
 unfold kZ at h
 split at h
 ·exact⟨_,rfl,h⟩
 ·obtain⟨v,h1,h2⟩:=a2d h;exact⟨v,h1,h2⟩
 ·rename_i h0 h1
  obtain⟨vs,a1,a2,a3⟩:=b2u h
  refine⟨_,?_,a3⟩
  match xs,h0,h1 with
  | x::y::r,_,_=>exact⟨vs,rfl,a1,a2⟩
  | [x],_,h1=>exact absurd rfl (h1 x)
  | [],h0,_=>exact absurd rfl h0
theorem y4 {P:Program} {rs:List ResultVar} {r:AV} {S:AS} (h:kZ P S rs fun x=>bwr (look S.o) x=r):RetA P rs r S:=uK h
theorem b6 {P:Program} {rs:List ResultVar} {r:AV} {post:List (Nat × AV)} {S:AS} (h:kZ P S rs fun x=>x=r) (hp:∀ p∈post,look S.o p.1=p.2):RetB P rs r post S:=by
 obtain⟨v,h1,rfl⟩:=uK h
 exact⟨h1,hp⟩
theorem a3t (X Y:Prop):iQ true true X Y=X:=by simp[iQ]
theorem a3w (X Y:Prop):iQ false false X Y=X:=by simp[iQ]
theorem a3u (X Y:Prop):iQ true false X Y=Y:=by simp[iQ]
theorem a3v (X Y:Prop):iQ false true X Y=Y:=by simp[iQ]
def cV:AV→Bool
 | .lit _=>true
 | .agg cs=>flatBs cs
 | .tup cs=>flatBs cs
 | _=>false
where flatBs:List AV→Bool
 | []=>true
 | c::cs=>cV c&&flatBs cs
mutual
theorem xD:∀ {a:AV},cV a=true→Flat a
 | .lit v,_=>.lit v
 | .agg cs,h=>.agg cs (t7 (by simpa only[cV]using h))
 | .tup cs,h=>.tup cs (t7 (by simpa only[cV]using h))
 | .any,h=>by simp[cV]at h
 | .sl _,h=>by simp[cV]at h
 | .fp _,h=>by simp[cV]at h
 | .loc ..,h=>by simp[cV]at h
 | .ref ..,h=>by simp[cV]at h
 | .vp ..,h=>by simp[cV]at h
 | .clo ..,h=>by simp[cV]at h
 | .bs ..,h=>by simp[cV]at h
 | .zs,h=>by simp[cV]at h
 | .mp ..,h=>by simp[cV]at h
 | .mpo ..,h=>by simp[cV]at h
 | .blk _,h=>by simp[cV]at h
 | .vec ..,h=>by simp[cV]at h
theorem t7:∀ {cs:List AV},cV.flatBs cs=true→∀ c∈cs,Flat c
 | [],_,c,hc=>by simp at hc
 | x::xs,h,c,hc=>by
  simp only[cV.flatBs,Bool.and_eq_true]at h
  rcases List.mem_cons.1 hc with e|hc
  ·rw[e];exact xD h.1
  ·exact t7 h.2 c hc
end
theorem dB {P : Program} {f : Nat} {args : List AV} {i : Nat} {ob : Nat → AV} {E : Eff → Prop} (r : AV) (hf : fnT P f = true) (hc : CallOK P f (args.map (bwa ob)) [] r []) (hin : ∀ a ∈ args.map (bwa ob), In (fun _ => False) a) (hr : Flat r)
  (h:E ⟨r,[],args.flatMap idA⟩):callV P f args i ob E:=.inl ⟨r,hf,hc,hin,hr,h⟩
theorem dJ {P : Program} {f : Nat} {args : List AV} {i : Nat} {ob : Nat → AV} {E : Eff → Prop} (r : AV) (hf : fnT P f = true) (hc : CallOK P f args [] r []) (hin : ∀ a ∈ args, In (fun _ => False) a) (hr : In (fun _ => False) r)
  (h:E ⟨r,[],[]⟩):callV P f args i ob E :=
 .inr <| .inl ⟨[],r,[],hf,hc,fun p hp=>by simp at hp,fun a ha=>by
  have:=hin a ha
  have key:∀ {K K':Nat→Prop} {a:AV},In K a→(∀ l,K l→K' l)→In K' a:=by
   intro K K' a h hk
   induction h with
   | any=>exact .any
   | lit v=>exact .lit v
   | agg cs _ ih=>exact .agg cs ih
   | tup cs _ ih=>exact .tup cs ih
   | sl es _ ih=>exact .sl es ih
   | fp cs _ ih=>exact .fp cs ih
   | clo f cs _ ih=>exact .clo f cs ih
   | loc l o h=>exact .loc l o (hk l h)
   | ref l o n m h=>exact .ref l o n m (hk l h)
   | vp l i j m h=>exact .vp l i j m (hk l h)
   | bs l o k n h=>exact .bs l o k n (hk l h)
   | zs=>exact .zs
   | mp l h=>exact .mp l (hk l h)
  exact key this fun l h=>h.elim,fun p hp=>by simp at hp,by simp,hr,fun p hp=>by simp at hp,rfl,fun l hl=>by simp at hl,h⟩
theorem callV.flat {P:Program} {f:Nat} {args:List AV} {i:Nat} {ob:Nat→AV} {E:Eff→Prop} (r:AV) (hf:fnT P f=true) (hc:CallOK P f args [] r []) (ha:cV.flatBs args=true) (hr:cV r=true) (h:E ⟨r,[],[]⟩):callV P f args i ob E :=
 dJ r hf hc (fun a h=>(t7 ha a h).in) (xD hr).in h
theorem a0y {P : Program} {f : Nat} {args : List AV} {i : Nat} {ob : Nat → AV} {E : Eff → Prop} (k : Nat) (es : List (List AV)) (hf : fnT P f = true) (hc : CallFr P f (args.map (bwa ob)) k es) (hin : ∀ a ∈ args.map (bwa ob), In (fun _ => False) a)
  (h:E ⟨.ref i 0 es.length es.length,[(i,.vec k es)],args.flatMap idA⟩):callV P f args i ob E:=.inr <| .inr <| .inl <| .inl ⟨k,es,hf,hc,hin,h⟩
theorem pM {P:Program} {rs:List ResultVar} {k:Nat} {es:List (List AV)} {S:AS} (h:kZ P S rs fun x=>∃ l,x=.ref l 0 es.length es.length∧look S.o l=.vec k es):RetF P rs k es S:=by
 obtain⟨v,h1,l,rfl,h2⟩:=uK h
 exact⟨l,h1,h2⟩
theorem CallOK.flat {P : Program} {f : Nat} {fn : Func} {code : Code} {args : List AV} {r : AV} (hf : P.funcs[f]? = some fn) (hb : fn.body = some code) (nt : Nat) (hnt : fn.ntmps = nt) (ha : decide (args.length ≤ nt) = true) (hr : cV r = true) (rs : List ResultVar) (hrs : fn.results.toList = rs)
  (h:AW P nt (RetA P rs r) [.code code] ⟨aD 0 args,[],8⟩):CallOK P f args [] r []:=by
 subst hnt
 subst hrs
 exact a2v hf hb (by simpa using ha) (xD hr).in h
theorem CallFr.flat {P : Program} {f : Nat} {fn : Func} {code : Code} {args : List AV} {k : Nat} {es : List (List AV)} (hf : P.funcs[f]? = some fn) (hb : fn.body = some code) (nt : Nat) (hnt : fn.ntmps = nt) (ha : decide (args.length ≤ nt) = true) (hfl : ∀ e ∈ es, ∀ c ∈ e, Flat c) (rs : List ResultVar) (hrs : fn.results.toList = rs)
  (h:AW P nt (RetF P rs k es) [.code code] ⟨aD 0 args,[],8⟩):CallFr P f args k es:=by
 subst hnt
 subst hrs
 exact b4v hf hb (by simpa using ha) hfl h
theorem CallVc.flat {P : Program} {f : Nat} {fn : Func} {code : Code} {args : List AV} {k : Nat} {es : List (List AV)} (hf : P.funcs[f]? = some fn) (hb : fn.body = some code) (nt : Nat) (hnt : fn.ntmps = nt) (ha : decide (args.length ≤ nt) = true) (hin : ∀ e ∈ es, ∀ c ∈ e, In (fun _ => False) c) (rs : List ResultVar) (hrs : fn.results.toList = rs)
  (h:AW P nt (RetF P rs k es) [.code code] ⟨aD 0 args,[],8⟩):CallVc P f args k es:=by
 subst hnt
 subst hrs
 exact b4t hf hb (by simpa using ha) hin h
theorem fQ {P : Program} {f : Nat} {args : List AV} {i : Nat} {ob : Nat → AV} {E : Eff → Prop} (r : AV) (hf : fnT P f = true) (hc : CallNw P f (args.map (bwa ob)) r) (hin : ∀ a ∈ args.map (bwa ob), In (fun _ => False) a) (hr : In (fun _ => False) r)
  (h:E ⟨r,[],args.flatMap idA⟩):callV P f args i ob E:=.inr <| .inr <| .inr ⟨r,hf,hc,hin,hr,h⟩
theorem c2w {P:Program} {rs:List ResultVar} {r:AV} {S:AS} (h:kZ P S rs fun x=>bwn (look S.o) x=r):RetN P rs r S:=uK h
theorem CallNw.flat {P : Program} {f : Nat} {fn : Func} {code : Code} {args : List AV} {r : AV} (hf : P.funcs[f]? = some fn) (hb : fn.body = some code) (nt : Nat) (hnt : fn.ntmps = nt) (ha : decide (args.length ≤ nt) = true) (hfl : FlatS r) (rs : List ResultVar) (hrs : fn.results.toList = rs)
  (h:AW P nt (RetN P rs r) [.code code] ⟨aD 0 args,[],8⟩):CallNw P f args r:=by
 subst hnt
 subst hrs
 exact b4u hf hb (by simpa using ha) hfl h
theorem fN {P : Program} {f : Nat} {fn : Func} {code : Code} {args : List AV} {r : AV} (hf : P.funcs[f]? = some fn) (hb : fn.body = some code) (nt : Nat) (hnt : fn.ntmps = nt) (ha : decide (args.length ≤ nt) = true) (hr : In (fun _ => False) r) (rs : List ResultVar) (hrs : fn.results.toList = rs)
  (h:AW P nt (RetA P rs r) [.code code] ⟨aD 0 args,[],8⟩):CallOK P f args [] r []:=by
 subst hnt
 subst hrs
 exact a2v hf hb (by simpa using ha) hr h
theorem e9 {P : Program} {f : Nat} {fn : Func} {code : Code} {args : List AV} {pre post : List (Nat × AV)} {r : AV} (hf : P.funcs[f]? = some fn) (hb : fn.body = some code) (nt : Nat) (hnt : fn.ntmps = nt) (ha : decide (args.length ≤ nt) = true) (hn : ∀ p ∈ pre, p.1 < 8) (hin : In (fun _ => False) r)
  (hpost:∀ p∈post,p.1∈pre.map (·.1)∧InC (fun l=>l∈pre.map (·.1)) p.2) (rs:List ResultVar) (hrs:fn.results.toList=rs)
  (h:AW P nt (RetB P rs r post) [.code code] ⟨aD 0 args,pre,8⟩):CallOK P f args pre r post:=by
 subst hnt
 subst hrs
 exact b1w hf hb (by simpa using ha) hn hin hpost h
theorem b9i {P:Program} {nt:Nat} {R:AS→Prop} {k:List Itm} {S S':AS} (h:S=S'):AW P nt R k S=AW P nt R k S':=by rw[h]
def gL:List (Nat × AV)→List (Nat × AV)→Prop
 | [],_=>True
 | (i,a)::l,s=>look s i=a∧gL l s
theorem lW:∀ {l s:List (Nat × AV)},gL l s→∀ p∈l,look s p.1=p.2:=by
 intro l
 induction l with
 | nil=>intro s _ p hp;simp at hp
 | cons q l ih =>
  intro s h p hp
  obtain⟨i,a⟩:=q
  rcases List.mem_cons.1 hp with rfl|hp
  ·exact h.1
  ·exact ih h.2 p hp
def inT (n:Nat):List (Nat × AV)→Prop
 | []=>True
 | (_,a)::l=>In (fun k=>k<n) a∧inT n l
def inO (n:Nat):List (Nat × AV)→Prop
 | []=>True
 | (i,a)::l=>(i<n∧InC (fun k=>k<n) a)∧inO n l
theorem b7u {n:Nat}:∀ {l:List (Nat × AV)},inT n l→∀ p∈l,In (fun k=>k<n) p.2:=by
 intro l
 induction l with
 | nil=>intro _ p hp;simp at hp
 | cons q l ih =>
  intro h p hp
  obtain⟨i,a⟩:=q
  rcases List.mem_cons.1 hp with rfl|hp
  ·exact h.1
  ·exact ih h.2 p hp
theorem b7v {n:Nat}:∀ {l:List (Nat × AV)},inO n l→∀ p∈l,p.1<n∧InC (fun k=>k<n) p.2:=by
 intro l
 induction l with
 | nil=>intro _ p hp;simp at hp
 | cons q l ih =>
  intro h p hp
  obtain⟨i,a⟩:=q
  rcases List.mem_cons.1 hp with rfl|hp
  ·exact h.1
  ·exact ih h.2 p hp
theorem mC {S:AS} {t o:List (Nat × AV)} {n:Nat} (ht:gL t S.t) (ho:gL o S.o) (h8:8≤n) (hi:inT n t) (hj:inO n o):Weak S ⟨t,o,n⟩:=by
 by_cases h:S.nx≤n
 ·exact a1v (lW ht) (lW ho) h
 ·refine Weak.trans (a1v (nx:=S.nx) (lW ht) (lW ho) (Nat.le_refl _)) ?_
  exact b1u (S:=⟨t,o,S.nx⟩) h8 ⟨b7u hi,b7v hj⟩
theorem aH {S:AS} {t o:List (Nat × AV)} {n:Nat} (h:gL t S.t∧gL o S.o∧inT n t∧inO n o) (h8:8≤n:=by decide):Weak S ⟨t,o,n⟩ :=
 mC h.1 h.2.1 h8 h.2.2.1 h.2.2.2
theorem p7 {K:Nat→Prop} (v:Value):In K (.lit v)=True:=eq_true (.lit v)
theorem c6q {K:Nat→Prop}:In K .any=True:=eq_true .any
theorem c6r {K:Nat→Prop} (cs:List AV):In K (.agg cs)=∀ c∈cs,In K c:=propext ⟨fun h=>by cases h;assumption,.agg cs⟩
theorem c6n {K:Nat→Prop} (cs:List AV):In K (.tup cs)=∀ c∈cs,In K c:=propext ⟨fun h=>by cases h;assumption,.tup cs⟩
theorem gJ {K:Nat→Prop} (es:List (List AV)):In K (.sl es)=∀ e∈es,∀ c∈e,In K c:=propext ⟨fun h=>by cases h;assumption,.sl es⟩
theorem In_fp {K:Nat→Prop} (cs:List AV):In K (.fp cs)=∀ c∈cs,In K c:=propext ⟨fun h=>by cases h;assumption,.fp cs⟩
theorem c6p {K:Nat→Prop} (f:Nat) (cs:List AV):In K (.clo f cs)=∀ c∈cs,In K c:=propext ⟨fun h=>by cases h;assumption,.clo f cs⟩
theorem c6o {K:Nat→Prop} (l o:Nat):In K (.loc l o)=K l:=propext ⟨fun h=>by cases h;assumption,.loc l o⟩
theorem vY {K:Nat→Prop} (l o n m:Nat):In K (.ref l o n m)=K l:=propext ⟨fun h=>by cases h;assumption,.ref l o n m⟩
theorem In_vp {K:Nat→Prop} (l o n m:Nat):In K (.vp l o n m)=K l:=propext ⟨fun h=>by cases h;assumption,.vp l o n m⟩
theorem In_mp {K:Nat→Prop} (l:Nat):In K (.mp l)=K l:=propext ⟨fun h=>by cases h;assumption,.mp l⟩
theorem wK {K:Nat→Prop} (l o n m:Nat):In K (.bs l o n m)=K l:=propext ⟨fun h=>by cases h;assumption,.bs l o n m⟩
end Go.Sx
namespace Go.Sx
set_option linter.unusedVariables false
def nvL:List UInt8→Nat
 | []=>0
 | b::l=>b.toNat+256*nvL l
def nbL (n:Nat):List UInt8:=if h:n=0 then []else UInt8.ofNat (n % 256)::nbL (n / 256)
termination_by n
decreasing_by omega
def nv (m:ByteArray):Nat:=nvL m.data.toList
def nb (n:Nat):ByteArray:=⟨(nbL n).toArray⟩
theorem kE:nbL 0=[]:=by unfold nbL;simp
theorem pD {n:Nat} (h:n≠0):nbL n=UInt8.ofNat (n % 256)::nbL (n / 256):=by rw[nbL];simp[h]
theorem c1f (n:Nat):nvL (nbL n)=n:=by
 induction n using Nat.strongRecOn with
 | _ n ih =>
  by_cases h:n=0
  ·subst h;rw[kE];rfl
  ·rw[pD h]
   simp only[nvL]
   rw[ih (n / 256) (by omega)]
   have:(UInt8.ofNat (n % 256)).toNat=n % 256:=by simp
   rw[this]
   omega
@[simp] theorem aZ (n:Nat):nv (nb n)=n:=by simp[nv,nb,c1f]
theorem pQ {a b:Nat} (h:nb a=nb b):a=b:=by rw[← aZ a,h,aZ]
theorem dG:nb 0=⟨#[]⟩:=by simp[nb,kE]
theorem fO (n:Nat):(nb n=⟨#[]⟩)↔n=0:=by
 constructor
 ·intro h;rw[← dG]at h;exact pQ h
 ·rintro rfl;exact dG
theorem b1d (n k:Nat):(nbL n).length≤k↔n<256 ^ k:=by
 induction k generalizing n with
 | zero =>
  by_cases h:n=0
  ·subst h;simp[kE]
  ·rw[pD h];simp;omega
 | succ k ih =>
  by_cases h:n=0
  ·subst h;simp[kE];exact Nat.pow_pos (by decide)
  ·rw[pD h]
   simp only[List.length_cons,Nat.add_le_add_iff_right,ih]
   rw[Nat.pow_succ,Nat.div_lt_iff_lt_mul (by decide)]
theorem cD (n k:Nat):(nb n).size≤k↔n<256 ^ k:=by
 have:(nb n).size=(nbL n).length:=by simp[nb,ByteArray.size]
 rw[this,b1d]
theorem vQ (l:List UInt8):nvL l<256 ^ l.length:=by
 induction l with
 | nil=>simp[nvL]
 | cons b l ih =>
  simp only[nvL,List.length_cons,Nat.pow_succ]
  have:=b.toNat_lt
  have h2:nvL l+1≤256 ^ l.length:=ih
  have h3:(nvL l+1)*256≤256 ^ l.length*256:=Nat.mul_le_mul_right _ h2
  omega
theorem eO (m:ByteArray):nv m<256 ^ m.size:=by
 have e:m.size=m.data.toList.length:=by rw[Array.length_toList];rfl
 rw[e]
 exact vQ _
def iv (n:Bool) (m:ByteArray):Int:=if n then -(nv m:Int)else nv m
def Zn (z:Int):Bool:=decide (z<0)
def Zm (z:Int):ByteArray:=nb z.natAbs
abbrev eI (n:Bool) (m:ByteArray):List AV:=[.lit (.bool n),.lit (.string m)]
abbrev eZ (z:Int):List AV:=[.lit (.bool (Zn z)),.lit (.string (Zm z))]
@[simp] theorem bB (z:Int):iv (Zn z) (Zm z)=z:=by
 unfold iv Zn Zm
 rw[aZ]
 by_cases h:z<0
 ·simp[h];omega
 ·simp[h];omega
@[simp] theorem aT (z:Int):nv (Zm z)=z.natAbs:=by simp[Zm]
theorem cI (z:Int) (k:Nat):(Zm z).size≤k↔z.natAbs<256 ^ k:=cD _ _
theorem of_nb (n:Bool) (k:Nat):(n&&!decide (nb k=⟨#[]⟩))=Zn (iv n (nb k))∧nb k=Zm (iv n (nb k)):=by
 unfold iv Zn Zm
 rw[aZ]
 cases n
 ·refine⟨?_,?_⟩
  ·have:¬ ((k:Int)<0):=by omega
   simp[this]
  ·simp
 ·refine⟨?_,?_⟩
  ·by_cases h:k=0
   ·subst h;simp[dG]
   ·have h1:¬ nb k=⟨#[]⟩:=fun e=>h ((fO k).1 e)
    have h2:(-(k:Int))<0:=by omega
    simp[h1];omega
  ·simp
theorem uD (a b:List UInt8):nvL (a++b)=nvL a+256 ^ a.length*nvL b:=by
 induction a with
 | nil=>simp[nvL]
 | cons x a ih =>
  simp only[List.cons_append,nvL,ih,List.length_cons,Nat.pow_succ]
  grind
theorem c1j:∀ {l:List UInt8},(∀ h:l≠[],l.getLast h≠0)→nbL (nvL l)=l:=by
 intro l
 induction l with
 | nil=>intro _;simp[nvL,kE]
 | cons b l ih =>
  intro h
  have hne:nvL (b::l)≠0:=by
   intro e
   simp only[nvL]at e
   by_cases hl:l=[]
   ·subst hl
    have:=h (by simp)
    simp only[List.getLast_singleton]at this
    apply this
    simp only[nvL]at e
    have:b.toNat=0:=by omega
    exact UInt8.toNat_inj.1 this
   ·have h2:=ih (fun h'=>by have:=h (by simp);rwa [List.getLast_cons hl]at this)
    have h3:nvL l=0:=by omega
    rw[h3,kE]at h2
    exact hl h2.symm
  rw[pD hne]
  simp only[nvL]
  have hb:=b.toNat_lt
  have e1:(b.toNat+256*nvL l) % 256=b.toNat:=by omega
  have e2:(b.toNat+256*nvL l) / 256=nvL l:=by omega
  rw[e1,e2]
  congr 1
  ·simp
  ·by_cases hl:l=[]
   ·subst hl;simp[nvL,kE]
   ·exact ih (fun h'=>by have:=h (by simp);rwa [List.getLast_cons hl]at this)
theorem c6f {a b:ByteArray} (h:a.data.toList=b.data.toList):a=b:=by
 cases a;cases b;simp only at h;congr;exact Array.toList_inj.1 h
theorem pL (m:ByteArray):m.size=m.data.toList.length:=by rw[Array.length_toList];rfl
theorem zU {m:ByteArray} (h:m.size=0∨bt m (m.size - 1)≠0):nb (nv m)=m:=by
 apply c6f
 unfold nb nv
 simp only
 apply c1j
 intro hne
 have hs:=pL m
 have hl:m.data.toList.length≠0:=fun e=>hne (List.eq_nil_of_length_eq_zero e)
 rcases h with h|h
 ·omega
 ·intro e
  apply h
  unfold bt
  rw[List.getLast_eq_getElem]at e
  rw[Array.getElem_toList]at e
  have:m.size - 1<m.data.size:=by rw[hs,Array.length_toList];rw[Array.length_toList]at hl;omega
  have e2:m.data.getD (m.size - 1) 0=0:=by
   simp only[Array.getD_eq_getD_getElem?,Array.getElem?_eq_getElem this,Option.getD_some]
   simp only[hs]
   exact e
  rw[e2];rfl
theorem i9 (m:ByteArray) (i:Nat):0≤bt m i∧bt m i<256:=by
 unfold bt;have:=(m.data.getD i 0).toNat_lt;omega
theorem a5c {m:ByteArray} (h0:0<m.size) (h:bt m (m.size - 1)=0):nv (m.extract 0 (m.size - 1))=nv m:=by
 have hs:=pL m
 unfold nv
 have hd:(m.extract 0 (m.size - 1)).data.toList=m.data.toList.take (m.data.toList.length - 1):=by
  rw[ByteArray.data_extract,Array.toList_extract,hs]
  simp
 rw[hd]
 generalize hl:m.data.toList=l at *
 have hne:l≠[]:=by intro e;subst e;simp only[List.length_nil]at hs;omega
 have hlast:l.getLast hne=0:=by
  unfold bt at h
  have hlt:m.size - 1<m.data.size:=by rw[← Array.length_toList,hl,hs];rw[hs]at h0;omega
  simp only[Array.getD_eq_getD_getElem?,Array.getElem?_eq_getElem hlt,Option.getD_some]at h
  rw[List.getLast_eq_getElem]
  have e1:l[l.length - 1]'(by rw[hs]at h0;omega)=m.data[m.size - 1]:=by
   subst hl
   simp only[Array.getElem_toList,hs]
  rw[e1]
  have:m.data[m.size - 1].toNat=0:=by omega
  exact UInt8.toNat_inj.1 this
 have:=List.dropLast_concat_getLast hne
 rw[← List.dropLast_eq_take]
 conv=>rhs;rw[← this]
 rw[uD,hlast]
 simp[nvL]
end Go.Sx
namespace Go.Sx
@[congr] theorem loadV_cg (ag:Bool) (s:Nat) (a:AV) (ob:Nat→AV) (E:Eff→Prop) (a':AV) (h_a:a=a'):jD ag s a ob E=jD ag s a' ob E:=by subst h_a;rfl
@[congr] theorem c6z (s:Nat) (a x:AV) (ob:Nat→AV) (E:Eff→Prop) (a':AV) (x':AV) (h_a:a=a') (h_x:x=x'):pO s a x ob E=pO s a' x' ob E:=by subst h_a h_x;rfl
@[congr] theorem binV_cg (P:Program) (op:BinOp) (t:TypeId) (x y:AV) (E:Eff→Prop) (x':AV) (y':AV) (h_x:x=x') (h_y:y=y'):rC P op t x y E=rC P op t x' y' E:=by subst h_x h_y;rfl
@[congr] theorem binI_cg (op:BinOp) (k:IntKind) (x y:Int) (E:Value→Prop)   : rD op k x y E=rD op k x y E:=by rfl
@[congr] theorem binS_cg (P:Program) (op:BinOp) (t:TypeId) (x y:Value) (E:Value→Prop)   : oG P op t x y E=oG P op t x y E:=by rfl
@[congr] theorem binG_cg (P:Program) (op:BinOp) (t:TypeId) (x y:List AV) (E:Eff→Prop)   : tQ P op t x y E=tQ P op t x y E:=by rfl
@[congr] theorem c7d (P:Program) (t:TypeId) (x:List (Nat × AV)) (E:Eff→Prop) (x':List (Nat × AV)) (h_x:x=x'):pW P t x E=pW P t x' E:=by subst h_x;rfl
@[congr] theorem litV_cg (P:Program) (t:TypeId) (n:Nat) (x:List (Nat × AV)) (i:Nat) (E:Eff→Prop) (x':List (Nat × AV)) (i':Nat) (h_x:x=x') (h_i:i=i'):qQ P t n x i E=qQ P t n x' i' E:=by subst h_x h_i;rfl
@[congr] theorem c6v (o:Nat) (x:AV) (E:AV→Prop) (x':AV) (h_x:x=x'):m9 o x E=m9 o x' E:=by subst h_x;rfl
@[congr] theorem faV_cg (P:Program) (t:TypeId) (n:Nat) (x:AV) (ob:Nat→AV) (E:Eff→Prop) (x':AV) (h_x:x=x'):faV P t n x ob E=faV P t n x' ob E:=by subst h_x;rfl
@[congr] theorem c7c (P:Program) (t:TypeId) (n:Nat) (x:AV) (E:Eff→Prop) (x':AV) (h_x:x=x'):pT P t n x E=pT P t n x' E:=by subst h_x;rfl
@[congr] theorem c6u (P:Program) (t:TypeId) (x y:AV) (ob:Nat→AV) (E:Eff→Prop) (x':AV) (y':AV) (h_x:x=x') (h_y:y=y'):oL P t x y ob E=oL P t x' y' ob E:=by subst h_x h_y;rfl
@[congr] theorem c7b (P:Program) (t:TypeId) (x y:AV) (E:Eff→Prop) (x':AV) (y':AV) (h_x:x=x') (h_y:y=y'):pR P t x y E=pR P t x' y' E:=by subst h_x h_y;rfl
@[congr] theorem c6w (n:Nat) (x:AV) (E:Eff→Prop) (x':AV) (h_x:x=x'):oY n x E=oY n x' E:=by subst h_x;rfl
@[congr] theorem convV_cg (P:Program) (t u:TypeId) (x:AV) (ob:Nat→AV) (E:Eff→Prop) (x':AV) (h_x:x=x'):qH P t u x ob E=qH P t u x' ob E:=by subst h_x;rfl
@[congr] theorem makeV_cg (P:Program) (t:TypeId) (x y:AV) (i:Nat) (E:Eff→Prop) (x':AV) (y':AV) (i':Nat) (h_x:x=x') (h_y:y=y') (h_i:i=i'):nX P t x y i E=nX P t x' y' i' E:=by subst h_x h_y h_i;rfl
@[congr] theorem appV_cg (P:Program) (t:TypeId) (x y:AV) (ob:Nat→AV) (i:Nat) (E:Eff→Prop) (x':AV) (y':AV) (i':Nat) (h_x:x=x') (h_y:y=y') (h_i:i=i'):rE P t x y ob i E=rE P t x' y' ob i' E:=by subst h_x h_y h_i;rfl
@[congr] theorem c7a (P:Program) (t:TypeId) (x:AV) (y z:Option AV) (ob:Nat→AV) (E:Eff→Prop) (x':AV) (y':Option AV) (z':Option AV) (h_x:x=x') (h_y:y=y') (h_z:z=z'):nR P t x y z ob E=nR P t x' y' z' ob E:=by subst h_x h_y h_z;rfl
@[congr] theorem lenV_cg (P:Program) (t:TypeId) (x:AV) (ob:Nat→AV) (E:Eff→Prop) (x':AV) (h_x:x=x'):qR P t x ob E=qR P t x' ob E:=by subst h_x;rfl
@[congr] theorem unV_cg (op:UnOp) (x:AV) (E:Eff→Prop) (x':AV) (h_x:x=x'):unV op x E=unV op x' E:=by subst h_x;rfl
@[congr] theorem nilV_cg (x:AV) (ob:Nat→AV) (E:Eff→Prop) (x':AV) (h_x:x=x'):tJ x ob E=tJ x' ob E:=by subst h_x;rfl
@[congr] theorem callV_cg (P:Program) (f:Nat) (x:List AV) (i:Nat) (ob:Nat→AV) (E:Eff→Prop) (x':List AV) (i':Nat) (h_x:x=x') (h_i:i=i'):callV P f x i ob E=callV P f x' i' ob E:=by subst h_x h_i;rfl
@[congr] theorem c6x (P:Program) (t:TypeId) (x y:AV) (ok:Bool) (ob:Nat→AV) (E:Eff→Prop) (x':AV) (y':AV) (h_x:x=x') (h_y:y=y'):pF P t x y ok ob E=pF P t x' y' ok ob E:=by subst h_x h_y;rfl
@[congr] theorem mupdV_cg (P:Program) (t:TypeId) (x y z:AV) (ob:Nat→AV) (E:Eff→Prop) (x':AV) (y':AV) (z':AV) (h_x:x=x') (h_y:y=y') (h_z:z=z'):qE P t x y z ob E=qE P t x' y' z' ob E:=by subst h_x h_y h_z;rfl
@[congr] theorem mentV_cg (P:Program) (t:TypeId) (x y:AV) (ob:Nat→AV) (E:Eff→Prop) (x':AV) (y':AV) (h_x:x=x') (h_y:y=y'):qF P t x y ob E=qF P t x' y' ob E:=by subst h_x h_y;rfl
@[congr] theorem estV_cg (x s y:AV) (ob:Nat→AV) (E:Eff→Prop) (x' s' y':AV) (h_x:x=x') (h_s:s=s') (h_y:y=y'):qT x s y ob E=qT x' s' y' ob E:=by subst h_x h_s h_y;rfl
@[congr] theorem rngV_cg (P:Program) (t:TypeId) (x:AV) (i:Nat) (ob:Nat→AV) (E:Eff→Prop) (x':AV) (h_x:x=x'):qM P t x i ob E=qM P t x' i ob E:=by subst h_x;rfl
@[congr] theorem entV_cg (x:AV) (ob:Nat→AV) (E:Eff→Prop) (x':AV) (h_x:x=x'):qU x ob E=qU x' ob E:=by subst h_x;rfl
@[congr] theorem effV_cg (P:Program) (op:Op) (i:Nat) (ρ:Operand→AV) (ob:Nat→AV) (E:Eff→Prop) (op':Op) (h_op:op=op'):aO P op i ρ ob E=aO P op' i ρ ob E:=by subst h_op;rfl
@[congr] theorem gcase_cg (b w:Bool) (X Y:Prop) (b':Bool) (w':Bool) (h_b:b=b') (h_w:w=w'):iQ b w X Y=iQ b' w' X Y:=by subst h_b h_w;rfl
@[congr] theorem res1_cg (P:Program) (S:AS) (x:ResultVar) (E:AV→Prop)   : n7 P S x E=n7 P S x E:=by rfl
@[congr] theorem resL_cg (P:Program) (S:AS) (x:List ResultVar) (E:List AV→Prop)   : n5 P S x E=n5 P S x E:=by rfl
theorem b8k (k nt:Nat):(∀ d∈(some k).toList,d<nt)=(k<nt):=by simp
theorem b8l (nt:Nat):(∀ d∈(none:Option Nat).toList,d<nt)=True:=by simp
theorem c2t {α:Type} (p:α→Prop):(∀ x∈([]:List α),p x)=True:=by simp
attribute [go_sem ↓] b8k b8l c2t
structure Pk (α:Type) where
 run:α→Prop
def Tg {α:Type} (_:α):Type:=Unit
def tg {α:Type} (x:α):Tg x:=()
def hid {α:Type} (E:α→Prop) (_:Tg E):Pk α:=⟨E⟩
theorem c1v (E:Eff→Prop) (u:Tg E) (a:AV) (b:List (Nat × AV)) (c:List Nat):(hid E u).run ⟨a,b,c⟩=E ⟨a,b,c⟩:=rfl
def gcaseP (b want:Bool) (X Y:Prop) (_:Tg (X,Y)):Prop:=iQ b want X Y
theorem b3w (X Y:Prop) (u:Tg (X,Y)):gcaseP true true X Y u=X:=a3t X Y
theorem b3z (X Y:Prop) (u:Tg (X,Y)):gcaseP false false X Y u=X:=a3w X Y
theorem b3x (X Y:Prop) (u:Tg (X,Y)):gcaseP true false X Y u=Y:=a3u X Y
theorem b3y (X Y:Prop) (u:Tg (X,Y)):gcaseP false true X Y u=Y:=a3v X Y
theorem a9m {b want:Bool} {X Y:Prop} {u:Tg (X,Y)} (h1:b=want→X) (h2:b=!want→Y):gcaseP b want X Y u:=⟨h1,fun h=>h2 (by cases b<;>cases want<;>simp_all)⟩
def aM (P:Program) (nt:Nat) (ops:List Oper) (o:Oper) (i:Nat) (S:AS) (K:AS→Eff→Prop) (_:Tg (ops,o,K)):Prop:=aQ P nt ops o i S K
def aP (P:Program) (nt:Nat) (ops l:List Oper) (i:Nat) (S:AS) (fs:List Foot) (K:AS→List Foot→Prop) (_:Tg (ops,l,fs,K)):Prop:=aN P nt ops l i S fs K
def zC (ops:List Oper) (j:Nat):Option Nat:=(ops[j]?).bind (·.dst)
theorem b2s (P : Program) (nt : Nat) (ops : List Oper) (o : Oper) (l : List Oper) (i : Nat) (S : AS) (fs : List Foot) (K : AS → List Foot → Prop) (u : Tg (ops, o :: l, fs, K)) :
  aP P nt ops (o::l) i S fs K u=aM P nt ops o (S.nx+i) S (fun S' e=>aP P nt ops l (i+1) S' (fs++[eA ops o (S.nx+i) e]) K (tg _)) (tg _):=rfl
theorem b6i (P : Program) (nt : Nat) (ops : List Oper) (i : Nat) (S : AS) (fs : List Foot) (K : AS → List Foot → Prop) (u : Tg (ops, [], fs, K)) :
  aP P nt ops [] i S fs K u=K S fs:=rfl
theorem b3g (P : Program) (nt : Nat) (ops : List Oper) (dst : Option Nat) (op : Op) (ty : TypeId) (pos : String) (af : Array Edge) (i : Nat) (S : AS) (K : AS → Eff → Prop) (u : Tg (ops, (⟨dst, op, ty, pos, af, none⟩ : Oper), K)) :
  aM P nt ops ⟨dst,op,ty,pos,af,none⟩ i S K u=((∀ d∈dst.toList,d<nt)∧aO P op i (rdO (look S.t)) (look S.o) (hid (fun e=>K (S.step dst e) e) (tg _)).run):=rfl
theorem b3f (P : Program) (nt : Nat) (ops : List Oper) (dst : Option Nat) (op : Op) (ty : TypeId) (pos : String) (af : Array Edge) (j : Nat) (want : Bool) (i : Nat) (S : AS) (K : AS → Eff → Prop) (u : Tg (ops, (⟨dst, op, ty, pos, af, some (j, want)⟩ : Oper), K)) :
  aM P nt ops ⟨dst,op,ty,pos,af,some (j,want)⟩ i S K u=((∀ d∈dst.toList,d<nt)∧match zC ops j with
   | some d=>match look S.t d with
    | .lit (.bool b)=>gcaseP b want (aO P op i (rdO (look S.t)) (look S.o) (hid (fun e=>K (S.step dst e) e) (tg _)).run) (K (S.step dst ⟨.tup [],[],[]⟩) ⟨.tup [],[],[]⟩) (tg _)
    | .tup _=>K (S.step dst ⟨.tup [],[],[]⟩) ⟨.tup [],[],[]⟩
    | _=>False
   | none=>False):=by
 unfold aM aQ qG zC
 simp only
 cases (ops[j]?).bind (·.dst)<;>rfl
theorem i5 {P:Program} {nt:Nat} {R:AS→Prop} {k:List Itm} {S:AS} {id:Nat} {l:List Oper} (h:aP P nt l l 0 S [] (fun S' _=>AW P nt R k { S' with nx:=S.nx+l.length }) (tg _)):AW P nt R (.code (.region id l.toArray false)::k) S:=AW.region h
theorem a4l {P:Program} {nt:Nat} {R:AS→Prop} {k:List Itm} {S:AS} {id:Nat} {l:List Oper} (hm:P.follows .mixedOrders=true) (h:aP P nt l l 0 S [] (fun S' fs=>mA l.toArray fs=true∧AW P nt R k { S' with nx:=S.nx+l.length }) (tg _)):AW P nt R (.code (.region id l.toArray true)::k) S:=c2z hm h
theorem c1a {ops:Array Oper} {fs:List Foot} {X:Prop} (h:mA ops fs=true) (hx:X):mA ops fs=true∧X:=⟨h,hx⟩
attribute [go_sem ↓] b3g b3f c1v rD oG m9 aO
attribute [go_sem] b2s b6i b3w b3z b3x b3y zC
attribute [go_sem] a3t a3v a3u a3w qR nX rE nR qD
attribute [congr] b9i
theorem c0x (ρ:Nat→AV) (t:Nat):rdO ρ (.tmp t)=ρ t:=rfl
theorem b2w (ρ:Nat→AV) (v:Value):rdO ρ (.const v)=sJ v:=rfl
theorem b6l (ρ:Nat→AV) (f:Nat):rdO ρ (.func f)=.clo f []:=rfl
theorem b3k (i l:Nat) (a:AV) (r:List (Nat × AV)):look ((i,a)::r) l=if i=l then a else look r l:=rfl
theorem b7j (l:Nat):look [] l=.any:=rfl
attribute [go_sem ↓] c0x b2w b6l
attribute [go_sem] b3k b7j sJ AS.step qG tG AV.solid AV.cells mk LK.fits mY tQ rC bnd pW bw bwa idA oC bwc bwr bwn j7 ceq eC qH iY oY faV pT nY mJ oL pR qQ jD nX qD tJ p9 n7 kZ n5 nR pO unV mmV pF qE qF qT qM qU mG valOf mX
attribute [go_sem] false_implies implies_true List.cons_append List.nil_append List.append_assoc true_and and_true false_and and_false List.size_toArray List.length_cons List.length_nil List.length_append List.getElem?_cons_zero List.getElem?_cons_succ Option.bind_some Option.bind_none List.map_cons List.map_nil List.take List.drop List.headD_cons not_true_eq_false not_false_eq_true ne_eq true_or or_true false_or or_false Bool.false_eq_true decide_true decide_false Bool.and_self Bool.and_true Bool.true_and Bool.and_false Bool.false_and Bool.or_true Bool.true_or Bool.or_false Bool.false_or Bool.not_true Bool.not_false beq_self_eq_true eq_self_iff_true List.getD_cons_zero List.getD_cons_succ List.set_cons_zero List.set_cons_succ List.flatMap_cons List.flatMap_nil List.flatten_cons List.flatten_nil Option.isSome_some Option.isNone_none Option.map_none Option.map_some
attribute [go_sem] gL inT inO p7 c6q c6r c6n gJ In_fp c6p c6o vY In_vp wK In_mp InC List.forall_mem_cons
theorem c0h {a b:Int} (h:0≤a):a.tdiv b=a / b:=Int.tdiv_eq_ediv_of_nonneg h
theorem c0g {a b:Int} (h:0≤a):a.tmod b=a % b:=Int.tmod_eq_emod_of_nonneg h
theorem a5t {a b:Int} (h:0≤b):a.fdiv b=a / b:=Int.fdiv_eq_ediv_of_nonneg a h
theorem wrap64 {n:Int} (h:-9223372036854775808≤n) (h2:n<9223372036854775808):IntKind.i64.wrap n=n:=by rw[IntKind.wrap_i64];omega
theorem jT {n:Int} (h:0≤n) (h2:n<256):IntKind.u8.wrap n=n:=by simp[IntKind.wrap,IntKind.bits,IntKind.signed];omega
theorem yI {n:Int} (h:0≤n) (h2:n<4294967296):IntKind.u32.wrap n=n:=by simp[IntKind.wrap,IntKind.bits,IntKind.signed];omega
theorem vD {n:Int} (h:0≤n) (h2:n<18446744073709551616):IntKind.u64.wrap n=n:=by simp[IntKind.wrap,IntKind.bits,IntKind.signed];omega
end Go.Sx
