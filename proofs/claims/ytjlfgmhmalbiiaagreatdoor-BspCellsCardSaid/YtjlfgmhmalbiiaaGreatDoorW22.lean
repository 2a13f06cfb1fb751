import Derived.Shelf.SlSortCmp.WholeK
import Derived.Shelf.SlGeneric
import Derived.Ground.SlsfProg
import Derived.Test.YtjlfgmhmalbiiaaGreatDoorW21
set_option linter.all false
set_option maxHeartbeats 1600000
open Array renaming getElem?_eq_some_iff → An, getElem?_modify → Aq
open List renaming flatMap_append → Ac, length_cons → Ad, length_nil → Ag, length_map → Ah, length_pos_of_mem → Ai, flatMap_cons → Aj, nodup_append → Ak, mem_erase_of_ne → Am, length_erase_of_mem → Ao, getElem_map → Ap, mem_cons → Ar, mem_map → As, not_mem_nil → Au, nil_append → Aw
open Nat renaming le_trans → Ae, reduceAdd → Al, le_add_right → At, le_refl → Av, zero_le → Ay
open Rat renaming mul_nonneg → Aa, mul_pos → Ab, le_of_lt → Af, mul_comm → Ax, le_refl → Az, not_le → A3
namespace Go.Sx
open Go.Proofs
set_option linter.unusedVariables false
theorem CallOK.grown {P : Program} {f : Nat} {args : List AV} {r : AV} {vals : List Value} (h : CallOK P f args [] r []) (hrel : ∀ g, RelL g args vals) (hr : Flat r) (W : World) :
  Calls P f vals.toArray W fun e w'=>(∃ v,e=.returned v∧∀ g,Rel g r v)∧∃ q os',w'=Go.Sort.grow (W.drewN q) os':=by
 let g:Gh:={ w:=W,fz:=fun _=>False,us:=fun _=>False,blk:=fun _=>0,des:=fun _=>⟨none,0,0,0⟩,len:=fun _=>0 }
 have hg:GOk (bG P g (upd aF [])) g (upd aF []):=⟨rfl,Tp.rfl,rfl,Av _,fun _ _ _=>rfl,fun b hb=>hb,fun b hb=>.inl hb,fun b hb=>hb.elim,fun l=>trivial,fun l b hb=>by simp[upd,aF,aE]at hb,fun l l' b hb=>by simp[upd,aF,aE]at hb⟩
 refine (h g vals (fun l=>by simp[g]) hg (hrel g)).mono ?_
 rintro e w' ⟨v,g',rfl,rfl,he,hus,hg',hrr⟩
 refine⟨⟨v,rfl,fun g2=>hrr.flat hr⟩,g'.w.drawn - W.drawn,g'.w.heap.extract W.heap.size g'.w.heap.size,?_⟩
 have h1:g'.w.os=W.os:=hg'.os
 have h2:Tp g'.w W:=hg'.tape
 have h3:g'.w.output=W.output:=hg'.output
 have h4:W.heap.size≤g'.w.heap.size:=hg'.size
 have h5:∀ b,b<W.heap.size→g'.w.heap[b]?=W.heap[b]?:=fun b hb=>hg'.old b hb (by rintro⟨l,hl⟩;simp[upd,aF,aE]at hl)
 have h6:g'.w.heap=W.heap++g'.w.heap.extract W.heap.size g'.w.heap.size:=by
  apply Array.ext_getElem?
  intro k
  rw[Array.getElem?_append]
  split
  ·rename_i hk;exact h5 k hk
  ·rename_i hk
   rw[Array.getElem?_extract]
   by_cases hk2:k<g'.w.heap.size
   ·rw[if_pos (by omega)];congr 1;omega
   ·rw[if_neg (by omega)];exact Array.getElem?_eq_none (by omega)
 obtain⟨h7,h8⟩:=h2
 generalize hE:g'.w.heap.extract W.heap.size g'.w.heap.size=os' at *
 generalize g'.w=w' at *
 cases w' with|mk a b c d e =>
 cases W with|mk a' b' c' d' e' =>
 simp only at h1 h3 h6 h7 h8
 subst h1 h3 h7
 simp only[Go.Sort.grow,World.drewN,World.mk.injEq,true_and,and_true]
 exact⟨h6,by omega⟩
theorem c4i {α:Type} [Inhabited α] (enc:α→List Value) (k:Nat) (w:World) (blk off m:Nat) (d:Array α) (os:Array Obj):w.heap.size≤(sortWorldK enc k w blk off m d os).heap.size:=size_sortWorldK_c enc k w blk off m d os
theorem c7z {α:Type} [Inhabited α] (enc:α→List Value) (k:Nat) (w:World) (blk off m:Nat) (d:Array α) (os:Array Obj) {b:Nat} (hb:b<w.heap.size) (hne:b≠blk):(sortWorldK enc k w blk off m d os).heap[b]?=w.heap[b]?:=by
 have hne':¬ blk=b:=fun e=>hne e.symm
 unfold sortWorldK
 rw[Go.Sort.heap_grow_old _ _ (by simpa [Go.Sort.putRowK,Go.Sort.putRow,Go.Sort.mapBlock,Go.Sort.ahead]using hb)]
 simp[Go.Sort.putRowK,Go.Sort.putRow,Go.Sort.mapBlock,Go.Sort.ahead,Aq,hne']
theorem c8a {α : Type} [Inhabited α] (enc : α → List Value) (k : Nat) (w : World) (blk off m : Nat) (d : Array α) (os : Array Obj) {vs : Array Value} {e : TypeId} {fr : Nat × Nat} (h : w.heap[blk]? = some (.cells vs e fr)) :
  (sortWorldK enc k w blk off m d os).heap[blk]?=some (.cells (Go.Sort.putCells id off (Go.Sort.flatK enc k d) vs) e fr):=by
 have hb:blk<w.heap.size:=(An.1 h).1
 unfold sortWorldK
 rw[Go.Sort.heap_grow_old _ _ (by simpa [Go.Sort.putRowK,Go.Sort.putRow,Go.Sort.mapBlock,Go.Sort.ahead]using hb)]
 simp[Go.Sort.putRowK,Go.Sort.putRow,Go.Sort.mapBlock,Go.Sort.ahead,Aq,h,Go.Sort.onCells]
theorem c4j {α : Type} [Inhabited α] (enc : α → List Value) (k : Nat) (w : World) (blk off m : Nat) (d : Array α) (os : Array Obj) :
  (sortWorldK enc k w blk off m d os).os=w.os∧Tp (sortWorldK enc k w blk off m d os) w∧(sortWorldK enc k w blk off m d os).output=w.output :=
 ⟨rfl,⟨rfl,At _ _⟩,rfl⟩
abbrev CP:={p:Pt // CanP p∧BPt 1073741824 p}
def a1z:Pt:=⟨0,0,0,1⟩
theorem c7j:(Zm 1).size≤1:=by rw[cO];decide
theorem c0j:CanP a1z∧BPt 1073741824 a1z:=by
 have h0:=(wR 1073741824).out
 refine⟨⟨by decide,by decide⟩,⟨⟨h0.a,h0.a,h0.a,?_⟩⟩⟩
 have:=c7j
 show (Zm 1).size≤_
 omega
instance:Inhabited CP:=⟨⟨a1z,c0j⟩⟩
def fT (p:Pt):List Value:=[.bool (Zn p.x),.string (Zm p.x),.bool (Zn p.y),.string (Zm p.y),.bool (Zn p.z),.string (Zm p.z),.bool (Zn p.w),.string (Zm p.w)]
def cW (p:CP):List Value:=fT p.1
def cfC (a b:CP):Int:=rU a.1 b.1
theorem c2a (p:CP):(cW p).length=8:=rfl
theorem b7m (p:Pt):∀ v∈fT p,v.oneCell'=true:=by
 intro v hv
 simp only[fT,Ar,Au,or_false]at hv
 rcases hv with rfl|rfl|rfl|rfl|rfl|rfl|rfl|rfl<;>rfl
theorem c1z (p:CP):∀ v∈cW p,v.oneCell'=true:=by
 intro v hv
 simp only[cW,fT,Ar,Au,or_false]at hv
 rcases hv with rfl|rfl|rfl|rfl|rfl|rfl|rfl|rfl<;>rfl
theorem swoC:Go.Sort.SWO (ltOf cfC):=by
 have e:∀ a b:CP,ltOf cfC a b=decide (ltV (tv a.1) (tv b.1)):=fun a b=>by
  unfold ltOf cfC
  rw[decide_eq_decide]
  exact a8o a.2.1.w b.2.1.w
 refine⟨fun x=>?_,fun x y z h k=>?_,fun x y z h k=>?_⟩
 ·rw[e];exact decide_eq_false (a3r _)
 ·rw[e]at *;exact decide_eq_true (a4r (of_decide_eq_true h) (of_decide_eq_true k))
 ·rw[e]at *;exact decide_eq_false (a3q (of_decide_eq_false h) (of_decide_eq_false k))
theorem b2z {d d':Array CP} (hp:Go.Sort.PermIn 0 d.size d d') (hs:Go.Sort.SortedIn (ltOf cfC) 0 d.size d'):d'.toList.map (·.1)=gY (d.toList.map (·.1)):=by
 obtain⟨h1,h2,h3⟩:=hp
 have e1:(d'.extract 0 d.size).toList=d'.toList:=by rw[← h1];simp
 have e2:(d.extract 0 d.size).toList=d.toList:=by simp
 rw[e1,e2]at h3
 refine b2u (fun p hp=>?_) (h3.map _) ?_
 ·obtain⟨q,_,rfl⟩:=As.1 hp
  exact q.2.1
 ·rw[List.pairwise_map,List.pairwise_iff_getElem]
  intro i j hi hj hij
  have:=hs i j (Ay _) hij (by simpa [h1]using hj)
  have hi':i<d'.size:=by simpa using hi
  have hj':j<d'.size:=by simpa using hj
  rw[getElem!_pos d' j hj',getElem!_pos d' i hi']at this
  have this:¬ rU (d'[j]).1 (d'[i]).1<0:=of_decide_eq_false this
  rw[a8o (d'[j]).2.1.w (d'[i]).2.1.w]at this
  simp only[leP,Bool.not_eq_true',decide_eq_false_iff_not]
  simpa using this
theorem a1n (p:Pt) (j:Nat) (h:j<(eP p).length):(eP p)[j]=.lit ((fT p)[j]!):=by
 simp only[eP,e4,Ad,Ag]at h
 match j,h with
 | 0,_=>rfl
 | 1,_=>rfl
 | 2,_=>rfl
 | 3,_=>rfl
 | 4,_=>rfl
 | 5,_=>rfl
 | 6,_=>rfl
 | 7,_=>rfl
theorem c9x {g : Gh} {b e : Nat} {cs : Array Value} {d : Array CP} (hb : g.w.heap[b]? = some (.cells cs e (0, 0))) (hs : d.size * 8 ≤ cs.size)
  (h:∀ i (h1:i<((d.toList.map (·.1)).map eP).length) j (h2:j<((d.toList.map (·.1)).map eP)[i].length) (h3:i*8+j<cs.size),Rel g ((d.toList.map (·.1)).map eP)[i][j] cs[i*8+j]):Go.Sort.HoldsK cW 8 g.w b 0 d:=by
 intro t ht
 rw[Go.Sort.size_flatK]at ht
 have hd:t / 8<d.size:=by omega
 have h1:=h (t / 8) (by simpa using hd) (t % 8) (by simp only[Ap,eP,e4,Ad,Ag];omega) (by omega)
 have e0:t / 8*8+t % 8=t:=by omega
 simp only[e0]at h1
 have e1:((d.toList.map (·.1)).map eP)[t / 8]'(by simpa using hd)=eP (d[t / 8]).1:=by simp
 have e2:(((d.toList.map (·.1)).map eP)[t / 8]'(by simpa using hd))[t % 8]'(by simp only[Ap,eP,e4,Ad,Ag];omega)=.lit ((fT (d[t / 8]).1)[t % 8]!):=by
  rw[← a1n _ _ (by simp only[eP,e4,Ad,Ag];omega)]
  simp only[e1]
 rw[e2]at h1
 have hx:(fT (d[t / 8]).1)[t % 8]! = cs[t]:=by
  generalize hq:(fT (d[t / 8]).1)[t % 8]! = q at h1 ⊢
  generalize cs[t]=r at h1 ⊢
  cases h1
  rfl
 refine⟨?_,?_⟩
 ·simp only[World.cell?,hb,Nat.zero_add]
  rw[Go.Sort.get_flatK _ _ _ _ ht,getElem!_pos d _ hd]
  simp only[Option.isSome_none,Bool.false_eq_true,if_false]
  rw[Array.getElem?_eq_getElem (by omega)]
  simp only[id,cW]
  exact congrArg some hx.symm
 ·simp[World.frozen?,hb]
theorem a7l {d:Array CP} {cs:Array Value} {t:Nat} (h:t<(Go.Sort.putCells id 0 (Go.Sort.flatK cW 8 d) cs).size) (ht:t<d.size*8):(Go.Sort.putCells id 0 (Go.Sort.flatK cW 8 d) cs)[t]=(cW d[t / 8]!)[t % 8]!:=by
 have h':t<cs.size:=by simpa [Go.Sort.putCells]using h
 have e:=Array.getElem_mapIdx (f:=fun k x=>if 0≤k∧k<0+(Go.Sort.flatK cW 8 d).size then id (Go.Sort.flatK cW 8 d)[k - 0]! else x) (xs:=cs) (i:=t) (h:=h)
 refine e.trans ((if_pos ⟨Ay _,by rw[Go.Sort.size_flatK];omega⟩).trans ?_)
 exact Go.Sort.get_flatK _ _ _ _ ht
theorem c2b {p:CP} {j:Nat} (h:j<8):((cW p)[j]!).oneCell'=true:=by
 match j,h with
 | 0,_=>rfl
 | 1,_=>rfl
 | 2,_=>rfl
 | 3,_=>rfl
 | 4,_=>rfl
 | 5,_=>rfl
 | 6,_=>rfl
 | 7,_=>rfl
theorem c4m {P : Program} {f gf : Nat} (vs : List Pt) (hv : ∀ p ∈ vs, CanP p ∧ BPt 1073741824 p) (hn : vs.length < 4611686018427387904)
  (hnil:CallOK P f [.lit (.slice none 0 0),.clo gf []] [] (.tup []) [])
  (hlib:∀ (blk cap:Nat) (d:Array CP) (w:World),Go.Sort.HoldsK cW 8 w blk 0 d→blk<w.heap.size→d.size<4611686018427387904 →
   Calls P f #[.slice (some ⟨blk,0,none⟩) d.size cap,.func (.func gf) #[] #[]] w fun e w'=>e=.returned (.tuple #[])∧∃ d' n os,Go.Sort.PermIn 0 d.size d d'∧Go.Sort.SortedIn (ltOf cfC) 0 d.size d'∧w'=sortWorldK cW 8 w blk 0 n d' os) :
  CallOK P f [.ref 0 0 vs.length vs.length,.clo gf []] [(0,.vec 8 (vs.map eP))] (.tup []) [(0,.vec 8 ((gY vs).map eP))]:=by
 intro g vals hus hg hrel
 obtain⟨hl,hr⟩:=hrel
 match vals,hl,hr with
 | [v1,v2],_,hr =>
 have r1:Rel g (.ref 0 0 vs.length vs.length) v1:=hr 0 (by simp) (by simp)
 have r2:Rel g (.clo gf []) v2:=hr 1 (by simp) (by simp)
 cases r2 with|clo _ _ caps hs _ =>
 obtain rfl:caps=#[]:=Array.eq_empty_of_size_eq_zero hs
 cases r1 with|ref _ _ _ _ _ hu hm hc hv1 =>
 have ho:ObjOk g 0 (.vec 8 (vs.map eP)):=hg.obj 0
 obtain⟨_,k1,k2,k3,k4,k5⟩:=ho
 rw[Ah]at k2
 have e1:=hv1 k2.symm
 have hupd:upd (upd aF [(0,.vec 8 (vs.map eP))]) [(0,.vec 8 ((gY vs).map eP))]=upd aF [(0,.vec 8 ((gY vs).map eP))]:=by
  funext l
  simp only[upd]
  split<;>rfl
 rcases k5 with⟨b0,es0,cap0⟩|⟨b,cs,m1,m2,m3,m4,m5,m6,m7⟩
 ·obtain rfl:vs=[]:=by simpa using es0
  have e2:v1=.slice none 0 0:=by rw[e1];simp[Des.slice,b0,cap0]
  subst e2
  refine ((hnil.grown (vals:=[.slice none 0 0,.func (.func gf) #[] #[]]) (fun g=>RelL.cons (.lit _) (RelL.cons (.clo gf [] #[] rfl (fun i h1=>by simp at h1)) RelL.nil)) (.tup _ (by simp)) g.w)).mono ?_
  rintro e w' ⟨⟨v,rfl,hvr⟩,q,os',rfl⟩
  have hso:gY []=[]:=by
   have:=nY []
   exact List.eq_nil_of_length_eq_zero this
  have hold:∀ b,b<g.w.heap.size→(Go.Sort.grow (g.w.drewN q) os').heap[b]?=g.w.heap[b]?:=fun b hb=>Go.Sort.heap_grow_old _ _ hb
  have hev:Ev g { g with w:=Go.Sort.grow (g.w.drewN q) os' }:=⟨fun b hb=>⟨hb,hold b (hg.fzx b hb)⟩,fun l hl=>⟨hl,rfl,Av _,fun _=>rfl⟩⟩
  refine⟨v,{ g with w:=Go.Sort.grow (g.w.drewN q) os' },rfl,rfl,hev,fun l=>Iff.rfl,?_,hvr _⟩
  rw[← hupd]
  refine hg.turn hev 0 _ rfl ⟨rfl,At _ _⟩ rfl (by simp[Go.Sort.grow,World.drewN]) rfl (fun l _=>⟨rfl,rfl,rfl⟩) (fun b hb _=>hold b hb) ?_ ?_
  ·rw[hso];exact⟨hu,k1,k2,k3,k4,.inl ⟨b0,rfl,cap0⟩⟩
  ·intro b hb
   simp only[aE]at hb
   rw[b0]at hb
   contradiction
 ·let d:Array CP:=(vs.attach.map fun p=>(⟨p.1,hv p.1 p.2⟩:CP)).toArray
  have hd:d.toList.map (·.1)=vs:=by
   show (vs.attach.map fun p=>(⟨p.1,hv p.1 p.2⟩:CP)).map (·.1)=vs
   rw[List.map_map]
   exact List.attach_map_subtype_val vs
  have hds:d.size=vs.length:=by
   have:=congrArg List.length hd
   simpa using this
  have e2:v1=.slice (some ⟨b,0,none⟩) d.size (g.des 0).cap:=by rw[e1,hds];simp[Des.slice,m1]
  subst e2
  rw[Ah]at m3 m6
  have hb:b<g.w.heap.size:=(An.1 m2).1
  have hH:Go.Sort.HoldsK cW 8 g.w b 0 d:=by
   refine c9x m2 (by rw[hds,m5];exact Nat.mul_le_mul_right _ m3) ?_
   simp only[hd]
   exact m7
  refine (hlib b (g.des 0).cap d g.w hH hb (by omega)).mono ?_
  rintro e w' ⟨rfl,d',n,os,hp,hsd,rfl⟩
  have hsl:=b2z hp hsd
  rw[hd]at hsl
  have hds':d'.size=vs.length:=by rw[hp.1,hds]
  have hold:∀ b',b'<g.w.heap.size→b'≠b→(sortWorldK cW 8 g.w b 0 n d' os).heap[b']?=g.w.heap[b']?:=fun b' h1 h2=>c7z cW 8 g.w b 0 n d' os h1 h2
  have hnew:=c8a cW 8 g.w b 0 n d' os m2
  obtain⟨q1,q2,q3⟩:=c4j cW 8 g.w b 0 n d' os
  have q4:=c4i cW 8 g.w b 0 n d' os
  generalize sortWorldK cW 8 g.w b 0 n d' os=w' at *
  have hnf:¬ g.fz b:=(hg.own 0 b (by show aE g 0 (.vec 8 (vs.map eP))=some b;exact m1)).2
  have hev:Ev g { g with w:=w' }:=⟨fun b' hb'=>⟨hb',hold b' (hg.fzx b' hb') (fun e=>hnf (e▸hb'))⟩,fun l hl=>⟨hl,rfl,Av _,fun _=>rfl⟩⟩
  refine⟨.tuple #[],{ g with w:=w' },rfl,rfl,hev,fun l=>Iff.rfl,?_,.tup _ _ rfl (fun i h1=>by simp at h1)⟩
  rw[← hupd]
  have hsz:(Go.Sort.putCells id 0 (Go.Sort.flatK cW 8 d') cs).size=cs.size:=by simp[Go.Sort.putCells]
  refine hg.turn hev 0 _ q1 q2 q3 q4 rfl (fun l _=>⟨rfl,rfl,rfl⟩) (fun b' hb' hne=>hold b' hb' (fun e=>hne (by subst e;exact m1))) ?_ (fun b' hb'=>.inl hb')
  refine⟨hu,k1,by rw[Ah,nY];exact k2,k3,fun e he=>?_,.inr ⟨b,_,m1,hnew,by rw[Ah,nY];exact m3,m4,by rw[hsz];exact m5,fun i h2 h3=>?_,fun i h1 j h2 h3=>?_⟩⟩
  ·obtain⟨p,_,rfl⟩:=As.1 he
   rfl
  ·rw[Ah,nY]at h3
   rw[a7l h2 (by rw[hds'];exact h3)]
   exact c2b (by omega)
  ·have h1':i<d'.size:=by rw[Ah,nY]at h1;omega
   have h2':j<8:=by simpa only[Ap,eP,e4,Ad,Ag]using h2
   rw[a7l h3 (by omega)]
   have a1:(i*8+j) / 8=i:=by omega
   have a2:(i*8+j) % 8=j:=by omega
   rw[a1,a2,getElem!_pos d' i h1']
   have a3:((gY vs).map eP)[i]=eP (d'[i]).1:=by simp only[← hsl];simp
   have a4:((gY vs).map eP)[i][j]=.lit ((fT (d'[i]).1)[j]!):=by
    rw[← a1n _ _ (by simp only[eP,e4,Ad,Ag];omega)]
    simp only[a3]
   rw[a4]
   exact .lit _
end Go.Sx
namespace Go.Proofs.Vx
open Go Go.Sx Go.Proofs Tryz
attribute [local irreducible] fnT CallOK CallFr AW aI callV aL aJ aH aK gcaseP hid
theorem b8r:agT prog 200=some false∧boT prog 200=false∧kiT prog 171=some .u64∧slT prog 171=none∧slT prog 3=none∧bH prog 171=false:=by and_intros<;>kernel_rfl
attribute [go_sem] b8r
theorem b9m:((([0,1,2,2,3,3,3,3,4,4,4,4,4,4,4,4,5,5,5,5,5,5,5,5,5,5,5,5,5,5,5,5,6,6,6,6,6,6,6,6,6,6,6,6,6,6,6,6,6,6,6,6,6,6,6,6,6,6,6,6,6,6,6,6]:List UInt8).append [7,7,7,7,7,7,7,7,7,7,7,7,7,7,7,7,7,7,7,7,7,7,7,7,7,7,7,7,7,7,7,7,7,7,7,7,7,7,7,7,7,7,7,7,7,7,7,7,7,7,7,7,7,7,7,7,7,7,7,7,7,7,7,7]).append ([8,8,8,8,8,8,8,8,8,8,8,8,8,8,8,8,8,8,8,8,8,8,8,8,8,8,8,8,8,8,8,8,8,8,8,8,8,8,8,8,8,8,8,8,8,8,8,8,8,8,8,8,8,8,8,8,8,8,8,8,8,8,8,8].append [8,8,8,8,8,8,8,8,8,8,8,8,8,8,8,8,8,8,8,8,8,8,8,8,8,8,8,8,8,8,8,8,8,8,8,8,8,8,8,8,8,8,8,8,8,8,8,8,8,8,8,8,8,8,8,8,8,8,8,8,8,8,8,8])).length=256:=by kernel_rfl
theorem c4h:bt ⟨((([0,1,2,2,3,3,3,3,4,4,4,4,4,4,4,4,5,5,5,5,5,5,5,5,5,5,5,5,5,5,5,5,6,6,6,6,6,6,6,6,6,6,6,6,6,6,6,6,6,6,6,6,6,6,6,6,6,6,6,6,6,6,6,6]:List UInt8).append [7,7,7,7,7,7,7,7,7,7,7,7,7,7,7,7,7,7,7,7,7,7,7,7,7,7,7,7,7,7,7,7,7,7,7,7,7,7,7,7,7,7,7,7,7,7,7,7,7,7,7,7,7,7,7,7,7,7,7,7,7,7,7,7]).append ([8,8,8,8,8,8,8,8,8,8,8,8,8,8,8,8,8,8,8,8,8,8,8,8,8,8,8,8,8,8,8,8,8,8,8,8,8,8,8,8,8,8,8,8,8,8,8,8,8,8,8,8,8,8,8,8,8,8,8,8,8,8,8,8].append [8,8,8,8,8,8,8,8,8,8,8,8,8,8,8,8,8,8,8,8,8,8,8,8,8,8,8,8,8,8,8,8,8,8,8,8,8,8,8,8,8,8,8,8,8,8,8,8,8,8,8,8,8,8,8,8,8,8,8,8,8,8,8,8])).toArray⟩ 0=0:=by kernel_rfl
theorem c206z  : CallOK prog 206 [.lit (.int .u64 0)] [] (.lit (.int .i64 0)) []:=by
 refine zs func206 25 [.tmp 2] results206 ?_
 simp only[aD,Al]
 repeat'(first|refine zk ?_|(refine zu ?_ ?_<;>intro hc)|(refine zv ?_ ?_<;>intro hg)|omega|simp -dsimp (disch:=try exact zo)only[go_sem,b9m,c4h,Int.toNat_zero]|contradiction|rfl)
theorem c151z  : CallOK prog 151 [.lit (.int .u64 0)] [] (.lit (.int .i64 0)) []:=by
 refine zs func151 8 [.tmp 2] results151 ?_
 simp only[aD,Al]
 have zh0:=c206z
 exact z1
theorem c197z  : CallOK prog 197 [.lit (.slice none 0 0),.lit (.int .i64 0),.lit (.int .i64 0),.clo 35 []] [] (.tup []) []:=by
 refine zs func197 53 [] results197 ?_
 simp only[aD,Al]
 repeat'(first|refine zg ?_|refine dG 2 ?_|(refine zc ?_ ?_<;>intro hc<;>first|simp only[NM]at hc|omega|skip)|refine zr ?_|(refine AW.nil (a0v ?_)<;>simp -dsimp (disch:=try exact zo)only[go_sem])|refine⟨by omega,?_⟩|(refine zb ?_ ?_<;>intro hg<;>(try rw[hg])<;>try simp only[NM]at hg)|omega|simp -dsimp (disch:=try exact zo)only[go_sem]|contradiction|rfl)
theorem c150z  : CallOK prog 150 [.lit (.slice none 0 0),.lit (.int .i64 0),.lit (.int .i64 0),.lit (.int .i64 0),.clo 35 []] [] (.tup []) []:=by
 refine zs func150 148 [] results150 ?_
 simp only[aD,Al]
 have zh0:=c197z
 exact z1b
theorem c84z  : CallOK prog 84 [.lit (.slice none 0 0),.clo 35 []] [] (.tup []) []:=by
 refine zs func84 14 [] results84 ?_
 simp only[aD,Al]
 repeat'(first|refine zk ?_|(refine zu ?_ ?_<;>intro hc)|(refine AW.nil (a0v ?_)<;>simp -dsimp (disch:=try exact zo)only[go_sem])|(refine zf c151z ?_)|(refine zq c150z ?_)|(refine zv ?_ ?_<;>intro hg)|omega|simp -dsimp (disch:=try exact zo)only[go_sem]|contradiction|rfl)
end Go.Proofs.Vx
namespace Go.Proofs
open Go.Shelf Go.RowKit Go.Lib Go.Sort
def b2n:Go.Shelf.Ren:=⟨fun|6=>84|15=>151|14=>150|28=>205|29=>206|20=>197|21=>198|22=>199|23=>200|24=>201|25=>202|26=>203|27=>204|46=>241|47=>242|48=>243|49=>244|50=>245|57=>260|n=>n,fun|22=>45|24=>51|25=>60|3=>3|39=>171|0=>0|53=>189|55=>158|4=>4|46=>201|45=>200|50=>205|5=>5|9=>9|66=>238|70=>242|76=>255|77=>256|n=>n,fun|n=>n⟩
theorem b3t:Go.Proofs.SlLaysF0.n6 Tryz.prog b2n:={
 mixed:=by kernel_rfl,
 f6:=⟨Tryz.f84.name,by decide,Tryz.func84.trans (congrArg some (by kernel_rfl))⟩,
 f14:=⟨Tryz.f150.name,by decide,Tryz.func150.trans (congrArg some (by kernel_rfl))⟩,
 f15:=Tryz.func151.trans (congrArg some (by kernel_rfl)),
 f20:=⟨Tryz.f197.name,by decide,Tryz.func197.trans (congrArg some (by kernel_rfl))⟩,
 f21:=⟨Tryz.f198.name,by decide,Tryz.func198.trans (congrArg some (by kernel_rfl))⟩,
 f22:=⟨Tryz.f199.name,by decide,Tryz.func199.trans (congrArg some (by kernel_rfl))⟩,
 f23:=⟨Tryz.f200.name,by decide,Tryz.func200.trans (congrArg some (by kernel_rfl))⟩,
 f24:=⟨Tryz.f201.name,by decide,Tryz.func201.trans (congrArg some (by kernel_rfl))⟩,
 f25:=⟨Tryz.f202.name,by decide,Tryz.func202.trans (congrArg some (by kernel_rfl))⟩,
 f26:=⟨Tryz.f203.name,by decide,Tryz.func203.trans (congrArg some (by kernel_rfl))⟩,
 f27:=⟨Tryz.f204.name,by decide,Tryz.func204.trans (congrArg some (by kernel_rfl))⟩,
 f28:=Tryz.func205.trans (congrArg some (by kernel_rfl)),
 f29:=Tryz.func206.trans (congrArg some (by kernel_rfl)),
 f46:=⟨Tryz.f241.name,by decide,Tryz.func241.trans (congrArg some (by kernel_rfl))⟩,
 f47:=Tryz.func242.trans (congrArg some (by kernel_rfl)),
 f48:=Tryz.func243.trans (congrArg some (by kernel_rfl)),
 f49:=⟨Tryz.f244.name,by decide,Tryz.func244.trans (congrArg some (by kernel_rfl))⟩,
 f50:=⟨Tryz.f245.name,by decide,Tryz.func245.trans (congrArg some (by kernel_rfl))⟩,
 f57:=⟨Tryz.f260.name,by decide,Tryz.func260.trans (congrArg some (by kernel_rfl))⟩,
 t0:=Tryz.underlying0,
 a0:=Tryz.isAgg0,
 z0:=Tryz.sizeOf0,
 v0:=Tryz.zeroValue0,
 t3:=Tryz.underlying3,
 a3:=Tryz.isAgg3,
 z3:=Tryz.sizeOf3,
 v3:=Tryz.zeroValue3,
 t4:=Tryz.underlying4,
 a4:=Tryz.isAgg4,
 z4:=Tryz.sizeOf4,
 v4:=Tryz.zeroValue4,
 t5:=Tryz.underlying5,
 a5:=Tryz.isAgg5,
 z5:=Tryz.sizeOf5,
 v5:=Tryz.zeroValue5,
 t9:=Tryz.underlying9,
 a9:=Tryz.isAgg9,
 z9:=Tryz.sizeOf9,
 v9:=Tryz.zeroValue9,
 t22:=Tryz.underlying45,
 a22:=Tryz.isAgg45,
 z22:=Tryz.sizeOf45,
 v22:=Tryz.zeroValue45,
 t25:=Tryz.underlying60,
 a25:=Tryz.isAgg60,
 z25:=Tryz.sizeOf60,
 v25:=Tryz.zeroValue60,
 t39:=Tryz.underlying171,
 a39:=Tryz.isAgg171,
 z39:=Tryz.sizeOf171,
 v39:=Tryz.zeroValue171,
 t45:=Tryz.underlying200,
 a45:=Tryz.isAgg200,
 z45:=Tryz.sizeOf200,
 v45:=Tryz.zeroValue200,
 t46:=Tryz.underlying201,
 a46:=Tryz.isAgg201,
 z46:=Tryz.sizeOf201,
 v46:=Tryz.zeroValue201,
 t50:=Tryz.underlying205,
 a50:=Tryz.isAgg205,
 z50:=Tryz.sizeOf205,
 v50:=Tryz.zeroValue205,
 t53:=Tryz.underlying189,
 a53:=Tryz.isAgg189,
 z53:=Tryz.sizeOf189,
 v53:=Tryz.zeroValue189,
 t55:=Tryz.underlying158,
 a55:=Tryz.isAgg158,
 z55:=Tryz.sizeOf158,
 v55:=Tryz.zeroValue158,
 t66:=Tryz.underlying238,
 a66:=Tryz.isAgg238,
 z66:=Tryz.sizeOf238,
 v66:=Tryz.zeroValue238,
 t70:=Tryz.underlying242,
 a70:=Tryz.isAgg242,
 z70:=Tryz.sizeOf242,
 v70:=Tryz.zeroValue242,
 t76:=Tryz.underlying255,
 a76:=Tryz.isAgg255,
 z76:=Tryz.sizeOf255,
 v76:=Tryz.zeroValue255,
 t77:=Tryz.underlying256,
 a77:=Tryz.isAgg256,
 z77:=Tryz.sizeOf256,
 v77:=Tryz.zeroValue256 }
end Go.Proofs
namespace Go.Proofs.Vx
open Go Go.Sx Go.Proofs Tryz
theorem c1y:∀ args w,(callFunc 35 args).run prog w=.ok (.enter 35 args) w:=enters_of func35 (by kernel_rfl) rfl
theorem a9o (p:Pt) (g:Gh):Rel g (.agg (eP p)) (.agg (fT p).toArray):=by
 refine .agg _ _ rfl (fun i h2=>?_) (fun i h1 h2=>?_)
 ·have:=b7m p ((fT p).toArray[i]) (by simpa using Array.getElem_mem (xs:=(fT p).toArray) (i:=i) h2)
  exact this
 ·rw[a1n p i h1]
  have:(fT p).toArray[i]=(fT p)[i]!:=by
   rw[getElem!_pos (fT p) i (by simpa using h2)];simp
  rw[this]
  exact .lit _
theorem c9s (blk off size:Nat) (w:World):CmpLays prog 35 #[] cW 8 cfC blk off size w:=by
 intro m os dk _ x y
 have hx:=x.2.2.out
 have hy:=y.2.2.out
 have h:=c35 x.1 y.1 x.2.1 y.2.1 ⟨Ae hx.a (by decide),Ae hx.b (by decide),Ae hx.c (by decide),Ae hx.d (by decide)⟩ ⟨Ae hy.a (by decide),Ae hy.b (by decide),Ae hy.c (by decide),Ae hy.d (by decide)⟩
 have:=h.grown (vals:=[.agg (fT x.1).toArray,.agg (fT y.1).toArray]) (fun g=>RelL.cons (a9o _ g) (RelL.cons (a9o _ g) RelL.nil)) (.lit _) (sortWorldK cW 8 w blk off m dk os)
 refine Calls.mono (by simpa [cW]using this) ?_
 rintro e w' ⟨⟨v,rfl,hv⟩,q,os',rfl⟩
 refine⟨?_,q,os',rfl⟩
 have hq:=hv ⟨w,fun _=>False,fun _=>False,fun _=>0,fun _=>⟨none,0,0,0⟩,fun _=>0⟩
 cases hq
 rfl
theorem c5w (w:World):(isAgg 51).run prog w=.ok true w:=by kernel_rfl
theorem b9p (w:World):(Go.sizeOf 51).run prog w=.ok 8 w:=by kernel_rfl
theorem c84 (vs:List Pt) (hv:∀ p∈vs,CanP p∧BPt 1073741824 p) (hn:vs.length<4611686018427387904):CallOK prog 84 [.ref 0 0 vs.length vs.length,.clo 35 []] [(0,.vec 8 (vs.map eP))] (.tup []) [(0,.vec 8 ((gY vs).map eP))]:=by
 refine c4m vs hv hn c84z ?_
 intro blk cap d w hH hb hsz
 have:=AnyQ.slices_SortFunc b3t 8 c5w b9p cW c2a c1z cfC swoC 35 #[] blk 0 cap d w c1y (c9s blk 0 d.size w) hH hb hsz
 change Calls prog 84 _ _ _ at this
 exact this
end Go.Proofs.Vx
namespace Geo
structure PV (n:V) (vs:List V):Prop where
 len:3≤vs.length
 nd:vs.Nodup
 lf:∀ e∈edges vs,∀ x∈vs,x≠e.1→x≠e.2→0<ori n e.1 e.2 x
theorem b9l {l:List V} {a b c:V} (ha:a∈l) (hb:b∈l) (hc:c∈l) (hab:a≠b) (hac:a≠c) (hbc:b≠c):3≤l.length:=by
 have h1:=Ao ha
 have hb':b∈l.erase a:=(Am (Ne.symm hab)).2 hb
 have hc':c∈l.erase a:=(Am (Ne.symm hac)).2 hc
 have h2:=Ao hb'
 have hc'':c∈(l.erase a).erase b:=(Am (Ne.symm hbc)).2 hc'
 have h3:=Ai hc''
 have h4:=Ai ha
 have h5:=Ai hb'
 omega
theorem PV.rot {n:V} {A B:List V} (h:PV n (A++B)):PV n (B++A):=by
 refine⟨by have:=h.len;simp at this ⊢;omega,(List.perm_append_comm.nodup_iff).1 h.nd,fun e he x hx h1 h2=>?_⟩
 exact h.lf e ((sV A B).mem_iff.2 he) x (by simpa [or_comm]using hx) h1 h2
theorem PV.weak {n:V} {vs:List V} (h:PV n vs) {e:V × V} (he:e∈edges vs) {x:V} (hx:x∈vs):0≤ori n e.1 e.2 x:=by
 by_cases h1:x=e.1
 ·rw[h1,uL];exact Az
 ·by_cases h2:x=e.2
  ·rw[h2,oR];exact Az
  ·exact Af (h.lf e he x hx h1 h2)
theorem PV.other {n:V} {vs:List V} (h:PV n vs) {e:V × V} (he:e∈edges vs):∃ x∈vs,x≠e.1∧x≠e.2:=by
 apply Classical.byContradiction
 intro hno
 have hsub:∀ x∈vs,x=e.1∨x=e.2:=fun x hx=>by
  by_cases h1:x=e.1
  ·exact .inl h1
  ·by_cases h2:x=e.2
   ·exact .inr h2
   ·exact absurd ⟨x,hx,h1,h2⟩ hno
 match vs,h.len,h.nd,hsub with
 | a::b::c::t,_,hnd,hsub =>
  have h1:=hsub a (by simp)
  have h2:=hsub b (by simp)
  have h3:=hsub c (by simp)
  simp only[List.nodup_cons,Ar,not_or]at hnd
  obtain⟨⟨n1,n2,_⟩,⟨n3,_⟩,_⟩:=hnd
  rcases h1 with h1|h1<;>rcases h2 with h2|h2<;>rcases h3 with h3|h3 <;>
   first
    | exact n1 (h1.trans h2.symm)
    | exact n2 (h1.trans h3.symm)
    | exact n3 (h2.trans h3.symm)
theorem PV.n_ne {n:V} {vs:List V} (h:PV n vs):n≠⟨0,0,0⟩:=by
 match vs,h.len,h with
 | a::t,_,h =>
  obtain⟨b,hb⟩:=oD (l:=a::t) (a:=a) (by simp)
  obtain⟨x,hx,h1,h2⟩:=h.other hb
  have:=h.lf _ hb x hx h1 h2
  exact sS (a:=a) (b:=b) (c:=x) (by grind)
theorem PV.ne {n:V} {vs:List V} (h:PV n vs) {e:V × V} (he:e∈edges vs):e.1≠e.2:=c2c h.nd (by have:=h.len;omega) he
def X (g:H) (a b:V):V:=bP (g.at a / (g.at a - g.at b)) a b
theorem b6t (a b:V):bP 0 a b=a:=by apply V.ext<;>simp[bP]<;>grind
theorem c1f (a b:V):bP 1 a b=b:=by apply V.ext<;>simp[bP]<;>grind
theorem y4 (t:Rat) (a b:V):bP (1 - t) b a=bP t a b:=by apply V.ext<;>simp[bP]<;>grind
theorem uY {g:H} {a b:V} (h:g.at a≠g.at b):g.at (X g a b)=0:=by
 unfold X;rw[j0]
 have:g.at a - g.at b≠0:=by grind
 grind
theorem uI {g:H} {a b:V} (h:g.at a≠g.at b):X g b a=X g a b:=by
 unfold X
 rw[← y4]
 congr 1
 have h1:g.at a - g.at b≠0:=by grind
 have h2:g.at b - g.at a≠0:=by grind
 grind
theorem d0w {g:H} {a b:V} (h:g.at a=0):X g a b=a:=by
 unfold X;rw[h,Rat.div_def,Rat.zero_mul,b6t]
theorem c7a {g:H} {a b:V} (h:g.at b=0) (h':g.at a≠0):X g a b=b:=by
 unfold X
 have:g.at a / (g.at a - g.at b)=1:=by rw[h];grind
 rw[this,c1f]
theorem X_w {g:H} {a b:V} (ha:g.at a≤0) (hb:0<g.at b):∃ t:Rat,0≤t∧t<1∧(g.at a<0→0<t)∧(g.at a=0→t=0)∧X g a b=bP t a b:=by
 have hd:0<g.at b - g.at a:=by grind
 have hi:=Rat.inv_pos.2 hd
 have e:g.at a / (g.at a - g.at b)=(- g.at a)*(g.at b - g.at a)⁻¹:=by
  have:g.at a - g.at b≠0:=by grind
  have:g.at b - g.at a≠0:=by grind
  grind
 have e2:(g.at b - g.at a)*(g.at b - g.at a)⁻¹=1:=Rat.mul_inv_cancel _ (by grind)
 refine⟨_,?_,?_,?_,?_,rfl⟩
 ·rw[e];exact Aa (by grind) (by grind)
 ·rw[e]
  have:=Ab hb hi
  grind
 ·intro h;rw[e];exact Ab (by grind) hi
 ·intro h;rw[e,h];grind
def eJ (g:H) (e:V × V):List V:=(if g.at e.1≤0 then [e.1]else [])++(if g.at e.1*g.at e.2<0 then [X g e.1 e.2]else [])
def part (g:H) (vs:List V):List V:=(edges vs).flatMap (eJ g)
theorem c0h (g:H) (A B:List V):∃ C D,part g (A++B)=C++D∧part g (B++A)=D++C:=by
 cases A with
 | nil=>exact⟨[],part g B,by simp,by simp⟩
 | cons a A=>cases B with
  | nil=>exact⟨part g (a::A),[],by simp,by simp⟩
  | cons b B =>
   refine⟨(aM (a::A++[b])).flatMap (eJ g),(aM (b::B++[a])).flatMap (eJ g),?_,?_⟩
   ·unfold part;rw[mG,Ac]
   ·unfold part;rw[mG,Ac]
theorem uC {a b:Rat} (ha:a≤0) (hb:b≤0):¬ a*b<0:=by
 have:=Aa (a:=-a) (b:=-b) (by grind) (by grind)
 grind
theorem a9w {a b:Rat} (ha:0≤a) (hb:0≤b):¬ a*b<0:=by
 have:=Aa ha hb
 grind
theorem nU {a b:Rat} (hb:0<b):a*b<0↔a<0:=by
 constructor
 ·intro h
  apply A3.1
  intro h2
  have:=Aa h2 (Af hb)
  grind
 ·intro h
  have:=Ab (a:=-a) (b:=b) (by grind) hb
  grind
theorem a3m (g:H) (k:V):∀ M:List V,(∀ x∈M++[k],g.at x≤0)→(aM (M++[k])).flatMap (eJ g)=M
 | [],_=>rfl
 | [a],h=>by
  have h1:=h a (by simp)
  have h2:=h k (by simp)
  simp[aM,eJ,h1,uC h1 h2]
 | a::b::M,h=>by
  have h1:=h a (by simp)
  have h2:=h b (by simp)
  have ih:=a3m g k (b::M) (fun x hx=>h x (by simp at hx ⊢;grind))
  simp only[List.cons_append,aM,Aj]at ih ⊢
  rw[ih]
  simp[eJ,h1,uC h1 h2]
theorem a3l (g:H):∀ l:List V,(∀ x∈l,0<g.at x)→(aM l).flatMap (eJ g)=[]
 | [],_=>rfl
 | [a],_=>rfl
 | a::b::l,h=>by
  have h1:=h a (by simp)
  have h2:=h b (by simp)
  have ih:=a3l g (b::l) (fun x hx=>h x (by simp at hx ⊢;grind))
  simp only[aM,Aj,ih]
  have:¬ g.at a≤0:=by grind
  simp[eJ,this,a9w (Af h1) (Af h2)]
theorem c0i {g:H} {vs:List V} (h:∀ x∈vs,g.at x≤0):part g vs=vs:=by
 have key:∀ l:List (V × V),(∀ e∈l,g.at e.1≤0∧g.at e.2≤0)→l.flatMap (eJ g)=l.map (·.1):=by
  intro l
  induction l with
  | nil=>intro _;rfl
  | cons e l ih =>
   intro hl
   obtain⟨h1,h2⟩:=hl e (by simp)
   rw[Aj,ih fun e he=>hl e (by simp[he])]
   simp[eJ,h1,uC h1 h2]
 unfold part
 rw[key _ fun e he=>⟨h _ (bD he),h _ (bL he)⟩,jE]
end Geo
namespace Geo
structure Cut (h g:H) (n0 k p0 pm:V) (N P:List V):Prop where
 pv:PV h.n (N++P)
 pl:∀ v∈N++P,h.at v=0
 neg:∀ x∈N,g.at x≤0
 pos:∀ x∈P,0<g.at x
 hn0:∃ T,N=n0::T
 hk:∃ T,N=T++[k]
 hp0:∃ T,P=p0::T
 hpm:∃ T,P=T++[pm]
 low:∃ w∈N,g.at w<0
theorem mJ {a b:Rat} (h:0<a*b) (hb:0<b):0<a:=by
 apply A3.1
 intro h2
 have:=Aa (a:=-a) (b:=b) (by grind) (Af hb)
 grind
namespace Cut
variable {h g:H} {n0 k p0 pm:V} {N P:List V}
theorem kN (c:Cut h g n0 k p0 pm N P):k∈N:=by obtain⟨T,e⟩:=c.hk;rw[e];simp
theorem n0N (c:Cut h g n0 k p0 pm N P):n0∈N:=by obtain⟨T,e⟩:=c.hn0;rw[e];simp
theorem p0P (c:Cut h g n0 k p0 pm N P):p0∈P:=by obtain⟨T,e⟩:=c.hp0;rw[e];simp
theorem pmP (c:Cut h g n0 k p0 pm N P):pm∈P:=by obtain⟨T,e⟩:=c.hpm;rw[e];simp
theorem mN {x:V} (c:Cut h g n0 k p0 pm N P) (hx:x∈N):x∈N++P:=by simp[hx]
theorem mP {x:V} (c:Cut h g n0 k p0 pm N P) (hx:x∈P):x∈N++P:=by simp[hx]
theorem gk (c:Cut h g n0 k p0 pm N P):g.at k≤0:=c.neg k c.kN
theorem gn0 (c:Cut h g n0 k p0 pm N P):g.at n0≤0:=c.neg n0 c.n0N
theorem gp0 (c:Cut h g n0 k p0 pm N P):0<g.at p0:=c.pos p0 c.p0P
theorem gpm (c:Cut h g n0 k p0 pm N P):0<g.at pm:=c.pos pm c.pmP
theorem ed (c:Cut h g n0 k p0 pm N P):edges (N++P)=(aM N++[(k,p0)])++(aM P++[(pm,n0)]):=by
 obtain⟨T1,e1⟩:=c.hn0
 obtain⟨T2,e2⟩:=c.hk
 obtain⟨T3,e3⟩:=c.hp0
 obtain⟨T4,e4⟩:=c.hpm
 have h1:aM (N++[p0])=aM N++[(k,p0)]:=by
  rw[e2];have:=mO T2 k [p0];simpa [aM]using this
 have h2:aM (P++[n0])=aM P++[(pm,n0)]:=by
  rw[e4];have:=mO T4 pm [n0];simpa [aM]using this
 rw[← h1,← h2,e1,e3]
 exact mG n0 p0 T1 T3
theorem ek (c:Cut h g n0 k p0 pm N P):(k,p0)∈edges (N++P):=by rw[c.ed];simp
theorem em (c:Cut h g n0 k p0 pm N P):(pm,n0)∈edges (N++P):=by rw[c.ed];simp
theorem eN (c:Cut h g n0 k p0 pm N P) {e:V × V} (he:e∈aM N):e∈edges (N++P):=by rw[c.ed];simp[he]
theorem partEq (c:Cut h g n0 k p0 pm N P):part g (N++P)=N++((if g.at k<0 then [X g k p0]else [])++(if g.at n0<0 then [X g pm n0]else [])):=by
 obtain⟨T2,e2⟩:=c.hk
 have h1:(aM N).flatMap (eJ g)=T2:=by rw[e2];exact a3m g k T2 (by rw[← e2];exact c.neg)
 have h2:=a3l g P c.pos
 have h3:eJ g (k,p0)=[k]++(if g.at k<0 then [X g k p0]else []):=by
  simp only[eJ,if_pos c.gk];congr 1
  by_cases hk:g.at k<0
  ·rw[if_pos hk,if_pos ((nU c.gp0).2 hk)]
  ·rw[if_neg hk,if_neg fun h=>hk ((nU c.gp0).1 h)]
 have h4:eJ g (pm,n0)=(if g.at n0<0 then [X g pm n0]else []):=by
  have:¬ g.at pm≤0:=by have:=c.gpm;grind
  simp only[eJ,if_neg this,Aw]
  by_cases hk:g.at n0<0
  ·rw[if_pos hk,if_pos (by rw[Ax];exact (nU c.gpm).2 hk)]
  ·rw[if_neg hk,if_neg fun h=>hk ((nU c.gpm).1 (by rw[Ax];exact h))]
 unfold part
 rw[c.ed,Ac,Ac,Ac,h1,h2]
 simp only[Aj,List.flatMap_nil,List.append_nil,h3,h4,Aw]
 rw[e2];simp
theorem xk (c:Cut h g n0 k p0 pm N P) (hk:¬ g.at k<0):X g k p0=k:=d0w (by have:=c.gk;grind)
theorem xm (c:Cut h g n0 k p0 pm N P) (hk:¬ g.at n0<0):X g pm n0=n0:=c7a (by have:=c.gn0;grind) (by have:=c.gpm;grind)
theorem xk_at (c:Cut h g n0 k p0 pm N P):g.at (X g k p0)=0:=uY (by have:=c.gk;have:=c.gp0;grind)
theorem xm_at (c:Cut h g n0 k p0 pm N P):g.at (X g pm n0)=0:=uY (by have:=c.gn0;have:=c.gpm;grind)
theorem xm_w (c:Cut h g n0 k p0 pm N P):∃ t:Rat,0<t∧t≤1∧(g.at n0<0→t<1)∧X g pm n0=bP t pm n0:=by
 obtain⟨t,h0,h1,h2,_,h4⟩:=X_w c.gn0 c.gpm
 refine⟨1 - t,by grind,by grind,fun h=>by have:=h2 h;grind,?_⟩
 rw[← y4,← uI (by have:=c.gn0;have:=c.gpm;grind),h4]
 congr 1;grind
theorem edW (c:Cut h g n0 k p0 pm N P):edges (part g (N++P))=aM N++((if g.at k<0 then [(k,X g k p0)]else [])++((X g k p0,X g pm n0)::(if g.at n0<0 then [(X g pm n0,n0)]else []))):=by
 obtain⟨T1,e1⟩:=c.hn0
 obtain⟨T2,e2⟩:=c.hk
 have key:∀ R,edges (N++R)=aM N++aM (k::(R++[n0])):=by
  intro R
  have h1:edges (N++R)=aM (N++(R++[n0])):=by rw[e1];simp[edges]
  rw[h1,e2]
  have:=mO T2 k (R++[n0])
  simpa using this
 rw[c.partEq,key]
 congr 1
 by_cases h1:g.at k<0<;>by_cases h2:g.at n0<0<;>simp[h1,h2,aM]
 ·exact (c.xm h2).symm
 ·exact (c.xk h1).symm
 ·exact⟨(c.xk h1).symm,(c.xm h2).symm⟩
theorem hx (c:Cut h g n0 k p0 pm N P):h.at (X g k p0)=0:=by
 unfold X;rw[j0,c.pl k (c.mN c.kN),c.pl p0 (c.mP c.p0P)];grind
theorem hy (c:Cut h g n0 k p0 pm N P):h.at (X g pm n0)=0:=by
 unfold X;rw[j0,c.pl pm (c.mP c.pmP),c.pl n0 (c.mN c.n0N)];grind
theorem Npos (c:Cut h g n0 k p0 pm N P):0<dot (aA h.n g.n) (aA h.n g.n) :=
 pN (a:=k) (w:=p0) c.pv.n_ne (by rw[c.pl k (c.mN c.kN),c.pl p0 (c.mP c.p0P)]) (by have:=c.gk;have:=c.gp0;grind)
theorem neNP {x y:V} (c:Cut h g n0 k p0 pm N P) (hx:x∈N) (hy:y∈P):x≠y:=fun e=>by
 have h1:=c.neg x hx
 have h2:=c.pos y hy
 rw[e]at h1;grind
theorem e1N (c:Cut h g n0 k p0 pm N P) {z:V} (hz:z∈N) (hk:z≠k):0<ori h.n k p0 z :=
 c.pv.lf _ c.ek z (c.mN hz) hk (c.neNP hz c.p0P)
theorem e2N (c:Cut h g n0 k p0 pm N P) {z:V} (hz:z∈N) (hk:z≠n0):0<ori h.n pm n0 z :=
 c.pv.lf _ c.em z (c.mN hz) (c.neNP hz c.pmP) hk
theorem single (c:Cut h g n0 k p0 pm N P) (e:n0=k):N=[k]:=by
 obtain⟨T1,e1⟩:=c.hn0
 obtain⟨T2,e2⟩:=c.hk
 have hnd:=(Ak.1 c.pv.nd).1
 cases T2 with
 | nil=>simpa using e2
 | cons a T2 =>
  have:a=n0:=by rw[e1]at e2;simp at e2;exact e2.1.symm
  rw[e2,this,e]at hnd
  simp at hnd
theorem single' (c:Cut h g n0 k p0 pm N P) (e:p0=pm):P=[p0]:=by
 obtain⟨T1,e1⟩:=c.hp0
 obtain⟨T2,e2⟩:=c.hpm
 have hnd:=(Ak.1 c.pv.nd).2.1
 cases T2 with
 | nil=>rw[e];simpa using e2
 | cons a T2 =>
  have:a=p0:=by rw[e1]at e2;simp at e2;exact e2.1.symm
  rw[e2,this,e]at hnd
  simp at hnd
theorem e1y (c:Cut h g n0 k p0 pm N P):0<ori h.n k p0 (X g pm n0):=by
 obtain⟨t,t0,t1,t2,te⟩:=c.xm_w
 rw[te,jF]
 have w1:=c.pv.weak c.ek (c.mP c.pmP)
 have w2:=c.pv.weak c.ek (c.mN c.n0N)
 by_cases hnk:n0=k
 ·have hN:=c.single hnk
  obtain⟨w,hw,gw⟩:=c.low
  rw[hN]at hw;simp at hw;subst hw
  have hp:pm≠p0:=by
   intro e
   have hP:=c.single' e.symm
   have:=c.pv.len
   rw[hN,hP]at this;simp at this
  have s:=c.pv.lf _ c.ek pm (c.mP c.pmP) (Ne.symm (c.neNP c.kN c.pmP)) hp
  have:=t2 (by rw[hnk];exact gw)
  have p1:=Ab (a:=1 - t) (by grind) s
  have p2:=Aa (Af t0) w2
  grind
 ·have s:=c.e1N c.n0N hnk
  have p1:=Aa (a:=1 - t) (by grind) w1
  have p2:=Ab t0 s
  grind
theorem e2x (c:Cut h g n0 k p0 pm N P):0<ori h.n pm n0 (X g k p0):=by
 obtain⟨t,t0,t1,t2,_,te⟩:=X_w c.gk c.gp0
 rw[te,jF]
 have w1:=c.pv.weak c.em (c.mN c.kN)
 have w2:=c.pv.weak c.em (c.mP c.p0P)
 by_cases hnk:k=n0
 ·have hN:=c.single hnk.symm
  obtain⟨w,hw,gw⟩:=c.low
  rw[hN]at hw;simp at hw;subst hw
  have hp:p0≠pm:=by
   intro e
   have hP:=c.single' e
   have:=c.pv.len
   rw[hN,hP]at this;simp at this
  have s:=c.pv.lf _ c.em p0 (c.mP c.p0P) hp (Ne.symm (c.neNP c.n0N c.p0P))
  have p1:=Ab (t2 gw) s
  have p2:=Aa (a:=1 - t) (by grind) w1
  grind
 ·have s:=c.e2N c.kN hnk
  have p1:=Ab (a:=1 - t) (by grind) s
  have p2:=Aa t0 w2
  grind
theorem e1x (c:Cut h g n0 k p0 pm N P):ori h.n k p0 (X g k p0)=0:=by unfold X;rw[jF,uL,oR];grind
theorem e2y (c:Cut h g n0 k p0 pm N P):ori h.n pm n0 (X g pm n0)=0:=by unfold X;rw[jF,uL,oR];grind
theorem phi1 (c:Cut h g n0 k p0 pm N P) {r:V} (hr:h.at r=0) (gr:g.at r=0) (ho:0<ori h.n k p0 r):dot (X g k p0) (aA h.n g.n)<dot r (aA h.n g.n):=by
 have e:=zN c.hx hr c.xk_at gr (c.pl k (c.mN c.kN)) (c.pl p0 (c.mP c.p0P))
 rw[c.e1x]at e
 have hN:=c.Npos
 have hnn:=fP c.pv.n_ne
 have p1:=Ab hN ho
 have p2:0<dot h.n h.n*(g.at p0 - g.at k):=Ab hnn (by have:=c.gk;have:=c.gp0;grind)
 have:=mJ (a:=dot r (aA h.n g.n) - dot (X g k p0) (aA h.n g.n)) (by rw[← e];grind) p2
 grind
theorem phixy (c:Cut h g n0 k p0 pm N P):dot (X g k p0) (aA h.n g.n)<dot (X g pm n0) (aA h.n g.n):=c.phi1 c.hy c.xm_at c.e1y
theorem xy_ne (c:Cut h g n0 k p0 pm N P):X g k p0≠X g pm n0:=fun e=>by have:=c.phixy;rw[e]at this;grind
theorem strict (c:Cut h g n0 k p0 pm N P) {z:V} (hz:z∈N) (h1:z≠X g k p0) (h2:z≠X g pm n0):g.at z<0:=by
 rcases fD (c.neg z hz)with h0|h0
 ·exact h0
 exfalso
 have pz:=c.pl z (c.mN hz)
 have hzk:z≠k:=fun e=>h1 (by rw[c.xk (by rw[← e,h0];grind),e])
 have hzn:z≠n0:=fun e=>h2 (by rw[c.xm (by rw[← e,h0];grind),e])
 have f1:=c.phi1 pz h0 (c.e1N hz hzk)
 obtain⟨T1,e1⟩:=c.hn0
 obtain⟨T2,e2⟩:=c.hk
 have hzT:z∈T1:=by rw[e1]at hz;simp at hz;exact hz.resolve_left hzn
 obtain⟨u,hu⟩:∃ u,(u,z)∈aM N:=by
  have:z∈(aM N).map (·.2):=by rw[e1,tF];exact hzT
  obtain⟨e,he,rfl⟩:=As.1 this
  exact⟨e.1,he⟩
 have hue:=c.eN hu
 have huN:u∈T2:=by
  have:u∈(aM N).map (·.1):=List.mem_map_of_mem (f:=(·.1)) hu
  rwa [e2,tG]at this
 have huk:u≠k:=by
  intro e
  have hnd:=(Ak.1 c.pv.nd).1
  rw[e2]at hnd
  exact (Ak.1 hnd).2.2 u huN k (by simp) e
 have huN':u∈N:=by rw[e2];simp[huN]
 have e:=zN pz c.hx h0 c.xk_at (c.pl u (c.mN huN')) pz
 rw[oR,h0]at e
 have hpos:0<ori h.n u z (X g k p0):=by
  obtain⟨t,t0,t1,t2,t3,te⟩:=X_w c.gk c.gp0
  rw[te,jF]
  have s1:=c.pv.lf _ hue k (c.mN c.kN) (Ne.symm huk) (Ne.symm hzk)
  have s2:=c.pv.lf _ hue p0 (c.mP c.p0P) (Ne.symm (c.neNP huN' c.p0P)) (Ne.symm (c.neNP hz c.p0P))
  have p1:=Ab (a:=1 - t) (by grind) s1
  have p2:=Aa t0 (Af s2)
  grind
 have p1:=Ab c.Npos hpos
 have p2:=Aa (Af (fP c.pv.n_ne)) (show 0≤- g.at u by have:=c.neg u huN';grind)
 have p3:=Aa (a:=dot z (aA h.n g.n) - dot (X g k p0) (aA h.n g.n)) (by grind) p2
 grind
end Cut
end Geo
