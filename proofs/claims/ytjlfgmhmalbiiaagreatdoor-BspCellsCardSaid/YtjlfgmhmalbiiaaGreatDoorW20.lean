import Derived.Test.YtjlfgmhmalbiiaaGreatDoorW19
set_option linter.all false
set_option maxHeartbeats 40000000
open Array renaming toList → At
open List renaming take_succ_eq_append_getElem → Aa, mem_map → Ab, mem_cons → Ac, getElem_mem → Ad, mapM_cons → Ae, mem_of_mem_take → Af, map_congr_left → Ag, drop_succ_cons → Ah, take_succ_cons → Ai, map_cons → Aj, foldl_append → Ak, take_length → Al, find?_cons → An, length_map → Ao, drop_zero → Ap, take_zero → Aq, mapM_nil → Ar, Pairwise → As, map_map → Au
open Nat renaming zero_le → Am
open Option renaming some → Av
namespace Go.Sx
set_option linter.unusedVariables false
set_option linter.unusedSimpArgs false
def g9 (P:Program) (t:TypeId):Option (List (TypeId × Nat)):=match P.underlying t with
 | some (.struct fs)=>if fs.all (·.name != "_")=true then some (fs.toList.map fun f=>(f.type,f.offset))else none
 | _=>none
theorem b2w {α β γ:Type} (f:α→β) (g:β→Option γ) (l:List α):(l.map f).mapM g=l.mapM fun a=>g (f a):=by
 induction l with
 | nil=>rfl
 | cons a l ih=>simp only[Aj,Ae,ih]
theorem sC {P : Program} {d : Nat} {t : TypeId} {ks : List (TypeId × Nat)} {cs : List Value} (hu : g9 P t = some ks) (hl : cs.length = P.cellsOf t) :
  P.keyLits (d+1) t cs=(ks.mapM fun p=>P.keyLits d p.1 ((cs.drop p.2).take (P.cellsOf p.1))).map List.flatten:=by
 unfold g9 at hu
 split at hu
 ·rename_i fs hs
  split at hu
  ·rename_i ha
   simp only[Av.injEq]at hu
   subst hu
   rw[b2w]
   conv=>lhs;unfold Program.keyLits
   rw[hs]
   cases cs with
   | nil=>simp only[hl,ha,and_self,if_true]
   | cons c cs=>cases cs with
    | nil=>cases c<;>simp only[hl,ha,and_self,if_true]
    | cons c' cs=>simp only[hl,ha,and_self,if_true]
  ·contradiction
 ·contradiction
theorem keyLits_bool {P:Program} {d:Nat} {t:TypeId} (b:Bool) (hu:boT P t=true):P.keyLits (d+1) t [.bool b]=some [.bool b]:=by
 unfold boT at hu
 split at hu<;>simp_all[Program.keyLits]
theorem b3h {P:Program} {d:Nat} {t:TypeId} (s:ByteArray) (hu:bH P t=true) (h:s.size≤maxLen):P.keyLits (d+1) t [.string s]=some [.string s.data.toList]:=by
 unfold bH at hu
 split at hu<;>simp_all[Program.keyLits]
theorem yE {P:Program} {t:TypeId} {ks:List (TypeId × Nat)} {vs:Array Value} {L:List Lit} (hf:g9 P t=some ks) (hk:P.keyType t=true) (hl:vs.size=P.cellsOf t) (h:P.keyLits (P.types.size+1) t vs.toList=some L):(keyOf P t (.agg vs)).isSome=true:=by
 unfold g9 at hf
 split at hf
 ·rename_i fs hs
  unfold keyOf
  rw[hs]
  simp only[Value.formed,hs,hk,hl,BEq.rfl,Bool.and_self,if_true,Value.cells,h,Option.map_some,Option.isSome_some]
 ·contradiction
def pv (p:Pt):Value:=.agg #[.bool (Zn p.x),.string (Zm p.x),.bool (Zn p.y),.string (Zm p.y),.bool (Zn p.z),.string (Zm p.z),.bool (Zn p.w),.string (Zm p.w)]
theorem qL {p q:Pt} (h:pv p=pv q):p=q:=by
 unfold pv at h
 injection h with h
 have h:=congrArg At h
 simp only[List.cons.injEq,Value.bool.injEq,Value.string.injEq,and_true]at h
 obtain⟨a1,a2,a3,a4,a5,a6,a7,a8⟩:=h
 cases p;cases q
 simp only at *
 rw[fH a1 a2,fH a3 a4,fH a5 a6,fH a7 a8]
def mPP (m:List (Pt × Pt)):List (Value × Value):=m.map fun e=>(pv e.1,pv e.2)
def mPB (m:List Pt):List (Value × Value):=m.map fun e=>(pv e,.bool true)
def j7 (m:List (Pt × Pt)) (k v:Pt):List (Pt × Pt):=if k∈m.map (·.1)then m.map (fun e=>if e.1=k then (k,v)else e)else m++[(k,v)]
def qR (m:List (Pt × Pt)) (k:Pt):Option Pt:=(m.find? fun e=>decide (e.1=k)).map (·.2)
theorem a5v (m:List (Pt × Pt)):(mPP m).map (·.1)=(m.map (·.1)).map pv:=by simp[mPP]
theorem a1f {l:List Pt} {k:Pt}:pv k∈l.map pv↔k∈l:=by
 constructor
 ·intro h
  obtain⟨q,hq,e⟩:=Ab.1 h
  rw[← qL e];exact hq
 ·exact List.mem_map_of_mem
theorem c5r (m:List (Pt × Pt)) (k v:Pt):eO (mPP m) (pv k) (pv v)=mPP (j7 m k v):=by
 unfold eO j7
 rw[a5v]
 by_cases h:k∈m.map (·.1)
 ·rw[if_pos (a1f.2 h),if_pos h]
  simp only[mPP,Au]
  apply Ag
  intro e he
  simp only[Function.comp]
  by_cases hk:e.1=k
  ·rw[if_pos (by rw[hk]),if_pos hk]
  ·rw[if_neg (fun h=>hk (qL h)),if_neg hk]
 ·rw[if_neg (fun h'=>h (a1f.1 h')),if_neg h]
  simp[mPP]
theorem c0x (m:List (Pt × Pt)) (k:Pt):bY (mPP m) (pv k)=(qR m k).map pv:=by
 unfold bY qR mPP
 induction m with
 | nil=>rfl
 | cons e m ih =>
  simp only[Aj,An]
  by_cases h:e.1=k
  ·simp[h]
  ·have h':¬ pv e.1=pv k:=fun h'=>h (qL h')
   simp only[h,h',decide_false]
   exact ih
theorem a5w (m:List Pt):(mPB m).map (·.1)=m.map pv:=by simp[mPB]
theorem c5s (m:List Pt) (k:Pt) (h:k∉m):eO (mPB m) (pv k) (.bool true)=mPB (m++[k]):=by
 unfold eO
 rw[a5w,if_neg (fun h'=>h (a1f.1 h'))]
 simp[mPB]
theorem c0y (m:List Pt) (k:Pt):bY (mPB m) (pv k)=if k∈m then some (.bool true)else none:=by
 unfold bY mPB
 induction m with
 | nil=>rfl
 | cons e m ih =>
  simp only[Aj,An]
  by_cases h:e=k
  ·simp[h]
  ·have h':¬ pv e=pv k:=fun h'=>h (qL h')
   simp only[h',decide_false,Ac]
   rw[ih]
   have h2:¬ k=e:=fun h2=>h h2.symm
   simp only[h2,false_or]
end Go.Sx
namespace Go.Sx
set_option linter.unusedVariables false
set_option linter.unusedSimpArgs false
def Mk (n M N:Nat):Nat→Prop:=fun k=>k<n∧k≠N∧k≠M
def oX (n M N:Nat):List (Nat × AV)→Prop
 | []=>True
 | (_,a)::l=>In (Mk n M N) a∧oX n M N l
def oY (n M N:Nat):List (Nat × AV)→Prop
 | []=>True
 | (i,a)::l=>(Mk n M N i∧InC (Mk n M N) a)∧oY n M N l
theorem a4w {n M N:Nat}:∀ {l:List (Nat × AV)},oX n M N l→∀ p∈l,In (Mk n M N) p.2:=by
 intro l
 induction l with
 | nil=>intro _ p hp;simp at hp
 | cons q l ih =>
  intro h p hp
  obtain⟨i,a⟩:=q
  rcases Ac.1 hp with rfl|hp
  ·exact h.1
  ·exact ih h.2 p hp
theorem a4x {n M N:Nat}:∀ {l:List (Nat × AV)},oY n M N l→∀ p∈l,Mk n M N p.1∧InC (Mk n M N) p.2:=by
 intro l
 induction l with
 | nil=>intro _ p hp;simp at hp
 | cons q l ih =>
  intro h p hp
  obtain⟨i,a⟩:=q
  rcases Ac.1 hp with rfl|hp
  ·exact h.1
  ·exact ih h.2 p hp
theorem c7b {S : AS} (N M d n : Nat) (cs : List AV) {t o : List (Nat × AV)} (hd : look S.t d = .loc N 0) (hN : look S.o N = .blk cs) (hcs : ∀ c ∈ cs, Flat c) (hN8 : 8 ≤ N) (hM8 : 8 ≤ M) (hMn : M < n) (h8 : 8 ≤ n)
  (ht:fR t S.t) (ho:fR o S.o) (it:oX n M N t) (io:oY n M N o):Weak S ⟨(d,.loc M 0)::t,(M,.blk cs)::o,n⟩:=by
 intro c nt a w hs
 obtain⟨g,rfl,hg,htk,hsz,hu,hln,_⟩:=hs
 let g':Gh:={ g with us:=fun l=>(g.us l∧Mk n M N l)∨l=M,blk:=fun l=>if l=M then g.blk N else g.blk l }
 have hK:∀ l,Mk n M N l→g.us l→g'.us l∧g'.blk l=g.blk l∧g'.des l=g.des l∧g'.len l=g.len l:=fun l hl hu=>⟨.inl ⟨hu,hl⟩,if_neg hl.2.2,rfl,rfl⟩
 have hcar:∀ {x:AV} {v:Value},Rel g x v→In (Mk n M N) x→Rel g' x v:=fun h hi=>cY (g:=g) (g':=g') (K:=Mk n M N) (fun b hb=>⟨hb,rfl⟩) hK h hi
 have hT:=mM ht
 have hO:=mM ho
 have iT:=a4w it
 have iO:=a4x io
 have hlo:∀ q,look o q=.any∨(Mk n M N q∧InC (Mk n M N) (look o q)∧look S.o q=look o q):=fun q=>by
  rcases @jV o q with h|h
  ·exact .inl h
  ·exact .inr ⟨(iO _ h).1,(iO _ h).2,hO _ h⟩
 have hokN:=hg.obj N
 have hownN:=hg.own N
 rw[hN]at hokN hownN
 have hbM:g'.blk M=g.blk N:=if_pos rfl
 have hbl:∀ q b,q≠M→aE g' q (look o q)=some b→q≠N∧aE g q (look S.o q)=some b:=by
  intro q b hq hb
  rcases hlo q with h|⟨k1,k2,k3⟩
  ·rw[h]at hb;simp[aE]at hb
  ·rw[k3]
   refine⟨k1.2.1,?_⟩
   generalize look o q=x at hb ⊢
   have e:g'.blk q=g.blk q:=if_neg hq
   cases x<;>simp only[aE]at hb ⊢<;>first|exact hb|(rw[← e];exact hb)
 have hl2:∀ q,look ((M,AV.blk cs)::o) q=if M=q then .blk cs else look o q:=fun q=>rfl
 have hblk2:∀ q b,aE g' q (look ((M,AV.blk cs)::o) q)=some b→(q=M∧b=g.blk N)∨(q≠M∧q≠N∧aE g q (look S.o q)=some b):=by
  intro q b hb
  rw[hl2]at hb
  by_cases hq:M=q
  ·rw[if_pos hq]at hb
   subst hq
   simp only[aE,Av.injEq]at hb
   exact .inl ⟨rfl,by rw[← hb];exact hbM⟩
  ·rw[if_neg hq]at hb
   obtain⟨k1,k2⟩:=hbl q b (fun e=>hq e.symm) hb
   exact .inr ⟨fun e=>hq e.symm,k1,k2⟩
 have hbN:aE g N (look S.o N)=some (g.blk N):=by rw[hN];rfl
 refine⟨g',rfl,⟨hg.os,hg.tape,hg.output,hg.size,hg.old,hg.fzo,hg.fzn,hg.fzx,fun q=>?_,fun q b hb=>?_,fun q q' b hb hb'=>?_⟩,⟨htk.1,fun q=>?_⟩,hsz,fun l hl=>?_,?_,h8⟩
 ·show ObjOk g' q (look ((M,AV.blk cs)::o) q)
  rw[hl2]
  by_cases hq:M=q
  ·rw[if_pos hq]
   subst hq
   obtain⟨h1,vs,e,h2,h3,h4,h5⟩:=hokN
   exact⟨.inr rfl,vs,e,by rw[hbM];exact h2,h3,h4,fun i i1 i2=>(h5 i i1 i2).flat (hcs _ (Ad i1))⟩
  ·rw[if_neg hq]
   rcases hlo q with h|⟨k1,k2,k3⟩
   ·rw[h];trivial
   ·have:=hg.obj q
    rw[k3]at this
    exact sK (g:=g) (g':=g') (K:=Mk n M N) rfl (fun b hb=>hb) hK k1 k2 this
 ·rcases hblk2 q b hb with⟨rfl,rfl⟩|⟨_,_,h⟩
  ·exact hg.own N _ hbN
  ·exact hg.own q b h
 ·rcases hblk2 q b hb with⟨rfl,rfl⟩|⟨k1,k2,k3⟩<;>rcases hblk2 q' _ hb' with⟨e1,e2⟩|⟨l1,l2,l3⟩
  ·exact e1.symm
  ·exact absurd (hg.dis N q' _ hbN l3).symm l2
  ·subst e2
   exact absurd (hg.dis q N _ k3 hbN) k2
  ·exact hg.dis q q' b k3 l3
 ·show Rel g' (look ((d,AV.loc M 0)::t) q) _
  simp only[look]
  by_cases hq:d=q
  ·rw[if_pos hq]
   subst hq
   have:=htk.2 d
   rw[hd]at this
   generalize a.tmps.getD d undef=v at this
   cases this
   have h2:=Rel.loc (g:=g') M 0 (.inr rfl)
   rwa [hbM]at h2
  ·rw[if_neg hq]
   rcases @jV t q with h|h
   ·rw[h];exact .any _
   ·have h1:=hT _ h
    simp only at h1
    have h2:=htk.2 q
    rw[h1]at h2
    exact hcar h2 (iT _ h)
 ·rcases hl with⟨_,h⟩|rfl
  ·exact h.1
  ·exact hMn
 ·intro l hl
  obtain⟨h1,h2,h3⟩:=hln l hl
  have e1:l≠M:=by omega
  have e2:l≠N:=by omega
  refine⟨h1,.inl ⟨h2,by omega,e2,e1⟩,?_⟩
  have:g'.blk l=g.blk l:=if_neg e1
  first|exact h3|(rw[this];exact h3)|simpa [this]using h3
theorem d0z (n M N k:Nat):Mk n M N k=(k<n∧k≠N∧k≠M):=rfl
attribute [go_sem] d0z oX oY
end Go.Sx
namespace Go.Sx
set_option linter.unusedVariables false
set_option linter.unusedSimpArgs false
def P0:Pt:=⟨0,0,0,0⟩
abbrev MS:=List (Pt × Pt) × Pt
def gX (b:Pl) (s:MS) (e:Pt × Pt):MS:=if aB b e.1=0∧aB b e.2=0 then (j7 s.1 e.2 e.1,e.2)else s
def bR (b:Pl) (s:MS) (es:List (Pt × Pt)):MS:=es.foldl (gX b) s
def cU (b:Pl) (l:List (Pl × List Pt)):MS:=l.foldl (fun s x=>bR b s (Geo.edges x.2)) ([],P0)
def nxP (m:List (Pt × Pt)) (k:Pt):Pt:=(qR m k).getD P0
def aV (nx:Pt→Pt):Nat→Pt→List Pt
 | 0,_=>[]
 | n+1,x=>x::aV nx n (nx x)
def itP (nx:Pt→Pt):Nat→Pt→Pt
 | 0,x=>x
 | n+1,x=>itP nx n (nx x)
theorem tK (nx:Pt→Pt) (n:Nat) (x:Pt):itP nx (n+1) x=nx (itP nx n x):=by
 induction n generalizing x with
 | zero=>rfl
 | succ n ih=>exact ih (nx x)
theorem vG (nx:Pt→Pt) (n:Nat) (x:Pt):aV nx (n+1) x=aV nx n x++[itP nx n x]:=by
 induction n generalizing x with
 | zero=>rfl
 | succ n ih =>
  rw[aV,ih (nx x)]
  rfl
theorem pD (nx:Pt→Pt) (n:Nat) (x:Pt):(aV nx n x).length=n:=by
 induction n generalizing x with
 | zero=>rfl
 | succ n ih=>simp[aV,ih]
def b6 (b:Pl) (l:List (Pl × List Pt)):List Pt:=aV (nxP (cU b l).1) (cU b l).1.length (cU b l).2
structure MInv (k:Nat) (s:MS):Prop where
 nd:(s.1.map (·.1)).Nodup
 bt:∀ e∈s.1,BPt k e.1∧BPt k e.2
 fb:BPt k s.2
theorem wR (k:Nat):BPt k P0:=by
 have:(Zm 0).size=0:=u7
 exact⟨⟨by show (Zm 0).size≤k;omega,by show (Zm 0).size≤k;omega,by show (Zm 0).size≤k;omega,by show (Zm 0).size≤k;omega⟩⟩
theorem c4y {m:List (Pt × Pt)} {k v:Pt} {e:Pt × Pt} (h:e∈j7 m k v):e∈m∨e=(k,v):=by
 unfold j7 at h
 split at h
 ·obtain⟨q,hq,rfl⟩:=Ab.1 h
  split
  ·exact .inr rfl
  ·exact .inl hq
 ·rcases List.mem_append.1 h with h|h
  ·exact .inl h
  ·exact .inr (by simpa using h)
theorem c0a (m:List (Pt × Pt)) (k v:Pt):(j7 m k v).map (·.1)=if k∈m.map (·.1)then m.map (·.1)else m.map (·.1)++[k]:=by
 unfold j7
 split
 ·rw[Au]
  apply Ag
  intro e _
  simp only[Function.comp]
  split
  ·rename_i h;exact h.symm
  ·rfl
 ·simp
theorem b6e {m:List (Pt × Pt)} {k v:Pt} (h:(m.map (·.1)).Nodup):((j7 m k v).map (·.1)).Nodup:=by
 rw[c0a]
 split
 ·exact h
 ·rename_i hk
  rw[List.nodup_append]
  refine⟨h,by simp,fun a ha c hc=>?_⟩
  simp at hc
  subst hc
  exact fun e=>hk (e▸ha)
theorem MInv.step {k:Nat} {b:Pl} {s:MS} {e:Pt × Pt} (h:MInv k s) (he:BPt k e.1∧BPt k e.2):MInv k (gX b s e):=by
 unfold gX
 split
 ·exact⟨b6e h.nd,fun q hq=>(c4y hq).elim (h.bt q) (fun e=>by rw[e];exact⟨he.2,he.1⟩),he.2⟩
 ·exact h
theorem b7k (b:Pl) (s:MS) (es:List (Pt × Pt)) (e:Pt × Pt):bR b s (es++[e])=gX b (bR b s es) e:=by
 unfold bR;rw[Ak];rfl
theorem a8h {k:Nat} {m:List (Pt × Pt)} {x:Pt} (h:∀ e∈m,BPt k e.1∧BPt k e.2):BPt k (nxP m x):=by
 unfold nxP qR
 cases hq:m.find? fun e=>decide (e.1=x)with
 | none=>exact wR k
 | some e=>exact (h e (List.mem_of_find?_eq_some hq)).2
theorem it_bt {k:Nat} {m:List (Pt × Pt)} {x:Pt} (h:∀ e∈m,BPt k e.1∧BPt k e.2) (hx:BPt k x) (n:Nat):BPt k (itP (nxP m) n x):=by
 cases n with
 | zero=>exact hx
 | succ n=>rw[tK];exact a8h h
theorem a3p (m:List (Pt × Pt)):(mPP m).length=m.length:=Ao _
theorem lI:Zn 0=false:=kZ (Int.le_refl 0)
end Go.Sx
namespace Go.Proofs.Vx
open Go Go.Sx Go.Proofs Tryz
attribute [local irreducible] fnT CallOK CallFr AW aI callV aL aJ aH aK gcaseP hid
theorem b8t:agT prog 138=some true∧arT prog 135=none∧arT prog 31=none∧fdT prog 138 0=some (0,8,true)∧fdT prog 138 1=some (8,8,true)∧mpT prog 164=some (51,51)∧slT prog 164=none∧slT prog 31=some (58,9)∧bH prog 135=false∧bH prog 164=false∧bH prog 31=false∧szT prog 138=some 16∧zvT prog 51=some (.agg #[.bool false,.string ⟨#[]⟩,.bool false,.string ⟨#[]⟩,.bool false,.string ⟨#[]⟩,.bool false,.string ⟨#[]⟩]):=by and_intros<;>kernel_rfl
attribute [go_sem] b8t
theorem rP:WideMaps.KeyLaw prog 51:=deep_law_gate (by kernel_rfl) (of_decide_eq_true (by kernel_rfl)) (of_decide_eq_true (by kernel_rfl)) (by kernel_rfl) (by kernel_rfl)
theorem a9c:g9 prog 24=some [(4,0),(9,1)]:=by kernel_rfl
theorem a0y:g9 prog 51=some [(24,0),(24,2),(24,4),(24,6)]:=by kernel_rfl
theorem tW:Tryz.prog.cellsOf 24=2:=by kernel_rfl
theorem xF:Tryz.prog.cellsOf 51=8:=by kernel_rfl
theorem b0t:Tryz.prog.cellsOf 4=1:=by kernel_rfl
theorem b0s:Tryz.prog.cellsOf 9=1:=by kernel_rfl
theorem yts:Tryz.prog.types.size=290:=by kernel_rfl
theorem c7u:boT prog 4=true:=by kernel_rfl
theorem c7m:bH prog 9=true:=by kernel_rfl
theorem i6 (d:Nat) (b:Bool) (s:ByteArray) (h:s.size≤maxLen):Tryz.prog.keyLits (d+2) 24 [.bool b,.string s]=some [.bool b,.string s.data.toList]:=by
 rw[sC a9c (by rw[tW];rfl)]
 simp only[Ae,Ar,b0t,b0s,Ap,Ah,Ai,Aq,Go.Sx.keyLits_bool b c7u,Go.Sx.b3h s c7m h]
 rfl
theorem uN (p:Pt) (h:BPt 1073741824 p):(keyOf prog 51 (pv p)).isSome=true:=by
 have hml:maxLen=9223372036854775807:=rfl
 have h1:=h.out.a
 have h2:=h.out.b
 have h3:=h.out.c
 have h4:=h.out.d
 refine yE (L:=[.bool (Zn p.x),.string (Zm p.x).data.toList,.bool (Zn p.y),.string (Zm p.y).data.toList,.bool (Zn p.z),.string (Zm p.z).data.toList,.bool (Zn p.w),.string (Zm p.w).data.toList]) a0y (by kernel_rfl) (by rw[xF];rfl) ?_
 rw[yts,sC a0y (by rw[xF];rfl)]
 simp only[Ae,Ar,tW,Ap,Ah,Ai,Aq,i6 288 _ _ (show (Zm p.x).size≤maxLen by omega),i6 288 _ _ (show (Zm p.y).size≤maxLen by omega),i6 288 _ _ (show (Zm p.z).size≤maxLen by omega),i6 288 _ _ (show (Zm p.w).size≤maxLen by omega)]
 rfl
theorem a9y {s:MS} (h:MInv 1073741824 s):lQ prog 51 (mPP s.1):=by
 refine⟨fun e he=>?_,?_⟩
 ·obtain⟨q,hq,rfl⟩:=Ab.1 he
  exact uN q.1 (h.bt q hq).1
 ·rw[a5v]
  exact As.map _ (fun a b hab hp=>hab (qL hp)) h.nd
theorem c9t {m:List Pt} (hn:m.Nodup) (h:∀ p∈m,BPt 1073741824 p):lQ prog 51 (mPB m):=by
 refine⟨fun e he=>?_,?_⟩
 ·obtain⟨q,hq,rfl⟩:=Ab.1 he
  exact uN q (h q hq)
 ·rw[a5w]
  exact As.map _ (fun a b hab hp=>hab (qL hp)) hn
theorem gJ (p:Pl) (vs:List Pt):FlatS (.agg (eG p vs)):=by
 have:=wJ (c:=true) p vs trivial
 rwa [if_pos rfl]at this
theorem lk51 (m:List (Pt × Pt)) (x:Pt):(bY (mPP m) (pv x)).getD (Value.agg #[.bool false,.string ⟨#[]⟩,.bool false,.string ⟨#[]⟩,.bool false,.string ⟨#[]⟩,.bool false,.string ⟨#[]⟩])=pv (nxP m x):=by
 rw[c0x]
 unfold nxP
 cases qR m x with
 | none =>
  simp only[Option.map_none,Option.getD_none,P0,pv,lI,dY]
 | some y=>rfl
abbrev eS (l:List (Pl × List Pt)):List (List AV):=l.map fun s=>eG s.1 s.2
theorem eG_in {K:Nat→Prop} (p:Pl) (vs:List Pt):∀ c∈eG p vs,In K c:=by
 intro c hc
 simp only[zM,or_false]at hc
 rcases hc with rfl|rfl|rfl|rfl|rfl|rfl|rfl|rfl|rfl<;>first|exact .lit _|exact .sl _ fun e he c hc=>(oF vs e he c hc).inn
theorem lS {K:Nat→Prop} (l:List (Pl × List Pt)):(∀ e∈eS l,∀ c∈e,In K c)=True:=eq_true fun e he c hc=>by
 obtain⟨s,_,rfl⟩:=Ab.1 he
 exact eG_in s.1 s.2 c hc
theorem oE (l:List (Pl × List Pt)) (i:Nat) (h:i<l.length):(eS l).getD i []=eG l[i].1 l[i].2:=by
 rw[List.getD_eq_getElem?_getD,List.getElem?_eq_getElem (by simpa using h)];simp
theorem b4q (b:Pl) (l:List (Pl × List Pt)) (i:Nat) (h:i<l.length):cU b (l.take (i+1))=bR b (cU b (l.take i)) (Geo.edges l[i].2):=by
 unfold cU
 rw[Aa h,Ak]
 rfl
theorem b4r (b:Pl) (s:MS) (es:List (Pt × Pt)) (j:Nat) (h:j<es.length):bR b s (es.take (j+1))=gX b (bR b s (es.take j)) es[j]:=by
 rw[Aa h,b7k]
theorem a4o {k:Nat} {b:Pl} {es:List (Pt × Pt)}:∀ {s:MS},MInv k s→(∀ e∈es,BPt k e.1∧BPt k e.2)→MInv k (bR b s es):=by
 induction es with
 | nil=>intro s h _;exact h
 | cons e es ih=>intro s h he;exact ih (h.step (he _ (by simp))) fun q hq=>he q (by simp[hq])
theorem a3o {k:Nat} {b:Pl} {l:List (Pl × List Pt)} (h:∀ s∈l,∀ v∈s.2,BPt k v):MInv k (cU b l):=by
 have key:∀ (l:List (Pl × List Pt)) (s:MS),MInv k s→(∀ x∈l,∀ v∈x.2,BPt k v)→MInv k (l.foldl (fun s x=>bR b s (Geo.edges x.2)) s):=by
  intro l
  induction l with
  | nil=>intro s h _;exact h
  | cons x l ih =>
   intro s hs h
   exact ih _ (a4o hs fun e he=>⟨h x (by simp) _ (Geo.bD he),h x (by simp) _ (Geo.bL he)⟩) fun y hy=>h y (by simp[hy])
 exact key l _ ⟨by simp,by simp,wR k⟩ h
attribute [go_sem] lS
theorem c2e (p:Pt):∀ c∈eP p,Flat c:=by
 intro c hc
 simp only[eP,e4,Ac,List.not_mem_nil,or_false]at hc
 rcases hc with rfl|rfl|rfl|rfl|rfl|rfl|rfl|rfl<;>exact .lit _
theorem c71 (l:List (Pl × List Pt)) (b:Pl) (hb:BPl 1073741824 b) (hn:l.length≤1048576) (hv:∀ s∈l,s.2.length≤1048576∧∀ v∈s.2,BPt 1073741824 v) (hm:(cU b l).1.length≤268435456):CallNw prog 71 [.sl (eS l),.agg (eH b)] (.agg (eG b (b6 b l))):=by
 refine CallNw.flat func71 rfl 68 rfl rfl (gJ _ _) [.cell 4 58] (congrArg At results71) ?_
 simp only[aD,Nat.reduceAdd]
 have hml:maxLen=9223372036854775807:=rfl
 have hl:(eS l).length=l.length:=Ao _
 repeat'(first|refine zg ?_|(refine zc ?_ ?_<;>intro hc<;>try simp only[NM]at hc)|refine zr ?_|refine⟨by omega,?_⟩|(refine zb ?_ ?_<;>intro hg<;>(try rw[hg])<;>try simp only[NM]at hg)|omega|simp -dsimp (disch:=try exact zo)only[go_sem,hl]|contradiction|rfl)
 have hf0:cU b []=([],P0):=rfl
 have hp0:mPP ([]:List (Pt × Pt))=[]:=rfl
 have hz:eP P0=[.lit (.bool false),.lit (.string ⟨#[]⟩),.lit (.bool false),.lit (.string ⟨#[]⟩),.lit (.bool false),.lit (.string ⟨#[]⟩),.lit (.bool false),.lit (.string ⟨#[]⟩)]:=by simp only[eP,e4,P0,lI,dY]
 refine AW.loop (fun z:{i:Nat // i≤l.length}=>⟨[(18,.lit (.int .i64 z.1)),(17,.lit (.int .i64 l.length)),(16,.sl (eS l)),(7,.loc 16 0),(6,.mp 14),(5,.loc 12 0),(4,.loc 9 0),(3,.loc 8 0)],[(8,.blk (eH b)),(9,.blk eG0),(12,.blk [.lit (.bool (Zn b.a)),.lit (.string (Zm b.a)),.lit (.bool (Zn b.b)),.lit (.string (Zm b.b)),.lit (.bool (Zn b.c)),.lit (.string (Zm b.c)),.lit (.bool (Zn b.d)),.lit (.string (Zm b.d)),.lit (.slice none 0 0)]),(14,.mpo (mPP (cU b (l.take z.1)).1)),(16,.blk (eP (cU b (l.take z.1)).2))],60⟩) (fun z=>l.length - z.1) ⟨0,Am _⟩ zw ?_
 rintro⟨i,hi⟩
 dsimp only
 by_cases hlt:i<l.length
 ·have es1:=oE l i hlt
  have hS1:=b4q b l i hlt
  have hvs:=hv _ (Ad hlt)
  have hI:MInv 1073741824 (cU b (l.take i)):=a3o fun s hs=>(hv s (Af hs)).2
  generalize l[i]=sd at *
  obtain⟨sp,svs⟩:=sd
  dsimp only at es1 hS1 hvs
  generalize cU b (l.take i)=S at *
  obtain⟨hvn0,hvb⟩:=hvs
  have hvn:svs.length≤268435456:=by omega
  have hbe:∀ e∈Geo.edges svs,BPt 1073741824 e.1∧BPt 1073741824 e.2:=fun e he=>⟨hvb _ (Geo.bD he),hvb _ (Geo.bL he)⟩
  have hel:(Geo.edges svs).length=svs.length:=Geo.fN _
  simp only[eG]at es1
  repeat'(first|refine zg ?_|(refine zc ?_ ?_<;>intro hc<;>try simp only[NM]at hc)|refine zr ?_|(refine zq (c118 sp svs hvn) ?_)|refine⟨by omega,?_⟩|(refine zb ?_ ?_<;>intro hg<;>(try rw[hg])<;>try simp only[NM]at hg)|omega|simp -dsimp (disch:=try exact zo)only[go_sem,hl,es1,ZT,kQ,zl]|contradiction|rfl)
  generalize hE:Geo.edges svs=es at *
  have hfe:bR b S []=S:=rfl
  refine AW.loop (fun z:{j:Nat // j≤es.length}=>⟨[(25,.lit (.int .i64 z.1)),(24,.lit (.int .i64 es.length)),(23,.sl (eEs es)),(18,.lit (.int .i64 i)),(17,.lit (.int .i64 l.length)),(16,.sl (eS l)),(7,.loc 16 0),(6,.mp 14),(5,.loc 12 0),(4,.loc 9 0),(3,.loc 8 0)],[(8,.blk (eH b)),(9,.blk eG0),(12,.blk [.lit (.bool (Zn b.a)),.lit (.string (Zm b.a)),.lit (.bool (Zn b.b)),.lit (.string (Zm b.b)),.lit (.bool (Zn b.c)),.lit (.string (Zm b.c)),.lit (.bool (Zn b.d)),.lit (.string (Zm b.d)),.lit (.slice none 0 0)]),(14,.mpo (mPP (bR b S (es.take z.1)).1)),(16,.blk (eP (bR b S (es.take z.1)).2))],80⟩) (fun z=>es.length - z.1) ⟨0,Am _⟩ zw ?_
  rintro⟨j,hj⟩
  dsimp only
  by_cases hjt:j<es.length
  ·have ee:=a6k es j hjt
   have hst0:=b4r b S es j hjt
   have hbe2:=hbe _ (Ad hjt)
   have hI2:MInv 1073741824 (bR b S (es.take j)):=a4o hI fun e he=>hbe e (Af he)
   generalize es[j]=ed at *
   obtain⟨a,a2⟩:=ed
   dsimp only at ee hbe2
   generalize bR b S (es.take j)=R at *
   obtain⟨ha,ha2⟩:=hbe2
   have hkey:=uN a2 ha2
   have hko:=a9y hI2
   have hput:=c5r R.1 a2 a
   simp only[eE]at ee
   simp only[pv]at hkey hput
   have hn2:True:=trivial
   by_cases q1:aB b a=0
   ·by_cases q2:aB b a2=0
    ·have k1:=eq_true q1
     have k2:=eq_true q2
     have hst:bR b S (es.take (j+1))=(j7 R.1 a2 a,a2):=by rw[hst0];unfold gX;rw[if_pos ⟨q1,q2⟩]
     clear hst0
     repeat'(first|refine zg ?_|(refine zc ?_ ?_<;>intro hc<;>first|simp only[NM]at hc|omega|skip)|refine zr ?_|(refine zf (c34 b _ hb (by assumption)) ?_)|refine⟨by omega,?_⟩|(refine zb ?_ ?_<;>intro hg<;>(try rw[hg])<;>try simp only[NM]at hg)|omega|simp -dsimp (disch:=try exact zo)only[go_sem,hl,ee,kQ,k1,k2,rP,hkey,hko,hput,ZT,zl,hn2]|rfl)
     all_goals exact AW.stop ⟨⟨j+1,by omega⟩,(aQ (by refine⟨?_,?_,?_,?_⟩<;>first|(simp -dsimp (disch:=try exact zo)only[go_sem,hst,ZC];done)|(simp -dsimp (disch:=try exact zo)only[go_sem,ZC];done))),by dsimp only;omega⟩
    ·have k1:=eq_true q1
     have k2:=eq_false q2
     have hst:bR b S (es.take (j+1))=R:=by rw[hst0];unfold gX;rw[if_neg (fun h=>q2 h.2)]
     clear hst0
     repeat'(first|refine zg ?_|(refine zc ?_ ?_<;>intro hc<;>first|simp only[NM]at hc|omega|skip)|refine zr ?_|(refine zf (c34 b _ hb (by assumption)) ?_)|refine⟨by omega,?_⟩|(refine zb ?_ ?_<;>intro hg<;>(try rw[hg])<;>try simp only[NM]at hg)|omega|simp -dsimp (disch:=try exact zo)only[go_sem,hl,ee,kQ,k1,k2,rP,hkey,hko,hput,ZT,zl,hn2]|rfl)
     all_goals exact AW.stop ⟨⟨j+1,by omega⟩,(aQ (by refine⟨?_,?_,?_,?_⟩<;>first|(simp -dsimp (disch:=try exact zo)only[go_sem,hst,ZC];done)|(simp -dsimp (disch:=try exact zo)only[go_sem,ZC];done))),by dsimp only;omega⟩
   ·have k1:=eq_false q1
    have k2:True:=trivial
    have hst:bR b S (es.take (j+1))=R:=by rw[hst0];unfold gX;rw[if_neg (fun h=>q1 h.1)]
    clear hst0
    repeat'(first|refine zg ?_|(refine zc ?_ ?_<;>intro hc<;>first|simp only[NM]at hc|omega|skip)|refine zr ?_|(refine zf (c34 b _ hb (by assumption)) ?_)|refine⟨by omega,?_⟩|(refine zb ?_ ?_<;>intro hg<;>(try rw[hg])<;>try simp only[NM]at hg)|omega|simp -dsimp (disch:=try exact zo)only[go_sem,hl,ee,kQ,k1,k2,rP,hkey,hko,hput,ZT,zl,hn2]|rfl)
    all_goals exact AW.stop ⟨⟨j+1,by omega⟩,(aQ (by refine⟨?_,?_,?_,?_⟩<;>first|(simp -dsimp (disch:=try exact zo)only[go_sem,hst,ZC];done)|(simp -dsimp (disch:=try exact zo)only[go_sem,ZC];done))),by dsimp only;omega⟩
  ·have hjl:j=es.length:=by omega
   subst hjl
   rw[Al]
   repeat'(first|refine zg ?_|(refine zc ?_ ?_<;>intro hc<;>first|simp only[NM]at hc|omega|skip)|refine zr ?_|refine⟨by omega,?_⟩|(refine zb ?_ ?_<;>intro hg<;>(try rw[hg])<;>try simp only[NM]at hg)|omega|simp -dsimp (disch:=try exact zo)only[go_sem,hl,kQ,zl]|contradiction|rfl)
   all_goals exact AW.stop ⟨⟨i+1,by omega⟩,zw,by dsimp only;omega⟩
 ·have hil:i=l.length:=by omega
  subst hil
  rw[Al]
  have hI:MInv 1073741824 (cU b l):=a3o fun s hs=>(hv s hs).2
  unfold b6
  generalize cU b l=S at *
  obtain⟨m,f⟩:=S
  dsimp only at hm ⊢
  repeat'(first|refine zg ?_|(refine zc ?_ ?_<;>intro hc<;>try simp only[NM]at hc)|refine zr ?_|refine⟨by omega,?_⟩|(refine zb ?_ ?_<;>intro hg<;>(try rw[hg])<;>try simp only[NM]at hg)|omega|simp -dsimp (disch:=try exact zo)only[go_sem,hl,zl]|contradiction|rfl)
  refine AW.loop (fun z:{k:Nat // k≤m.length}=>⟨(12,.loc 62 0)::[(6,.mp 14),(5,.loc 12 0),(4,.loc 9 0)],(62,.blk (eP (itP (nxP m) z.1 f)))::[(12,.blk [.lit (.bool (Zn b.a)),.lit (.string (Zm b.a)),.lit (.bool (Zn b.b)),.lit (.string (Zm b.b)),.lit (.bool (Zn b.c)),.lit (.string (Zm b.c)),.lit (.bool (Zn b.d)),.lit (.string (Zm b.d)),.ref 64 0 z.1 z.1]),(64,.vec 8 ((aV (nxP m) z.1 f).map eP)),(14,.mpo (mPP m)),(9,.blk eG0)],70⟩) (fun z=>m.length - z.1) ⟨0,Am _⟩ (Weak.trans (jT 12 8 8 _ (by decide) rfl (by simp) rfl (by simp)) (aQ (by refine⟨?_,?_,?_,?_⟩<;>simp -dsimp (disch:=try exact zo)only[go_sem,aV,List.map_nil,itP,ZC]))) ?_
  rintro⟨k,hk⟩
  dsimp only
  have hko:=a9y hI
  have hrl:=pD (nxP m) k f
  by_cases hkt:k<m.length
  ·have hit:=tK (nxP m) k f
   have hrs:=vG (nxP m) k f
   have hx:BPt 1073741824 (itP (nxP m) k f):=it_bt hI.bt hI.fb k
   generalize itP (nxP m) k f=x at *
   generalize aV (nxP m) k f=W at *
   have hkey:=uN x hx
   have hlk:=lk51 m x
   generalize nxP m x=y at *
   simp only[pv]at hkey hlk
   have hWm:(aV (nxP m) (k+1) f).map eP=W.map eP++[eP x]:=by rw[hrs];simp
   repeat'(first|refine zg ?_|(refine zc ?_ ?_<;>intro hc<;>first|simp only[NM]at hc|omega|skip)|refine zr ?_|refine⟨by omega,?_⟩|(refine zb ?_ ?_<;>intro hg<;>(try rw[hg])<;>try simp only[NM]at hg)|omega|simp -dsimp (disch:=try exact zo)only[go_sem,List.toList_toArray,a3p,rP,hkey,hko,hlk,hrl,zl,ZT]|rfl)
   all_goals exact AW.stop ⟨⟨k+1,by omega⟩,c7b 84 62 12 70 (eP (itP (nxP m) (k+1) f)) rfl (by simp -dsimp (disch:=try exact zo)only[go_sem,hit,hWm,hrl]) (c2e _) (by decide) (by decide) (by decide) (by decide) (by simp -dsimp (disch:=try exact zo)only[go_sem,hit,hWm,hrl]) (by simp -dsimp (disch:=try exact zo)only[go_sem,hit,hWm,hrl]) (by simp -dsimp (disch:=try exact zo)only[go_sem]) (by simp -dsimp (disch:=try exact zo)only[go_sem]),by dsimp only;omega⟩
  ·have hkl:k=m.length:=by omega
   subst hkl
   have zh0:=@a3p
   exact z1
end Go.Proofs.Vx
