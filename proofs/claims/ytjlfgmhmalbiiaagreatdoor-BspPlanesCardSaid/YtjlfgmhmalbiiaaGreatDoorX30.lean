import Derived.Test.YtjlfgmhmalbiiaaGreatDoorX29
set_option linter.all false
set_option maxHeartbeats 16000000
open Int renaming neg_ediv_of_dvd → Ae, dvd_neg → Ao
open List renaming mem_map_of_mem → Aa, mem_map → Ab, mem_cons → Ad, append_nil → Ag, filterMap_cons_none → Ah, filterMap_cons_some → Ai, not_mem_nil → Aj, length_eq_zero_iff → Ak, Perm → Al, mem_filter → Am, map_append → An, flatMap_append → Ap, filterMap_cons → Aq, take_length → As, all_eq_true → At, nil_append → Au, any_append → Av, map_cons → Aw, map_map → Az
open Nat renaming le_trans → Ac, reduceAdd → Af, lt_of_le_of_lt → Ar, zero_add → Ax, succ_add → Ay
namespace Go.Proofs.Vx
open Go Go.Sx Go.Proofs Tryz
attribute [local irreducible] fnT CallOK CallFr AW aK callV aL aJ aI aM gcaseP hid
structure RP where
 n1:Bool
 m1:ByteArray
 n2:Bool
 m2:ByteArray
 n3:Bool
 m3:ByteArray
 n4:Bool
 m4:ByteArray
abbrev eRP (r:RP):List AV:=[.lit (.bool r.n1),.lit (.string r.m1),.lit (.bool r.n2),.lit (.string r.m2),.lit (.bool r.n3),.lit (.string r.m3),.lit (.bool r.n4),.lit (.string r.m4)]
def kK (r:RP):Prop:=iv r.n1 r.m1=0∧iv r.n2 r.m2=0∧iv r.n3 r.m3=0
instance (r:RP):Decidable (kK r):=by unfold kK;infer_instance
def b1z (r:RP):Prop:=6<r.m1.size∨6<r.m2.size∨6<r.m3.size∨6<r.m4.size∨kK r
instance (r:RP):Decidable (b1z r):=by unfold b1z;infer_instance
def fJ (r:RP):Pl:=kY (iv r.n1 r.m1) (iv r.n2 r.m2) (iv r.n3 r.m3) (iv r.n4 r.m4)
theorem b2x (r:RP) (h1:r.m1.size≤268435456) (h2:r.m2.size≤268435456) (h3:r.m3.size≤268435456) (h4:r.m4.size≤268435456) (hz:¬ kK r):CallOK prog 44 [.agg (eRP r)] [] (.tup [.agg (eH (fJ r)),.lit (.bool true)]) []:=c44a _ _ _ _ _ _ _ _ h1 h2 h3 h4 hz
theorem b2w (r:RP) (h1:r.m1.size≤268435456) (h2:r.m2.size≤268435456) (h3:r.m3.size≤268435456) (h4:r.m4.size≤268435456) (hz:kK r):CallOK prog 44 [.agg (eRP r)] [] (.tup [.agg [.lit (.bool false),.lit (.string ⟨#[]⟩),.lit (.bool false),.lit (.string ⟨#[]⟩),.lit (.bool false),.lit (.string ⟨#[]⟩),.lit (.bool false),.lit (.string ⟨#[]⟩)],.lit (.bool false)]) []:=c44b _ _ _ _ _ _ _ _ h1 h2 h3 h4 hz
end Go.Proofs.Vx
namespace Go.Proofs.Vx
open Go Go.Sx Go.Proofs Tryz
attribute [local irreducible] fnT CallOK CallFr AW aK callV aL aJ aI aM gcaseP hid
theorem b9x:arT prog 22=none∧byT prog 26=some 96∧slT prog 22=some (26,8)∧bI prog 22=false:=by and_intros<;>kernel_rfl
attribute [go_sem] b9x
abbrev eRPs (l:List RP):List (List AV):=l.map eRP
theorem b0b {K:Nat→Prop} (l:List RP):(∀ e∈eRPs l,∀ c∈e,In K c)=True:=eq_true fun e he c hc=>by
 obtain⟨r,_,rfl⟩:=Ab.1 he
 simp only[eRP,Ad,Aj,or_false]at hc
 rcases hc with rfl|rfl|rfl|rfl|rfl|rfl|rfl|rfl<;>exact .lit _
theorem d1z {K:Nat→Prop} (l:List Pl):(∀ e∈l.map eH,∀ c∈e,In K c)=True:=eq_true fun e he c hc=>by
 obtain⟨r,_,rfl⟩:=Ab.1 he
 simp only[eH,e4,Ad,Aj,or_false]at hc
 rcases hc with rfl|rfl|rfl|rfl|rfl|rfl|rfl|rfl<;>exact .lit _
attribute [go_sem] b0b d1z
end Go.Proofs.Vx
namespace Go.Sx
set_option linter.unusedVariables false
theorem d2v {a b:Rat} (h:Qd a=Qd b):a.den=b.den:=by
 unfold Qd at h
 have ha:=a.den_nz
 have hb:=b.den_nz
 split at h<;>split at h
 ·omega
 ·exact absurd ((gK _).1 h.symm) hb
 ·exact absurd ((gK _).1 h) ha
 ·exact rC h
theorem eq3 (a b:Rat):jN [.lit (.bool (Zn a.num)),.lit (.string (Zm a.num)),.lit (.string (Qd a))] [.lit (.bool (Zn b.num)),.lit (.string (Zm b.num)),.lit (.string (Qd b))]=decide (a=b):=by
 by_cases h:a=b
 ·subst h
  simp[jN,ceq]
 ·have:¬ (Zn a.num=Zn b.num∧Zm a.num=Zm b.num∧Qd a=Qd b):=fun h'=>h (Rat.ext (rG h'.1 h'.2.1) (d2v h'.2.2))
  rw[decide_eq_false h]
  simp only[jN,ceq,Bool.and_true]
  apply Bool.eq_false_iff.2
  intro hh
  simp only[Bool.and_eq_true,beq_iff_eq,decide_eq_true_eq]at hh
  exact this ⟨hh.1,hh.2.1,hh.2.2⟩
attribute [go_sem ↓] eq3
end Go.Sx
namespace Go.Proofs.Vx
open Go Go.Sx Go.Proofs Tryz
attribute [local irreducible] fnT CallOK CallFr AW aK callV aL aJ aI aM gcaseP hid
theorem fO {K:Nat→Prop} (l:aE):In K (.agg [.sl (eS l)]):=.agg _ (by
 intro c hc
 simp only[zM,or_false]at hc
 subst hc
 exact .sl _ (of_eq_true (mD l)))
theorem inPair {K:Nat→Prop} (l m:aE):In K (.tup [.agg [.sl (eS l)],.agg [.sl (eS m)]]):=.tup _ (by
 intro c hc
 simp only[zM,or_false]at hc
 rcases hc with rfl|rfl<;>exact fO _)
theorem eH_getD (l:List Pl) (i:Nat) (h:i<l.length):(l.map eH).getD i []=eH l[i]:=by
 rw[List.getD_eq_getElem?_getD,List.getElem?_eq_getElem (by simpa using h)];simp
end Go.Proofs.Vx
namespace Go.Proofs.Vx
open Go Go.Sx Go.Proofs Tryz
attribute [local irreducible] fnT CallOK CallFr AW aK callV aL aJ aI aM gcaseP hid
theorem b9w:boT prog 41=false∧Tryz.prog.eqGuardType Tryz.prog.depth 41=false∧lfT prog 30 41=some [.b,.s,.s]:=by and_intros<;>kernel_rfl
attribute [go_sem] b9w
theorem flatQ (q:Rat):Flat (.agg (eQ q)):=.agg _ (by
 intro c hc
 simp only[eQ,Ad,Aj,or_false]at hc
 rcases hc with rfl|rfl|rfl<;>exact .lit _)
end Go.Proofs.Vx
namespace Go.Proofs.Vx
open Go Go.Sx Go.Proofs Tryz
attribute [local irreducible] fnT CallOK CallFr AW aK callV aL aJ aI aM gcaseP hid
theorem b9v:arT prog 27=some (1,8,true)∧arT prog 38=none∧slT prog 27=none∧slT prog 38=some (33,1)∧bI prog 27=false∧bI prog 38=false:=by and_intros<;>kernel_rfl
attribute [go_sem] b9v
theorem d0l (q:Rat):(0<sg q.num)=(0<q):=by
 rw[eq_iff_iff,xV]
 rw[Rat.lt_iff]
 simp
end Go.Proofs.Vx
namespace Go.Proofs.Vx
open Go Go.Sx Go.Proofs Tryz
attribute [local irreducible] fnT CallOK CallFr AW aK callV aL aJ aI aM gcaseP hid
theorem b9u:boT prog 26=false∧Tryz.prog.eqGuardType Tryz.prog.depth 26=false∧lfT prog 30 26=some [.b,.s,.b,.s,.b,.s,.b,.s]:=by and_intros<;>kernel_rfl
attribute [go_sem] b9u
structure CanH (p:Pl):Prop where
 nrm:kY p.a p.b p.c p.d=p
 ne:¬ (p.a=0∧p.b=0∧p.c=0)
end Go.Proofs.Vx
namespace Go.Sx
open Geo (H V Sd)
set_option linter.unusedVariables false
def Rot {α:Type} (a b:List α):Prop:=∃ A B,a=A++B∧b=B++A
theorem Rot.refl {α:Type} (a:List α):Rot a a:=⟨a,[],by simp,by simp⟩
theorem Rot.perm {α:Type} {a b:List α} (h:Rot a b):a.Perm b:=by obtain⟨A,B,rfl,rfl⟩:=h;exact List.perm_append_comm
theorem Rot.edges {α:Type} {a b:List α} (h:Rot a b):(Geo.edges a).Perm (Geo.edges b):=by obtain⟨A,B,rfl,rfl⟩:=h;exact Geo.tQ A B
theorem Rot.flat {α β:Type} {a b:List α} (f:α × α→List β) (h:Rot a b):Rot ((Geo.edges a).flatMap f) ((Geo.edges b).flatMap f):=by
 obtain⟨A,B,rfl,rfl⟩:=h
 cases A with
 | nil=>rw[Au,Ag];exact Rot.refl _
 | cons x A=>cases B with
  | nil=>rw[Au,Ag];exact Rot.refl _
  | cons y B =>
   refine⟨(Geo.aN (x::A++[y])).flatMap f,(Geo.aN (y::B++[x])).flatMap f,?_,?_⟩
   ·rw[Geo.mV,Ap]
   ·rw[Geo.mV,Ap]
theorem Rot.any {α:Type} {a b:List α} (f:α→Bool) (h:Rot a b):a.any f=b.any f:=by
 obtain⟨A,B,rfl,rfl⟩:=h
 rw[Av,Av,Bool.or_comm]
def SR (s t:Pl × List Pt):Prop:=s.1=t.1∧Rot s.2 t.2
inductive RL:aE→aE→Prop
 | nil:RL [] []
 | cons {s t:Pl × List Pt} {l m:aE} (h:SR s t) (r:RL l m):RL (s::l) (t::m)
def RC (l m:aE):Prop:=∃ k,l.Perm k∧RL k m
theorem RL.append {l m l' m':aE} (h:RL l m) (k:RL l' m'):RL (l++l') (m++m'):=by
 induction h with
 | nil=>exact k
 | cons h _ ih=>exact .cons h ih
theorem RC.append {l m l' m':aE} (h:RC l m) (k:RC l' m'):RC (l++l') (m++m'):=by
 obtain⟨a,h1,h2⟩:=h
 obtain⟨b,k1,k2⟩:=k
 exact⟨a++b,h1.append k1,h2.append k2⟩
theorem RL.length {l m:aE} (h:RL l m):l.length=m.length:=by
 induction h with
 | nil=>rfl
 | cons _ _ ih=>simp[ih]
theorem RC.length {l m:aE} (h:RC l m):l.length=m.length:=by obtain⟨k,h1,h2⟩:=h;rw[h1.length_eq,h2.length]
theorem RC.nil_iff {l m:aE} (h:RC l m):l=[]↔m=[]:=by rw[← Ak,← Ak,h.length]
theorem RL.mem {l m:aE} (h:RL l m):(∀ s∈l,∃ t∈m,SR s t)∧∀ t∈m,∃ s∈l,SR s t:=by
 induction h with
 | nil=>exact⟨by simp,by simp⟩
 | cons h _ ih =>
  refine⟨fun s hs=>?_,fun t ht=>?_⟩
  ·rcases Ad.1 hs with rfl|hs
   ·exact⟨_,by simp,h⟩
   ·obtain⟨t,ht,k⟩:=ih.1 s hs;exact⟨t,by simp[ht],k⟩
  ·rcases Ad.1 ht with rfl|ht
   ·exact⟨_,by simp,h⟩
   ·obtain⟨s,hs,k⟩:=ih.2 t ht;exact⟨s,by simp[hs],k⟩
theorem RC.mem {l m:aE} (h:RC l m):(∀ s∈l,∃ t∈m,SR s t)∧∀ t∈m,∃ s∈l,SR s t:=by
 obtain⟨k,h1,h2⟩:=h
 refine⟨fun s hs=>h2.mem.1 s (h1.mem_iff.1 hs),fun t ht=>?_⟩
 obtain⟨s,hs,k⟩:=h2.mem.2 t ht
 exact⟨s,h1.mem_iff.2 hs,k⟩
theorem RC.any {l m:aE} (f:Pl × List Pt→Bool) (hf:∀ s t,SR s t→f s=f t) (h:RC l m):l.any f=m.any f:=by
 apply Bool.eq_iff_iff.2
 simp only[List.any_eq_true]
 constructor
 ·rintro⟨s,hs,e⟩;obtain⟨t,ht,k⟩:=h.mem.1 s hs;exact⟨t,ht,by rw[← hf s t k];exact e⟩
 ·rintro⟨t,ht,e⟩;obtain⟨s,hs,k⟩:=h.mem.2 t ht;exact⟨s,hs,by rw[hf s t k];exact e⟩
theorem RC.front {l m:aE} (h:RC l m) (b:Pl):bC b l=bC b m:=h.any _ fun s t k=>k.2.any _
theorem RC.behind {l m:aE} (h:RC l m) (b:Pl):bD b l=bD b m:=h.any _ fun s t k=>k.2.any _
theorem RC.bd {l m:aE} (h:RC l m) {S M K:Nat} (hb:Bd S M K m):Bd S M K l:=by
 refine⟨by rw[h.length];exact hb.n,fun s hs=>?_,fun s hs v hv=>?_,fun s hs=>?_⟩<;>obtain⟨t,ht,k⟩:=h.mem.1 s hs
 ·rw[k.2.perm.length_eq];exact hb.m t ht
 ·exact hb.k t ht v (k.2.perm.mem_iff.1 hv)
 ·rw[k.1];exact hb.p t ht
theorem RL.filterMap {l m:aE} (f:Pl × List Pt→Option (Pl × List Pt)) (hf:∀ s t,SR s t→(f s=none∧f t=none)∨∃ s' t',f s=some s'∧f t=some t'∧SR s' t') (h:RL l m):RL (l.filterMap f) (m.filterMap f):=by
 induction h with
 | nil=>exact .nil
 | cons h _ ih =>
  rcases hf _ _ h with⟨h1,h2⟩|⟨s',t',h1,h2,h3⟩
  ·rw[Ah h1,Ah h2];exact ih
  ·rw[Ai h1,Ai h2];exact .cons h3 ih
theorem RC.filterMap {l m:aE} (f:Pl × List Pt→Option (Pl × List Pt)) (hf:∀ s t,SR s t→(f s=none∧f t=none)∨∃ s' t',f s=some s'∧f t=some t'∧SR s' t') (h:RC l m):RC (l.filterMap f) (m.filterMap f):=by
 obtain⟨k,h1,h2⟩:=h
 exact⟨k.filterMap f,h1.filterMap f,h2.filterMap f hf⟩
theorem RC.es {l m:aE} (h:RC l m):(esP l).Perm (esP m):=by
 obtain⟨k,h1,h2⟩:=h
 refine (h1.flatMap_right _).trans ?_
 clear h1
 induction h2 with
 | nil=>exact Al.refl _
 | cons h _ ih=>exact (h.2.edges).append ih
theorem RC.bhs {l m:aE} (h:RC l m) (b:Pl):RC (bh b l) (bh b m):=by
 refine h.filterMap _ fun s t k=>?_
 have e:bH (-1) b s.2 s.2.length=bH (-1) b t.2 t.2.length:=by unfold bH;rw[As,As];exact k.2.any _
 by_cases q:bH (-1) b t.2 t.2.length=true
 ·exact .inr ⟨_,_,if_pos (e.trans q),if_pos q,k.1,k.2.flat _⟩
 ·exact .inl ⟨if_neg (by rw[e];exact q),if_neg q⟩
theorem a5s (nx:Pt→Pt) (i j:Nat) (x:Pt):aW nx (i+j) x=aW nx i x++aW nx j (itP nx i x):=by
 induction i generalizing x with
 | zero=>rw[Ax];rfl
 | succ i ih=>rw[Ay,aW,ih (nx x)];rfl
theorem b4h {S:List Pt} {nx ny:Pt→Pt} (h:∀ x∈S,nx x=ny x∧nx x∈S) (n:Nat) {x:Pt} (hx:x∈S):aW nx n x=aW ny n x:=by
 induction n generalizing x with
 | zero=>rfl
 | succ n ih=>rw[aW,aW,← (h x hx).1,ih (h x hx).2]
theorem a9t {S:List Pt} {nx:Pt→Pt} (h:∀ x∈S,nx x∈S) (n:Nat) {x:Pt} (hx:x∈S):itP nx n x∈S:=by
 induction n with
 | zero=>exact hx
 | succ n ih=>rw[uA];exact h _ ih
theorem CapF.cl {b:Pl} {l:aE} (C:CapF b l):∀ x∈(heP b l).map (·.2),nxP ((heP b l).map Geo.sw) x∈(heP b l).map (·.2):=by
 intro x hx
 obtain⟨e,he,rfl⟩:=Ab.1 hx
 rw[C.nx e he];exact C.io e he
theorem c6j {S:List Pt} {nx:Pt→Pt} (h:∀ x∈S,nx x∈S) (n:Nat) {x:Pt} (hx:x∈S):∀ v∈aW nx n x,v∈S:=by
 induction n generalizing x with
 | zero=>intro v hv;simp[aW]at hv
 | succ n ih =>
  intro v hv
  rw[aW]at hv
  rcases Ad.1 hv with rfl|hv
  ·exact hx
  ·exact ih (h x hx) v hv
theorem CapF.rot {b : Pl} {l : aE} (h : CellOK l) (C : CapF b l) {f f' : Pt} (hf : f ∈ (heP b l).map (·.2)) (hf' : f' ∈ (heP b l).map (·.2)) :
  Rot (aW (nxP ((heP b l).map Geo.sw)) (heP b l).length f) (aW (nxP ((heP b l).map Geo.sw)) (heP b l).length f'):=by
 have hcan:∀ x∈(heP b l).map (·.2),CanP x:=fun x hx=>by
  obtain⟨e,he,rfl⟩:=Ab.1 hx
  exact (es_w (rL h.toCanC) e (Am.1 he).1).2
 have hcan1:∀ e∈heP b l,CanP e.1:=fun e he=>(es_w (rL h.toCanC) e (Am.1 he).1).1
 obtain⟨K,hK⟩:=C.run f hf
 have hcl:=C.cl
 have hnx:=C.nx
 have hn:0<(heP b l).length:=List.length_pos_iff.2 C.ne
 have hrl:=pL (nxP ((heP b l).map Geo.sw)) (heP b l).length f
 have hrm:=c6j hcl (heP b l).length hf
 have hed:=K.ed
 rw[C.hHE]at hed
 generalize hnxq:nxP ((heP b l).map Geo.sw)=nx at *
 generalize hnq:(heP b l).length=n at *
 have hret:itP nx n f=f:=by
  obtain⟨k,rfl⟩:∃ k,n=k+1:=⟨n - 1,by omega⟩
  have hz:=a9t hcl k hf
  rw[uA]
  have hmem:(tv (itP nx k f),tv f)∈Geo.edges ((aW nx (k+1) f).map tv):=by
   rw[vU]
   cases k with
   | zero=>simp[aW,itP,Geo.edges,Geo.aN]
   | succ k =>
    rw[aW,An,Aw]
    rw[show ([itP nx (k+1) f].map tv)=tv (itP nx (k+1) f)::[]from rfl,Geo.mV]
    simp[Geo.aN]
  obtain⟨e2,h2,h3⟩:=Ab.1 (hed.mem_iff.1 hmem)
  obtain⟨e,he,rfl⟩:=Ab.1 h2
  have q1:tv e.2=tv (itP nx k f):=congrArg Prod.fst h3
  have q2:tv e.1=tv f:=congrArg Prod.snd h3
  have r1:e.2=itP nx k f:=l7 (hcan _ (Aa he)) (hcan _ hz) q1
  have r2:e.1=f:=l7 (hcan1 e he) (hcan f hf) q2
  rw[← r1,hnx e he,r2]
 have hmet:f'∈aW nx n f:=by
  have h1:(Geo.edges ((aW nx n f).map tv)).map (·.1)=(aW nx n f).map tv:=Geo.i7 _
  have h2:tv f'∈(aW nx n f).map tv:=by
   rw[← h1]
   obtain⟨e,he,rfl⟩:=Ab.1 hf'
   exact Ab.2 ⟨Geo.sw (tv2 e),hed.mem_iff.2 (Aa (Aa he)),rfl⟩
  obtain⟨y,hy,e⟩:=Ab.1 h2
  rw[← l7 (hcan y (hrm y hy)) (hcan f' hf') e];exact hy
 have hat:∀ (n:Nat) (x y:Pt),y∈aW nx n x→∃ i,i<n∧y=itP nx i x:=by
  intro n
  induction n with
  | zero=>intro x y hy;simp[aW]at hy
  | succ n ih =>
   intro x y hy
   rw[aW]at hy
   rcases Ad.1 hy with rfl|hy
   ·exact⟨0,by omega,rfl⟩
   ·obtain⟨i,hi,e⟩:=ih _ _ hy
    exact⟨i+1,by omega,e⟩
 obtain⟨i,hi,e⟩:=hat n f f' hmet
 have hadd:∀ (i j:Nat) (x:Pt),itP nx (i+j) x=itP nx j (itP nx i x):=by
  intro i
  induction i with
  | zero=>intro j x;rw[Ax];rfl
  | succ i ih=>intro j x;rw[Ay];exact ih j (nx x)
 refine⟨aW nx i f,aW nx (n - i) f',?_,?_⟩
 ·rw[e,← a5s,show i+(n - i)=n by omega]
 ·have:itP nx (n - i) f'=f:=by rw[e,← hadd,show i+(n - i)=n by omega,hret]
  conv=>rhs;rhs;rw[← this]
  rw[← a5s,show n - i+i=n by omega]
def nS (b:Pl) (l:aE):List Pt:=aW (nxP (((esP l).filter (onE b)).map Geo.sw)) ((esP l).filter (onE b)).length ((((esP l).filter (onE b)).map (·.2)).headD P0)
def jW (b:Pl) (l:aE):aE:=bh b l++[(b,nS b (bh b l))]
def cY (b:Pl) (l:aE):aE × aE:=if bC b l=false then (l,[])else if bD b l=false then ([],l)else (jW b l,jW (aY b) l)
def dB:aE:=[
 (⟨1,0,0,1000⟩,[wpt 1 (-1) (-1),wpt 1 1 (-1),wpt 1 1 1,wpt 1 (-1) 1]),
 (⟨-1,0,0,1000⟩,[wpt (-1) (-1) (-1),wpt (-1) (-1) 1,wpt (-1) 1 1,wpt (-1) 1 (-1)]),
 (⟨0,1,0,1000⟩,[wpt (-1) 1 (-1),wpt (-1) 1 1,wpt 1 1 1,wpt 1 1 (-1)]),
 (⟨0,-1,0,1000⟩,[wpt (-1) (-1) (-1),wpt 1 (-1) (-1),wpt 1 (-1) 1,wpt (-1) (-1) 1]),
 (⟨0,0,1,1000⟩,[wpt (-1) (-1) 1,wpt 1 (-1) 1,wpt 1 1 1,wpt (-1) 1 1]),
 (⟨0,0,-1,1000⟩,[wpt (-1) (-1) (-1),wpt (-1) 1 (-1),wpt 1 1 (-1),wpt 1 (-1) (-1)])]
theorem heR {b:Pl} {l:aE}:(esP (bh b l)).filter (onE b)=heP b l:=rfl
theorem a6h {α:Type} {d:α} {l:List α} (h:l≠[]):l.headD d∈l:=by
 cases l with
 | nil=>exact absurd rfl h
 | cons x l=>simp
theorem b0d {b:Pl} {l:aE} (C:CapF b l):∃ f∈(heP b l).map (·.2),nS b (bh b l)=aW (nxP ((heP b l).map Geo.sw)) (heP b l).length f :=
 ⟨((heP b l).map (·.2)).headD P0,a6h (by simpa using C.ne),by unfold nS;rw[heR]⟩
theorem a6k {b:Pl} {l:aE} (h:CellOK l) (hS:Geo.Spl (sds l) (tH b)):CellOK (jW b l):=by
 have C:=uJ h hS
 obtain⟨f,hf,e⟩:=b0d C
 obtain⟨K,hc⟩:=C.run f hf
 rw[← e]at K hc
 refine⟨⟨fun s hs=>?_⟩,?_⟩
 ·rcases List.mem_append.1 hs with hs|hs
  ·exact (rL h.toCanC).can s hs
  ·obtain rfl:s=_:=by simpa using hs
   exact hc
 ·have e2:sds (jW b l)=Geo.aT (tH b) (sds l)++[⟨tH b,(nS b (bh b l)).map tv⟩]:=by
   show (bh b l++[(b,nS b (bh b l))]).map sd=_
   rw[An]
   show sds (bh b l)++_=_
   rw[yE h.toCanC]
   rfl
  rw[e2]
  exact hS.cell K
theorem a8u {b:Pl} {l:aE} (h:CellOK l):((cY b l).1=[]∨CellOK (cY b l).1)∧((cY b l).2=[]∨CellOK (cY b l).2):=by
 unfold cY
 by_cases hf:bC b l=false
 ·rw[if_pos hf];exact⟨.inr h,.inl rfl⟩
 ·rw[if_neg hf]
  by_cases hb:bD b l=false
  ·rw[if_pos hb];exact⟨.inl rfl,.inr h⟩
  ·rw[if_neg hb]
   have hf':bC b l=true:=by simpa using hf
   have hb':bD b l=true:=by simpa using hb
   exact⟨.inr (a6k h (gO h hf' hb')),.inr (a6k h (gO h (by rw[lM];exact hb') (by rw[lK];exact hf')))⟩
theorem c6w {m m':List (Pt × Pt)} (h:m.Perm m') (hn:(m.map (·.1)).Nodup) {k:Pt} (hk:k∈m.map (·.1)):nxP m k=nxP m' k:=by
 obtain⟨e,he,rfl⟩:=Ab.1 hk
 rw[a0o hn he,a0o ((h.map (·.1)).nodup_iff.1 hn) (h.mem_iff.1 he)]
theorem RC.cell {l m:aE} (h:RC l m) (hl:CellOK l) (hm:CellOK m) {b:Pl} (h1:Geo.Spl (sds l) (tH b)) (h2:Geo.Spl (sds m) (tH b)):RC (jW b l) (jG b m):=by
 have C:=uJ hl h1
 have D:=uJ hm h2
 have hb:=h.bhs b
 have hp:(heP b l).Perm (heP b m):=hb.es.filter _
 obtain⟨f,hf,e⟩:=b0d C
 obtain⟨f',hf',e'⟩:=D.ex
 have hn:(((heP b l).map Geo.sw).map (·.1)).Nodup:=by rw[Az];exact C.nd
 have hk:∀ x∈(heP b l).map (·.2),nxP ((heP b l).map Geo.sw) x=nxP ((heP b m).map Geo.sw) x:=fun x hx=>c6w (hp.map _) hn (by rw[Az];exact hx)
 have hf2:f'∈(heP b l).map (·.2):=(hp.map _).mem_iff.2 hf'
 refine hb.append ⟨[(b,nS b (bh b l))],Al.refl _,.cons ⟨rfl,?_⟩ .nil⟩
 show Rot (nS b (bh b l)) (cD b (bh b m))
 rw[e,e',← hp.length_eq,← b4h (S:=(heP b l).map (·.2)) (fun x hx=>⟨hk x hx,C.cl x hx⟩) _ hf2]
 exact C.rot hl hf hf2
theorem b1c:RC [] []:=⟨[],Al.refl _,.nil⟩
theorem RC.spl {l m:aE} (h:RC l m) (hl:CellOK l) (hm:CellOK m) (b:Pl):RC (cY b l).1 (aQ b m).1∧RC (cY b l).2 (aQ b m).2:=by
 unfold cY aQ
 rw[h.front,h.behind]
 by_cases hf:bC b m=false
 ·rw[if_pos hf,if_pos hf];exact⟨h,b1c⟩
 ·rw[if_neg hf,if_neg hf]
  by_cases hb:bD b m=false
  ·rw[if_pos hb,if_pos hb];exact⟨b1c,h⟩
  ·rw[if_neg hb,if_neg hb]
   have hf':bC b m=true:=by simpa using hf
   have hb':bD b m=true:=by simpa using hb
   exact⟨h.cell hl hm (gO hl (by rw[h.front];exact hf') (by rw[h.behind];exact hb')) (gO hm hf' hb'),
    h.cell hl hm (gO hl (by rw[lM,h.behind];exact hb') (by rw[lK,h.front];exact hf')) (gO hm (by rw[lM];exact hb') (by rw[lK];exact hf'))⟩
theorem a6y {α:Type} (x:α) (l:List α):Rot (x::l) (l++[x]):=⟨[x],l,rfl,rfl⟩
theorem a6m:RC dB aO:=by
 refine⟨[(⟨-1,0,0,1000⟩,[wpt (-1) (-1) (-1),wpt (-1) (-1) 1,wpt (-1) 1 1,wpt (-1) 1 (-1)]),(⟨1,0,0,1000⟩,[wpt 1 (-1) (-1),wpt 1 1 (-1),wpt 1 1 1,wpt 1 (-1) 1]),
  (⟨0,-1,0,1000⟩,[wpt (-1) (-1) (-1),wpt 1 (-1) (-1),wpt 1 (-1) 1,wpt (-1) (-1) 1]),(⟨0,1,0,1000⟩,[wpt (-1) 1 (-1),wpt (-1) 1 1,wpt 1 1 1,wpt 1 1 (-1)]),
  (⟨0,0,-1,1000⟩,[wpt (-1) (-1) (-1),wpt (-1) 1 (-1),wpt 1 1 (-1),wpt 1 (-1) (-1)]),(⟨0,0,1,1000⟩,[wpt (-1) (-1) 1,wpt 1 (-1) 1,wpt 1 1 1,wpt (-1) 1 1])],?_,?_⟩
 ·exact (Al.swap _ _ _).trans (((Al.swap _ _ _).trans ((Al.swap _ _ _).cons _ |>.cons _)).cons _ |>.cons _)
 ·refine .cons ⟨rfl,a6y _ _⟩ (.cons ⟨rfl,Rot.refl _⟩ (.cons ⟨rfl,?_⟩ (.cons ⟨rfl,Rot.refl _⟩ (.cons ⟨rfl,a6y _ _⟩ (.cons ⟨rfl,Rot.refl _⟩ .nil)))))
  exact⟨[wpt (-1) (-1) (-1)],[wpt 1 (-1) (-1),wpt 1 (-1) 1,wpt (-1) (-1) 1],rfl,rfl⟩
theorem a3r:CellOK dB:=by
 refine⟨⟨fun s hs v hv=>?_⟩,a8e (by decide +kernel)⟩
 have:dB.all (fun s=>s.2.all canB)=true:=by decide +kernel
 exact eW (At.1 (At.1 this s hs) v hv)
end Go.Sx
namespace Go.Sx
open Geo (H V Sd)
set_option linter.unusedVariables false
theorem qQ {h g : H} {vs : List V} (pv : Geo.PV h.n vs) (pl : ∀ v ∈ vs, h.at v = 0) (hN : 0 < Geo.dot (Geo.aA h.n g.n) (Geo.aA h.n g.n)) {x y z : V} (hx : x ∈ vs) (hy : y ∈ vs) (hz : z ∈ vs)
  (gx:g.at x=0) (gy:g.at y=0) (gz:g.at z=0) (h1:Geo.dot y (Geo.aA h.n g.n)<Geo.dot x (Geo.aA h.n g.n)) (h2:Geo.dot x (Geo.aA h.n g.n)<Geo.dot z (Geo.aA h.n g.n)):False:=by
 obtain⟨t,t0,t1,e⟩:=Geo.b0j hN (pl y hy) (pl z hz) gy gz (pl x hx) gx h1 h2
 have:=(pv.extreme pl hx t0 t1 e (pl y hy) (pl z hz) (fun e he=>pv.weak he hy) (fun e he=>pv.weak he hz)).1
 rw[this]at h1
 grind
theorem b6v {h g : H} {vs : List V} (pv : Geo.PV h.n vs) (pl : ∀ v ∈ vs, h.at v = 0) (hN : 0 < Geo.dot (Geo.aA h.n g.n) (Geo.aA h.n g.n)) {x y z : V} (hx : x ∈ vs) (hy : y ∈ vs) (hz : z ∈ vs)
  (gx:g.at x=0) (gy:g.at y=0) (gz:g.at z=0) (n1:x≠y) (n2:x≠z) (n3:y≠z):False:=by
 have k:∀ {p q:V},p∈vs→q∈vs→g.at p=0→g.at q=0→p≠q→Geo.dot p (Geo.aA h.n g.n)<Geo.dot q (Geo.aA h.n g.n)∨Geo.dot q (Geo.aA h.n g.n)<Geo.dot p (Geo.aA h.n g.n):=by
  intro p q hp hq gp gq n
  by_cases e:Geo.dot p (Geo.aA h.n g.n)=Geo.dot q (Geo.aA h.n g.n)
  ·exact absurd (Geo.xK hN (pl p hp) (pl q hq) gp gq e) n
  ·generalize Geo.dot p (Geo.aA h.n g.n)=a at *
   generalize Geo.dot q (Geo.aA h.n g.n)=b at *
   grind
 rcases k hx hy gx gy n1 with a|a<;>rcases k hx hz gx gz n2 with b|b<;>rcases k hy hz gy gz n3 with c|c
 ·exact qQ pv pl hN hy hx hz gy gx gz a c
 ·exact qQ pv pl hN hz hx hy gz gx gy b c
 ·exfalso;grind
 ·exact qQ pv pl hN hx hz hy gx gz gy b a
 ·exact qQ pv pl hN hx hy hz gx gy gz a b
 ·exfalso;grind
 ·exact qQ pv pl hN hz hy hx gz gy gx c b
 ·exact qQ pv pl hN hy hz hx gy gz gx c a
theorem c6r {b:Pl} {es:List (Pt × Pt)} (h:∀ e∈es,0≤aC b e.1∧0≤aC b e.2):(es.flatMap fun e=>pc (-1) b e.1 e.2)=(es.map (·.1)).filter fun v=>decide (aC b v≠1):=by
 induction es with
 | nil=>rfl
 | cons e es ih =>
  have he:=h e (by simp)
  rw[List.flatMap_cons,ih fun x hx=>h x (by simp[hx]),Aw,List.filter_cons]
  have h2:¬ aC b e.1*aC b e.2<0:=by have:=Int.mul_nonneg he.1 he.2;omega
  unfold pc
  rw[if_neg h2,Ag]
  by_cases q:aC b e.1=1
  ·simp[q]
  ·simp[q]
theorem len3 {b:Pl} {l:aE} (h:CellOK l) (hS:Geo.Spl (sds l) (tH b)) {s:Pl × List Pt} (hs:s∈l):bH (-1) b s.2 s.2.length=decide (3≤(bF (-1) b s.2).length):=by
 have hw:=h.w hs
 have hm:sd s∈sds l:=Aa hs
 have pv:=h.cell.pv _ hm
 have pl:=h.cell.pl _ hm
 rw[a6w hw]
 by_cases q:Geo.bQ (tH b) (s.2.map tv)=true
 ·rw[q]
  have:=(Geo.oH (g:=tH b) pv pl (Geo.gV.1 q)).pv.len
  have e:(bF (-1) b s.2).length=(Geo.part (tH b) (s.2.map tv)).length:=by rw[← a7d hw,List.length_map]
  exact (decide_eq_true (by rw[e];exact this)).symm
 ·have hlo:∀ v∈s.2,0≤aC b v:=fun v hv=>by
   apply Classical.byContradiction
   intro hn
   exact q (Geo.gV.2 ⟨tv v,Aa hv,(nQ b (hw v hv)).2 (by unfold aC at hn;exact l9.1 (by omega))⟩)
  rw[Bool.not_eq_true]at q
  rw[q]
  symm
  apply decide_eq_false
  intro hlen
  have e:bF (-1) b s.2=s.2.filter fun v=>decide (aC b v≠1):=by
   unfold bF
   rw[c6r (fun e he=>⟨hlo _ (Geo.bJ he),hlo _ (Geo.bO he)⟩),Geo.i7]
  rw[e]at hlen
  have hnd:(s.2.filter fun v=>decide (aC b v≠1)).Nodup:=(Geo.yY pv.nd).filter _
  have hin:∀ v∈s.2.filter fun v=>decide (aC b v≠1),v∈s.2∧(tH b).at (tv v)=0:=fun v hv=>by
   obtain⟨h1,h2⟩:=Am.1 hv
   have h3:=hlo v h1
   have h4:=of_decide_eq_true h2
   refine⟨h1,(oY b (hw v h1)).2 (a1b.1 ?_)⟩
   have:=a6x (abv b v)
   unfold aC at *
   omega
  generalize s.2.filter (fun v=>decide (aC b v≠1))=F at *
  obtain⟨w,hwm,gw⟩:∃ w∈(sd s).vs,0<(tH b).at w:=by
   rcases hS.not_on hm with k|k
   ·have k':Geo.bQ (tH b) (s.2.map tv)=true:=k
    rw[q]at k';exact absurd k' (by decide)
   ·obtain⟨w,hw1,hw2⟩:=Geo.gV.1 k
    exact⟨w,hw1,by rw[Geo.iQ]at hw2;grind⟩
  match F,hlen,hnd,hin with
  | x::y::z::F,_,hnd,hin =>
   have hx:=hin x (by simp)
   have hy:=hin y (by simp)
   have hz:=hin z (by simp)
   simp only[List.nodup_cons,Ad,not_or]at hnd
   have ne:∀ {p q:Pt},p∈s.2→q∈s.2→p≠q→tv p≠tv q:=fun hp hq n e=>n (l7 (h.can s hs _ hp) (h.can s hs _ hq) e)
   have mm:∀ {p:Pt},p∈s.2→tv p∈(sd s).vs:=fun hp=>Aa hp
   have hN:=Geo.oA (h:=(sd s).h) (g:=tH b) (a:=tv x) (w:=w) pv.n_ne (by rw[pl _ (mm hx.1),pl _ hwm]) (by rw[hx.2];grind)
   exact b6v pv pl hN (mm hx.1) (mm hy.1) (mm hz.1) hx.2 hy.2 hz.2 (ne hx.1 hy.1 hnd.1.1) (ne hx.1 hz.1 hnd.1.2.1) (ne hy.1 hz.1 hnd.2.1.1)
def bhR (b:Pl) (l:aE):aE:=l.filterMap fun s=>if 3≤(bF (-1) b s.2).length then some (s.1,bF (-1) b s.2)else none
theorem d2o {b:Pl} {l:aE} (h:CellOK l) (hS:Geo.Spl (sds l) (tH b)):bhR b l=bh b l:=by
 unfold bhR bh
 have key:∀ m:aE,(∀ s∈m,s∈l)→(m.filterMap fun s=>if 3≤(bF (-1) b s.2).length then some (s.1,bF (-1) b s.2)else none)=m.filterMap fun s=>if bH (-1) b s.2 s.2.length then some (s.1,bF (-1) b s.2)else none:=by
  intro m
  induction m with
  | nil=>intro _;rfl
  | cons s m ih =>
   intro hm
   have e:=len3 h hS (hm s (by simp))
   rw[Aq,Aq,ih fun t ht=>hm t (by simp[ht]),e]
   simp only[decide_eq_true_eq]
 exact key l fun s hs=>hs
end Go.Sx
namespace Go.Proofs.Vx
open Go Go.Sx Go.Proofs Tryz
attribute [local irreducible] fnT CallOK CallFr AW aK callV aL aJ aI aM gcaseP hid
theorem c2c {n m:Nat} {X:List Int} (h:ofI X++nbL m=nbL n) (hm:m≠0):ofI (X++[((m % 256:Nat):Int)])++nbL (m / 256)=nbL n:=by
 rw[qO hm]at h
 rw[← h]
 unfold ofI
 rw[An,List.append_assoc]
 rfl
theorem c7d {n:Nat} (h:n<18446744073709551616):(nbL n).length≤8:=by
 have:=(bX (n:Int) 8).2 (by simpa using h)
 exact this
theorem c154 (n:Nat) (hn:n<18446744073709551616):CallOK prog 154 [.lit (.int .u64 n)] [] (.lit (.string (nb n))) []:=by
 refine zs func154 17 [.tmp 2] results154 ?_
 simp only[aD,Af]
 have hml:maxLen=9223372036854775807:=rfl
 have hi0:aH .u8 []=[]:=rfl
 repeat'(first|refine zk ?_|(refine zu ?_ ?_<;>intro hc)|(refine zv ?_ ?_<;>intro hg)|omega|simp -dsimp (disch:=try exact zo)only[go_sem]|contradiction|rfl)
 refine AW.loop (fun z:{p:Nat × List Int // gU p.2∧p.1<18446744073709551616∧ofI p.2++nbL p.1=nbL n}=>⟨[(0,.lit (.int .u64 z.1.1)),(3,.ref 9 0 z.1.2.length z.1.2.length)],[(9,.vec 1 (aH .u8 z.1.2))],40⟩) (fun z=>z.1.1) ⟨(n,[]),fun x hx=>by simp at hx,hn,rfl⟩ zw ?_
 rintro⟨⟨m,X⟩,dX,hm,hX⟩
 dsimp only at dX hm hX ⊢
 have hXs:X.length+(nbL m).length=(nbL n).length:=by rw[← hX,List.length_append];simp[ofI]
 have hl8:=c7d hn
 by_cases h0:0<m
 ·have hm1:(m:Int) % 256=((m % 256:Nat):Int):=by omega
  have hm2:(m:Int) / 256=((m / 256:Nat):Int):=by omega
  have hlt:m % 256<256:=Nat.mod_lt _ (by decide)
  have dX1:=qD dX (d:=((m % 256:Nat):Int)) (by omega)
  have hst:=c2c hX (by omega)
  have hXl:(X++[((m % 256:Nat):Int)]).length=X.length+1:=by simp
  have hdl:m / 256<m:=Nat.div_lt_self h0 (by decide)
  clear hX
  repeat'(first|refine zk ?_|(refine zu ?_ ?_<;>intro hc)|(refine zv ?_ ?_<;>intro hg)|omega|simp -dsimp (disch:=try exact zo)only[go_sem,hm1,hm2,bZ,gW]|contradiction|rfl)
  all_goals exact AW.stop ⟨⟨(m / 256,X++[((m % 256:Nat):Int)]),dX1,by dsimp only;omega,hst⟩,(aR (by refine⟨?_,?_,?_,?_⟩<;>first|(simp -dsimp (disch:=try exact zo)only[go_sem,ZC,hXl,gW,hm1,hm2];done)|(simp -dsimp (disch:=try exact zo)only[go_sem,ZC];done))),by dsimp only;omega⟩
 ·obtain rfl:m=0:=by omega
  have hfin:(⟨(ofI X).toArray⟩:ByteArray)=nb n:=by
   unfold nb
   rw[lQ,Ag]at hX
   rw[hX]
  clear hX
  repeat'(first|refine zk ?_|(refine zu ?_ ?_<;>intro hc)|(refine zv ?_ ?_<;>intro hg)|omega|simp -dsimp (disch:=try exact zo)only[go_sem,bZ]|contradiction|rfl)
  all_goals
   refine⟨ofI X,by first|exact iN _ dX|(rw[List.take_of_length_le (by first|omega|(rw[bZ];omega))];exact iN _ dX),?_⟩
   repeat'(first|refine zk ?_|(refine zu ?_ ?_<;>intro hc)|(refine zv ?_ ?_<;>intro hg)|omega|simp -dsimp (disch:=try exact zo)only[go_sem,hfin]|contradiction|rfl)
theorem d1k (n:Bool) (m:ByteArray):iv (!n) m=-iv n m:=by cases n<;>simp[iv]
theorem c85 (n:Bool) (m:ByteArray) (hm:m.size<4611686018427387904):CallOK prog 85 [.agg [.lit (.bool n),.lit (.string m)]] [] (.agg (eZ (iv n m))) []:=by
 refine zs func85 8 [.cell 2 24] results85 ?_
 simp only[aD,Af]
 have co:=nU n m hm
 generalize iv n m=z at *
 exact z1
theorem c89 (n:Bool) (m:ByteArray) (hm:m.size<4611686018427387904):CallOK prog 89 [.agg [.lit (.bool n),.lit (.string m)]] [] (.agg (eZ (-iv n m))) []:=by
 refine zs func89 9 [.cell 2 24] results89 ?_
 simp only[aD,Af]
 have co:=nU (!n) m hm
 rw[d1k]at co
 generalize -iv n m=z at *
 exact z1
theorem b2m (b:Bool) (k:Nat):iv b (nb k)=if b then -(k:Int)else k:=by unfold iv;rw[aV]
theorem c87 (z:Int) (h1:-9223372036854775808≤z) (h2:z<9223372036854775808):CallOK prog 87 [.lit (.int .i64 z)] [] (.agg (eZ z)) []:=by
 refine zs func87 16 [.cell 2 24] results87 ?_
 simp only[aD,Af]
 by_cases h0:z<0
 ·have c4:=c154 (-z).toNat (by omega)
  have co:=nU true (nb (-z).toNat) (Ar ((cG _ 8).2 (by omega)) (by decide))
  have e:iv true (nb (-z).toNat)=z:=by rw[b2m];simp only[if_true];omega
  rw[e]at co
  have hk:((-z).toNat:Int)=0 - (z+1)+1:=by omega
  rw[hk]at c4
  generalize nb (-z).toNat=s at *
  clear e hk
  exact z1
 ·have c4:=c154 z.toNat (by omega)
  have co:=nU false (nb z.toNat) (Ar ((cG _ 8).2 (by omega)) (by decide))
  have e:iv false (nb z.toNat)=z:=by rw[b2m];simp only[Bool.false_eq_true,if_false];omega
  rw[e]at co
  have hk:(z.toNat:Int)=z:=by omega
  rw[hk]at c4
  generalize nb z.toNat=s at *
  clear e hk
  exact z1
end Go.Proofs.Vx
namespace Go.Proofs.Vx
open Go Go.Sx Go.Proofs Tryz
attribute [local irreducible] fnT CallOK CallFr AW aK callV aL aJ aI aM gcaseP hid
theorem c86z (z:Int) (h:(Zm z).size≤268435456):CallOK prog 86 [.agg (eZ z)] [] (.lit (.int .i64 (sg z))) []:=by
 have:=c86 (Zn z) (Zm z) (by omega)
 rw[bB]at this
 exact this
theorem c89z (z:Int) (h:(Zm z).size≤268435456):CallOK prog 89 [.agg (eZ z)] [] (.agg (eZ (-z))) []:=by
 have:=c89 (Zn z) (Zm z) (by omega)
 rw[bB]at this
 exact this
theorem i0 (z:Int) (g:Nat) (hg:0<g) (hd:(g:Int)∣z) (h:(Zm z).size≤268435456) (hgs:(nb g).size≤268435456):CallOK prog 90 [.agg (eZ z),.agg [.lit (.bool false),.lit (.string (nb g))]] [] (.tup [.agg (eZ (z / (g:Int))),.agg (eZ 0),.lit (.bool true)]) []:=by
 have:=c90 (Zn z) (Zm z) g hg (by rw[aS];exact Int.ofNat_dvd_left.1 hd) h hgs
 rw[bB]at this
 exact this
theorem c88z (x y z w : Int) (h1 : (Zm x).size ≤ 268435456) (h2 : (Zm y).size ≤ 268435456) (h3 : (Zm z).size ≤ 268435456) (h4 : (Zm w).size ≤ 268435456) :
  CallOK prog 88 [.sl [eZ x,eZ y,eZ z,eZ w]] [] (.agg [.lit (.bool false),.lit (.string (nb (g4 x y z w)))]) []:=by
 have:=c88x (Zn x) (Zn y) (Zn z) (Zn w) (Zm x) (Zm y) (Zm z) (Zm w) h1 h2 h3 h4
 simp only[bB]at this
 exact this
theorem c7x {x y z w:Int} {k:Nat} (hx:(Zm x).size≤k) (hy:(Zm y).size≤k) (hz:(Zm z).size≤k) (hw:(Zm w).size≤k):(nb (g4 x y z w)).size≤k:=by
 unfold g4
 rw[← aS x,← aS y,← aS z,← aS w]
 exact oD (oD (oD (Ac (eA _) hx) (Ac (eA _) hy)) (Ac (eA _) hz)) (Ac (eA _) hw)
theorem yJ {n:Bool} {m:ByteArray} {k:Nat} (h:m.size≤k):(Zm (iv n m)).size≤k:=Ac (eJ n m) h
set_option maxRecDepth 20000 in
theorem c29 (n1 n2 n3 n4:Bool) (m1 m2 m3 m4:ByteArray) (h1:m1.size≤268435456) (h2:m2.size≤268435456) (h3:m3.size≤268435456) (h4:m4.size≤268435456):CallOK prog 29 [.agg [.lit (.bool n1),.lit (.string m1),.lit (.bool n2),.lit (.string m2),.lit (.bool n3),.lit (.string m3),.lit (.bool n4),.lit (.string m4)]] [] (.agg (eP (nrm (iv n1 m1) (iv n2 m2) (iv n3 m3) (iv n4 m4)))) []:=by
 refine zs func29 76 [.cell 2 51] results29 ?_
 simp only[aD,Af]
 have hml:maxLen=9223372036854775807:=rfl
 have N1:=c85 n1 m1 (by omega)
 have N2:=c85 n2 m2 (by omega)
 have N3:=c85 n3 m3 (by omega)
 have N4:=c85 n4 m4 (by omega)
 have zx:=yJ (n:=n1) h1
 have zy:=yJ (n:=n2) h2
 have zz:=yJ (n:=n3) h3
 have zw:=yJ (n:=n4) h4
 generalize iv n1 m1=x at *
 generalize iv n2 m2=y at *
 generalize iv n3 m3=z at *
 generalize iv n4 m4=w at *
 have s0:=c86z w zw
 have zW:(Zm (nz w)).size≤268435456:=a2o zw (by decide)
 have sW:=c86z (nz w) zW
 have cg:=c88z x y z (nz w) zx zy zz zW
 obtain⟨e1,e2,e3,e4'⟩:=mB x y z (nz w)
 have hG:=uT (x:=x) (y:=y) (z:=z) (rU w)
 have hGs:=c7x zx zy zz zW
 unfold nrm
 unfold turn
 by_cases hw0:w=0
 ·have hz:nz w=1:=if_pos hw0
  have k0:(sg w=0)=True:=eq_true (gN.2 hw0)
  have c1:=c87 1 (by decide) (by decide)
  simp only[hz]at s0 zW sW cg e1 e2 e3 e4' hG hGs ⊢
  have kW:(sg 1<0)=False:=eq_false (by decide)
  have hn:¬ (1:Int)<0:=by decide
  simp only[if_neg hn]
  have t1:True:=trivial
  have d1:=i0 x _ hG e1 zx hGs
  have t2:True:=trivial
  have d2:=i0 y _ hG e2 zy hGs
  have t3:True:=trivial
  have d3:=i0 z _ hG e3 zz hGs
  have t4:True:=trivial
  have d4:=i0 1 _ hG e4' zW hGs
  clear e1 e2 e3 e4' hG hGs zx zy zz zw zW hz
  generalize g4 x y z 1=G at *
  clear hw0
  repeat'(first|refine zg ?_|refine cK 6 ?_|(refine zc ?_ ?_<;>intro hc<;>first|simp only[NM]at hc|omega|skip)|refine zr ?_|(first|refine zf N1 ?_|refine zf N2 ?_|refine zf N3 ?_|refine zf N4 ?_)|(first|refine zf sW ?_|refine zf s0 ?_)|(refine zf c1 ?_)|(refine iL _ kF cg rfl rfl (by simp -dsimp (disch:=try exact zo)only[go_sem,eZ]) (.agg _ (by intro c hc;simp only[zM,or_false]at hc;rcases hc with rfl|rfl<;>exact .lit _)) ?_)|(first|refine zf t1 ?_|refine zf t2 ?_|refine zf t3 ?_|refine zf t4 ?_)|(first|refine zf d1 ?_|refine zf d2 ?_|refine zf d3 ?_|refine zf d4 ?_)|refine⟨by omega,?_⟩|(refine zb ?_ ?_<;>intro hg<;>(try rw[hg])<;>try simp only[NM]at hg)|omega|simp -dsimp (disch:=try exact zo)only[go_sem,k0,kW]|contradiction|rfl)
 ·have hz:nz w=w:=if_neg hw0
  have k0:(sg w=0)=False:=eq_false fun h=>hw0 (gN.1 h)
  have c1:True:=trivial
  simp only[hz]at s0 zW sW cg e1 e2 e3 e4' hG hGs ⊢
  by_cases hn:w<0
  ·have kW:(sg w<0)=True:=eq_true (l9.2 hn)
   simp only[if_pos hn]
   have t1:=c89z x zx
   have d1:=i0 (-x) _ hG (Ao.2 e1) (Ac (jD (by simp)) zx) hGs
   rw[Ae e1]at d1
   have t2:=c89z y zy
   have d2:=i0 (-y) _ hG (Ao.2 e2) (Ac (jD (by simp)) zy) hGs
   rw[Ae e2]at d2
   have t3:=c89z z zz
   have d3:=i0 (-z) _ hG (Ao.2 e3) (Ac (jD (by simp)) zz) hGs
   rw[Ae e3]at d3
   have t4:=c89z w zW
   have d4:=i0 (-w) _ hG (Ao.2 e4') (Ac (jD (by simp)) zW) hGs
   rw[Ae e4']at d4
   clear e1 e2 e3 e4' hG hGs zx zy zz zw zW hz
   generalize g4 x y z w=G at *
   clear hw0 hn
   repeat'(first|refine zg ?_|refine cK 6 ?_|(refine zc ?_ ?_<;>intro hc<;>first|simp only[NM]at hc|omega|skip)|refine zr ?_|(first|refine zf N1 ?_|refine zf N2 ?_|refine zf N3 ?_|refine zf N4 ?_)|(first|refine zf sW ?_|refine zf s0 ?_)|(refine zf c1 ?_)|(refine iL _ kF cg rfl rfl (by simp -dsimp (disch:=try exact zo)only[go_sem,eZ]) (.agg _ (by intro c hc;simp only[zM,or_false]at hc;rcases hc with rfl|rfl<;>exact .lit _)) ?_)|(first|refine zf t1 ?_|refine zf t2 ?_|refine zf t3 ?_|refine zf t4 ?_)|(first|refine zf d1 ?_|refine zf d2 ?_|refine zf d3 ?_|refine zf d4 ?_)|refine⟨by omega,?_⟩|(refine zb ?_ ?_<;>intro hg<;>(try rw[hg])<;>try simp only[NM]at hg)|omega|simp -dsimp (disch:=try exact zo)only[go_sem,k0,kW]|contradiction|rfl)
  ·have kW:(sg w<0)=False:=eq_false fun h=>hn (l9.1 h)
   simp only[if_neg hn]
   have t1:True:=trivial
   have d1:=i0 x _ hG e1 zx hGs
   have t2:True:=trivial
   have d2:=i0 y _ hG e2 zy hGs
   have t3:True:=trivial
   have d3:=i0 z _ hG e3 zz hGs
   have t4:True:=trivial
   have d4:=i0 w _ hG e4' zW hGs
   clear e1 e2 e3 e4' hG hGs zx zy zz zw zW hz
   generalize g4 x y z w=G at *
   clear hw0 hn
   repeat'(first|refine zg ?_|refine cK 6 ?_|(refine zc ?_ ?_<;>intro hc<;>first|simp only[NM]at hc|omega|skip)|refine zr ?_|(first|refine zf N1 ?_|refine zf N2 ?_|refine zf N3 ?_|refine zf N4 ?_)|(first|refine zf sW ?_|refine zf s0 ?_)|(refine zf c1 ?_)|(refine iL _ kF cg rfl rfl (by simp -dsimp (disch:=try exact zo)only[go_sem,eZ]) (.agg _ (by intro c hc;simp only[zM,or_false]at hc;rcases hc with rfl|rfl<;>exact .lit _)) ?_)|(first|refine zf t1 ?_|refine zf t2 ?_|refine zf t3 ?_|refine zf t4 ?_)|(first|refine zf d1 ?_|refine zf d2 ?_|refine zf d3 ?_|refine zf d4 ?_)|refine⟨by omega,?_⟩|(refine zb ?_ ?_<;>intro hg<;>(try rw[hg])<;>try simp only[NM]at hg)|omega|simp -dsimp (disch:=try exact zo)only[go_sem,k0,kW]|contradiction|rfl)
end Go.Proofs.Vx
