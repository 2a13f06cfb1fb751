import Derived.Test.YtjlfgmhmalbiiaaGreatDoorV28
set_option linter.all false
set_option maxHeartbeats 16000000
namespace Go.Proofs.Vx
open Go Go.Sx Go.Proofs Tryz
attribute [local irreducible] fnT CallOK CallFr AW aJ callV aL aI aH aM gcaseP hid
theorem j0:fnT prog 88=true:=by kernel_rfl
theorem gT4 (n1 n2 n3 n4:Bool) (m1 m2 m3 m4:ByteArray):gT [(n1,m1),(n2,m2),(n3,m3),(n4,m4)] 4=g4 (iv n1 m1) (iv n2 m2) (iv n3 m3) (iv n4 m4):=by
 show Nat.gcd (Nat.gcd (Nat.gcd (Nat.gcd 0 (nv m1)) (nv m2)) (nv m3)) (nv m4)=_
 rw[Nat.gcd_zero_left]
 unfold g4
 simp only[sJ]
theorem c88x (n1 n2 n3 n4 : Bool) (m1 m2 m3 m4 : ByteArray) (h1 : m1.size ≤ 268435456) (h2 : m2.size ≤ 268435456) (h3 : m3.size ≤ 268435456) (h4 : m4.size ≤ 268435456) :
  CallOK prog 88 [.sl [eI n1 m1,eI n2 m2,eI n3 m3,eI n4 m4]] [] (.agg [.lit (.bool false),.lit (.string (nb (g4 (iv n1 m1) (iv n2 m2) (iv n3 m3) (iv n4 m4))))]) []:=by
 have h:=c88 [(n1,m1),(n2,m2),(n3,m3),(n4,m4)] (by simp) (by
  intro r hr
  simp only[zM,or_false]at hr
  rcases hr with rfl|rfl|rfl|rfl<;>assumption)
 have e:([(n1,m1),(n2,m2),(n3,m3),(n4,m4)]:List mC).length=4:=rfl
 rw[e,gT4]at h
 have e2:∀ G:Nat,eZ (G:Int)=[.lit (.bool false),.lit (.string (nb G))]:=fun G=>by unfold eZ;rw[kX (Int.natCast_nonneg _),iV]
 rw[e2]at h
 exact h
theorem c109 (n:Bool) (m:ByteArray) (g:Nat) (hg:0<g) (hd:g∣nv m) (hm:m.size≤268435456) (hgs:(nb g).size≤268435456):CallOK prog 109 [.agg [.lit (.bool n),.lit (.string m)],.agg [.lit (.bool false),.lit (.string (nb g))]] [] (.agg (eZ (iv n m / (g:Int)))) []:=by
 refine zs func109 16 [.cell 4 24] results109 ?_
 simp only[aC,Nat.reduceAdd]
 have hml:maxLen=9223372036854775807:=rfl
 try have zh0:=(c90 n m g hg hd hm hgs)
 exact z1
theorem c44b (n1 n2 n3 n4:Bool) (m1 m2 m3 m4:ByteArray) (h1:m1.size≤268435456) (h2:m2.size≤268435456) (h3:m3.size≤268435456) (h4:m4.size≤268435456) (hz:iv n1 m1=0∧iv n2 m2=0∧iv n3 m3=0):CallOK prog 44 [.agg [.lit (.bool n1),.lit (.string m1),.lit (.bool n2),.lit (.string m2),.lit (.bool n3),.lit (.string m3),.lit (.bool n4),.lit (.string m4)]] [] (.tup [.agg [.lit (.bool false),.lit (.string ⟨#[]⟩),.lit (.bool false),.lit (.string ⟨#[]⟩),.lit (.bool false),.lit (.string ⟨#[]⟩),.lit (.bool false),.lit (.string ⟨#[]⟩)],.lit (.bool false)]) []:=by
 refine zs func44 49 [.cell 2 26,.tmp 3] results44 ?_
 simp only[aC,Nat.reduceAdd]
 have hml:maxLen=9223372036854775807:=rfl
 have s1:=c86 n1 m1 (by omega)
 have s2:=c86 n2 m2 (by omega)
 have s3:=c86 n3 m3 (by omega)
 obtain⟨z1,z2,z3⟩:=hz
 rw[z1]at s1
 rw[z2]at s2
 rw[z3]at s3
 have k1:sg 0=0:=rfl
 have k2:True:=trivial
 have k3:True:=trivial
 repeat'(first|refine zk ?_|(refine zu ?_ ?_<;>intro hc)|(first|refine zf s1 ?_|refine zf s2 ?_|refine zf s3 ?_)|(refine zv ?_ ?_<;>intro hg)|omega|simp -dsimp (disch:=try exact zo)only[go_sem,k1]|contradiction|rfl)
theorem c44a (n1 n2 n3 n4:Bool) (m1 m2 m3 m4:ByteArray) (h1:m1.size≤268435456) (h2:m2.size≤268435456) (h3:m3.size≤268435456) (h4:m4.size≤268435456) (hz:¬ (iv n1 m1=0∧iv n2 m2=0∧iv n3 m3=0)):CallOK prog 44 [.agg [.lit (.bool n1),.lit (.string m1),.lit (.bool n2),.lit (.string m2),.lit (.bool n3),.lit (.string m3),.lit (.bool n4),.lit (.string m4)]] [] (.tup [.agg (eH (jM (iv n1 m1) (iv n2 m2) (iv n3 m3) (iv n4 m4))),.lit (.bool true)]) []:=by
 refine zs func44 49 [.cell 2 26,.tmp 3] results44 ?_
 simp only[aC,Nat.reduceAdd]
 have hml:maxLen=9223372036854775807:=rfl
 have s1:=c86 n1 m1 (by omega)
 have s2:=c86 n2 m2 (by omega)
 have s3:=c86 n3 m3 (by omega)
 have cg:=c88x n1 n2 n3 n4 m1 m2 m3 m4 h1 h2 h3 h4
 obtain⟨d1,d2,d3,d4⟩:=j4 (iv n1 m1) (iv n2 m2) (iv n3 m3) (iv n4 m4)
 have hG:0<g4 (iv n1 m1) (iv n2 m2) (iv n3 m3) (iv n4 m4):=by
  apply Nat.pos_of_ne_zero
  intro h0
  rw[h0]at d1 d2 d3
  exact hz ⟨by simpa using d1,by simpa using d2,by simpa using d3⟩
 have hGs:(nb (g4 (iv n1 m1) (iv n2 m2) (iv n3 m3) (iv n4 m4))).size≤268435456:=by
  unfold g4
  simp only[sJ]
  exact nW (nW (nW (Nat.le_trans (dF _) h1) (Nat.le_trans (dF _) h2)) (Nat.le_trans (dF _) h3)) (Nat.le_trans (dF _) h4)
 have e:∀ (n:Bool) (m:ByteArray),(g4 (iv n1 m1) (iv n2 m2) (iv n3 m3) (iv n4 m4):Int)∣iv n m→g4 (iv n1 m1) (iv n2 m2) (iv n3 m3) (iv n4 m4)∣nv m:=fun n m h=>by
  rw[← sJ n m];exact Int.ofNat_dvd_left.1 h
 unfold jM
 have p1:=c109 n1 m1 _ hG (e n1 m1 d1) h1 hGs
 have p2:=c109 n2 m2 _ hG (e n2 m2 d2) h2 hGs
 have p3:=c109 n3 m3 _ hG (e n3 m3 d3) h3 hGs
 have p4:=c109 n4 m4 _ hG (e n4 m4 d4) h4 hGs
 clear e d1 d2 d3 d4 hG hGs
 generalize g4 (iv n1 m1) (iv n2 m2) (iv n3 m3) (iv n4 m4)=G at *
 by_cases q1:sg (iv n1 m1)=0
 ·by_cases q2:sg (iv n2 m2)=0
  ·have q3:sg (iv n3 m3)≠0:=fun q3=>hz ⟨fX.1 q1,fX.1 q2,fX.1 q3⟩
   have k1:=eq_true q1
   have k2:=eq_true q2
   have k3:=eq_false q3
   clear hz
   repeat'(first|refine zk ?_|(refine zu ?_ ?_<;>intro hc)|(first|refine zf s1 ?_|refine zf s2 ?_|refine zf s3 ?_)|(refine iD _ j0 cg rfl rfl (by simp -dsimp (disch:=try exact zo)only[go_sem]) (.agg _ (by intro c hc;simp only[zM,or_false]at hc;rcases hc with rfl|rfl<;>exact .lit _)) ?_)|(first|refine zf p1 ?_|refine zf p2 ?_|refine zf p3 ?_|refine zf p4 ?_)|(refine zv ?_ ?_<;>intro hg)|omega|simp -dsimp (disch:=try exact zo)only[go_sem,k1,k2,k3]|contradiction|rfl)
  ·have k1:=eq_true q1
   have k2:=eq_false q2
   have k3:True:=trivial
   clear hz
   repeat'(first|refine zk ?_|(refine zu ?_ ?_<;>intro hc)|(first|refine zf s1 ?_|refine zf s2 ?_|refine zf s3 ?_)|(refine iD _ j0 cg rfl rfl (by simp -dsimp (disch:=try exact zo)only[go_sem]) (.agg _ (by intro c hc;simp only[zM,or_false]at hc;rcases hc with rfl|rfl<;>exact .lit _)) ?_)|(first|refine zf p1 ?_|refine zf p2 ?_|refine zf p3 ?_|refine zf p4 ?_)|(refine zv ?_ ?_<;>intro hg)|omega|simp -dsimp (disch:=try exact zo)only[go_sem,k1,k2,k3]|contradiction|rfl)
 ·have k1:=eq_false q1
  have k2:True:=trivial
  have k3:True:=trivial
  clear hz
  repeat'(first|refine zk ?_|(refine zu ?_ ?_<;>intro hc)|(first|refine zf s1 ?_|refine zf s2 ?_|refine zf s3 ?_)|(refine iD _ j0 cg rfl rfl (by simp -dsimp (disch:=try exact zo)only[go_sem]) (.agg _ (by intro c hc;simp only[zM,or_false]at hc;rcases hc with rfl|rfl<;>exact .lit _)) ?_)|(first|refine zf p1 ?_|refine zf p2 ?_|refine zf p3 ?_|refine zf p4 ?_)|(refine zv ?_ ?_<;>intro hg)|omega|simp -dsimp (disch:=try exact zo)only[go_sem,k1,k2,k3]|contradiction|rfl)
end Go.Proofs.Vx
namespace Go.Proofs.Vx
open Go Go.Sx Go.Proofs Tryz
attribute [local irreducible] fnT CallOK CallFr AW aJ callV aL aI aH aM gcaseP hid
structure RP where
 n1:Bool
 m1:ByteArray
 n2:Bool
 m2:ByteArray
 n3:Bool
 m3:ByteArray
 n4:Bool
 m4:ByteArray
abbrev eRP (r:RP):List AV:=[.lit (.bool r.n1),.lit (.string r.m1),.lit (.bool r.n2),.lit (.string r.m2),.lit (.bool r.n3),.lit (.string r.m3),.lit (.bool r.n4),.lit (.string r.m4)]
def gZ (r:RP):Prop:=iv r.n1 r.m1=0∧iv r.n2 r.m2=0∧iv r.n3 r.m3=0
instance (r:RP):Decidable (gZ r):=by unfold gZ;infer_instance
def b0d (r:RP):Prop:=6<r.m1.size∨6<r.m2.size∨6<r.m3.size∨6<r.m4.size∨gZ r
instance (r:RP):Decidable (b0d r):=by unfold b0d;infer_instance
def bR (r:RP):Pl:=jM (iv r.n1 r.m1) (iv r.n2 r.m2) (iv r.n3 r.m3) (iv r.n4 r.m4)
theorem xX (r:RP) (h1:r.m1.size≤268435456) (h2:r.m2.size≤268435456) (h3:r.m3.size≤268435456) (h4:r.m4.size≤268435456) (hz:¬ gZ r):CallOK prog 44 [.agg (eRP r)] [] (.tup [.agg (eH (bR r)),.lit (.bool true)]) []:=c44a _ _ _ _ _ _ _ _ h1 h2 h3 h4 hz
theorem a1z (r:RP) (h1:r.m1.size≤268435456) (h2:r.m2.size≤268435456) (h3:r.m3.size≤268435456) (h4:r.m4.size≤268435456) (hz:gZ r):CallOK prog 44 [.agg (eRP r)] [] (.tup [.agg [.lit (.bool false),.lit (.string ⟨#[]⟩),.lit (.bool false),.lit (.string ⟨#[]⟩),.lit (.bool false),.lit (.string ⟨#[]⟩),.lit (.bool false),.lit (.string ⟨#[]⟩)],.lit (.bool false)]) []:=c44b _ _ _ _ _ _ _ _ h1 h2 h3 h4 hz
end Go.Proofs.Vx
namespace Go.Proofs.Vx
open Go Go.Sx Go.Proofs Tryz
attribute [local irreducible] fnT CallOK CallFr AW aJ callV aL aI aH aM gcaseP hid
abbrev eRPs (l:List RP):List (List AV):=l.map eRP
theorem a8b {K:Nat→Prop} (l:List RP):(∀ e∈eRPs l,∀ c∈e,In K c)=True:=eq_true fun e he c hc=>by
 obtain⟨r,_,rfl⟩:=List.mem_map.1 he
 simp only[eRP,List.mem_cons,List.not_mem_nil,or_false]at hc
 rcases hc with rfl|rfl|rfl|rfl|rfl|rfl|rfl|rfl<;>exact .lit _
theorem c9j {K:Nat→Prop} (l:List Pl):(∀ e∈l.map eH,∀ c∈e,In K c)=True:=eq_true fun e he c hc=>by
 obtain⟨r,_,rfl⟩:=List.mem_map.1 he
 simp only[eH,e4,List.mem_cons,List.not_mem_nil,or_false]at hc
 rcases hc with rfl|rfl|rfl|rfl|rfl|rfl|rfl|rfl<;>exact .lit _
attribute [go_sem] a8b c9j
end Go.Proofs.Vx
namespace Go.Sx
set_option linter.unusedVariables false
theorem d0d {a b:Rat} (h:Qd a=Qd b):a.den=b.den:=by
 unfold Qd at h
 have ha:=a.den_nz
 have hb:=b.den_nz
 split at h<;>split at h
 ·omega
 ·exact absurd ((fT _).1 h.symm) hb
 ·exact absurd ((fT _).1 h) ha
 ·exact qH h
theorem eq3 (a b:Rat):i9 [.lit (.bool (Zn a.num)),.lit (.string (Zm a.num)),.lit (.string (Qd a))] [.lit (.bool (Zn b.num)),.lit (.string (Zm b.num)),.lit (.string (Qd b))]=decide (a=b):=by
 by_cases h:a=b
 ·subst h
  simp[i9,ceq]
 ·have:¬ (Zn a.num=Zn b.num∧Zm a.num=Zm b.num∧Qd a=Qd b):=fun h'=>h (Rat.ext (qL h'.1 h'.2.1) (d0d h'.2.2))
  rw[decide_eq_false h]
  simp only[i9,ceq,Bool.and_true]
  apply Bool.eq_false_iff.2
  intro hh
  simp only[Bool.and_eq_true,beq_iff_eq,decide_eq_true_eq]at hh
  exact this ⟨hh.1,hh.2.1,hh.2.2⟩
attribute [go_sem ↓] eq3
end Go.Sx
namespace Go.Proofs.Vx
open Go Go.Sx Go.Proofs Tryz
attribute [local irreducible] fnT CallOK CallFr AW aJ callV aL aI aH aM gcaseP hid
theorem fG {K:Nat→Prop} (l:aD):In K (.agg [.sl (eS l)]):=.agg _ (by
 intro c hc
 simp only[zM,or_false]at hc
 subst hc
 exact .sl _ (of_eq_true (lL l)))
theorem inPair {K:Nat→Prop} (l m:aD):In K (.tup [.agg [.sl (eS l)],.agg [.sl (eS m)]]):=.tup _ (by
 intro c hc
 simp only[zM,or_false]at hc
 rcases hc with rfl|rfl<;>exact fG _)
end Go.Proofs.Vx
namespace Go.Proofs.Vx
open Go Go.Sx Go.Proofs Tryz
attribute [local irreducible] fnT CallOK CallFr AW aJ callV aL aI aH aM gcaseP hid
theorem b7n:arT prog 27=some (1,8,true)∧arT prog 38=none∧slT prog 27=none∧slT prog 38=some (33,1)∧bI prog 27=false∧bI prog 38=false:=by and_intros<;>kernel_rfl
attribute [go_sem] b7n
end Go.Proofs.Vx
namespace Go.Proofs.Vx
open Go Go.Sx Go.Proofs Tryz
attribute [local irreducible] fnT CallOK CallFr AW aJ callV aL aI aH aM gcaseP hid
theorem b7m:boT prog 26=false∧Tryz.prog.eqGuardType Tryz.prog.depth 26=false∧lfT prog 30 26=some [.b,.s,.b,.s,.b,.s,.b,.s]:=by and_intros<;>kernel_rfl
attribute [go_sem] b7m
structure CanH (p:Pl):Prop where
 nrm:jM p.a p.b p.c p.d=p
 ne:¬ (p.a=0∧p.b=0∧p.c=0)
end Go.Proofs.Vx
namespace Go.Sx
open Geo (H V Sd)
set_option linter.unusedVariables false
def Rot {α:Type} (a b:List α):Prop:=∃ A B,a=A++B∧b=B++A
theorem Rot.refl {α:Type} (a:List α):Rot a a:=⟨a,[],by simp,by simp⟩
theorem Rot.perm {α:Type} {a b:List α} (h:Rot a b):a.Perm b:=by obtain⟨A,B,rfl,rfl⟩:=h;exact List.perm_append_comm
theorem Rot.edges {α:Type} {a b:List α} (h:Rot a b):(Geo.edges a).Perm (Geo.edges b):=by obtain⟨A,B,rfl,rfl⟩:=h;exact Geo.sL A B
theorem Rot.flat {α β:Type} {a b:List α} (f:α × α→List β) (h:Rot a b):Rot ((Geo.edges a).flatMap f) ((Geo.edges b).flatMap f):=by
 obtain⟨A,B,rfl,rfl⟩:=h
 cases A with
 | nil=>rw[List.nil_append,List.append_nil];exact Rot.refl _
 | cons x A=>cases B with
  | nil=>rw[List.nil_append,List.append_nil];exact Rot.refl _
  | cons y B =>
   refine⟨(Geo.aN (x::A++[y])).flatMap f,(Geo.aN (y::B++[x])).flatMap f,?_,?_⟩
   ·rw[Geo.mG,List.flatMap_append]
   ·rw[Geo.mG,List.flatMap_append]
theorem Rot.any {α:Type} {a b:List α} (f:α→Bool) (h:Rot a b):a.any f=b.any f:=by
 obtain⟨A,B,rfl,rfl⟩:=h
 rw[List.any_append,List.any_append,Bool.or_comm]
def SR (s t:Pl × List Pt):Prop:=s.1=t.1∧Rot s.2 t.2
inductive RL:aD→aD→Prop
 | nil:RL [] []
 | cons {s t:Pl × List Pt} {l m:aD} (h:SR s t) (r:RL l m):RL (s::l) (t::m)
def RC (l m:aD):Prop:=∃ k,l.Perm k∧RL k m
theorem RL.append {l m l' m':aD} (h:RL l m) (k:RL l' m'):RL (l++l') (m++m'):=by
 induction h with
 | nil=>exact k
 | cons h _ ih=>exact .cons h ih
theorem RC.append {l m l' m':aD} (h:RC l m) (k:RC l' m'):RC (l++l') (m++m'):=by
 obtain⟨a,h1,h2⟩:=h
 obtain⟨b,k1,k2⟩:=k
 exact⟨a++b,h1.append k1,h2.append k2⟩
theorem RL.length {l m:aD} (h:RL l m):l.length=m.length:=by
 induction h with
 | nil=>rfl
 | cons _ _ ih=>simp[ih]
theorem RC.length {l m:aD} (h:RC l m):l.length=m.length:=by obtain⟨k,h1,h2⟩:=h;rw[h1.length_eq,h2.length]
theorem RC.nil_iff {l m:aD} (h:RC l m):l=[]↔m=[]:=by rw[← List.length_eq_zero_iff,← List.length_eq_zero_iff,h.length]
theorem RL.mem {l m:aD} (h:RL l m):(∀ s∈l,∃ t∈m,SR s t)∧∀ t∈m,∃ s∈l,SR s t:=by
 induction h with
 | nil=>exact⟨by simp,by simp⟩
 | cons h _ ih =>
  refine⟨fun s hs=>?_,fun t ht=>?_⟩
  ·rcases List.mem_cons.1 hs with rfl|hs
   ·exact⟨_,by simp,h⟩
   ·obtain⟨t,ht,k⟩:=ih.1 s hs;exact⟨t,by simp[ht],k⟩
  ·rcases List.mem_cons.1 ht with rfl|ht
   ·exact⟨_,by simp,h⟩
   ·obtain⟨s,hs,k⟩:=ih.2 t ht;exact⟨s,by simp[hs],k⟩
theorem RC.mem {l m:aD} (h:RC l m):(∀ s∈l,∃ t∈m,SR s t)∧∀ t∈m,∃ s∈l,SR s t:=by
 obtain⟨k,h1,h2⟩:=h
 refine⟨fun s hs=>h2.mem.1 s (h1.mem_iff.1 hs),fun t ht=>?_⟩
 obtain⟨s,hs,k⟩:=h2.mem.2 t ht
 exact⟨s,h1.mem_iff.2 hs,k⟩
theorem RC.any {l m:aD} (f:Pl × List Pt→Bool) (hf:∀ s t,SR s t→f s=f t) (h:RC l m):l.any f=m.any f:=by
 apply Bool.eq_iff_iff.2
 simp only[List.any_eq_true]
 constructor
 ·rintro⟨s,hs,e⟩;obtain⟨t,ht,k⟩:=h.mem.1 s hs;exact⟨t,ht,by rw[← hf s t k];exact e⟩
 ·rintro⟨t,ht,e⟩;obtain⟨s,hs,k⟩:=h.mem.2 t ht;exact⟨s,hs,by rw[hf s t k];exact e⟩
theorem RC.front {l m:aD} (h:RC l m) (b:Pl):aX b l=aX b m:=h.any _ fun s t k=>k.2.any _
theorem RC.behind {l m:aD} (h:RC l m) (b:Pl):aY b l=aY b m:=h.any _ fun s t k=>k.2.any _
theorem RC.bd {l m:aD} (h:RC l m) {S M K:Nat} (hb:Bd S M K m):Bd S M K l:=by
 refine⟨by rw[h.length];exact hb.n,fun s hs=>?_,fun s hs v hv=>?_,fun s hs=>?_⟩<;>obtain⟨t,ht,k⟩:=h.mem.1 s hs
 ·rw[k.2.perm.length_eq];exact hb.m t ht
 ·exact hb.k t ht v (k.2.perm.mem_iff.1 hv)
 ·rw[k.1];exact hb.p t ht
theorem RL.filterMap {l m:aD} (f:Pl × List Pt→Option (Pl × List Pt)) (hf:∀ s t,SR s t→(f s=none∧f t=none)∨∃ s' t',f s=some s'∧f t=some t'∧SR s' t') (h:RL l m):RL (l.filterMap f) (m.filterMap f):=by
 induction h with
 | nil=>exact .nil
 | cons h _ ih =>
  rcases hf _ _ h with⟨h1,h2⟩|⟨s',t',h1,h2,h3⟩
  ·rw[List.filterMap_cons_none h1,List.filterMap_cons_none h2];exact ih
  ·rw[List.filterMap_cons_some h1,List.filterMap_cons_some h2];exact .cons h3 ih
theorem RC.filterMap {l m:aD} (f:Pl × List Pt→Option (Pl × List Pt)) (hf:∀ s t,SR s t→(f s=none∧f t=none)∨∃ s' t',f s=some s'∧f t=some t'∧SR s' t') (h:RC l m):RC (l.filterMap f) (m.filterMap f):=by
 obtain⟨k,h1,h2⟩:=h
 exact⟨k.filterMap f,h1.filterMap f,h2.filterMap f hf⟩
theorem RC.es {l m:aD} (h:RC l m):(esP l).Perm (esP m):=by
 obtain⟨k,h1,h2⟩:=h
 refine (h1.flatMap_right _).trans ?_
 clear h1
 induction h2 with
 | nil=>exact List.Perm.refl _
 | cons h _ ih=>exact (h.2.edges).append ih
theorem RC.bhs {l m:aD} (h:RC l m) (b:Pl):RC (bh b l) (bh b m):=by
 refine h.filterMap _ fun s t k=>?_
 have e:bE (-1) b s.2 s.2.length=bE (-1) b t.2 t.2.length:=by unfold bE;rw[List.take_length,List.take_length];exact k.2.any _
 by_cases q:bE (-1) b t.2 t.2.length=true
 ·exact .inr ⟨_,_,if_pos (e.trans q),if_pos q,k.1,k.2.flat _⟩
 ·exact .inl ⟨if_neg (by rw[e];exact q),if_neg q⟩
theorem a4g (nx:Pt→Pt) (i j:Nat) (x:Pt):aW nx (i+j) x=aW nx i x++aW nx j (itP nx i x):=by
 induction i generalizing x with
 | zero=>rw[Nat.zero_add];rfl
 | succ i ih=>rw[Nat.succ_add,aW,ih (nx x)];rfl
theorem b2i {S:List Pt} {nx ny:Pt→Pt} (h:∀ x∈S,nx x=ny x∧nx x∈S) (n:Nat) {x:Pt} (hx:x∈S):aW nx n x=aW ny n x:=by
 induction n generalizing x with
 | zero=>rfl
 | succ n ih=>rw[aW,aW,← (h x hx).1,ih (h x hx).2]
theorem a7t {S:List Pt} {nx:Pt→Pt} (h:∀ x∈S,nx x∈S) (n:Nat) {x:Pt} (hx:x∈S):itP nx n x∈S:=by
 induction n with
 | zero=>exact hx
 | succ n ih=>rw[sZ];exact h _ ih
theorem CapF.cl {b:Pl} {l:aD} (C:CapF b l):∀ x∈(heP b l).map (·.2),nxP ((heP b l).map Geo.sw) x∈(heP b l).map (·.2):=by
 intro x hx
 obtain⟨e,he,rfl⟩:=List.mem_map.1 hx
 rw[C.nx e he];exact C.io e he
theorem c3r {S:List Pt} {nx:Pt→Pt} (h:∀ x∈S,nx x∈S) (n:Nat) {x:Pt} (hx:x∈S):∀ v∈aW nx n x,v∈S:=by
 induction n generalizing x with
 | zero=>intro v hv;simp[aW]at hv
 | succ n ih =>
  intro v hv
  rw[aW]at hv
  rcases List.mem_cons.1 hv with rfl|hv
  ·exact hx
  ·exact ih (h x hx) v hv
theorem CapF.rot {b : Pl} {l : aD} (h : CellOK l) (C : CapF b l) {f f' : Pt} (hf : f ∈ (heP b l).map (·.2)) (hf' : f' ∈ (heP b l).map (·.2)) :
  Rot (aW (nxP ((heP b l).map Geo.sw)) (heP b l).length f) (aW (nxP ((heP b l).map Geo.sw)) (heP b l).length f'):=by
 have hcan:∀ x∈(heP b l).map (·.2),CanP x:=fun x hx=>by
  obtain⟨e,he,rfl⟩:=List.mem_map.1 hx
  exact (es_w (qR h.toCanC) e (List.mem_filter.1 he).1).2
 have hcan1:∀ e∈heP b l,CanP e.1:=fun e he=>(es_w (qR h.toCanC) e (List.mem_filter.1 he).1).1
 obtain⟨K,hK⟩:=C.run f hf
 have hcl:=C.cl
 have hnx:=C.nx
 have hn:0<(heP b l).length:=List.length_pos_iff.2 C.ne
 have hrl:=oZ (nxP ((heP b l).map Geo.sw)) (heP b l).length f
 have hrm:=c3r hcl (heP b l).length hf
 have hed:=K.ed
 rw[C.hHE]at hed
 generalize hnxq:nxP ((heP b l).map Geo.sw)=nx at *
 generalize hnq:(heP b l).length=n at *
 have hret:itP nx n f=f:=by
  obtain⟨k,rfl⟩:∃ k,n=k+1:=⟨n - 1,by omega⟩
  have hz:=a7t hcl k hf
  rw[sZ]
  have hmem:(tv (itP nx k f),tv f)∈Geo.edges ((aW nx (k+1) f).map tv):=by
   rw[u6]
   cases k with
   | zero=>simp[aW,itP,Geo.edges,Geo.aN]
   | succ k =>
    rw[aW,List.map_append,List.map_cons]
    rw[show ([itP nx (k+1) f].map tv)=tv (itP nx (k+1) f)::[]from rfl,Geo.mG]
    simp[Geo.aN]
  obtain⟨e2,h2,h3⟩:=List.mem_map.1 (hed.mem_iff.1 hmem)
  obtain⟨e,he,rfl⟩:=List.mem_map.1 h2
  have q1:tv e.2=tv (itP nx k f):=congrArg Prod.fst h3
  have q2:tv e.1=tv f:=congrArg Prod.snd h3
  have r1:e.2=itP nx k f:=lI (hcan _ (List.mem_map_of_mem he)) (hcan _ hz) q1
  have r2:e.1=f:=lI (hcan1 e he) (hcan f hf) q2
  rw[← r1,hnx e he,r2]
 have hmet:f'∈aW nx n f:=by
  have h1:(Geo.edges ((aW nx n f).map tv)).map (·.1)=(aW nx n f).map tv:=Geo.jC _
  have h2:tv f'∈(aW nx n f).map tv:=by
   rw[← h1]
   obtain⟨e,he,rfl⟩:=List.mem_map.1 hf'
   exact List.mem_map.2 ⟨Geo.sw (tv2 e),hed.mem_iff.2 (List.mem_map_of_mem (List.mem_map_of_mem he)),rfl⟩
  obtain⟨y,hy,e⟩:=List.mem_map.1 h2
  rw[← lI (hcan y (hrm y hy)) (hcan f' hf') e];exact hy
 have hat:∀ (n:Nat) (x y:Pt),y∈aW nx n x→∃ i,i<n∧y=itP nx i x:=by
  intro n
  induction n with
  | zero=>intro x y hy;simp[aW]at hy
  | succ n ih =>
   intro x y hy
   rw[aW]at hy
   rcases List.mem_cons.1 hy with rfl|hy
   ·exact⟨0,by omega,rfl⟩
   ·obtain⟨i,hi,e⟩:=ih _ _ hy
    exact⟨i+1,by omega,e⟩
 obtain⟨i,hi,e⟩:=hat n f f' hmet
 have hadd:∀ (i j:Nat) (x:Pt),itP nx (i+j) x=itP nx j (itP nx i x):=by
  intro i
  induction i with
  | zero=>intro j x;rw[Nat.zero_add];rfl
  | succ i ih=>intro j x;rw[Nat.succ_add];exact ih j (nx x)
 refine⟨aW nx i f,aW nx (n - i) f',?_,?_⟩
 ·rw[e,← a4g,show i+(n - i)=n by omega]
 ·have:itP nx (n - i) f'=f:=by rw[e,← hadd,show i+(n - i)=n by omega,hret]
  conv=>rhs;rhs;rw[← this]
  rw[← a4g,show n - i+i=n by omega]
def nI (b:Pl) (l:aD):List Pt:=aW (nxP (((esP l).filter (onE b)).map Geo.sw)) ((esP l).filter (onE b)).length ((((esP l).filter (onE b)).map (·.2)).headD P0)
def jI (b:Pl) (l:aD):aD:=bh b l++[(b,nI b (bh b l))]
def bY (b:Pl) (l:aD):aD × aD:=if aX b l=false then (l,[])else if aY b l=false then ([],l)else (jI b l,jI (aT b) l)
def bX:aD:=[
 (⟨1,0,0,1000⟩,[wpt 1 (-1) (-1),wpt 1 1 (-1),wpt 1 1 1,wpt 1 (-1) 1]),
 (⟨-1,0,0,1000⟩,[wpt (-1) (-1) (-1),wpt (-1) (-1) 1,wpt (-1) 1 1,wpt (-1) 1 (-1)]),
 (⟨0,1,0,1000⟩,[wpt (-1) 1 (-1),wpt (-1) 1 1,wpt 1 1 1,wpt 1 1 (-1)]),
 (⟨0,-1,0,1000⟩,[wpt (-1) (-1) (-1),wpt 1 (-1) (-1),wpt 1 (-1) 1,wpt (-1) (-1) 1]),
 (⟨0,0,1,1000⟩,[wpt (-1) (-1) 1,wpt 1 (-1) 1,wpt 1 1 1,wpt (-1) 1 1]),
 (⟨0,0,-1,1000⟩,[wpt (-1) (-1) (-1),wpt (-1) 1 (-1),wpt 1 1 (-1),wpt 1 (-1) (-1)])]
theorem heR {b:Pl} {l:aD}:(esP (bh b l)).filter (onE b)=heP b l:=rfl
theorem a4v {α:Type} {d:α} {l:List α} (h:l≠[]):l.headD d∈l:=by
 cases l with
 | nil=>exact absurd rfl h
 | cons x l=>simp
theorem a8e {b:Pl} {l:aD} (C:CapF b l):∃ f∈(heP b l).map (·.2),nI b (bh b l)=aW (nxP ((heP b l).map Geo.sw)) (heP b l).length f :=
 ⟨((heP b l).map (·.2)).headD P0,a4v (by simpa using C.ne),by unfold nI;rw[heR]⟩
theorem a5a {b:Pl} {l:aD} (h:CellOK l) (hS:Geo.Spl (sds l) (tH b)):CellOK (jI b l):=by
 have C:=tI h hS
 obtain⟨f,hf,e⟩:=a8e C
 obtain⟨K,hc⟩:=C.run f hf
 rw[← e]at K hc
 refine⟨⟨fun s hs=>?_⟩,?_⟩
 ·rcases List.mem_append.1 hs with hs|hs
  ·exact (qR h.toCanC).can s hs
  ·obtain rfl:s=_:=by simpa using hs
   exact hc
 ·have e2:sds (jI b l)=Geo.aS (tH b) (sds l)++[⟨tH b,(nI b (bh b l)).map tv⟩]:=by
   show (bh b l++[(b,nI b (bh b l))]).map sd=_
   rw[List.map_append]
   show sds (bh b l)++_=_
   rw[xL h.toCanC]
   rfl
  rw[e2]
  exact hS.cell K
theorem a6v {b:Pl} {l:aD} (h:CellOK l):((bY b l).1=[]∨CellOK (bY b l).1)∧((bY b l).2=[]∨CellOK (bY b l).2):=by
 unfold bY
 by_cases hf:aX b l=false
 ·rw[if_pos hf];exact⟨.inr h,.inl rfl⟩
 ·rw[if_neg hf]
  by_cases hb:aY b l=false
  ·rw[if_pos hb];exact⟨.inl rfl,.inr h⟩
  ·rw[if_neg hb]
   have hf':aX b l=true:=by simpa using hf
   have hb':aY b l=true:=by simpa using hb
   exact⟨.inr (a5a h (fY h hf' hb')),.inr (a5a h (fY h (by rw[kQ];exact hb') (by rw[mI];exact hf')))⟩
theorem c4e {m m':List (Pt × Pt)} (h:m.Perm m') (hn:(m.map (·.1)).Nodup) {k:Pt} (hk:k∈m.map (·.1)):nxP m k=nxP m' k:=by
 obtain⟨e,he,rfl⟩:=List.mem_map.1 hk
 rw[zQ hn he,zQ ((h.map (·.1)).nodup_iff.1 hn) (h.mem_iff.1 he)]
theorem RC.cell {l m:aD} (h:RC l m) (hl:CellOK l) (hm:CellOK m) {b:Pl} (h1:Geo.Spl (sds l) (tH b)) (h2:Geo.Spl (sds m) (tH b)):RC (jI b l) (g9 b m):=by
 have C:=tI hl h1
 have D:=tI hm h2
 have hb:=h.bhs b
 have hp:(heP b l).Perm (heP b m):=hb.es.filter _
 obtain⟨f,hf,e⟩:=a8e C
 obtain⟨f',hf',e'⟩:=D.ex
 have hn:(((heP b l).map Geo.sw).map (·.1)).Nodup:=by rw[List.map_map];exact C.nd
 have hk:∀ x∈(heP b l).map (·.2),nxP ((heP b l).map Geo.sw) x=nxP ((heP b m).map Geo.sw) x:=fun x hx=>c4e (hp.map _) hn (by rw[List.map_map];exact hx)
 have hf2:f'∈(heP b l).map (·.2):=(hp.map _).mem_iff.2 hf'
 refine hb.append ⟨[(b,nI b (bh b l))],List.Perm.refl _,.cons ⟨rfl,?_⟩ .nil⟩
 show Rot (nI b (bh b l)) (b7 b (bh b m))
 rw[e,e',← hp.length_eq,← b2i (S:=(heP b l).map (·.2)) (fun x hx=>⟨hk x hx,C.cl x hx⟩) _ hf2]
 exact C.rot hl hf hf2
theorem a9d:RC [] []:=⟨[],List.Perm.refl _,.nil⟩
theorem RC.spl {l m:aD} (h:RC l m) (hl:CellOK l) (hm:CellOK m) (b:Pl):RC (bY b l).1 (aO b m).1∧RC (bY b l).2 (aO b m).2:=by
 unfold bY aO
 rw[h.front,h.behind]
 by_cases hf:aX b m=false
 ·rw[if_pos hf,if_pos hf];exact⟨h,a9d⟩
 ·rw[if_neg hf,if_neg hf]
  by_cases hb:aY b m=false
  ·rw[if_pos hb,if_pos hb];exact⟨a9d,h⟩
  ·rw[if_neg hb,if_neg hb]
   have hf':aX b m=true:=by simpa using hf
   have hb':aY b m=true:=by simpa using hb
   exact⟨h.cell hl hm (fY hl (by rw[h.front];exact hf') (by rw[h.behind];exact hb')) (fY hm hf' hb'),
    h.cell hl hm (fY hl (by rw[kQ,h.behind];exact hb') (by rw[mI,h.front];exact hf')) (fY hm (by rw[kQ];exact hb') (by rw[mI];exact hf'))⟩
theorem a5i {α:Type} (x:α) (l:List α):Rot (x::l) (l++[x]):=⟨[x],l,rfl,rfl⟩
theorem vZ:RC bX aK:=by
 refine⟨[(⟨-1,0,0,1000⟩,[wpt (-1) (-1) (-1),wpt (-1) (-1) 1,wpt (-1) 1 1,wpt (-1) 1 (-1)]),(⟨1,0,0,1000⟩,[wpt 1 (-1) (-1),wpt 1 1 (-1),wpt 1 1 1,wpt 1 (-1) 1]),
  (⟨0,-1,0,1000⟩,[wpt (-1) (-1) (-1),wpt 1 (-1) (-1),wpt 1 (-1) 1,wpt (-1) (-1) 1]),(⟨0,1,0,1000⟩,[wpt (-1) 1 (-1),wpt (-1) 1 1,wpt 1 1 1,wpt 1 1 (-1)]),
  (⟨0,0,-1,1000⟩,[wpt (-1) (-1) (-1),wpt (-1) 1 (-1),wpt 1 1 (-1),wpt 1 (-1) (-1)]),(⟨0,0,1,1000⟩,[wpt (-1) (-1) 1,wpt 1 (-1) 1,wpt 1 1 1,wpt (-1) 1 1])],?_,?_⟩
 ·exact (List.Perm.swap _ _ _).trans (((List.Perm.swap _ _ _).trans ((List.Perm.swap _ _ _).cons _ |>.cons _)).cons _ |>.cons _)
 ·refine .cons ⟨rfl,a5i _ _⟩ (.cons ⟨rfl,Rot.refl _⟩ (.cons ⟨rfl,?_⟩ (.cons ⟨rfl,Rot.refl _⟩ (.cons ⟨rfl,a5i _ _⟩ (.cons ⟨rfl,Rot.refl _⟩ .nil)))))
  exact⟨[wpt (-1) (-1) (-1)],[wpt 1 (-1) (-1),wpt 1 (-1) 1,wpt (-1) (-1) 1],rfl,rfl⟩
theorem uV:CellOK bX:=by
 refine⟨⟨fun s hs v hv=>?_⟩,a6k (by decide +kernel)⟩
 have:bX.all (fun s=>s.2.all canB)=true:=by decide +kernel
 exact eD (List.all_eq_true.1 (List.all_eq_true.1 this s hs) v hv)
end Go.Sx
namespace Go.Sx
open Geo (H V Sd)
set_option linter.unusedVariables false
theorem pX {h g : H} {vs : List V} (pv : Geo.PV h.n vs) (pl : ∀ v ∈ vs, h.at v = 0) (hN : 0 < Geo.dot (Geo.aA h.n g.n) (Geo.aA h.n g.n)) {x y z : V} (hx : x ∈ vs) (hy : y ∈ vs) (hz : z ∈ vs)
  (gx:g.at x=0) (gy:g.at y=0) (gz:g.at z=0) (h1:Geo.dot y (Geo.aA h.n g.n)<Geo.dot x (Geo.aA h.n g.n)) (h2:Geo.dot x (Geo.aA h.n g.n)<Geo.dot z (Geo.aA h.n g.n)):False:=by
 obtain⟨t,t0,t1,e⟩:=Geo.a8k hN (pl y hy) (pl z hz) gy gz (pl x hx) gx h1 h2
 have:=(pv.extreme pl hx t0 t1 e (pl y hy) (pl z hz) (fun e he=>pv.weak he hy) (fun e he=>pv.weak he hz)).1
 rw[this]at h1
 grind
theorem b4r {h g : H} {vs : List V} (pv : Geo.PV h.n vs) (pl : ∀ v ∈ vs, h.at v = 0) (hN : 0 < Geo.dot (Geo.aA h.n g.n) (Geo.aA h.n g.n)) {x y z : V} (hx : x ∈ vs) (hy : y ∈ vs) (hz : z ∈ vs)
  (gx:g.at x=0) (gy:g.at y=0) (gz:g.at z=0) (n1:x≠y) (n2:x≠z) (n3:y≠z):False:=by
 have k:∀ {p q:V},p∈vs→q∈vs→g.at p=0→g.at q=0→p≠q→Geo.dot p (Geo.aA h.n g.n)<Geo.dot q (Geo.aA h.n g.n)∨Geo.dot q (Geo.aA h.n g.n)<Geo.dot p (Geo.aA h.n g.n):=by
  intro p q hp hq gp gq n
  by_cases e:Geo.dot p (Geo.aA h.n g.n)=Geo.dot q (Geo.aA h.n g.n)
  ·exact absurd (Geo.wV hN (pl p hp) (pl q hq) gp gq e) n
  ·generalize Geo.dot p (Geo.aA h.n g.n)=a at *
   generalize Geo.dot q (Geo.aA h.n g.n)=b at *
   grind
 rcases k hx hy gx gy n1 with a|a<;>rcases k hx hz gx gz n2 with b|b<;>rcases k hy hz gy gz n3 with c|c
 ·exact pX pv pl hN hy hx hz gy gx gz a c
 ·exact pX pv pl hN hz hx hy gz gx gy b c
 ·exfalso;grind
 ·exact pX pv pl hN hx hz hy gx gz gy b a
 ·exact pX pv pl hN hx hy hz gx gy gz a b
 ·exfalso;grind
 ·exact pX pv pl hN hz hy hx gz gy gx c b
 ·exact pX pv pl hN hy hz hx gy gz gx c a
theorem c4a {b:Pl} {es:List (Pt × Pt)} (h:∀ e∈es,0≤aB b e.1∧0≤aB b e.2):(es.flatMap fun e=>pc (-1) b e.1 e.2)=(es.map (·.1)).filter fun v=>decide (aB b v≠1):=by
 induction es with
 | nil=>rfl
 | cons e es ih =>
  have he:=h e (by simp)
  rw[List.flatMap_cons,ih fun x hx=>h x (by simp[hx]),List.map_cons,List.filter_cons]
  have h2:¬ aB b e.1*aB b e.2<0:=by have:=Int.mul_nonneg he.1 he.2;omega
  unfold pc
  rw[if_neg h2,List.append_nil]
  by_cases q:aB b e.1=1
  ·simp[q]
  ·simp[q]
theorem len3 {b:Pl} {l:aD} (h:CellOK l) (hS:Geo.Spl (sds l) (tH b)) {s:Pl × List Pt} (hs:s∈l):bE (-1) b s.2 s.2.length=decide (3≤(bB (-1) b s.2).length):=by
 have hw:=h.w hs
 have hm:sd s∈sds l:=List.mem_map_of_mem hs
 have pv:=h.cell.pv _ hm
 have pl:=h.cell.pl _ hm
 rw[a5g hw]
 by_cases q:Geo.iC (tH b) (s.2.map tv)=true
 ·rw[q]
  have:=(Geo.a0d (g:=tH b) pv pl (Geo.kU.1 q)).pv.len
  have e:(bB (-1) b s.2).length=(Geo.part (tH b) (s.2.map tv)).length:=by rw[← a5m hw,List.length_map]
  exact (decide_eq_true (by rw[e];exact this)).symm
 ·have hlo:∀ v∈s.2,0≤aB b v:=fun v hv=>by
   apply Classical.byContradiction
   intro hn
   exact q (Geo.kU.2 ⟨tv v,List.mem_map_of_mem hv,(lQ b (hw v hv)).2 (by unfold aB at hn;exact j3.1 (by omega))⟩)
  rw[Bool.not_eq_true]at q
  rw[q]
  symm
  apply decide_eq_false
  intro hlen
  have e:bB (-1) b s.2=s.2.filter fun v=>decide (aB b v≠1):=by
   unfold bB
   rw[c4a (fun e he=>⟨hlo _ (Geo.bH he),hlo _ (Geo.bP he)⟩),Geo.jC]
  rw[e]at hlen
  have hnd:(s.2.filter fun v=>decide (aB b v≠1)).Nodup:=(Geo.yD pv.nd).filter _
  have hin:∀ v∈s.2.filter fun v=>decide (aB b v≠1),v∈s.2∧(tH b).at (tv v)=0:=fun v hv=>by
   obtain⟨h1,h2⟩:=List.mem_filter.1 hv
   have h3:=hlo v h1
   have h4:=of_decide_eq_true h2
   refine⟨h1,(lR b (hw v h1)).2 (pT.1 ?_)⟩
   have:=a5h (abv b v)
   unfold aB at *
   omega
  generalize s.2.filter (fun v=>decide (aB b v≠1))=F at *
  obtain⟨w,hwm,gw⟩:∃ w∈(sd s).vs,0<(tH b).at w:=by
   rcases hS.not_on hm with k|k
   ·have k':Geo.iC (tH b) (s.2.map tv)=true:=k
    rw[q]at k';exact absurd k' (by decide)
   ·obtain⟨w,hw1,hw2⟩:=Geo.kU.1 k
    exact⟨w,hw1,by rw[Geo.mY]at hw2;grind⟩
  match F,hlen,hnd,hin with
  | x::y::z::F,_,hnd,hin =>
   have hx:=hin x (by simp)
   have hy:=hin y (by simp)
   have hz:=hin z (by simp)
   simp only[List.nodup_cons,List.mem_cons,not_or]at hnd
   have ne:∀ {p q:Pt},p∈s.2→q∈s.2→p≠q→tv p≠tv q:=fun hp hq n e=>n (lI (h.can s hs _ hp) (h.can s hs _ hq) e)
   have mm:∀ {p:Pt},p∈s.2→tv p∈(sd s).vs:=fun hp=>List.mem_map_of_mem hp
   have hN:=Geo.pG (h:=(sd s).h) (g:=tH b) (a:=tv x) (w:=w) pv.n_ne (by rw[pl _ (mm hx.1),pl _ hwm]) (by rw[hx.2];grind)
   exact b4r pv pl hN (mm hx.1) (mm hy.1) (mm hz.1) hx.2 hy.2 hz.2 (ne hx.1 hy.1 hnd.1.1) (ne hx.1 hz.1 hnd.1.2.1) (ne hy.1 hz.1 hnd.2.1.1)
def bhR (b:Pl) (l:aD):aD:=l.filterMap fun s=>if 3≤(bB (-1) b s.2).length then some (s.1,bB (-1) b s.2)else none
theorem c9w {b:Pl} {l:aD} (h:CellOK l) (hS:Geo.Spl (sds l) (tH b)):bhR b l=bh b l:=by
 unfold bhR bh
 have key:∀ m:aD,(∀ s∈m,s∈l)→(m.filterMap fun s=>if 3≤(bB (-1) b s.2).length then some (s.1,bB (-1) b s.2)else none)=m.filterMap fun s=>if bE (-1) b s.2 s.2.length then some (s.1,bB (-1) b s.2)else none:=by
  intro m
  induction m with
  | nil=>intro _;rfl
  | cons s m ih =>
   intro hm
   have e:=len3 h hS (hm s (by simp))
   rw[List.filterMap_cons,List.filterMap_cons,ih fun t ht=>hm t (by simp[ht]),e]
   simp only[decide_eq_true_eq]
 exact key l fun s hs=>hs
end Go.Sx
