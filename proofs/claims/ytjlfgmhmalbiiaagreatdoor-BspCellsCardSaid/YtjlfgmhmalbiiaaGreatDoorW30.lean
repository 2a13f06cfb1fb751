import Derived.Test.YtjlfgmhmalbiiaaGreatDoorW29
set_option linter.all false
set_option maxHeartbeats 1600000
open Bool renaming not_eq_true → Ae, false_eq_true → As
open List renaming mem_map_of_mem → Aa, mem_map → Ab, getElem_mem → Ac, mem_cons → Af, filterMap_cons_none → Ai, filterMap_cons_some → Aj, length_eq_zero_iff → Ak, Perm → Al, append_nil → Am, mem_filter → An, length_map → Ao, flatMap_append → Aq, filterMap_cons → Ar, map_map → At, any_eq_true → Au, take_length → Av, all_eq_true → Aw, nil_append → Ax, any_append → Ay, map_append → Az, map_cons → A3
open Nat renaming reduceAdd → Ad, zero_add → A4, succ_add → A5
open Rat renaming intCast_pos → Ag, mul_inv_cancel → Ah, mul_pos → Ap
namespace Go.Sx
open Geo (H V Sd)
set_option linter.unusedVariables false
def Rot {α:Type} (a b:List α):Prop:=∃ A B,a=A++B∧b=B++A
theorem Rot.refl {α:Type} (a:List α):Rot a a:=⟨a,[],by simp,by simp⟩
theorem Rot.perm {α:Type} {a b:List α} (h:Rot a b):a.Perm b:=by obtain⟨A,B,rfl,rfl⟩:=h;exact List.perm_append_comm
theorem Rot.edges {α:Type} {a b:List α} (h:Rot a b):(Geo.edges a).Perm (Geo.edges b):=by obtain⟨A,B,rfl,rfl⟩:=h;exact Geo.sV A B
theorem Rot.flat {α β:Type} {a b:List α} (f:α × α→List β) (h:Rot a b):Rot ((Geo.edges a).flatMap f) ((Geo.edges b).flatMap f):=by
 obtain⟨A,B,rfl,rfl⟩:=h
 cases A with
 | nil=>rw[Ax,Am];exact Rot.refl _
 | cons x A=>cases B with
  | nil=>rw[Ax,Am];exact Rot.refl _
  | cons y B =>
   refine⟨(Geo.aM (x::A++[y])).flatMap f,(Geo.aM (y::B++[x])).flatMap f,?_,?_⟩
   ·rw[Geo.mG,Aq]
   ·rw[Geo.mG,Aq]
theorem Rot.any {α:Type} {a b:List α} (f:α→Bool) (h:Rot a b):a.any f=b.any f:=by
 obtain⟨A,B,rfl,rfl⟩:=h
 rw[Ay,Ay,Bool.or_comm]
def SR (s t:Pl × List Pt):Prop:=s.1=t.1∧Rot s.2 t.2
inductive RL:aC→aC→Prop
 | nil:RL [] []
 | cons {s t:Pl × List Pt} {l m:aC} (h:SR s t) (r:RL l m):RL (s::l) (t::m)
def RC (l m:aC):Prop:=∃ k,l.Perm k∧RL k m
theorem RL.append {l m l' m':aC} (h:RL l m) (k:RL l' m'):RL (l++l') (m++m'):=by
 induction h with
 | nil=>exact k
 | cons h _ ih=>exact .cons h ih
theorem RC.append {l m l' m':aC} (h:RC l m) (k:RC l' m'):RC (l++l') (m++m'):=by
 obtain⟨a,h1,h2⟩:=h
 obtain⟨b,k1,k2⟩:=k
 exact⟨a++b,h1.append k1,h2.append k2⟩
theorem RL.length {l m:aC} (h:RL l m):l.length=m.length:=by
 induction h with
 | nil=>rfl
 | cons _ _ ih=>simp[ih]
theorem RC.length {l m:aC} (h:RC l m):l.length=m.length:=by obtain⟨k,h1,h2⟩:=h;rw[h1.length_eq,h2.length]
theorem RC.nil_iff {l m:aC} (h:RC l m):l=[]↔m=[]:=by rw[← Ak,← Ak,h.length]
theorem RL.mem {l m:aC} (h:RL l m):(∀ s∈l,∃ t∈m,SR s t)∧∀ t∈m,∃ s∈l,SR s t:=by
 induction h with
 | nil=>exact⟨by simp,by simp⟩
 | cons h _ ih =>
  refine⟨fun s hs=>?_,fun t ht=>?_⟩
  ·rcases Af.1 hs with rfl|hs
   ·exact⟨_,by simp,h⟩
   ·obtain⟨t,ht,k⟩:=ih.1 s hs;exact⟨t,by simp[ht],k⟩
  ·rcases Af.1 ht with rfl|ht
   ·exact⟨_,by simp,h⟩
   ·obtain⟨s,hs,k⟩:=ih.2 t ht;exact⟨s,by simp[hs],k⟩
theorem RC.mem {l m:aC} (h:RC l m):(∀ s∈l,∃ t∈m,SR s t)∧∀ t∈m,∃ s∈l,SR s t:=by
 obtain⟨k,h1,h2⟩:=h
 refine⟨fun s hs=>h2.mem.1 s (h1.mem_iff.1 hs),fun t ht=>?_⟩
 obtain⟨s,hs,k⟩:=h2.mem.2 t ht
 exact⟨s,h1.mem_iff.2 hs,k⟩
theorem RC.any {l m:aC} (f:Pl × List Pt→Bool) (hf:∀ s t,SR s t→f s=f t) (h:RC l m):l.any f=m.any f:=by
 apply Bool.eq_iff_iff.2
 simp only[Au]
 constructor
 ·rintro⟨s,hs,e⟩;obtain⟨t,ht,k⟩:=h.mem.1 s hs;exact⟨t,ht,by rw[← hf s t k];exact e⟩
 ·rintro⟨t,ht,e⟩;obtain⟨s,hs,k⟩:=h.mem.2 t ht;exact⟨s,hs,by rw[hf s t k];exact e⟩
theorem RC.front {l m:aC} (h:RC l m) (b:Pl):aY b l=aY b m:=h.any _ fun s t k=>k.2.any _
theorem RC.behind {l m:aC} (h:RC l m) (b:Pl):aZ b l=aZ b m:=h.any _ fun s t k=>k.2.any _
theorem RC.bd {l m:aC} (h:RC l m) {S M K:Nat} (hb:Bd S M K m):Bd S M K l:=by
 refine⟨by rw[h.length];exact hb.n,fun s hs=>?_,fun s hs v hv=>?_,fun s hs=>?_⟩<;>obtain⟨t,ht,k⟩:=h.mem.1 s hs
 ·rw[k.2.perm.length_eq];exact hb.m t ht
 ·exact hb.k t ht v (k.2.perm.mem_iff.1 hv)
 ·rw[k.1];exact hb.p t ht
theorem RL.filterMap {l m:aC} (f:Pl × List Pt→Option (Pl × List Pt)) (hf:∀ s t,SR s t→(f s=none∧f t=none)∨∃ s' t',f s=some s'∧f t=some t'∧SR s' t') (h:RL l m):RL (l.filterMap f) (m.filterMap f):=by
 induction h with
 | nil=>exact .nil
 | cons h _ ih =>
  rcases hf _ _ h with⟨h1,h2⟩|⟨s',t',h1,h2,h3⟩
  ·rw[Ai h1,Ai h2];exact ih
  ·rw[Aj h1,Aj h2];exact .cons h3 ih
theorem RC.filterMap {l m:aC} (f:Pl × List Pt→Option (Pl × List Pt)) (hf:∀ s t,SR s t→(f s=none∧f t=none)∨∃ s' t',f s=some s'∧f t=some t'∧SR s' t') (h:RC l m):RC (l.filterMap f) (m.filterMap f):=by
 obtain⟨k,h1,h2⟩:=h
 exact⟨k.filterMap f,h1.filterMap f,h2.filterMap f hf⟩
theorem RC.es {l m:aC} (h:RC l m):(esP l).Perm (esP m):=by
 obtain⟨k,h1,h2⟩:=h
 refine (h1.flatMap_right _).trans ?_
 clear h1
 induction h2 with
 | nil=>exact Al.refl _
 | cons h _ ih=>exact (h.2.edges).append ih
theorem RC.bhs {l m:aC} (h:RC l m) (b:Pl):RC (bh b l) (bh b m):=by
 refine h.filterMap _ fun s t k=>?_
 have e:bF (-1) b s.2 s.2.length=bF (-1) b t.2 t.2.length:=by unfold bF;rw[Av,Av];exact k.2.any _
 by_cases q:bF (-1) b t.2 t.2.length=true
 ·exact .inr ⟨_,_,if_pos (e.trans q),if_pos q,k.1,k.2.flat _⟩
 ·exact .inl ⟨if_neg (by rw[e];exact q),if_neg q⟩
theorem a4j (nx:Pt→Pt) (i j:Nat) (x:Pt):aV nx (i+j) x=aV nx i x++aV nx j (itP nx i x):=by
 induction i generalizing x with
 | zero=>rw[A4];rfl
 | succ i ih=>rw[A5,aV,ih (nx x)];rfl
theorem b3c {S:List Pt} {nx ny:Pt→Pt} (h:∀ x∈S,nx x=ny x∧nx x∈S) (n:Nat) {x:Pt} (hx:x∈S):aV nx n x=aV ny n x:=by
 induction n generalizing x with
 | zero=>rfl
 | succ n ih=>rw[aV,aV,← (h x hx).1,ih (h x hx).2]
theorem a8c {S:List Pt} {nx:Pt→Pt} (h:∀ x∈S,nx x∈S) (n:Nat) {x:Pt} (hx:x∈S):itP nx n x∈S:=by
 induction n with
 | zero=>exact hx
 | succ n ih=>rw[tK];exact h _ ih
theorem CapF.cl {b:Pl} {l:aC} (C:CapF b l):∀ x∈(heP b l).map (·.2),nxP ((heP b l).map Geo.sw) x∈(heP b l).map (·.2):=by
 intro x hx
 obtain⟨e,he,rfl⟩:=Ab.1 hx
 rw[C.nx e he];exact C.io e he
theorem c4r {S:List Pt} {nx:Pt→Pt} (h:∀ x∈S,nx x∈S) (n:Nat) {x:Pt} (hx:x∈S):∀ v∈aV nx n x,v∈S:=by
 induction n generalizing x with
 | zero=>intro v hv;simp[aV]at hv
 | succ n ih =>
  intro v hv
  rw[aV]at hv
  rcases Af.1 hv with rfl|hv
  ·exact hx
  ·exact ih (h x hx) v hv
theorem CapF.rot {b : Pl} {l : aC} (h : CellOK l) (C : CapF b l) {f f' : Pt} (hf : f ∈ (heP b l).map (·.2)) (hf' : f' ∈ (heP b l).map (·.2)) :
  Rot (aV (nxP ((heP b l).map Geo.sw)) (heP b l).length f) (aV (nxP ((heP b l).map Geo.sw)) (heP b l).length f'):=by
 have hcan:∀ x∈(heP b l).map (·.2),CanP x:=fun x hx=>by
  obtain⟨e,he,rfl⟩:=Ab.1 hx
  exact (es_w (qW h.toCanC) e (An.1 he).1).2
 have hcan1:∀ e∈heP b l,CanP e.1:=fun e he=>(es_w (qW h.toCanC) e (An.1 he).1).1
 obtain⟨K,hK⟩:=C.run f hf
 have hcl:=C.cl
 have hnx:=C.nx
 have hn:0<(heP b l).length:=List.length_pos_iff.2 C.ne
 have hrl:=pD (nxP ((heP b l).map Geo.sw)) (heP b l).length f
 have hrm:=c4r hcl (heP b l).length hf
 have hed:=K.ed
 rw[C.hHE]at hed
 generalize hnxq:nxP ((heP b l).map Geo.sw)=nx at *
 generalize hnq:(heP b l).length=n at *
 have hret:itP nx n f=f:=by
  obtain⟨k,rfl⟩:∃ k,n=k+1:=⟨n - 1,by omega⟩
  have hz:=a8c hcl k hf
  rw[tK]
  have hmem:(tv (itP nx k f),tv f)∈Geo.edges ((aV nx (k+1) f).map tv):=by
   rw[vG]
   cases k with
   | zero=>simp[aV,itP,Geo.edges,Geo.aM]
   | succ k =>
    rw[aV,Az,A3]
    rw[show ([itP nx (k+1) f].map tv)=tv (itP nx (k+1) f)::[]from rfl,Geo.mG]
    simp[Geo.aM]
  obtain⟨e2,h2,h3⟩:=Ab.1 (hed.mem_iff.1 hmem)
  obtain⟨e,he,rfl⟩:=Ab.1 h2
  have q1:tv e.2=tv (itP nx k f):=congrArg Prod.fst h3
  have q2:tv e.1=tv f:=congrArg Prod.snd h3
  have r1:e.2=itP nx k f:=iE (hcan _ (Aa he)) (hcan _ hz) q1
  have r2:e.1=f:=iE (hcan1 e he) (hcan f hf) q2
  rw[← r1,hnx e he,r2]
 have hmet:f'∈aV nx n f:=by
  have h1:(Geo.edges ((aV nx n f).map tv)).map (·.1)=(aV nx n f).map tv:=Geo.jE _
  have h2:tv f'∈(aV nx n f).map tv:=by
   rw[← h1]
   obtain⟨e,he,rfl⟩:=Ab.1 hf'
   exact Ab.2 ⟨Geo.sw (tv2 e),hed.mem_iff.2 (Aa (Aa he)),rfl⟩
  obtain⟨y,hy,e⟩:=Ab.1 h2
  rw[← iE (hcan y (hrm y hy)) (hcan f' hf') e];exact hy
 have hat:∀ (n:Nat) (x y:Pt),y∈aV nx n x→∃ i,i<n∧y=itP nx i x:=by
  intro n
  induction n with
  | zero=>intro x y hy;simp[aV]at hy
  | succ n ih =>
   intro x y hy
   rw[aV]at hy
   rcases Af.1 hy with rfl|hy
   ·exact⟨0,by omega,rfl⟩
   ·obtain⟨i,hi,e⟩:=ih _ _ hy
    exact⟨i+1,by omega,e⟩
 obtain⟨i,hi,e⟩:=hat n f f' hmet
 have hadd:∀ (i j:Nat) (x:Pt),itP nx (i+j) x=itP nx j (itP nx i x):=by
  intro i
  induction i with
  | zero=>intro j x;rw[A4];rfl
  | succ i ih=>intro j x;rw[A5];exact ih j (nx x)
 refine⟨aV nx i f,aV nx (n - i) f',?_,?_⟩
 ·rw[e,← a4j,show i+(n - i)=n by omega]
 ·have:itP nx (n - i) f'=f:=by rw[e,← hadd,show i+(n - i)=n by omega,hret]
  conv=>rhs;rhs;rw[← this]
  rw[← a4j,show n - i+i=n by omega]
def nN (b:Pl) (l:aC):List Pt:=aV (nxP (((esP l).filter (onE b)).map Geo.sw)) ((esP l).filter (onE b)).length ((((esP l).filter (onE b)).map (·.2)).headD P0)
def jJ (b:Pl) (l:aC):aC:=bh b l++[(b,nN b (bh b l))]
def cP (b:Pl) (l:aC):aC × aC:=if aY b l=false then (l,[])else if aZ b l=false then ([],l)else (jJ b l,jJ (aW b) l)
def c6:aC:=[
 (⟨1,0,0,1000⟩,[wpt 1 (-1) (-1),wpt 1 1 (-1),wpt 1 1 1,wpt 1 (-1) 1]),
 (⟨-1,0,0,1000⟩,[wpt (-1) (-1) (-1),wpt (-1) (-1) 1,wpt (-1) 1 1,wpt (-1) 1 (-1)]),
 (⟨0,1,0,1000⟩,[wpt (-1) 1 (-1),wpt (-1) 1 1,wpt 1 1 1,wpt 1 1 (-1)]),
 (⟨0,-1,0,1000⟩,[wpt (-1) (-1) (-1),wpt 1 (-1) (-1),wpt 1 (-1) 1,wpt (-1) (-1) 1]),
 (⟨0,0,1,1000⟩,[wpt (-1) (-1) 1,wpt 1 (-1) 1,wpt 1 1 1,wpt (-1) 1 1]),
 (⟨0,0,-1,1000⟩,[wpt (-1) (-1) (-1),wpt (-1) 1 (-1),wpt 1 1 (-1),wpt 1 (-1) (-1)])]
theorem heR {b:Pl} {l:aC}:(esP (bh b l)).filter (onE b)=heP b l:=rfl
theorem a4z {α:Type} {d:α} {l:List α} (h:l≠[]):l.headD d∈l:=by
 cases l with
 | nil=>exact absurd rfl h
 | cons x l=>simp
theorem a8p {b:Pl} {l:aC} (C:CapF b l):∃ f∈(heP b l).map (·.2),nN b (bh b l)=aV (nxP ((heP b l).map Geo.sw)) (heP b l).length f :=
 ⟨((heP b l).map (·.2)).headD P0,a4z (by simpa using C.ne),by unfold nN;rw[heR]⟩
theorem a5c {b:Pl} {l:aC} (h:CellOK l) (hS:Geo.Spl (sds l) (tH b)):CellOK (jJ b l):=by
 have C:=tT h hS
 obtain⟨f,hf,e⟩:=a8p C
 obtain⟨K,hc⟩:=C.run f hf
 rw[← e]at K hc
 refine⟨⟨fun s hs=>?_⟩,?_⟩
 ·rcases List.mem_append.1 hs with hs|hs
  ·exact (qW h.toCanC).can s hs
  ·obtain rfl:s=_:=by simpa using hs
   exact hc
 ·have e2:sds (jJ b l)=Geo.aS (tH b) (sds l)++[⟨tH b,(nN b (bh b l)).map tv⟩]:=by
   show (bh b l++[(b,nN b (bh b l))]).map sd=_
   rw[Az]
   show sds (bh b l)++_=_
   rw[xR h.toCanC]
   rfl
  rw[e2]
  exact hS.cell K
theorem a7d {b:Pl} {l:aC} (h:CellOK l):((cP b l).1=[]∨CellOK (cP b l).1)∧((cP b l).2=[]∨CellOK (cP b l).2):=by
 unfold cP
 by_cases hf:aY b l=false
 ·rw[if_pos hf];exact⟨.inr h,.inl rfl⟩
 ·rw[if_neg hf]
  by_cases hb:aZ b l=false
  ·rw[if_pos hb];exact⟨.inl rfl,.inr h⟩
  ·rw[if_neg hb]
   have hf':aY b l=true:=by simpa using hf
   have hb':aZ b l=true:=by simpa using hb
   exact⟨.inr (a5c h (gA h hf' hb')),.inr (a5c h (gA h (by rw[kT];exact hb') (by rw[mK];exact hf')))⟩
theorem c5d {m m':List (Pt × Pt)} (h:m.Perm m') (hn:(m.map (·.1)).Nodup) {k:Pt} (hk:k∈m.map (·.1)):nxP m k=nxP m' k:=by
 obtain⟨e,he,rfl⟩:=Ab.1 hk
 rw[zS hn he,zS ((h.map (·.1)).nodup_iff.1 hn) (h.mem_iff.1 he)]
theorem RC.cell {l m:aC} (h:RC l m) (hl:CellOK l) (hm:CellOK m) {b:Pl} (h1:Geo.Spl (sds l) (tH b)) (h2:Geo.Spl (sds m) (tH b)):RC (jJ b l) (iK b m):=by
 have C:=tT hl h1
 have D:=tT hm h2
 have hb:=h.bhs b
 have hp:(heP b l).Perm (heP b m):=hb.es.filter _
 obtain⟨f,hf,e⟩:=a8p C
 obtain⟨f',hf',e'⟩:=D.ex
 have hn:(((heP b l).map Geo.sw).map (·.1)).Nodup:=by rw[At];exact C.nd
 have hk:∀ x∈(heP b l).map (·.2),nxP ((heP b l).map Geo.sw) x=nxP ((heP b m).map Geo.sw) x:=fun x hx=>c5d (hp.map _) hn (by rw[At];exact hx)
 have hf2:f'∈(heP b l).map (·.2):=(hp.map _).mem_iff.2 hf'
 refine hb.append ⟨[(b,nN b (bh b l))],Al.refl _,.cons ⟨rfl,?_⟩ .nil⟩
 show Rot (nN b (bh b l)) (b6 b (bh b m))
 rw[e,e',← hp.length_eq,← b3c (S:=(heP b l).map (·.2)) (fun x hx=>⟨hk x hx,C.cl x hx⟩) _ hf2]
 exact C.rot hl hf hf2
theorem a9p:RC [] []:=⟨[],Al.refl _,.nil⟩
theorem RC.spl {l m:aC} (h:RC l m) (hl:CellOK l) (hm:CellOK m) (b:Pl):RC (cP b l).1 (aP b m).1∧RC (cP b l).2 (aP b m).2:=by
 unfold cP aP
 rw[h.front,h.behind]
 by_cases hf:aY b m=false
 ·rw[if_pos hf,if_pos hf];exact⟨h,a9p⟩
 ·rw[if_neg hf,if_neg hf]
  by_cases hb:aZ b m=false
  ·rw[if_pos hb,if_pos hb];exact⟨a9p,h⟩
  ·rw[if_neg hb,if_neg hb]
   have hf':aY b m=true:=by simpa using hf
   have hb':aZ b m=true:=by simpa using hb
   exact⟨h.cell hl hm (gA hl (by rw[h.front];exact hf') (by rw[h.behind];exact hb')) (gA hm hf' hb'),
    h.cell hl hm (gA hl (by rw[kT,h.behind];exact hb') (by rw[mK,h.front];exact hf')) (gA hm (by rw[kT];exact hb') (by rw[mK];exact hf'))⟩
theorem a5m {α:Type} (x:α) (l:List α):Rot (x::l) (l++[x]):=⟨[x],l,rfl,rfl⟩
theorem a5e:RC c6 aN:=by
 refine⟨[(⟨-1,0,0,1000⟩,[wpt (-1) (-1) (-1),wpt (-1) (-1) 1,wpt (-1) 1 1,wpt (-1) 1 (-1)]),(⟨1,0,0,1000⟩,[wpt 1 (-1) (-1),wpt 1 1 (-1),wpt 1 1 1,wpt 1 (-1) 1]),
  (⟨0,-1,0,1000⟩,[wpt (-1) (-1) (-1),wpt 1 (-1) (-1),wpt 1 (-1) 1,wpt (-1) (-1) 1]),(⟨0,1,0,1000⟩,[wpt (-1) 1 (-1),wpt (-1) 1 1,wpt 1 1 1,wpt 1 1 (-1)]),
  (⟨0,0,-1,1000⟩,[wpt (-1) (-1) (-1),wpt (-1) 1 (-1),wpt 1 1 (-1),wpt 1 (-1) (-1)]),(⟨0,0,1,1000⟩,[wpt (-1) (-1) 1,wpt 1 (-1) 1,wpt 1 1 1,wpt (-1) 1 1])],?_,?_⟩
 ·exact (Al.swap _ _ _).trans (((Al.swap _ _ _).trans ((Al.swap _ _ _).cons _ |>.cons _)).cons _ |>.cons _)
 ·refine .cons ⟨rfl,a5m _ _⟩ (.cons ⟨rfl,Rot.refl _⟩ (.cons ⟨rfl,?_⟩ (.cons ⟨rfl,Rot.refl _⟩ (.cons ⟨rfl,a5m _ _⟩ (.cons ⟨rfl,Rot.refl _⟩ .nil)))))
  exact⟨[wpt (-1) (-1) (-1)],[wpt 1 (-1) (-1),wpt 1 (-1) 1,wpt (-1) (-1) 1],rfl,rfl⟩
theorem a2s:CellOK c6:=by
 refine⟨⟨fun s hs v hv=>?_⟩,a6p (by decide +kernel)⟩
 have:c6.all (fun s=>s.2.all canB)=true:=by decide +kernel
 exact eD (Aw.1 (Aw.1 this s hs) v hv)
end Go.Sx
namespace Go.Sx
open Geo (H V Sd)
set_option linter.unusedVariables false
theorem p6 {h g : H} {vs : List V} (pv : Geo.PV h.n vs) (pl : ∀ v ∈ vs, h.at v = 0) (hN : 0 < Geo.dot (Geo.aA h.n g.n) (Geo.aA h.n g.n)) {x y z : V} (hx : x ∈ vs) (hy : y ∈ vs) (hz : z ∈ vs)
  (gx:g.at x=0) (gy:g.at y=0) (gz:g.at z=0) (h1:Geo.dot y (Geo.aA h.n g.n)<Geo.dot x (Geo.aA h.n g.n)) (h2:Geo.dot x (Geo.aA h.n g.n)<Geo.dot z (Geo.aA h.n g.n)):False:=by
 obtain⟨t,t0,t1,e⟩:=Geo.a8v hN (pl y hy) (pl z hz) gy gz (pl x hx) gx h1 h2
 have:=(pv.extreme pl hx t0 t1 e (pl y hy) (pl z hz) (fun e he=>pv.weak he hy) (fun e he=>pv.weak he hz)).1
 rw[this]at h1
 grind
theorem b5n {h g : H} {vs : List V} (pv : Geo.PV h.n vs) (pl : ∀ v ∈ vs, h.at v = 0) (hN : 0 < Geo.dot (Geo.aA h.n g.n) (Geo.aA h.n g.n)) {x y z : V} (hx : x ∈ vs) (hy : y ∈ vs) (hz : z ∈ vs)
  (gx:g.at x=0) (gy:g.at y=0) (gz:g.at z=0) (n1:x≠y) (n2:x≠z) (n3:y≠z):False:=by
 have k:∀ {p q:V},p∈vs→q∈vs→g.at p=0→g.at q=0→p≠q→Geo.dot p (Geo.aA h.n g.n)<Geo.dot q (Geo.aA h.n g.n)∨Geo.dot q (Geo.aA h.n g.n)<Geo.dot p (Geo.aA h.n g.n):=by
  intro p q hp hq gp gq n
  by_cases e:Geo.dot p (Geo.aA h.n g.n)=Geo.dot q (Geo.aA h.n g.n)
  ·exact absurd (Geo.w5 hN (pl p hp) (pl q hq) gp gq e) n
  ·generalize Geo.dot p (Geo.aA h.n g.n)=a at *
   generalize Geo.dot q (Geo.aA h.n g.n)=b at *
   grind
 rcases k hx hy gx gy n1 with a|a<;>rcases k hx hz gx gz n2 with b|b<;>rcases k hy hz gy gz n3 with c|c
 ·exact p6 pv pl hN hy hx hz gy gx gz a c
 ·exact p6 pv pl hN hz hx hy gz gx gy b c
 ·exfalso;grind
 ·exact p6 pv pl hN hx hz hy gx gz gy b a
 ·exact p6 pv pl hN hx hy hz gx gy gz a b
 ·exfalso;grind
 ·exact p6 pv pl hN hz hy hx gz gy gx c b
 ·exact p6 pv pl hN hy hz hx gy gz gx c a
theorem c5a {b:Pl} {es:List (Pt × Pt)} (h:∀ e∈es,0≤aB b e.1∧0≤aB b e.2):(es.flatMap fun e=>pc (-1) b e.1 e.2)=(es.map (·.1)).filter fun v=>decide (aB b v≠1):=by
 induction es with
 | nil=>rfl
 | cons e es ih =>
  have he:=h e (by simp)
  rw[List.flatMap_cons,ih fun x hx=>h x (by simp[hx]),A3,List.filter_cons]
  have h2:¬ aB b e.1*aB b e.2<0:=by have:=Int.mul_nonneg he.1 he.2;omega
  unfold pc
  rw[if_neg h2,Am]
  by_cases q:aB b e.1=1
  ·simp[q]
  ·simp[q]
theorem len3 {b:Pl} {l:aC} (h:CellOK l) (hS:Geo.Spl (sds l) (tH b)) {s:Pl × List Pt} (hs:s∈l):bF (-1) b s.2 s.2.length=decide (3≤(bC (-1) b s.2).length):=by
 have hw:=h.w hs
 have hm:sd s∈sds l:=Aa hs
 have pv:=h.cell.pv _ hm
 have pl:=h.cell.pl _ hm
 rw[a5k hw]
 by_cases q:Geo.g8 (tH b) (s.2.map tv)=true
 ·rw[q]
  have:=(Geo.a0g (g:=tH b) pv pl (Geo.kX.1 q)).pv.len
  have e:(bC (-1) b s.2).length=(Geo.part (tH b) (s.2.map tv)).length:=by rw[← a5q hw,Ao]
  exact (decide_eq_true (by rw[e];exact this)).symm
 ·have hlo:∀ v∈s.2,0≤aB b v:=fun v hv=>by
   apply Classical.byContradiction
   intro hn
   exact q (Geo.kX.2 ⟨tv v,Aa hv,(nJ b (hw v hv)).2 (by unfold aB at hn;exact lM.1 (by omega))⟩)
  rw[Ae]at q
  rw[q]
  symm
  apply decide_eq_false
  intro hlen
  have e:bC (-1) b s.2=s.2.filter fun v=>decide (aB b v≠1):=by
   unfold bC
   rw[c5a (fun e he=>⟨hlo _ (Geo.bD he),hlo _ (Geo.bL he)⟩),Geo.jE]
  rw[e]at hlen
  have hnd:(s.2.filter fun v=>decide (aB b v≠1)).Nodup:=(Geo.sF pv.nd).filter _
  have hin:∀ v∈s.2.filter fun v=>decide (aB b v≠1),v∈s.2∧(tH b).at (tv v)=0:=fun v hv=>by
   obtain⟨h1,h2⟩:=An.1 hv
   have h3:=hlo v h1
   have h4:=of_decide_eq_true h2
   refine⟨h1,(jN b (hw v h1)).2 (mW.1 ?_)⟩
   have:=a5l (abv b v)
   unfold aB at *
   omega
  generalize s.2.filter (fun v=>decide (aB b v≠1))=F at *
  obtain⟨w,hwm,gw⟩:∃ w∈(sd s).vs,0<(tH b).at w:=by
   rcases hS.not_on hm with k|k
   ·have k':Geo.g8 (tH b) (s.2.map tv)=true:=k
    rw[q]at k';exact absurd k' (by decide)
   ·obtain⟨w,hw1,hw2⟩:=Geo.kX.1 k
    exact⟨w,hw1,by rw[Geo.m8]at hw2;grind⟩
  match F,hlen,hnd,hin with
  | x::y::z::F,_,hnd,hin =>
   have hx:=hin x (by simp)
   have hy:=hin y (by simp)
   have hz:=hin z (by simp)
   simp only[List.nodup_cons,Af,not_or]at hnd
   have ne:∀ {p q:Pt},p∈s.2→q∈s.2→p≠q→tv p≠tv q:=fun hp hq n e=>n (iE (h.can s hs _ hp) (h.can s hs _ hq) e)
   have mm:∀ {p:Pt},p∈s.2→tv p∈(sd s).vs:=fun hp=>Aa hp
   have hN:=Geo.pN (h:=(sd s).h) (g:=tH b) (a:=tv x) (w:=w) pv.n_ne (by rw[pl _ (mm hx.1),pl _ hwm]) (by rw[hx.2];grind)
   exact b5n pv pl hN (mm hx.1) (mm hy.1) (mm hz.1) hx.2 hy.2 hz.2 (ne hx.1 hy.1 hnd.1.1) (ne hx.1 hz.1 hnd.1.2.1) (ne hy.1 hz.1 hnd.2.1.1)
def bhR (b:Pl) (l:aC):aC:=l.filterMap fun s=>if 3≤(bC (-1) b s.2).length then some (s.1,bC (-1) b s.2)else none
theorem d0r {b:Pl} {l:aC} (h:CellOK l) (hS:Geo.Spl (sds l) (tH b)):bhR b l=bh b l:=by
 unfold bhR bh
 have key:∀ m:aC,(∀ s∈m,s∈l)→(m.filterMap fun s=>if 3≤(bC (-1) b s.2).length then some (s.1,bC (-1) b s.2)else none)=m.filterMap fun s=>if bF (-1) b s.2 s.2.length then some (s.1,bC (-1) b s.2)else none:=by
  intro m
  induction m with
  | nil=>intro _;rfl
  | cons s m ih =>
   intro hm
   have e:=len3 h hS (hm s (by simp))
   rw[Ar,Ar,ih fun t ht=>hm t (by simp[ht]),e]
   simp only[decide_eq_true_eq]
 exact key l fun s hs=>hs
end Go.Sx
namespace Go.Proofs.Vx
open Go Go.Sx Go.Proofs Tryz
attribute [local irreducible] fnT CallOK CallFr AW aI callV aL aJ aH aK gcaseP hid
theorem tV:fnT prog 92=true:=by kernel_rfl
theorem c7o:fnT prog 93=true:=by kernel_rfl
theorem c3v:fnT prog 158=true:=by kernel_rfl
theorem c158 (p:Pl) (vs:List Pt) (x:Pt) (hp:BPl 1073741824 p) (hx:BPt 1073741824 x):CallOK prog 158 [.agg (eG p vs),.fp (eP x)] [] (.lit (.bool (decide (0<aB p x)))) []:=by
 refine zs func158 9 [.tmp 3] results158 ?_
 simp only[aD,Ad]
 simp only[eG]
 try have zh0:=(c34 p x hp hx)
 have zh1:=@eH
 have zh2:=@e4
 exact z1
theorem c93 (p:Pl) (vs:List Pt) (x:Pt) (hp:BPl 1073741824 p) (hx:BPt 1073741824 x):CallOK prog 93 [.agg (eG p vs),.fp (eP x)] [] (.lit (.bool (decide (aB p x=0)))) []:=by
 refine zs func93 9 [.tmp 3] results93 ?_
 simp only[aD,Ad]
 simp only[eG]
 try have zh0:=(c34 p x hp hx)
 have zh1:=@eH
 have zh2:=@e4
 exact z1
theorem xN {K:Nat→Prop} (x:Pt):(∀ c∈eP x,In K c)=True:=eq_true fun c hc=>(oF [x] (eP x) (by simp) c hc).inn
def i7 (t:Pl × List Pt→Bool) (l:aC):Int:=if l.any t then (l.findIdx t:Int)else -1
theorem c5y {t:Pl × List Pt→Bool} {l:aC} {i:Nat} (h:i<l.length) (hb:∀ j (hj:j<i),t (l[j]'(by omega))=false) (hi:t l[i]=true):i7 t l=i:=by
 unfold i7
 rw[if_pos (Au.2 ⟨l[i],Ac h,hi⟩)]
 have:l.findIdx t=i:=(List.findIdx_eq h).2 ⟨hi,fun j hj=>hb j hj⟩
 rw[this]
theorem c5x {t:Pl × List Pt→Bool} {l:aC} (hb:∀ j (hj:j<l.length),t l[j]=false):i7 t l=-1:=by
 unfold i7
 rw[if_neg]
 rw[Ae,List.any_eq_false]
 intro s hs
 obtain⟨j,hj,rfl⟩:=List.mem_iff_getElem.1 hs
 rw[hb j hj];decide
theorem b3i (t:Pl × List Pt→Bool) (l:aC):(decide (0≤i7 t l))=l.any t:=by
 unfold i7
 by_cases h:l.any t=true
 ·rw[if_pos h,h];simp
 ·rw[if_neg h];simp only[Ae]at h;rw[h];decide
theorem c159 (l:aC) (k:Nat) (x:Pt) (t:Pl × List Pt→Bool) (hn:l.length≤1048576) (hk:fnT prog k=true) (ck:∀ s∈l,CallOK prog k [.agg (eG s.1 s.2),.fp (eP x)] [] (.lit (.bool (t s))) []):CallOK prog 159 [.sl (eS l),.clo k [.fp (eP x)]] [] (.lit (.int .i64 (i7 t l))) []:=by
 refine zs func159 19 [.tmp 4] results159 ?_
 simp only[aD,Ad]
 have hml:maxLen=9223372036854775807:=rfl
 have hl:(eS l).length=l.length:=Ao _
 repeat'(first|refine zk ?_|(refine zu ?_ ?_<;>intro hc)|(refine zv ?_ ?_<;>intro hg)|omega|simp -dsimp (disch:=try exact zo)only[go_sem,hl]|contradiction|rfl)
 refine AW.loop (fun z:{i:Nat // i≤l.length∧∀ j (hj:j<i) (h:j<l.length),t l[j]=false}=>⟨[(8,.lit (.int .i64 z.1)),(7,.lit (.int .i64 l.length)),(0,.sl (eS l)),(1,.clo k [.fp (eP x)])],[],60⟩) (fun z=>l.length - z.1) ⟨0,Nat.zero_le _,fun j hj=>by omega⟩ (aQ (by refine⟨?_,?_,?_,?_⟩<;>simp -dsimp (disch:=try exact zo)only[go_sem,xN,ZC])) ?_
 rintro⟨i,hi,hb⟩
 dsimp only
 by_cases hlt:i<l.length
 ·have es1:=oE l i hlt
  have cq:=ck l[i] (Ac hlt)
  by_cases q:t l[i]=true
  ·rw[c5y hlt (fun j hj=>hb j hj (by omega)) q]
   rw[q]at cq
   clear hb ck
   generalize l[i]=s at *
   obtain⟨sp,svs⟩:=s
   simp only[eG]at es1 cq
   repeat'(first|refine zk ?_|(refine zu ?_ ?_<;>intro hc)|(refine cX _ hk cq (by simp -dsimp (disch:=try exact zo)only[go_sem,xN]) (.lit _) ?_)|(refine zv ?_ ?_<;>intro hg)|omega|simp -dsimp (disch:=try exact zo)only[go_sem,hl,es1,ZT]|contradiction|rfl)
  ·have hb':∀ j (hj:j<i+1) (h:j<l.length),t l[j]=false:=fun j hj h=>by
    by_cases e:j=i
    ·subst e;simpa using q
    ·exact hb j (by omega) h
   simp only[Ae]at q
   rw[q]at cq
   clear hb ck q
   generalize l[i]=s at *
   obtain⟨sp,svs⟩:=s
   simp only[eG]at es1 cq
   generalize hQ:i7 t l=Q
   replace hb':=Hid.mk hb'
   repeat'(first|refine zk ?_|(refine zu ?_ ?_<;>intro hc)|(refine cX _ hk cq (by simp -dsimp (disch:=try exact zo)only[go_sem,xN]) (.lit _) ?_)|(refine zv ?_ ?_<;>intro hg)|omega|simp -dsimp (disch:=try exact zo)only[go_sem,hl,es1,ZT]|contradiction|rfl)
   all_goals exact AW.stop ⟨⟨i+1,by omega,hb'.out⟩,(aQ (by refine⟨?_,?_,?_,?_⟩<;>simp -dsimp (disch:=try exact zo)only[go_sem,xN,ZC])),by dsimp only;omega⟩
 ·have hil:i=l.length:=by omega
  rw[c5x (fun j hj=>hb j (by omega) hj)]
  clear hb ck
  subst hil
  exact z1
theorem c92 (l:aC) (k:Nat) (x:Pt) (t:Pl × List Pt→Bool) (hn:l.length≤1048576) (hk:fnT prog k=true) (ck:∀ s∈l,CallOK prog k [.agg (eG s.1 s.2),.fp (eP x)] [] (.lit (.bool (t s))) []):CallOK prog 92 [.sl (eS l),.clo k [.fp (eP x)]] [] (.lit (.bool (l.any t))) []:=by
 refine zs func92 9 [.tmp 4] results92 ?_
 simp only[aD,Ad]
 have cq:=c159 l k x t hn hk ck
 rw[← b3i]
 have hr:i7 t l<2147483648∧-2<i7 t l:=by
  unfold i7
  split
  ·have:=List.findIdx_le_length (xs:=l) (p:=t)
   omega
  ·omega
 generalize i7 t l=r at *
 clear ck
 exact z1
def nL (l:aC) (x:Pt):Bool:=l.any fun s=>decide (0<aB s.1 x)
def onP (l:aC) (x:Pt):Bool:=l.any fun s=>decide (aB s.1 x=0)
def qU (l:aC) (x:Pt):Int:=if l=[]then -1 else if nL l x then -1 else if onP l x then 0 else 1
theorem c91 (l:aC) (x:Pt) (hn:l.length≤1048576) (hp:∀ s∈l,BPl 1073741824 s.1) (hx:BPt 1073741824 x):CallOK prog 91 [.agg [.sl (eS l)],.agg (eP x)] [] (.lit (.bool (nL l x))) []:=by
 refine zs func91 9 [.tmp 4] results91 ?_
 simp only[aD,Ad]
 have cq:=c92 l 158 x (fun s=>decide (0<aB s.1 x)) hn c3v fun s hs=>c158 s.1 s.2 x (hp s hs) hx
 unfold nL
 generalize (l.any fun s=>decide (0<aB s.1 x))=r at *
 clear hp
 simp only[eP,e4]at cq
 simp only[eP,e4]
 repeat'(first|refine zk ?_|(refine zu ?_ ?_<;>intro hc)|(refine bU _ tV (by simp -dsimp (disch:=try exact zo)only[go_sem];exact cq) (by simp -dsimp (disch:=try exact zo)only[go_sem]) (.lit _) ?_)|(refine zv ?_ ?_<;>intro hg)|omega|simp -dsimp (disch:=try exact zo)only[go_sem]|contradiction|rfl)
theorem c30 (l:aC) (x:Pt) (hn:l.length≤1048576) (hp:∀ s∈l,BPl 1073741824 s.1) (hx:BPt 1073741824 x):CallOK prog 30 [.agg [.sl (eS l)],.agg (eP x)] [] (.lit (.int .i64 (qU l x))) []:=by
 refine zs func30 18 [.tmp 4] results30 ?_
 simp only[aD,Ad]
 have co:=c91 l x hn hp hx
 have cq:=c92 l 93 x (fun s=>decide (aB s.1 x=0)) hn c7o fun s hs=>c93 s.1 s.2 x (hp s hs) hx
 have hl:(eS l).length=l.length:=Ao _
 have hl0:(l=[])=((l.length:Int)=0):=by
  cases l with
  | nil=>simp
  | cons a l=>simp;omega
 unfold qU
 simp only[hl0]
 change CallOK _ _ _ _ (.lit (.bool (onP l x))) _ at cq
 generalize nL l x=o at *
 generalize onP l x=r at *
 clear hp hl0
 simp only[eP,e4]at cq co
 simp only[eP,e4]
 by_cases h0:(l.length:Int)=0
 ·simp only[h0,if_true]
  have hd:True:=trivial
  repeat'(first|refine zk ?_|(refine zu ?_ ?_<;>intro hc)|(refine bU _ tV (by simp -dsimp (disch:=try exact zo)only[go_sem];exact cq) (by simp -dsimp (disch:=try exact zo)only[go_sem]) (.lit _) ?_)|(refine zq co ?_)|(refine zv ?_ ?_<;>intro hg)|omega|simp -dsimp (disch:=try exact zo)only[go_sem,hl,h0]|contradiction|rfl)
 ·simp only[h0,if_false]
  have hd:decide ((l.length:Int)=0)=false:=decide_eq_false h0
  cases o
  ·cases r
   ·simp only[As,if_false]
    repeat'(first|refine zk ?_|(refine zu ?_ ?_<;>intro hc)|(refine bU _ tV (by simp -dsimp (disch:=try exact zo)only[go_sem];exact cq) (by simp -dsimp (disch:=try exact zo)only[go_sem]) (.lit _) ?_)|(refine zq co ?_)|(refine zv ?_ ?_<;>intro hg)|omega|simp -dsimp (disch:=try exact zo)only[go_sem,hl,h0,hd]|contradiction|rfl)
   ·simp only[As,if_false,if_true]
    repeat'(first|refine zk ?_|(refine zu ?_ ?_<;>intro hc)|(refine bU _ tV (by simp -dsimp (disch:=try exact zo)only[go_sem];exact cq) (by simp -dsimp (disch:=try exact zo)only[go_sem]) (.lit _) ?_)|(refine zq co ?_)|(refine zv ?_ ?_<;>intro hg)|omega|simp -dsimp (disch:=try exact zo)only[go_sem,hl,h0,hd]|contradiction|rfl)
  ·simp only[if_true]
   repeat'(first|refine zk ?_|(refine zu ?_ ?_<;>intro hc)|(refine bU _ tV (by simp -dsimp (disch:=try exact zo)only[go_sem];exact cq) (by simp -dsimp (disch:=try exact zo)only[go_sem]) (.lit _) ?_)|(refine zq co ?_)|(refine zv ?_ ?_<;>intro hg)|omega|simp -dsimp (disch:=try exact zo)only[go_sem,hl,h0,hd]|contradiction|rfl)
end Go.Proofs.Vx
namespace Go.Proofs.Vx
open Go Go.Sx Go.Proofs Tryz
attribute [local irreducible] fnT CallOK CallFr AW aI callV aL aJ aH aK gcaseP hid
theorem a5b (l:aC) (x:Pt):qU l x=cJ l x:=by
 unfold qU cJ
 by_cases h:l=[]
 ·rw[if_pos h,if_pos (.inl h)]
 ·rw[if_neg h]
  by_cases ho:nL l x=true
  ·have:kG l x=true:=ho
   rw[if_pos ho,if_pos (.inr this)]
  ·have h2:¬ (l=[]∨kG l x=true):=by rintro (e|e)<;>first|exact h e|exact ho e
   rw[if_neg ho,if_neg h2]
   rfl
end Go.Proofs.Vx
namespace Go.Proofs.Vx
open Go Go.Sx Go.Proofs Tryz
attribute [local irreducible] fnT CallOK CallFr AW aI callV aL aJ aH aK gcaseP hid
theorem a9v {α:Type} {l:List α} (nd:l.Nodup) {i j:Nat} (hi:i<l.length) (hj:j<l.length) (e:l[i]=l[j]):i=j:=by
 have hp:=List.pairwise_iff_getElem.1 nd
 rcases Nat.lt_trichotomy i j with h|h|h
 ·exact absurd e (hp i j hi hj h)
 ·exact h
 ·exact absurd e.symm (hp j i hj hi h)
theorem c5v (p:Pl) {a b x:Pt} (ha:0<a.w) (hb:0<b.w) (hx:0<x.w):0<oT p a b x↔0<Geo.ori (tH p).n (tv a) (tv b) (tv x):=by
 have qa:=kC ha
 have qb:=kC hb
 have qx:=kC hx
 have e:((oT p a b x:Int):Rat)=((a.w:Rat)*a.w*b.w*x.w)*Geo.ori (tH p).n (tv a) (tv b) (tv x):=by
  unfold oT Geo.ori tH tv
  simp only[Geo.dot,Geo.aA,Geo.dM,Geo.dL,Geo.dK,Rat.intCast_add,Rat.intCast_mul,Rat.intCast_sub,Rat.div_def]
  have ka:=Ah _ qa
  have kb:=Ah _ qb
  have kx:=Ah _ qx
  have e0:((0:Int):Rat)=0:=rfl
  rw[e0]
  have hb1:∀ u v:Rat,u*(a.w:Rat) - v*(b.w:Rat)=(a.w:Rat)*b.w*(u*(b.w:Rat)⁻¹ - v*(a.w:Rat)⁻¹):=fun u v=>by grind
  have hx1:∀ u v:Rat,u*(a.w:Rat) - v*(x.w:Rat)=(a.w:Rat)*x.w*(u*(x.w:Rat)⁻¹ - v*(a.w:Rat)⁻¹):=fun u v=>by grind
  simp only[hb1,hx1]
  generalize ((b.x:Rat)*(b.w:Rat)⁻¹ - (a.x:Rat)*(a.w:Rat)⁻¹)=u1
  generalize ((b.y:Rat)*(b.w:Rat)⁻¹ - (a.y:Rat)*(a.w:Rat)⁻¹)=u2
  generalize ((b.z:Rat)*(b.w:Rat)⁻¹ - (a.z:Rat)*(a.w:Rat)⁻¹)=u3
  generalize ((x.x:Rat)*(x.w:Rat)⁻¹ - (a.x:Rat)*(a.w:Rat)⁻¹)=v1
  generalize ((x.y:Rat)*(x.w:Rat)⁻¹ - (a.y:Rat)*(a.w:Rat)⁻¹)=v2
  generalize ((x.z:Rat)*(x.w:Rat)⁻¹ - (a.z:Rat)*(a.w:Rat)⁻¹)=v3
  clear hb1 hx1 ka kb kx
  grind
 have pa:(0:Rat)<(a.w:Rat):=Ag.2 ha
 have pb:(0:Rat)<(b.w:Rat):=Ag.2 hb
 have px:(0:Rat)<(x.w:Rat):=Ag.2 hx
 have pk:=Ap (Ap (Ap pa pa) pb) px
 rw[← Ag,e]
 constructor
 ·intro h
  exact Geo.mJ (by rwa [Rat.mul_comm]at h) pk
 ·intro h
  exact Ap pk h
theorem c1g {p:Pl} {vs:List Pt} (hw:∀ v∈vs,CanP v) (pv:Geo.PV (tH p).n (vs.map tv)):Lefts p vs:=by
 refine⟨fun i hi k hk j hj ek hji hjk=>?_⟩
 have nd:vs.Nodup:=Geo.sF pv.nd
 have hl:i<(Geo.edges vs).length:=by rw[Geo.fN];exact hi
 have he:(vs[i],vs[k])∈Geo.edges vs:=by
  have:=Ac hl
  rw[vY vs i hi hl]at this
  subst ek
  exact this
 have he2:(tv vs[i],tv vs[k])∈Geo.edges (vs.map tv):=by
  rw[Geo.y9]
  exact Ab.2 ⟨_,he,rfl⟩
 have c1:=hw _ (Ac hi)
 have c2:=hw _ (Ac hk)
 have c3:=hw _ (Ac hj)
 have n1:vs[j]≠vs[i]:=fun e=>hji (a9v nd _ _ e)
 have n2:vs[j]≠vs[k]:=fun e=>hjk (a9v nd _ _ e)
 exact (c5v p c1.w c2.w c3.w).2 (pv.lf _ he2 _ (Aa (Ac hj)) (fun e=>n1 (iE c3 c1 e)) (fun e=>n2 (iE c3 c2 e)))
theorem c6f {l:aC} (h:CellOK l) (hH:∀ s∈l,CanH s.1) {s:Pl × List Pt} (hs:s∈l):FineG s.1 s.2:=by
 have pv:=h.cell.pv (sd s) (Aa hs)
 refine⟨hH s hs,h.can s hs,?_,fun v hv=>?_,c1g (h.can s hs) pv⟩
 ·have:=pv.len
  simpa [sd]using this
 ·have:=h.cell.pl (sd s) (Aa hs) (tv v) (Aa hv)
  exact mW.2 ((jN s.1 (h.w hs v hv)).1 this)
theorem c1u {l:aC} (h:CellOK l):(esP l).Nodup:=by
 have:=h.cell.nd
 rw[a2e]at this
 exact Geo.sF this
theorem es_sw {l:aC} (h:CellOK l) {e:Pt × Pt} (he:e∈esP l):Geo.sw e∈esP l:=by
 have hc:=h.cell.cl
 rw[a2e]at hc
 have hcan:=es_w h.toCanC
 have h1:tv2 (Geo.sw e)∈((esP l).map tv2).map Geo.sw:=by
  rw[At]
  exact Ab.2 ⟨e,he,rfl⟩
 obtain⟨e',he',q⟩:=Ab.1 (hc.mem_iff.2 h1)
 have q1:=iE (hcan e' he').1 (hcan e he).2 (congrArg Prod.fst q)
 have q2:=iE (hcan e' he').2 (hcan e he).1 (congrArg Prod.snd q)
 have:e'=Geo.sw e:=Prod.ext q1 q2
 rwa [← this]
theorem c0b (p:Pl):Geo.Prp (tH p) (tH p):=⟨1,by decide,fun x=>by rw[Rat.one_mul]⟩
theorem b2v {l:aC} (h:CellOK l):(l.map (·.1)).Nodup:=by
 have:=h.cell.dist
 unfold sds at this
 rw[List.pairwise_map]at this
 refine List.Pairwise.map _ ?_ this
 rintro s t hst e
 exact hst (by show Geo.Prp (tH s.1) (tH t.1);rw[show s.1=t.1 from e];exact c0b _)
theorem c5i {l:aC} (h:CellOK l) {x:Pt} (hx:x∈bX l):nL l x=false:=by
 have hc:qU l x=0:=by rw[a5b];exact c2t h hx
 unfold qU at hc
 rw[if_neg h.ne]at hc
 by_cases ho:nL l x=true
 ·rw[if_pos ho]at hc;exact absurd hc (by decide)
 ·simpa using ho
end Go.Proofs.Vx
