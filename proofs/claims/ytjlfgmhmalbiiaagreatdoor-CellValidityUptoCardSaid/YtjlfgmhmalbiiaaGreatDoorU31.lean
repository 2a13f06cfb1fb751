import Derived.Test.YtjlfgmhmalbiiaaGreatDoorProg
import Derived.Test.YtjlfgmhmalbiiaaGreatDoorU05
import Derived.Test.YtjlfgmhmalbiiaaGreatDoorU07
import Derived.Test.YtjlfgmhmalbiiaaGreatDoorU10
import Derived.Test.YtjlfgmhmalbiiaaGreatDoorU11
import Derived.Test.YtjlfgmhmalbiiaaGreatDoorU25
import Derived.Test.YtjlfgmhmalbiiaaGreatDoorU26
import Derived.Test.YtjlfgmhmalbiiaaGreatDoorU30
set_option linter.all false
namespace Go.Sx
open Geo (H V Sd)
set_option linter.unusedVariables false
def Rot {α:Type} (a b:List α):Prop:=∃ A B,a=A++B∧b=B++A
theorem Rot.refl {α:Type} (a:List α):Rot a a:=⟨a,[],by simp,by simp⟩
theorem Rot.perm {α:Type} {a b:List α} (h:Rot a b):a.Perm b:=by obtain ⟨A,B,rfl,rfl⟩:=h;exact List.perm_append_comm
theorem Rot.edges {α:Type} {a b:List α} (h:Rot a b):(Geo.edges a).Perm (Geo.edges b):=by obtain ⟨A,B,rfl,rfl⟩:=h;exact Geo.edges_rot A B
theorem Rot.flat {α β:Type} {a b:List α} (f:α × α→List β) (h:Rot a b):Rot ((Geo.edges a).flatMap f) ((Geo.edges b).flatMap f):=by
 obtain ⟨A,B,rfl,rfl⟩:=h
 cases A with
 | nil=>rw[List.nil_append,List.append_nil];exact Rot.refl _
 | cons x A=>cases B with
  | nil=>rw[List.nil_append,List.append_nil];exact Rot.refl _
  | cons y B =>
   refine ⟨(Geo.path (x::A++[y])).flatMap f,(Geo.path (y::B++[x])).flatMap f,?_,?_⟩
   ·rw[Geo.edges_append,List.flatMap_append]
   ·rw[Geo.edges_append,List.flatMap_append]
theorem Rot.any {α:Type} {a b:List α} (f:α→Bool) (h:Rot a b):a.any f=b.any f:=by
 obtain ⟨A,B,rfl,rfl⟩:=h
 rw[List.any_append,List.any_append,Bool.or_comm]
def SR (s t:Pl × List Pt):Prop:=s.1=t.1∧Rot s.2 t.2
inductive RL:PCell→PCell→Prop
 | nil:RL [] []
 | cons {s t:Pl × List Pt} {l m:PCell} (h:SR s t) (r:RL l m):RL (s::l) (t::m)
def RC (l m:PCell):Prop:=∃ k,l.Perm k∧RL k m
theorem RL.append {l m l' m':PCell} (h:RL l m) (k:RL l' m'):RL (l++l') (m++m'):=by
 induction h with
 | nil=>exact k
 | cons h _ ih=>exact .cons h ih
theorem RC.append {l m l' m':PCell} (h:RC l m) (k:RC l' m'):RC (l++l') (m++m'):=by
 obtain ⟨a,h1,h2⟩:=h
 obtain ⟨b,k1,k2⟩:=k
 exact ⟨a++b,h1.append k1,h2.append k2⟩
theorem RL.length {l m:PCell} (h:RL l m):l.length=m.length:=by
 induction h with
 | nil=>rfl
 | cons _ _ ih=>simp[ih]
theorem RC.length {l m:PCell} (h:RC l m):l.length=m.length:=by obtain ⟨k,h1,h2⟩:=h;rw[h1.length_eq,h2.length]
theorem RL.mem {l m:PCell} (h:RL l m):(∀ s∈l,∃ t∈m,SR s t)∧∀ t∈m,∃ s∈l,SR s t:=by
 induction h with
 | nil=>exact ⟨by simp,by simp⟩
 | cons h _ ih =>
  refine ⟨fun s hs=>?_,fun t ht=>?_⟩
  ·rcases List.mem_cons.1 hs with rfl|hs
   ·exact ⟨_,by simp,h⟩
   ·obtain ⟨t,ht,k⟩:=ih.1 s hs;exact ⟨t,by simp[ht],k⟩
  ·rcases List.mem_cons.1 ht with rfl|ht
   ·exact ⟨_,by simp,h⟩
   ·obtain ⟨s,hs,k⟩:=ih.2 t ht;exact ⟨s,by simp[hs],k⟩
theorem RC.mem {l m:PCell} (h:RC l m):(∀ s∈l,∃ t∈m,SR s t)∧∀ t∈m,∃ s∈l,SR s t:=by
 obtain ⟨k,h1,h2⟩:=h
 refine ⟨fun s hs=>h2.mem.1 s (h1.mem_iff.1 hs),fun t ht=>?_⟩
 obtain ⟨s,hs,k⟩:=h2.mem.2 t ht
 exact ⟨s,h1.mem_iff.2 hs,k⟩
theorem RC.any {l m:PCell} (f:Pl × List Pt→Bool) (hf:∀ s t,SR s t→f s=f t) (h:RC l m):l.any f=m.any f:=by
 apply Bool.eq_iff_iff.2
 simp only[List.any_eq_true]
 constructor
 ·rintro ⟨s,hs,e⟩;obtain ⟨t,ht,k⟩:=h.mem.1 s hs;exact ⟨t,ht,by rw[← hf s t k];exact e⟩
 ·rintro ⟨t,ht,e⟩;obtain ⟨s,hs,k⟩:=h.mem.2 t ht;exact ⟨s,hs,by rw[hf s t k];exact e⟩
theorem RC.front {l m:PCell} (h:RC l m) (b:Pl):frontB b l=frontB b m:=h.any _ fun s t k=>k.2.any _
theorem RC.corner {l m:PCell} (h:RC l m) (x:Pt):(∃ s∈m,x∈s.2)↔∃ s∈l,x∈s.2:=by
 constructor
 ·rintro ⟨t,ht,e⟩;obtain ⟨s,hs,k⟩:=h.mem.2 t ht;exact ⟨s,hs,k.2.perm.mem_iff.2 e⟩
 ·rintro ⟨s,hs,e⟩;obtain ⟨t,ht,k⟩:=h.mem.1 s hs;exact ⟨t,ht,k.2.perm.mem_iff.1 e⟩
theorem RC.bd {l m:PCell} (h:RC l m) {S M K:Nat} (hb:Bd S M K m):Bd S M K l:=by
 refine ⟨by rw[h.length];exact hb.n,fun s hs=>?_,fun s hs v hv=>?_,fun s hs=>?_⟩<;>obtain ⟨t,ht,k⟩:=h.mem.1 s hs
 ·rw[k.2.perm.length_eq];exact hb.m t ht
 ·exact hb.k t ht v (k.2.perm.mem_iff.1 hv)
 ·rw[k.1];exact hb.p t ht
theorem RL.filterMap {l m:PCell} (f:Pl × List Pt→Option (Pl × List Pt)) (hf:∀ s t,SR s t→(f s=none∧f t=none)∨∃ s' t',f s=some s'∧f t=some t'∧SR s' t') (h:RL l m):RL (l.filterMap f) (m.filterMap f):=by
 induction h with
 | nil=>exact .nil
 | cons h _ ih =>
  rcases hf _ _ h with ⟨h1,h2⟩|⟨s',t',h1,h2,h3⟩
  ·rw[List.filterMap_cons_none h1,List.filterMap_cons_none h2];exact ih
  ·rw[List.filterMap_cons_some h1,List.filterMap_cons_some h2];exact .cons h3 ih
theorem RC.filterMap {l m:PCell} (f:Pl × List Pt→Option (Pl × List Pt)) (hf:∀ s t,SR s t→(f s=none∧f t=none)∨∃ s' t',f s=some s'∧f t=some t'∧SR s' t') (h:RC l m):RC (l.filterMap f) (m.filterMap f):=by
 obtain ⟨k,h1,h2⟩:=h
 exact ⟨k.filterMap f,h1.filterMap f,h2.filterMap f hf⟩
theorem RC.es {l m:PCell} (h:RC l m):(esP l).Perm (esP m):=by
 obtain ⟨k,h1,h2⟩:=h
 refine (h1.flatMap_right _).trans ?_
 clear h1
 induction h2 with
 | nil=>exact List.Perm.refl _
 | cons h _ ih=>exact (h.2.edges).append ih
theorem RC.bhs {l m:PCell} (h:RC l m) (b:Pl):RC (bh b l) (bh b m):=by
 refine h.filterMap _ fun s t k=>?_
 have e:someT (-1) b s.2 s.2.length=someT (-1) b t.2 t.2.length:=by unfold someT;rw[List.take_length,List.take_length];exact k.2.any _
 by_cases q:someT (-1) b t.2 t.2.length=true
 ·exact .inr ⟨_,_,if_pos (e.trans q),if_pos q,k.1,k.2.flat _⟩
 ·exact .inl ⟨if_neg (by rw[e];exact q),if_neg q⟩
theorem runP'_add (nx:Pt→Pt) (i j:Nat) (x:Pt):runP' nx (i+j) x=runP' nx i x++runP' nx j (itP nx i x):=by
 induction i generalizing x with
 | zero=>rw[Nat.zero_add];rfl
 | succ i ih=>rw[Nat.succ_add,runP',ih (nx x)];rfl
theorem runP'_congr {S:List Pt} {nx ny:Pt→Pt} (h:∀ x∈S,nx x=ny x∧nx x∈S) (n:Nat) {x:Pt} (hx:x∈S):runP' nx n x=runP' ny n x:=by
 induction n generalizing x with
 | zero=>rfl
 | succ n ih=>rw[runP',runP',← (h x hx).1,ih (h x hx).2]
theorem itP_mem {S:List Pt} {nx:Pt→Pt} (h:∀ x∈S,nx x∈S) (n:Nat) {x:Pt} (hx:x∈S):itP nx n x∈S:=by
 induction n with
 | zero=>exact hx
 | succ n ih=>rw[itP_succ];exact h _ ih
theorem CapF.cl {b:Pl} {l:PCell} (C:CapF b l):∀ x∈(heP b l).map (·.2),nxP ((heP b l).map Geo.sw) x∈(heP b l).map (·.2):=by
 intro x hx
 obtain ⟨e,he,rfl⟩:=List.mem_map.1 hx
 rw[C.nx e he];exact C.io e he
theorem run_mem {S:List Pt} {nx:Pt→Pt} (h:∀ x∈S,nx x∈S) (n:Nat) {x:Pt} (hx:x∈S):∀ v∈runP' nx n x,v∈S:=by
 induction n generalizing x with
 | zero=>intro v hv;simp[runP']at hv
 | succ n ih =>
  intro v hv
  rw[runP']at hv
  rcases List.mem_cons.1 hv with rfl|hv
  ·exact hx
  ·exact ih (h x hx) v hv
theorem CapF.rot {b : Pl} {l : PCell} (h : CellOK l) (C : CapF b l) {f f' : Pt} (hf : f ∈ (heP b l).map (·.2)) (hf' : f' ∈ (heP b l).map (·.2)) :
  Rot (runP' (nxP ((heP b l).map Geo.sw)) (heP b l).length f) (runP' (nxP ((heP b l).map Geo.sw)) (heP b l).length f'):=by
 have hcan:∀ x∈(heP b l).map (·.2),CanP x:=fun x hx=>by
  obtain ⟨e,he,rfl⟩:=List.mem_map.1 hx
  exact (es_w (bh_can h.toCanC) e (List.mem_filter.1 he).1).2
 have hcan1:∀ e∈heP b l,CanP e.1:=fun e he=>(es_w (bh_can h.toCanC) e (List.mem_filter.1 he).1).1
 obtain ⟨K,hK⟩:=C.run f hf
 have hcl:=C.cl
 have hnx:=C.nx
 have hn:0<(heP b l).length:=List.length_pos_iff.2 C.ne
 have hrl:=runP'_length (nxP ((heP b l).map Geo.sw)) (heP b l).length f
 have hrm:=run_mem hcl (heP b l).length hf
 have hed:=K.ed
 rw[C.hHE]at hed
 generalize hnxq:nxP ((heP b l).map Geo.sw)=nx at *
 generalize hnq:(heP b l).length=n at *
 have hret:itP nx n f=f:=by
  obtain ⟨k,rfl⟩:∃ k,n=k+1:=⟨n - 1,by omega⟩
  have hz:=itP_mem hcl k hf
  rw[itP_succ]
  have hmem:(tv (itP nx k f),tv f)∈Geo.edges ((runP' nx (k+1) f).map tv):=by
   rw[runP'_succ]
   cases k with
   | zero=>simp[runP',itP,Geo.edges,Geo.path]
   | succ k =>
    rw[runP',List.map_append,List.map_cons]
    rw[show ([itP nx (k+1) f].map tv)=tv (itP nx (k+1) f)::[]from rfl,Geo.edges_append]
    simp[Geo.path]
  obtain ⟨e2,h2,h3⟩:=List.mem_map.1 (hed.mem_iff.1 hmem)
  obtain ⟨e,he,rfl⟩:=List.mem_map.1 h2
  have q1:tv e.2=tv (itP nx k f):=congrArg Prod.fst h3
  have q2:tv e.1=tv f:=congrArg Prod.snd h3
  have r1:e.2=itP nx k f:=tv_inj (hcan _ (List.mem_map_of_mem he)) (hcan _ hz) q1
  have r2:e.1=f:=tv_inj (hcan1 e he) (hcan f hf) q2
  rw[← r1,hnx e he,r2]
 have hmet:f'∈runP' nx n f:=by
  have h1:(Geo.edges ((runP' nx n f).map tv)).map (·.1)=(runP' nx n f).map tv:=Geo.edges_fst _
  have h2:tv f'∈(runP' nx n f).map tv:=by
   rw[← h1]
   obtain ⟨e,he,rfl⟩:=List.mem_map.1 hf'
   exact List.mem_map.2 ⟨Geo.sw (tv2 e),hed.mem_iff.2 (List.mem_map_of_mem (List.mem_map_of_mem he)),rfl⟩
  obtain ⟨y,hy,e⟩:=List.mem_map.1 h2
  rw[← tv_inj (hcan y (hrm y hy)) (hcan f' hf') e];exact hy
 have hat:∀ (n:Nat) (x y:Pt),y∈runP' nx n x→∃ i,i<n∧y=itP nx i x:=by
  intro n
  induction n with
  | zero=>intro x y hy;simp[runP']at hy
  | succ n ih =>
   intro x y hy
   rw[runP']at hy
   rcases List.mem_cons.1 hy with rfl|hy
   ·exact ⟨0,by omega,rfl⟩
   ·obtain ⟨i,hi,e⟩:=ih _ _ hy
    exact ⟨i+1,by omega,e⟩
 obtain ⟨i,hi,e⟩:=hat n f f' hmet
 have hadd:∀ (i j:Nat) (x:Pt),itP nx (i+j) x=itP nx j (itP nx i x):=by
  intro i
  induction i with
  | zero=>intro j x;rw[Nat.zero_add];rfl
  | succ i ih=>intro j x;rw[Nat.succ_add];exact ih j (nx x)
 refine ⟨runP' nx i f,runP' nx (n - i) f',?_,?_⟩
 ·rw[e,← runP'_add,show i+(n - i)=n by omega]
 ·have:itP nx (n - i) f'=f:=by rw[e,← hadd,show i+(n - i)=n by omega,hret]
  conv=>rhs;rhs;rw[← this]
  rw[← runP'_add,show n - i+i=n by omega]
def capR (b:Pl) (l:PCell):List Pt:=runP' (nxP (((esP l).filter (onE b)).map Geo.sw)) ((esP l).filter (onE b)).length ((((esP l).filter (onE b)).map (·.2)).headD P0)
def bcellR (b:Pl) (l:PCell):PCell:=bh b l++[(b,capR b (bh b l))]
theorem heR {b:Pl} {l:PCell}:(esP (bh b l)).filter (onE b)=heP b l:=rfl
theorem headD_mem {α:Type} {d:α} {l:List α} (h:l≠[]):l.headD d∈l:=by
 cases l with
 | nil=>exact absurd rfl h
 | cons x l=>simp
theorem capR_eq {b:Pl} {l:PCell} (C:CapF b l):∃ f∈(heP b l).map (·.2),capR b (bh b l)=runP' (nxP ((heP b l).map Geo.sw)) (heP b l).length f :=
 ⟨((heP b l).map (·.2)).headD P0,headD_mem (by simpa using C.ne),by unfold capR;rw[heR]⟩
theorem nx_perm {m m':List (Pt × Pt)} (h:m.Perm m') (hn:(m.map (·.1)).Nodup) {k:Pt} (hk:k∈m.map (·.1)):nxP m k=nxP m' k:=by
 obtain ⟨e,he,rfl⟩:=List.mem_map.1 hk
 rw[find_key hn he,find_key ((h.map (·.1)).nodup_iff.1 hn) (h.mem_iff.1 he)]
theorem RC.cell {l m:PCell} (h:RC l m) (hl:CellOK l) (hm:CellOK m) {b:Pl} (h1:Geo.Spl (sds l) (tH b)) (h2:Geo.Spl (sds m) (tH b)):RC (bcellR b l) (bcell b m):=by
 have C:=capF_of hl h1
 have D:=capF_of hm h2
 have hb:=h.bhs b
 have hp:(heP b l).Perm (heP b m):=hb.es.filter _
 obtain ⟨f,hf,e⟩:=capR_eq C
 obtain ⟨f',hf',e'⟩:=D.ex
 have hn:(((heP b l).map Geo.sw).map (·.1)).Nodup:=by rw[List.map_map];exact C.nd
 have hk:∀ x∈(heP b l).map (·.2),nxP ((heP b l).map Geo.sw) x=nxP ((heP b m).map Geo.sw) x:=fun x hx=>nx_perm (hp.map _) hn (by rw[List.map_map];exact hx)
 have hf2:f'∈(heP b l).map (·.2):=(hp.map _).mem_iff.2 hf'
 refine hb.append ⟨[(b,capR b (bh b l))],List.Perm.refl _,.cons ⟨rfl,?_⟩ .nil⟩
 show Rot (capR b (bh b l)) (capP b (bh b m))
 rw[e,e',← hp.length_eq,← runP'_congr (S:=(heP b l).map (·.2)) (fun x hx=>⟨hk x hx,C.cl x hx⟩) _ hf2]
 exact C.rot hl hf hf2
end Go.Sx
namespace Go.Proofs.Vx
open Go Go.Sx Go.Proofs
attribute [local irreducible] fnT CallOK CallFr AW effV callV runP runO oneP oneO gcaseP hid
theorem yfn_30:fnT Tryz.prog 30=true:=by kernel_rfl
theorem yfn_91:fnT Tryz.prog 91=true:=by kernel_rfl
theorem yfn_92:fnT Tryz.prog 92=true:=by kernel_rfl
theorem yfn_93:fnT Tryz.prog 93=true:=by kernel_rfl
theorem yfn_158:fnT Tryz.prog 158=true:=by kernel_rfl
theorem yfn_159:fnT Tryz.prog 159=true:=by kernel_rfl
set_option maxHeartbeats 1600000 in
theorem c158 (p:Pl) (vs:List Pt) (x:Pt) (hp:BPl 1073741824 p) (hx:BPt 1073741824 x):CallOK Tryz.prog 158 [.agg (eG p vs),.fp (eP x)] [] (.lit (.bool (decide (0<sideP p x)))) []:=by
 refine CallOK.flat Tryz.func158 rfl 9 rfl rfl rfl [.tmp 3] (congrArg Array.toList Tryz.results158) ?_
 simp only[startT,Nat.reduceAdd]
 simp only[eG]
 repeat' (first|refine zg ?_|(refine AW.cond rfl ?_ ?_<;>intro hc<;>first|simp only[NM]at hc|omega|skip)|refine zr ?_|(refine callV.flat _ yfn_34 (c34 p x hp hx) rfl rfl ?_)|refine ⟨by omega,?_⟩|(refine zb ?_ ?_<;>intro hg<;>(try rw[hg])<;>try simp only[NM]at hg)|omega|simp -dsimp (disch:=try exact zo) only[go_sem,eH,e4]|contradiction|rfl)
theorem eP_in1 {K:Nat→Prop} (x:Pt):(∀ c∈eP x,In K c)=True:=eq_true fun c hc=>(eP_flat [x] (eP x) (by simp) c hc).inn
def idxP (t:Pl × List Pt→Bool) (l:PCell):Int:=if l.any t then (l.findIdx t:Int)else -1
theorem idxP_at {t:Pl × List Pt→Bool} {l:PCell} {i:Nat} (h:i<l.length) (hb:∀ j (hj:j<i),t (l[j]'(by omega))=false) (hi:t l[i]=true):idxP t l=i:=by
 unfold idxP
 rw[if_pos (List.any_eq_true.2 ⟨l[i],List.getElem_mem h,hi⟩)]
 have:l.findIdx t=i:=(List.findIdx_eq h).2 ⟨hi,fun j hj=>hb j hj⟩
 rw[this]
theorem idxP_no {t:Pl × List Pt→Bool} {l:PCell} (hb:∀ j (hj:j<l.length),t l[j]=false):idxP t l=-1:=by
 unfold idxP
 rw[if_neg]
 rw[Bool.not_eq_true,List.any_eq_false]
 intro s hs
 obtain ⟨j,hj,rfl⟩:=List.mem_iff_getElem.1 hs
 rw[hb j hj];decide
theorem idxP_nonneg (t:Pl × List Pt→Bool) (l:PCell):(decide (0≤idxP t l))=l.any t:=by
 unfold idxP
 by_cases h:l.any t=true
 ·rw[if_pos h,h];simp
 ·rw[if_neg h];simp only[Bool.not_eq_true]at h;rw[h];decide
set_option maxHeartbeats 1600000 in
theorem c159 (l:PCell) (k:Nat) (x:Pt) (t:Pl × List Pt→Bool) (hn:l.length≤1048576) (hk:fnT Tryz.prog k=true) (ck:∀ s∈l,CallOK Tryz.prog k [.agg (eG s.1 s.2),.fp (eP x)] [] (.lit (.bool (t s))) []):CallOK Tryz.prog 159 [.sl (eS l),.clo k [.fp (eP x)]] [] (.lit (.int .i64 (idxP t l))) []:=by
 refine CallOK.flat Tryz.func159 rfl 19 rfl rfl rfl [.tmp 4] (congrArg Array.toList Tryz.results159) ?_
 simp only[startT,Nat.reduceAdd]
 have hml:maxLen=9223372036854775807:=rfl
 have hl:(eS l).length=l.length:=List.length_map _
 repeat' (first|refine zg ?_|(refine AW.cond rfl ?_ ?_<;>intro hc<;>try simp only[NM]at hc)|refine zr ?_|refine ⟨by omega,?_⟩|(refine zb ?_ ?_<;>intro hg<;>(try rw[hg])<;>try simp only[NM]at hg)|omega|simp -dsimp (disch:=try exact zo) only[go_sem,hl]|contradiction|rfl)
 refine AW.loop (fun z:{i:Nat // i≤l.length∧∀ j (hj:j<i) (h:j<l.length),t l[j]=false}=>⟨[(8,.lit (.int .i64 z.1)),(7,.lit (.int .i64 l.length)),(0,.sl (eS l)),(1,.clo k [.fp (eP x)])],[],60⟩) (fun z=>l.length - z.1) ⟨0,Nat.zero_le _,fun j hj=>by omega⟩ (Weak.t4 (by refine ⟨?_,?_,?_,?_⟩<;>simp -dsimp (disch:=try exact zo) only[go_sem,eS_in,eP_in1,ZC])) ?_
 rintro ⟨i,hi,hb⟩
 dsimp only
 by_cases hlt:i<l.length
 ·have es1:=eS_getD l i hlt
  have cq:=ck l[i] (List.getElem_mem hlt)
  by_cases q:t l[i]=true
  ·rw[idxP_at hlt (fun j hj=>hb j hj (by omega)) q]
   rw[q]at cq
   clear hb ck
   generalize l[i]=s at *
   obtain ⟨sp,svs⟩:=s
   simp only[eG]at es1 cq
   repeat' (first|refine zg ?_|(refine AW.cond rfl ?_ ?_<;>intro hc<;>first|simp only[NM]at hc|omega|skip)|refine zr ?_|(refine callV.plain _ hk cq (by simp -dsimp (disch:=try exact zo) only[go_sem,eP_in,eP_in1]) (.lit _) ?_)|refine ⟨by omega,?_⟩|(refine zb ?_ ?_<;>intro hg<;>(try rw[hg])<;>try simp only[NM]at hg)|omega|simp -dsimp (disch:=try exact zo) only[go_sem,hl,es1,ZT,eS_in]|contradiction|rfl)
  ·have hb':∀ j (hj:j<i+1) (h:j<l.length),t l[j]=false:=fun j hj h=>by
    by_cases e:j=i
    ·subst e;simpa using q
    ·exact hb j (by omega) h
   simp only[Bool.not_eq_true]at q
   rw[q]at cq
   clear hb ck q
   generalize l[i]=s at *
   obtain ⟨sp,svs⟩:=s
   simp only[eG]at es1 cq
   generalize hQ:idxP t l=Q
   replace hb':=Hid.mk hb'
   repeat' (first|refine zg ?_|(refine AW.cond rfl ?_ ?_<;>intro hc<;>first|simp only[NM]at hc|omega|skip)|refine zr ?_|(refine callV.plain _ hk cq (by simp -dsimp (disch:=try exact zo) only[go_sem,eP_in,eP_in1]) (.lit _) ?_)|refine ⟨by omega,?_⟩|(refine zb ?_ ?_<;>intro hg<;>(try rw[hg])<;>try simp only[NM]at hg)|omega|simp -dsimp (disch:=try exact zo) only[go_sem,hl,es1,ZT,eS_in]|contradiction|rfl)
   all_goals exact AW.stop ⟨⟨i+1,by omega,hb'.out⟩,(Weak.t4 (by refine ⟨?_,?_,?_,?_⟩<;>simp -dsimp (disch:=try exact zo) only[go_sem,eS_in,eP_in1,ZC])),by dsimp only;omega⟩
 ·have hil:i=l.length:=by omega
  rw[idxP_no (fun j hj=>hb j (by omega) hj)]
  clear hb ck
  subst hil
  repeat' (first|refine zg ?_|(refine AW.cond rfl ?_ ?_<;>intro hc<;>first|simp only[NM]at hc|omega|skip)|refine zr ?_|refine ⟨by omega,?_⟩|(refine zb ?_ ?_<;>intro hg<;>(try rw[hg])<;>try simp only[NM]at hg)|omega|simp -dsimp (disch:=try exact zo) only[go_sem,hl]|contradiction|rfl)
set_option maxHeartbeats 1600000 in
theorem c92 (l:PCell) (k:Nat) (x:Pt) (t:Pl × List Pt→Bool) (hn:l.length≤1048576) (hk:fnT Tryz.prog k=true) (ck:∀ s∈l,CallOK Tryz.prog k [.agg (eG s.1 s.2),.fp (eP x)] [] (.lit (.bool (t s))) []):CallOK Tryz.prog 92 [.sl (eS l),.clo k [.fp (eP x)]] [] (.lit (.bool (l.any t))) []:=by
 refine CallOK.flat Tryz.func92 rfl 9 rfl rfl rfl [.tmp 4] (congrArg Array.toList Tryz.results92) ?_
 simp only[startT,Nat.reduceAdd]
 have cq:=c159 l k x t hn hk ck
 rw[← idxP_nonneg]
 have hr:idxP t l<2147483648∧-2<idxP t l:=by
  unfold idxP
  split
  ·have:=List.findIdx_le_length (xs:=l) (p:=t)
   omega
  ·omega
 generalize idxP t l=r at *
 clear ck
 repeat' (first|refine zg ?_|(refine AW.cond rfl ?_ ?_<;>intro hc<;>first|simp only[NM]at hc|omega|skip)|refine zr ?_|(refine callV.plain _ yfn_159 cq (by simp -dsimp (disch:=try exact zo) only[go_sem,eS_in,eP_in1]) (.lit _) ?_)|refine ⟨by omega,?_⟩|(refine zb ?_ ?_<;>intro hg<;>(try rw[hg])<;>try simp only[NM]at hg)|omega|simp -dsimp (disch:=try exact zo) only[go_sem]|contradiction|rfl)
def outP (l:PCell) (x:Pt):Bool:=l.any fun s=>decide (0<sideP s.1 x)
def onP (l:PCell) (x:Pt):Bool:=l.any fun s=>decide (sideP s.1 x=0)
def classP (l:PCell) (x:Pt):Int:=if l=[]then -1 else if outP l x then -1 else if onP l x then 0 else 1
set_option maxHeartbeats 1600000 in
theorem c91 (l:PCell) (x:Pt) (hn:l.length≤1048576) (hp:∀ s∈l,BPl 1073741824 s.1) (hx:BPt 1073741824 x):CallOK Tryz.prog 91 [.agg [.sl (eS l)],.agg (eP x)] [] (.lit (.bool (outP l x))) []:=by
 refine CallOK.flat Tryz.func91 rfl 9 rfl rfl rfl [.tmp 4] (congrArg Array.toList Tryz.results91) ?_
 simp only[startT,Nat.reduceAdd]
 have cq:=c92 l 158 x (fun s=>decide (0<sideP s.1 x)) hn yfn_158 fun s hs=>c158 s.1 s.2 x (hp s hs) hx
 unfold outP
 generalize (l.any fun s=>decide (0<sideP s.1 x))=r at *
 clear hp
 simp only[eP,e4]at cq
 simp only[eP,e4]
 repeat' (first|refine zg ?_|(refine AW.cond rfl ?_ ?_<;>intro hc<;>first|simp only[NM]at hc|omega|skip)|refine zr ?_|(refine callV.lend _ yfn_92 (by simp -dsimp (disch:=try exact zo) only[go_sem];exact cq) (by simp -dsimp (disch:=try exact zo) only[go_sem,eS_in]) (.lit _) ?_)|refine ⟨by omega,?_⟩|(refine zb ?_ ?_<;>intro hg<;>(try rw[hg])<;>try simp only[NM]at hg)|omega|simp -dsimp (disch:=try exact zo) only[go_sem]|contradiction|rfl)
end Go.Proofs.Vx
namespace Go.Proofs.Vx
open Go Go.Sx Go.Proofs
attribute [local irreducible] fnT CallOK CallFr AW effV callV runP runO oneP oneO gcaseP hid
theorem yfn_33:fnT Tryz.prog 33=true:=by kernel_rfl
theorem classP_eq (l:PCell) (x:Pt):classP l x=clsP l x:=by
 unfold classP clsP
 by_cases h:l=[]
 ·rw[if_pos h,if_pos (.inl h)]
 ·rw[if_neg h]
  by_cases ho:outP l x=true
  ·have:outB l x=true:=ho
   rw[if_pos ho,if_pos (.inr this)]
  ·have h2:¬ (l=[]∨outB l x=true):=by rintro (e|e)<;>first|exact h e|exact ho e
   rw[if_neg ho,if_neg h2]
   rfl
end Go.Proofs.Vx
namespace Go.Proofs.Vx
open Go Go.Sx Go.Proofs
attribute [local irreducible] fnT CallOK CallFr AW effV callV runP runO oneP oneO gcaseP hid
theorem nd_inj {α:Type} {l:List α} (nd:l.Nodup) {i j:Nat} (hi:i<l.length) (hj:j<l.length) (e:l[i]=l[j]):i=j:=by
 have hp:=List.pairwise_iff_getElem.1 nd
 rcases Nat.lt_trichotomy i j with h|h|h
 ·exact absurd e (hp i j hi hj h)
 ·exact h
 ·exact absurd e.symm (hp j i hj hi h)
theorem left_tv (p:Pl) {a b x:Pt} (ha:0<a.w) (hb:0<b.w) (hx:0<x.w):0<leftP p a b x↔0<Geo.ori (tH p).n (tv a) (tv b) (tv x):=by
 have qa:=w_ne ha
 have qb:=w_ne hb
 have qx:=w_ne hx
 have e:((leftP p a b x:Int):Rat)=((a.w:Rat)*a.w*b.w*x.w)*Geo.ori (tH p).n (tv a) (tv b) (tv x):=by
  unfold leftP Geo.ori tH tv
  simp only[Geo.dot,Geo.cross,Geo.sub_x,Geo.sub_y,Geo.sub_z,Rat.intCast_add,Rat.intCast_mul,Rat.intCast_sub,Rat.div_def]
  have ka:=Rat.mul_inv_cancel _ qa
  have kb:=Rat.mul_inv_cancel _ qb
  have kx:=Rat.mul_inv_cancel _ qx
  have e0:((0:Int):Rat)=0:=rfl
  rw[e0]
  have hb1:∀ u v:Rat,u*(a.w:Rat) - v*(b.w:Rat)=(a.w:Rat)*b.w*(u*(b.w:Rat)⁻¹ - v*(a.w:Rat)⁻¹):=fun u v=>by grind
  have hx1:∀ u v:Rat,u*(a.w:Rat) - v*(x.w:Rat)=(a.w:Rat)*x.w*(u*(x.w:Rat)⁻¹ - v*(a.w:Rat)⁻¹):=fun u v=>by grind
  simp only[hb1,hx1]
  generalize ((b.x:Rat)*(b.w:Rat)⁻¹ - (a.x:Rat)*(a.w:Rat)⁻¹)=u1
  generalize ((b.y:Rat)*(b.w:Rat)⁻¹ - (a.y:Rat)*(a.w:Rat)⁻¹)=u2
  generalize ((b.z:Rat)*(b.w:Rat)⁻¹ - (a.z:Rat)*(a.w:Rat)⁻¹)=u3
  generalize ((x.x:Rat)*(x.w:Rat)⁻¹ - (a.x:Rat)*(a.w:Rat)⁻¹)=v1
  generalize ((x.y:Rat)*(x.w:Rat)⁻¹ - (a.y:Rat)*(a.w:Rat)⁻¹)=v2
  generalize ((x.z:Rat)*(x.w:Rat)⁻¹ - (a.z:Rat)*(a.w:Rat)⁻¹)=v3
  clear hb1 hx1 ka kb kx
  grind
 have pa:(0:Rat)<(a.w:Rat):=Rat.intCast_pos.2 ha
 have pb:(0:Rat)<(b.w:Rat):=Rat.intCast_pos.2 hb
 have px:(0:Rat)<(x.w:Rat):=Rat.intCast_pos.2 hx
 have pk:=Rat.mul_pos (Rat.mul_pos (Rat.mul_pos pa pa) pb) px
 rw[← Rat.intCast_pos,e]
 constructor
 ·intro h
  exact Geo.mul_pos_neg (by rwa [Rat.mul_comm]at h) pk
 ·intro h
  exact Rat.mul_pos pk h
theorem lefts_of {p:Pl} {vs:List Pt} (hw:∀ v∈vs,CanP v) (pv:Geo.PV (tH p).n (vs.map tv)):Lefts p vs:=by
 refine ⟨fun i hi k hk j hj ek hji hjk=>?_⟩
 have nd:vs.Nodup:=Geo.nodup_of_map pv.nd
 have hl:i<(Geo.edges vs).length:=by rw[Geo.edges_length];exact hi
 have he:(vs[i],vs[k])∈Geo.edges vs:=by
  have:=List.getElem_mem hl
  rw[edges_get vs i hi hl]at this
  subst ek
  exact this
 have he2:(tv vs[i],tv vs[k])∈Geo.edges (vs.map tv):=by
  rw[Geo.edges_map]
  exact List.mem_map.2 ⟨_,he,rfl⟩
 have c1:=hw _ (List.getElem_mem hi)
 have c2:=hw _ (List.getElem_mem hk)
 have c3:=hw _ (List.getElem_mem hj)
 have n1:vs[j]≠vs[i]:=fun e=>hji (nd_inj nd _ _ e)
 have n2:vs[j]≠vs[k]:=fun e=>hjk (nd_inj nd _ _ e)
 exact (left_tv p c1.w c2.w c3.w).2 (pv.lf _ he2 _ (List.mem_map_of_mem (List.getElem_mem hj)) (fun e=>n1 (tv_inj c3 c1 e)) (fun e=>n2 (tv_inj c3 c2 e)))
theorem fine_of {l:PCell} (h:CellOK l) (hH:∀ s∈l,CanH s.1) {s:Pl × List Pt} (hs:s∈l):FineG s.1 s.2:=by
 have pv:=h.cell.pv (sd s) (List.mem_map_of_mem hs)
 refine ⟨hH s hs,h.can s hs,?_,fun v hv=>?_,lefts_of (h.can s hs) pv⟩
 ·have:=pv.len
  simpa [sd]using this
 ·have:=h.cell.pl (sd s) (List.mem_map_of_mem hs) (tv v) (List.mem_map_of_mem hv)
  exact side_on.2 ((at_eq s.1 (h.w hs v hv)).1 this)
theorem es_nodup {l:PCell} (h:CellOK l):(esP l).Nodup:=by
 have:=h.cell.nd
 rw[E_sds]at this
 exact Geo.nodup_of_map this
theorem es_sw {l:PCell} (h:CellOK l) {e:Pt × Pt} (he:e∈esP l):Geo.sw e∈esP l:=by
 have hc:=h.cell.cl
 rw[E_sds]at hc
 have hcan:=es_w h.toCanC
 have h1:tv2 (Geo.sw e)∈((esP l).map tv2).map Geo.sw:=by
  rw[List.map_map]
  exact List.mem_map.2 ⟨e,he,rfl⟩
 obtain ⟨e',he',q⟩:=List.mem_map.1 (hc.mem_iff.2 h1)
 have q1:=tv_inj (hcan e' he').1 (hcan e he).2 (congrArg Prod.fst q)
 have q2:=tv_inj (hcan e' he').2 (hcan e he).1 (congrArg Prod.snd q)
 have:e'=Geo.sw e:=Prod.ext q1 q2
 rwa [← this]
theorem prp_same (p:Pl):Geo.Prp (tH p) (tH p):=⟨1,by decide,fun x=>by rw[Rat.one_mul]⟩
theorem planes_nodup {l:PCell} (h:CellOK l):(l.map (·.1)).Nodup:=by
 have:=h.cell.dist
 unfold sds at this
 rw[List.pairwise_map]at this
 refine List.Pairwise.map _ ?_ this
 rintro s t hst e
 exact hst (by show Geo.Prp (tH s.1) (tH t.1);rw[show s.1=t.1 from e];exact prp_same _)
theorem not_out {l:PCell} (h:CellOK l) {x:Pt} (hx:x∈vertsP l):outP l x=false:=by
 have hc:classP l x=0:=by rw[classP_eq];exact cls_vert h hx
 unfold classP at hc
 rw[if_neg h.ne]at hc
 by_cases ho:outP l x=true
 ·rw[if_pos ho]at hc;exact absurd hc (by decide)
 ·simpa using ho
end Go.Proofs.Vx
namespace Go.Sx
open Go.MapKept Go.ChangeMaps
set_option linter.unusedVariables false
set_option linter.unusedSimpArgs false
theorem turn_iter {c : Cx} {g : Gh} {ob : Nat → AV} (hg : GOk c g ob) {r l n : Nat} {seen seen' : List Nat} (hob : ob r = .ito l n seen) :
  ∃ g':Gh,g'.w=setBlock g.w (g.blk r) (.mapIter (some (g.blk l)) n seen'.toArray n)∧Ev g g'∧GOk c g' (upd ob [(r,.ito l n seen')])∧∀ l,g'.us l→g.us l:=by
 have hok:=hg.obj r
 rw[hob]at hok
 obtain ⟨hus,hul,hb⟩:=hok
 have hown:=hg.own r (g.blk r) (by rw[hob];rfl)
 have hlt:g.blk r<g.w.heap.size:=(Array.getElem?_eq_some_iff.1 hb).1
 let o:Obj:=.mapIter (some (g.blk l)) n seen'.toArray n
 have hold:∀ b,b≠g.blk r→(g.w.heap.setIfInBounds (g.blk r) o)[b]?=g.w.heap[b]?:=fun b hb=>by
  rw[Array.getElem?_setIfInBounds];simp[Ne.symm hb]
 have he:Ev g { g with w:=setBlock g.w (g.blk r) o } :=
  ⟨fun b hb=>⟨hb,hold b (fun e=>hown.2 (e▸hb))⟩,fun l hl=>⟨hl,rfl,Nat.le_refl _,fun _=>rfl⟩⟩
 refine ⟨_,rfl,he,?_,fun l hl=>hl⟩
 refine hg.turn he r (.ito l n seen') rfl Tp.rfl rfl (by simp[setBlock]) rfl (fun l hl=>⟨rfl,rfl,rfl⟩) (fun b hb hne=>?_) ?_ ?_
 ·refine hold b fun e=>hne ?_
  rw[hob,e];rfl
 ·refine ⟨hus,hul,?_⟩
  show (g.w.heap.setIfInBounds (g.blk r) _)[g.blk r]?=_
  rw[Array.getElem?_setIfInBounds];simp only[hlt,if_true];rfl
 ·intro b hb
  left
  rw[hob];exact hb
theorem AW.next {P : Program} {nt : Nat} {R : AS → Prop} {k : List Itm} {S : AS} {id it d0 d1 r l n : Nat} {seen : List Nat} {es : List (Value × Value)} {t0 t1 : TypeId} {p0 p1 : String} {a1 : Array Edge}
  (h0:d0<nt) (h1:d1<nt) (hit:look S.t it=.loc r 0) (hr:look S.o r=.ito l n seen) (hl:look S.o l=.mpo es) (hn:es.length=n)
  (hmore:∀ j,j<n→j∉seen→AW P nt R k { t:=(d1,.lit (.bool true))::(d0,.tup [.lit (.bool true),.any,.any])::S.t,o:=(r,.ito l n (seen++[j]))::S.o,nx:=S.nx+2 })
  (hover:(∀ j,j<n→j∈seen)→AW P nt R k { t:=(d1,.lit (.bool false))::(d0,.tup [.lit (.bool false)])::S.t,o:=S.o,nx:=S.nx+2 }) :
  AW P nt R (.code (.region id #[⟨some d0,.next (.tmp it) false,t0,p0,#[],none⟩,⟨some d1,.extract (.tmp d0) 0,t1,p1,a1,none⟩] false)::k) S:=by
 intro c a w hP hs
 subst hP
 refine wpIn_region ?_
 have hran:List.range (#[(⟨some d0,.next (.tmp it) false,t0,p0,#[],none⟩:Oper),⟨some d1,.extract (.tmp d0) 0,t1,p1,a1,none⟩]:Array Oper).size=[0,1]:=rfl
 rw[hran,wpOpsIn_cons]
 obtain ⟨g,rfl,hg,ht,hsz,hu,hln,h8⟩:=hs
 have hitv:=ht.2 it
 rw[hit]at hitv
 have hob:=hg.obj r
 rw[hr]at hob
 obtain ⟨hur,hul,hbr⟩:=hob
 have hobl:=hg.obj l
 rw[hl]at hobl
 obtain ⟨_,arr,clock,hbl,hm⟩:=hobl
 have hcl:clock=n:=by rw[hm.clock,hn]
 subst hcl
 have hev:a.eval (.tmp it)=.pointer (some ⟨g.blk r,0,none⟩):=by
  show a.tmps.getD it undef=_
  generalize a.tmps.getD it undef=v at hitv
  cases hitv
  rfl
 have fin : ∀ (b : Bool) (vs : Array Value) (xs : List AV) (o' : List (Nat × AV)) (g' : Gh), Ev g g' → GOk c g' (upd (look S.o) o') → (∀ l, g'.us l → g.us l) → Rel g' (.tup (.lit (.bool b) :: xs)) (.tuple vs) →
   AW c.P nt R k { t:=(d1,.lit (.bool b))::(d0,.tup (.lit (.bool b)::xs))::S.t,o:=o'++S.o,nx:=S.nx+2 } →
   wpOpsIn (Fw c.ro) 0 c.P #[⟨some d0,.next (.tmp it) false,t0,p0,#[],none⟩,⟨some d1,.extract (.tmp d0) 0,t1,p1,a1,none⟩] (liftQ c nt (Qof c.P nt R k)) [1] (a.put (some d0) (.tuple vs)) g'.w:=by
  intro b vs xs o' g' he hg' hus hrel hk
  rw[wpOpsIn_cons]
  have hone:oneO c.P nt [⟨some d0,.next (.tmp it) false,t0,p0,#[],none⟩,⟨some d1,.extract (.tmp d0) 0,t1,p1,a1,none⟩] ⟨some d1,.extract (.tmp d0) 0,t1,p1,a1,none⟩ (S.nx+1) { t:=(d0,.tup (.lit (.bool b)::xs))::S.t,o:=o'++S.o,nx:=S.nx } fun S' e=>e=⟨.lit (.bool b),[],[]⟩:=by
   refine ⟨by simpa using h1,?_⟩
   simp[effV,rdO,look,extractV]
  obtain ⟨e,rfl,hd,hst⟩:=oneO_ok (ops:=#[⟨some d0,.next (.tmp it) false,t0,p0,#[],none⟩,⟨some d1,.extract (.tmp d0) 0,t1,p1,a1,none⟩]) hone
  have htk:TOk g' (look ((d0,.tup (.lit (.bool b)::xs))::S.t)) (a.put (some d0) (.tuple vs)):=by
   have:=(ht.mono he).put (dst:=some d0) (v:=.tuple vs) (x:=.tup (.lit (.bool b)::xs)) (by rintro d ⟨⟩;rw[hsz.1];exact h0) hrel
   have e:(fun t=>if some d0=some t then AV.tup (.lit (.bool b)::xs)else look S.t t)=look ((d0,.tup (.lit (.bool b)::xs))::S.t):=by
    funext t;simp[look]
   rw[e]at this
   exact this
  refine wpOp_step (o:=⟨some d1,.extract (.tmp d0) 0,t1,p1,a1,none⟩) (U:=fun l=>l<S.nx+1) rfl hst (fun _ _=>rfl) (fun _ _=>rfl) hd (by omega)
   ⟨g',rfl,by rw[look_append];exact hg',htk,hsz.put _ _,fun l hl=>by have:=hu l (hus l hl);omega,hln.mono he⟩ fun a2 w2 hsim=>?_
  refine ⟨c,_,.refl c,hk,?_⟩
  obtain ⟨g2,rfl,hg2,ht2,hsz2,hu2,hln2⟩:=hsim
  refine ⟨g2,rfl,?_,?_,hsz2,fun l hl=>?_,hln2,by simp only;omega⟩
  ·rw[look_append]at hg2 ⊢;exact hg2
  ·have e:(fun t=>if some d1=some t then AV.lit (.bool b)else look ((d0,.tup (.lit (.bool b)::xs))::S.t) t)=look ((d1,.lit (.bool b))::(d0,.tup (.lit (.bool b)::xs))::S.t):=by
    funext t;simp[look]
   rw[← e];exact ht2
  ·rcases hu2 l hl with h|h<;>simp only<;>omega
 have hw:Region.wanted ⟨some d0,.next (.tmp it) false,t0,p0,#[],none⟩ (yielded #[⟨some d0,.next (.tmp it) false,t0,p0,#[],none⟩,⟨some d1,.extract (.tmp d0) 0,t1,p1,a1,none⟩] a.tmps)=true:=by simp[Region.wanted]
 unfold wpOpIn
 simp only[show (#[(⟨some d0,.next (.tmp it) false,t0,p0,#[],none⟩:Oper),⟨some d1,.extract (.tmp d0) 0,t1,p1,a1,none⟩]:Array Oper)[0]?=some ⟨some d0,.next (.tmp it) false,t0,p0,#[],none⟩from rfl]
 rw[if_pos hw]
 have hold:∀ x∈arr.toList,x.born<clock:=fun x hx=>by
  obtain ⟨i,hi,rfl⟩:=List.mem_iff_getElem.1 hx
  rw[hm.born i _ (List.getElem?_eq_getElem hi),hm.clk]
  simpa using hi
 rcases run_next_at (P:=c.P) g.w t0 (g.blk r) (g.blk l) clock clock seen.toArray arr clock hbr hbl hold (Nat.le_refl _)with ⟨hz,hrun⟩|⟨e,he,w1,hw1,hrun⟩
 ·have:(execOp a.eval ⟨some d0,.next (.tmp it) false,t0,p0,#[],none⟩).run c.P g.w=.ok (.value (.tuple #[.bool false])) g.w:=by
   simp only[execOp,hev,Sem.run_bind,hrun,Result.andThen]
   rfl
  refine wpIn_value (fun cl=>by simp) this ?_
  refine fin false #[.bool false] [] [] g (Ev.refl g) hg (fun l hl=>hl) (.tup _ _ rfl fun i h1 h2=>?_) ?_
  ·match i,h1 with
   | 0,_=>exact .lit _
  ·refine hover fun j hj=>?_
   have hja:j<arr.size:=by rw[← hm.clk];exact hj
   have hbj:arr[j].born=j:=hm.born j arr[j] (by simp[hja])
   have hmem:¬ (arr[j]∈leftOf arr seen.toArray):=by
    intro h
    have:=Array.size_pos_of_mem h
    omega
   unfold leftOf at hmem
   rw[Array.mem_filter]at hmem
   simp only[hbj,Array.getElem_mem,true_and]at hmem
   simpa using hmem
 ·have hmem:e∈arr.toList∧e.born∉seen:=by
   unfold leftOf at he
   have:=Array.mem_filter.1 (Array.mem_toList_iff.1 he)
   exact ⟨Array.mem_toList_iff.2 this.1,by simpa using this.2⟩
  obtain ⟨i,hi,hie⟩:=List.mem_iff_getElem.1 hmem.1
  have hib:e.born=i:=by rw[← hie];exact hm.born i _ (List.getElem?_eq_getElem hi)
  have hin:i<clock:=by rw[hm.clk];simpa using hi
  have hw1h:w1.heap=g.w.heap:=by rcases hw1 with rfl|rfl<;>rfl
  obtain ⟨he1,hg1⟩:Ev g { g with w:=w1 }∧GOk c { g with w:=w1 } (look S.o):=by
   rcases hw1 with rfl|rfl
   ·exact ⟨Ev.refl g,hg⟩
   ·exact hg.same g.w.drew rfl rfl ⟨rfl,Nat.le_succ _⟩ rfl
  obtain ⟨g',b1,b2,b3,b4⟩:=turn_iter hg1 (seen':=seen++[i]) hr
  have:(execOp a.eval ⟨some d0,.next (.tmp it) false,t0,p0,#[],none⟩).run c.P g.w=.ok (.value (.tuple #[.bool true,e.key,e.val])) g'.w:=by
   rw[b1]
   simp only[execOp,hev,Sem.run_bind,hrun,Result.andThen,hib]
   simp
  refine wpIn_value (fun cl=>by simp) this ?_
  refine fin true #[.bool true,e.key,e.val] [.any,.any] [(r,.ito l clock (seen++[i]))] g' (he1.trans b2) b3 (fun l hl=>b4 l hl) (.tup _ _ rfl fun q h1 h2=>?_) (hmore i hin (hib▸hmem.2))
  match q,h1 with
  | 0,_=>exact .lit _
  | 1,_=>exact .any _
  | 2,_=>exact .any _
end Go.Sx
