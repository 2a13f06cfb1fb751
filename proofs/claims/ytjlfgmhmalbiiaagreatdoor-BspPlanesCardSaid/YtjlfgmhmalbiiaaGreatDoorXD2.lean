import Derived.Test.YtjlfgmhmalbiiaaGreatDoorX22
set_option linter.all false
set_option maxHeartbeats 16000000
open Bool renaming not_eq_true' → Ae
open List renaming length_map → Aa, getElem?_eq_getElem → Ab, length_cons → Ad, take_succ_eq_append_getElem → Af, mem_cons → Ag, length_nil → Ah, pairwise_singleton → Ai, take_of_length_le → Aj, take_append_of_le_length → Al, pairwise_cons → Am, length_append → An, pairwise_iff_getElem → Ao, length_take → Ap, take_length → Aq, getElem_map → Ar, mem_append → As, Pairwise → At, mem_singleton → Au, count_eq_zero → Av, length_drop → Aw, mem_map → Ax, Perm → Az
open Nat renaming le_refl → Ac, reduceAdd → Ak, zero_le → Ay
namespace Go.Sx
open Go.Proofs
set_option linter.unusedVariables false
def gR (a b:Pl):Int :=
 if sg (a.a - b.a)≠0 then sg (a.a - b.a)else if sg (a.b - b.b)≠0 then sg (a.b - b.b)else if sg (a.c - b.c)≠0 then sg (a.c - b.c)else sg (a.d - b.d)
def ltH (a b:Pl):Prop:=a.a<b.a∨(a.a=b.a∧(a.b<b.b∨(a.b=b.b∧(a.c<b.c∨(a.c=b.c∧a.d<b.d)))))
instance (a b:Pl):Decidable (ltH a b):=by unfold ltH;infer_instance
theorem tG (a:Pl):¬ ltH a a:=by unfold ltH;omega
theorem wK {a b c:Pl} (h:ltH a b) (k:ltH b c):ltH a c:=by unfold ltH at *;omega
theorem a4w {a b c:Pl} (h:¬ ltH a b) (k:¬ ltH b c):¬ ltH a c:=by unfold ltH at *;omega
theorem x7 {a b:Pl} (h:¬ ltH a b) (k:¬ ltH b a):a=b:=by
 unfold ltH at *
 cases a;cases b
 simp only[Pl.mk.injEq]at *
 omega
theorem uH (a b:Pl):gR a b<0↔ltH a b:=by
 unfold gR ltH
 simp only[ne_eq,a3u]
 split
 ·rw[nZ];omega
 ·split
  ·rw[nZ];omega
  ·split
   ·rw[nZ];omega
   ·rw[nZ];omega
def leH (a b:Pl):Bool:=!decide (ltH b a)
def iF (l:List Pl):List Pl:=l.mergeSort leH
theorem b8g (a b c:Pl) (h:leH a b=true) (k:leH b c=true):leH a c=true:=by
 simp only[leH,Ae,decide_eq_false_iff_not]at *
 exact a4w k h
theorem b8h (a b:Pl):(leH a b||leH b a)=true:=by
 simp only[leH,Bool.or_eq_true,Ae,decide_eq_false_iff_not]
 by_cases h:ltH b a
 ·exact .inr fun k=>tG _ (wK h k)
 ·exact .inl h
theorem zE (l:List Pl):(iF l).Perm l:=List.mergeSort_perm l leH
theorem lL (l:List Pl):(iF l).length=l.length:=(zE l).length_eq
theorem a6v (l:List Pl):(iF l).Pairwise fun a b=>leH a b=true:=List.pairwise_mergeSort b8g b8h l
theorem c2w {a b:Pl} (h:leH a b=true) (k:leH b a=true):a=b:=by
 simp only[leH,Ae,decide_eq_false_iff_not]at *
 exact x7 k h
theorem b3z {l m:List Pl} (hp:m.Perm l) (hs:m.Pairwise fun a b=>leH a b=true):m=iF l :=
 Az.eq_of_pairwise (le:=fun a b=>leH a b=true) (fun a b ha hb h k=>c2w h k) hs (a6v l) (hp.trans (zE l).symm)
def aZ (s:List Pl):Nat→List Pl
 | 0=>[]
 | j+1=>if j≠0∧s[j]?=s[j - 1]? then aZ s j else aZ s j++(s[j]?).toList
theorem zZ {s:List Pl} {j:Nat} (h:j+1<s.length) (e:s[j+1]=s[j]):aZ s (j+2)=aZ s (j+1):=by
 show (if j+1≠0∧s[j+1]?=s[j]? then _ else _)=_
 rw[if_pos ⟨by omega,by rw[Ab h,Ab (by omega),e]⟩]
theorem a0q {s:List Pl} {j:Nat} (h:j+1<s.length) (e:s[j+1]≠s[j]):aZ s (j+2)=aZ s (j+1)++[s[j+1]]:=by
 show (if j+1≠0∧s[j+1]?=s[j]? then _ else _)=_
 rw[if_neg (by rw[Ab h,Ab (by omega)];intro k;exact e (Option.some.inj k.2)),Ab h]
 rfl
theorem a8d {s:List Pl} (h:0<s.length):aZ s 1=[s[0]]:=by
 show (if 0≠0∧_ then _ else _)=_
 rw[if_neg (fun k=>k.1 rfl),Ab h]
 rfl
theorem zY {s:List Pl}:∀ {j:Nat},j≤s.length→(∀ q (h:q+1<s.length),q+1<j→s[q+1]≠s[q])→aZ s j=s.take j:=by
 intro j
 induction j with
 | zero=>intro _ _;rfl
 | succ j ih =>
  intro hj h
  have hi:=ih (by omega) (fun q hq h2=>h q hq (by omega))
  cases j with
  | zero=>rw[a8d (by omega)];cases s with
   | nil=>simp at hj
   | cons a s=>rfl
  | succ j=>rw[a0q (by omega) (h j (by omega) (by omega)),hi,← Af (show j+1<s.length by omega)]
theorem c8m {s:List Pl} (hs:s.Pairwise fun a b=>leH a b=true):∀ {j:Nat},j≤s.length→(aZ s j).Pairwise ltH∧(∀ p,p∈aZ s j↔p∈s.take j):=by
 intro j
 induction j with
 | zero=>intro _;exact⟨At.nil,fun p=>by simp[aZ]⟩
 | succ j ih =>
  intro hj
  obtain⟨h1,h2⟩:=ih (by omega)
  rw[Af (by omega)]
  cases j with
  | zero =>
   rw[a8d (by omega)]
   exact⟨Ai _ _,fun p=>by simp⟩
  | succ j =>
   by_cases e:s[j+1]=s[j]
   ·rw[zZ (by omega) e]
    refine⟨h1,fun p=>?_⟩
    rw[h2,As,Au,e]
    constructor
    ·exact .inl
    ·rintro (h|rfl)
     ·exact h
     ·rw[Af (show j<s.length by omega)];exact List.mem_append_right _ (List.mem_singleton_self _)
   ·rw[a0q (by omega) e]
    refine⟨List.pairwise_append.2 ⟨h1,Ai _ _,fun a ha b hb=>?_⟩,fun p=>by rw[As,As,h2]⟩
    obtain rfl:=Au.1 hb
    rw[h2]at ha
    obtain⟨i,hi,rfl⟩:=List.getElem_of_mem ha
    rw[Ap]at hi
    simp only[List.getElem_take]
    rw[Ao]at hs
    have k1:=hs i (j+1) (by omega) (by omega) (by omega)
    have k2:=hs j (j+1) (by omega) (by omega) (by omega)
    simp only[leH,Ae,decide_eq_false_iff_not]at k1 k2
    apply Classical.byContradiction
    intro hn
    have e2:=x7 hn k1
    by_cases hij:i=j
    ·subst hij;exact e e2.symm
    ·have k3:=hs i j (by omega) (by omega) (by omega)
     simp only[leH,Ae,decide_eq_false_iff_not]at k3
     rw[e2]at k3
     exact e (x7 k2 k3)
def aX (p:Pl):List Pl→List Pl
 | []=>[p]
 | q::l=>if ltH q p then q::aX p l else if q=p then q::l else p::q::l
theorem c7t {p:Pl}:∀ {l:List Pl} {k:Nat} (h:k<l.length),(∀ q (hq:q<l.length),q<k→gR l[q] p<0)→l[k]=p→aX p l=l:=by
 intro l
 induction l with
 | nil=>intro k h;simp at h
 | cons a l ih =>
  intro k h h1 e
  cases k with
  | zero =>
   have e:a=p:=e
   subst e
   unfold aX
   rw[if_neg (tG _),if_pos rfl]
  | succ k =>
   have h0:ltH a p:=(uH _ _).1 (h1 0 (by simp) (by omega))
   unfold aX
   rw[if_pos h0]
   congr 1
   exact ih (by simpa using h) (fun q hq hqk=>h1 (q+1) (by simpa using hq) (by omega)) e
theorem a7o {p:Pl}:∀ {l:List Pl} {k:Nat},k≤l.length→(∀ q (hq:q<l.length),q<k→gR l[q] p<0)→(∀ h:k<l.length,¬ gR l[k] p<0∧l[k]≠p)→aX p l=l.take k++p::l.drop k:=by
 intro l
 induction l with
 | nil => intro k h _ _; obtain rfl : k = 0 := by simpa using h
          rfl
 | cons a l ih =>
  intro k h h1 h2
  cases k with
  | zero =>
   obtain⟨n1,n2⟩:=h2 (by simp)
   have n1:¬ ltH a p:=fun q=>n1 ((uH _ _).2 q)
   have n2:a≠p:=n2
   unfold aX
   rw[if_neg n1,if_neg n2]
   rfl
  | succ k =>
   have h0:ltH a p:=(uH _ _).1 (h1 0 (by simp) (by omega))
   unfold aX
   rw[if_pos h0,ih (by simpa using h) (fun q hq hqk=>h1 (q+1) (by simpa using hq) (by omega)) (fun hk=>h2 (by simpa using hk))]
   rfl
theorem a7p {p q:Pl} {l:List Pl}:q∈aX p l↔q=p∨q∈l:=by
 induction l with
 | nil=>simp[aX]
 | cons a l ih =>
  unfold aX
  split
  ·rw[Ag,ih,Ag]
   constructor
   ·rintro (h|h|h)<;>simp[h]
   ·rintro (h|h|h)<;>simp[h]
  ·split
   ·rename_i e
    rw[Ag]
    constructor
    ·exact .inr
    ·rintro (h|h)
     ·rw[h];exact .inl e.symm
     ·exact h
   ·rw[Ag]
theorem c7r {p:Pl} {l:List Pl} (h:l.Pairwise ltH):(aX p l).Pairwise ltH:=by
 induction l with
 | nil=>exact Ai _ _
 | cons a l ih =>
  obtain⟨h1,h2⟩:=Am.1 h
  unfold aX
  split
  ·rename_i hl
   refine Am.2 ⟨fun b hb=>?_,ih h2⟩
   rcases a7p.1 hb with rfl|hb
   ·exact hl
   ·exact h1 b hb
  ·split
   ·exact h
   ·rename_i n1 n2
    have hpa:ltH p a:=Classical.byContradiction fun n3=>n2 (x7 n1 n3)
    refine Am.2 ⟨fun b hb=>?_,h⟩
    rcases Ag.1 hb with rfl|hb
    ·exact hpa
    ·exact wK hpa (h1 b hb)
theorem c3b (p:Pl) (l:List Pl):(aX p l).length≤l.length+1:=by
 induction l with
 | nil=>exact Ac _
 | cons a l ih =>
  unfold aX
  split
  ·simp only[Ad];omega
  ·split<;>simp only[Ad]<;>omega
def eK (l:List Pl):List Pl:=l.foldl (fun r p=>aX p r) []
theorem b8k (l:List Pl) (p:Pl):eK (l++[p])=aX p (eK l):=by unfold eK;rw[List.foldl_append];rfl
theorem a7n (l:List Pl):∀ r:List Pl,r.Pairwise ltH→(l.foldl (fun r p=>aX p r) r).Pairwise ltH∧(∀ p,p∈l.foldl (fun r p=>aX p r) r↔p∈l∨p∈r):=by
 induction l with
 | nil=>intro r h;exact⟨h,fun p=>by simp⟩
 | cons a l ih =>
  intro r h
  obtain⟨h1,h2⟩:=ih (aX a r) (c7r h)
  refine⟨h1,fun p=>?_⟩
  rw[List.foldl_cons,h2,a7p,Ag]
  constructor
  ·rintro (h|h|h)<;>simp[h]
  ·rintro ((h|h)|h)<;>simp[h]
theorem c2m {l m:List Pl} (hl:l.Pairwise ltH) (hm:m.Pairwise ltH) (h:∀ p,p∈l↔p∈m):l=m:=by
 have nd:∀ {l:List Pl},l.Pairwise ltH→l.Nodup:=fun h=>At.imp (fun {a b} (k:ltH a b) (e:a=b)=>by subst e;exact tG _ k) h
 have hp:l.Perm m:=by
  rw[List.perm_iff_count]
  intro a
  by_cases ha:a∈m
  ·rw[(nd hl).count,(nd hm).count,if_pos ha,if_pos ((h a).2 ha)]
  ·rw[Av.2 ha,Av.2 (fun hh=>ha ((h a).1 hh))]
 exact Az.eq_of_pairwise (le:=ltH) (fun a b _ _ h k=>(tG _ (wK h k)).elim) hl hm hp
theorem b7l (l:List Pl):aZ (iF l) l.length=eK l:=by
 have h1:=c8m (a6v l) (j:=l.length) (by rw[lL];exact Ac _)
 have h2:=a7n l [] At.nil
 refine c2m h1.1 h2.1 fun p=>?_
 rw[h1.2,show p∈eK l↔_ from h2.2 p,← lL l,Aq,(zE l).mem_iff]
 simp
abbrev CH:={p:Pl // Bs 268435456 p.a p.b p.c p.d}
theorem c6u:Bs 268435456 0 0 0 1:=by
 have:=b0n
 have h0:(Zm 0).size≤268435456:=(uD 268435456).out.a
 exact⟨h0,h0,h0,by omega⟩
instance:Inhabited CH:=⟨⟨⟨0,0,0,1⟩,c6u⟩⟩
def mL (p:Pl):List Value:=fX ⟨p.a,p.b,p.c,p.d⟩
def dJ (p:CH):List Value:=mL p.1
def cfH (a b:CH):Int:=gR a.1 b.1
theorem c3n (p:CH):(dJ p).length=8:=rfl
theorem c3m (p:CH):∀ v∈dJ p,v.oneCell'=true:=a6i _
theorem swoH:Go.Sort.SWO (ltOf cfH):=by
 have e:∀ a b:CH,ltOf cfH a b=decide (ltH a.1 b.1):=fun a b=>by
  unfold ltOf cfH
  rw[decide_eq_decide]
  exact uH _ _
 refine⟨fun x=>?_,fun x y z h k=>?_,fun x y z h k=>?_⟩
 ·rw[e];exact decide_eq_false (tG _)
 ·rw[e]at *;exact decide_eq_true (wK (of_decide_eq_true h) (of_decide_eq_true k))
 ·rw[e]at *;exact decide_eq_false (a4w (of_decide_eq_false h) (of_decide_eq_false k))
theorem b3x {d d':Array CH} (hp:Go.Sort.PermIn 0 d.size d d') (hs:Go.Sort.SortedIn (ltOf cfH) 0 d.size d'):d'.toList.map (·.1)=iF (d.toList.map (·.1)):=by
 obtain⟨h1,h2,h3⟩:=hp
 have e1:(d'.extract 0 d.size).toList=d'.toList:=by rw[← h1];simp
 have e2:(d.extract 0 d.size).toList=d.toList:=by simp
 rw[e1,e2]at h3
 refine b3z (h3.map _) ?_
 rw[List.pairwise_map,Ao]
 intro i j hi hj hij
 have:=hs i j (Ay _) hij (by simpa [h1]using hj)
 have hi':i<d'.size:=by simpa using hi
 have hj':j<d'.size:=by simpa using hj
 rw[getElem!_pos d' j hj',getElem!_pos d' i hi']at this
 have this:¬ gR (d'[j]).1 (d'[i]).1<0:=of_decide_eq_false this
 rw[uH]at this
 simp only[leH,Ae,decide_eq_false_iff_not]
 simpa using this
theorem b1o (p:Pl) (j:Nat) (h:j<(eH p).length):(eH p)[j]=.lit ((mL p)[j]!):=yB ⟨p.a,p.b,p.c,p.d⟩ j h
theorem d1m {g : Gh} {b e : Nat} {cs : Array Value} {d : Array CH} (hb : g.w.heap[b]? = some (.cells cs e (0, 0))) (hs : d.size * 8 ≤ cs.size)
  (h:∀ i (h1:i<((d.toList.map (·.1)).map eH).length) j (h2:j<((d.toList.map (·.1)).map eH)[i].length) (h3:i*8+j<cs.size),Rel g ((d.toList.map (·.1)).map eH)[i][j] cs[i*8+j]):Go.Sort.HoldsK dJ 8 g.w b 0 d:=by
 intro t ht
 rw[Go.Sort.size_flatK]at ht
 have hd:t / 8<d.size:=by omega
 have h1:=h (t / 8) (by simpa using hd) (t % 8) (by simp only[Ar,eH,e4,Ad,Ah];omega) (by omega)
 have e0:t / 8*8+t % 8=t:=by omega
 simp only[e0]at h1
 have e1:((d.toList.map (·.1)).map eH)[t / 8]'(by simpa using hd)=eH (d[t / 8]).1:=by simp
 have e2:(((d.toList.map (·.1)).map eH)[t / 8]'(by simpa using hd))[t % 8]'(by simp only[Ar,eH,e4,Ad,Ah];omega)=.lit ((mL (d[t / 8]).1)[t % 8]!):=by
  rw[← b1o _ _ (by simp only[eH,e4,Ad,Ah];omega)]
  simp only[e1]
 rw[e2]at h1
 have hx:(mL (d[t / 8]).1)[t % 8]! = cs[t]:=by
  generalize hq:(mL (d[t / 8]).1)[t % 8]! = q at h1 ⊢
  generalize cs[t]=r at h1 ⊢
  cases h1
  rfl
 refine⟨?_,?_⟩
 ·simp only[World.cell?,hb,Nat.zero_add]
  rw[Go.Sort.get_flatK _ _ _ _ ht,getElem!_pos d _ hd]
  simp only[Option.isSome_none,Bool.false_eq_true,if_false]
  rw[Array.getElem?_eq_getElem (by omega)]
  simp only[id,dJ]
  exact congrArg some hx.symm
 ·simp[World.frozen?,hb]
theorem a6z {d:Array CH} {cs:Array Value} {t:Nat} (h:t<(Go.Sort.putCells id 0 (Go.Sort.flatK dJ 8 d) cs).size) (ht:t<d.size*8):(Go.Sort.putCells id 0 (Go.Sort.flatK dJ 8 d) cs)[t]=(dJ d[t / 8]!)[t % 8]!:=by
 have h':t<cs.size:=by simpa [Go.Sort.putCells]using h
 have e:=Array.getElem_mapIdx (f:=fun k x=>if 0≤k∧k<0+(Go.Sort.flatK dJ 8 d).size then id (Go.Sort.flatK dJ 8 d)[k - 0]! else x) (xs:=cs) (i:=t) (h:=h)
 refine e.trans ((if_pos ⟨Ay _,by rw[Go.Sort.size_flatK];omega⟩).trans ?_)
 exact Go.Sort.get_flatK _ _ _ _ ht
theorem c3o {p:CH} {j:Nat} (h:j<8):((dJ p)[j]!).oneCell'=true:=by
 match j,h with
 | 0,_=>rfl
 | 1,_=>rfl
 | 2,_=>rfl
 | 3,_=>rfl
 | 4,_=>rfl
 | 5,_=>rfl
 | 6,_=>rfl
 | 7,_=>rfl
theorem c1f {P : Program} {f gf : Nat} (vs : List Pl) (hv : ∀ p ∈ vs, Bs 268435456 p.a p.b p.c p.d) (hn : vs.length < 4611686018427387904)
  (hnil:CallOK P f [.lit (.slice none 0 0),.clo gf []] [] (.tup []) [])
  (hlib:∀ (blk cap:Nat) (d:Array CH) (w:World),Go.Sort.HoldsK dJ 8 w blk 0 d→blk<w.heap.size→d.size<4611686018427387904 →
   Calls P f #[.slice (some ⟨blk,0,none⟩) d.size cap,.func (.func gf) #[] #[]] w fun e w'=>e=.returned (.tuple #[])∧∃ d' n os,Go.Sort.PermIn 0 d.size d d'∧Go.Sort.SortedIn (ltOf cfH) 0 d.size d'∧w'=sortWorldK dJ 8 w blk 0 n d' os) :
  CallOK P f [.ref 0 0 vs.length vs.length,.clo gf []] [(0,.vec 8 (vs.map eH))] (.tup []) [(0,.vec 8 ((iF vs).map eH))]:=by
 intro g vals hus hg hrel
 obtain⟨hl,hr⟩:=hrel
 match vals,hl,hr with
 | [v1,v2],_,hr =>
 have r1:Rel g (.ref 0 0 vs.length vs.length) v1:=hr 0 (by simp) (by simp)
 have r2:Rel g (.clo gf []) v2:=hr 1 (by simp) (by simp)
 cases r2 with|clo _ _ caps hs _ =>
 obtain rfl:caps=#[]:=Array.eq_empty_of_size_eq_zero hs
 cases r1 with|ref _ _ _ _ _ hu hm hc hv1 =>
 have ho:ObjOk g 0 (.vec 8 (vs.map eH)):=hg.obj 0
 obtain⟨_,k1,k2,k3,k4,k5⟩:=ho
 rw[Aa]at k2
 have e1:=hv1 k2.symm
 have hupd:upd (upd aG [(0,.vec 8 (vs.map eH))]) [(0,.vec 8 ((iF vs).map eH))]=upd aG [(0,.vec 8 ((iF vs).map eH))]:=by
  funext l
  simp only[upd]
  split<;>rfl
 rcases k5 with⟨b0,es0,cap0⟩|⟨b,cs,m1,m2,m3,m4,m5,m6,m7⟩
 ·obtain rfl:vs=[]:=by simpa using es0
  have e2:v1=.slice none 0 0:=by rw[e1];simp[Des.slice,b0,cap0]
  subst e2
  refine ((hnil.grown (vals:=[.slice none 0 0,.func (.func gf) #[] #[]]) (fun g=>RelL.cons (.lit _) (RelL.cons (.clo gf [] #[] rfl (fun i h1=>by simp at h1)) RelL.nil)) (.tup _ (by simp)) g.w)).mono ?_
  rintro e w' ⟨⟨v,rfl,hvr⟩,q,os',rfl⟩
  have hso:iF []=[]:=by
   have:=lL []
   exact List.eq_nil_of_length_eq_zero this
  have hold:∀ b,b<g.w.heap.size→(Go.Sort.grow (g.w.drewN q) os').heap[b]?=g.w.heap[b]?:=fun b hb=>Go.Sort.heap_grow_old _ _ hb
  have hev:Ev g { g with w:=Go.Sort.grow (g.w.drewN q) os' }:=⟨fun b hb=>⟨hb,hold b (hg.fzx b hb)⟩,fun l hl=>⟨hl,rfl,Ac _,fun _=>rfl⟩⟩
  refine⟨v,{ g with w:=Go.Sort.grow (g.w.drewN q) os' },rfl,rfl,hev,fun l=>Iff.rfl,?_,hvr _⟩
  rw[← hupd]
  refine hg.turn hev 0 _ rfl ⟨rfl,Nat.le_add_right _ _⟩ rfl (by simp[Go.Sort.grow,World.drewN]) rfl (fun l _=>⟨rfl,rfl,rfl⟩) (fun b hb _=>hold b hb) ?_ ?_
  ·rw[hso];exact⟨hu,k1,k2,k3,k4,.inl ⟨b0,rfl,cap0⟩⟩
  ·intro b hb
   simp only[aF]at hb
   rw[b0]at hb
   contradiction
 ·let d:Array CH:=(vs.attach.map fun p=>(⟨p.1,hv p.1 p.2⟩:CH)).toArray
  have hd:d.toList.map (·.1)=vs:=by
   show (vs.attach.map fun p=>(⟨p.1,hv p.1 p.2⟩:CH)).map (·.1)=vs
   rw[List.map_map]
   exact List.attach_map_subtype_val vs
  have hds:d.size=vs.length:=by
   have:=congrArg List.length hd
   simpa using this
  have e2:v1=.slice (some ⟨b,0,none⟩) d.size (g.des 0).cap:=by rw[e1,hds];simp[Des.slice,m1]
  subst e2
  rw[Aa]at m3 m6
  have hb:b<g.w.heap.size:=(Array.getElem?_eq_some_iff.1 m2).1
  have hH:Go.Sort.HoldsK dJ 8 g.w b 0 d:=by
   refine d1m m2 (by rw[hds,m5];exact Nat.mul_le_mul_right _ m3) ?_
   simp only[hd]
   exact m7
  refine (hlib b (g.des 0).cap d g.w hH hb (by omega)).mono ?_
  rintro e w' ⟨rfl,d',n,os,hp,hsd,rfl⟩
  have hsl:=b3x hp hsd
  rw[hd]at hsl
  have hds':d'.size=vs.length:=by rw[hp.1,hds]
  have hold:∀ b',b'<g.w.heap.size→b'≠b→(sortWorldK dJ 8 g.w b 0 n d' os).heap[b']?=g.w.heap[b']?:=fun b' h1 h2=>b0y dJ 8 g.w b 0 n d' os h1 h2
  have hnew:=b0z dJ 8 g.w b 0 n d' os m2
  obtain⟨q1,q2,q3⟩:=a8t dJ 8 g.w b 0 n d' os
  have q4:=a8s dJ 8 g.w b 0 n d' os
  generalize sortWorldK dJ 8 g.w b 0 n d' os=w' at *
  have hnf:¬ g.fz b:=(hg.own 0 b (by show aF g 0 (.vec 8 (vs.map eH))=some b;exact m1)).2
  have hev:Ev g { g with w:=w' }:=⟨fun b' hb'=>⟨hb',hold b' (hg.fzx b' hb') (fun e=>hnf (e▸hb'))⟩,fun l hl=>⟨hl,rfl,Ac _,fun _=>rfl⟩⟩
  refine⟨.tuple #[],{ g with w:=w' },rfl,rfl,hev,fun l=>Iff.rfl,?_,.tup _ _ rfl (fun i h1=>by simp at h1)⟩
  rw[← hupd]
  have hsz:(Go.Sort.putCells id 0 (Go.Sort.flatK dJ 8 d') cs).size=cs.size:=by simp[Go.Sort.putCells]
  refine hg.turn hev 0 _ q1 q2 q3 q4 rfl (fun l _=>⟨rfl,rfl,rfl⟩) (fun b' hb' hne=>hold b' hb' (fun e=>hne (by subst e;exact m1))) ?_ (fun b' hb'=>.inl hb')
  refine⟨hu,k1,by rw[Aa,lL];exact k2,k3,fun e he=>?_,.inr ⟨b,_,m1,hnew,by rw[Aa,lL];exact m3,m4,by rw[hsz];exact m5,fun i h2 h3=>?_,fun i h1 j h2 h3=>?_⟩⟩
  ·obtain⟨p,_,rfl⟩:=Ax.1 he
   rfl
  ·rw[Aa,lL]at h3
   rw[a6z h2 (by rw[hds'];exact h3)]
   exact c3o (by omega)
  ·have h1':i<d'.size:=by rw[Aa,lL]at h1;omega
   have h2':j<8:=by simpa only[Ar,eH,e4,Ad,Ah]using h2
   rw[a6z h3 (by omega)]
   have a1:(i*8+j) / 8=i:=by omega
   have a2:(i*8+j) % 8=j:=by omega
   rw[a1,a2,getElem!_pos d' i h1']
   have a3:((iF vs).map eH)[i]=eH (d'[i]).1:=by simp only[← hsl];simp
   have a4:((iF vs).map eH)[i][j]=.lit ((mL (d'[i]).1)[j]!):=by
    rw[← b1o _ _ (by simp only[eH,e4,Ad,Ah];omega)]
    simp only[a3]
   rw[a4]
   exact .lit _
end Go.Sx
namespace Go.Proofs.Vx
open Go Go.Sx Go.Proofs Tryz
attribute [local irreducible] fnT CallOK CallFr AW aK callV aL aJ aI aM gcaseP hid
theorem b6j:arT prog 22=none∧slT prog 22=some (26,8)∧bI prog 22=false:=by and_intros<;>kernel_rfl
attribute [go_sem] b6j
theorem c124 (a b:Pl) (ha:Bs 268435456 a.a a.b a.c a.d) (hb:Bs 268435456 b.a b.b b.c b.d):CallOK prog 124 [.agg (eH a),.agg (eH b)] [] (.lit (.int .i64 (gR a b))) []:=by
 refine zs func124 27 [.tmp 4] results124 ?_
 simp only[aD,Ak]
 have f1:=c72 (Zn a.a) (Zm a.a) (Zn a.b) (Zm a.b) (Zn a.c) (Zm a.c) (Zn a.d) (Zm a.d)
 have f2:=c72 (Zn b.a) (Zm b.a) (Zn b.b) (Zm b.b) (Zn b.c) (Zm b.c) (Zn b.d) (Zm b.d)
 have d1:=fE a.a b.a (by have:=ha.a;omega) (by have:=hb.a;omega)
 have d2:=fE a.b b.b (by have:=ha.b;omega) (by have:=hb.b;omega)
 have d3:=fE a.c b.c (by have:=ha.c;omega) (by have:=hb.c;omega)
 have d4:=fE a.d b.d (by have:=ha.d;omega) (by have:=hb.d;omega)
 unfold gR
 clear ha hb
 obtain⟨a1,a2,a3,a4⟩:=a
 obtain⟨b1,b2,b3,b4⟩:=b
 dsimp only at *
 generalize sg (a1 - b1)=u1 at *
 generalize sg (a2 - b2)=u2 at *
 generalize sg (a3 - b3)=u3 at *
 generalize sg (a4 - b4)=u4 at *
 by_cases q1:u1=0
 ·have k1:=eq_true q1
  rw[if_neg (by simp[q1])]
  by_cases q2:u2=0
  ·have k2:=eq_true q2
   rw[if_neg (by simp[q2])]
   by_cases q3:u3=0
   ·have k3:=eq_true q3
    rw[if_neg (by simp[q3])]
    by_cases q4:u4=0
    ·have k4:=eq_true q4
     rw[q4]
     exact z1f
    ·have k4:=eq_false q4
     exact z1f
   ·have k3:=eq_false q3
    rw[if_pos q3]
    have k4:True:=trivial
    exact z1f
  ·have k2:=eq_false q2
   rw[if_pos q2]
   have k3:True:=trivial
   have k4:True:=trivial
   exact z1f
 ·have k1:=eq_false q1
  rw[if_pos q1]
  have k2:True:=trivial
  have k3:True:=trivial
  have k4:True:=trivial
  exact z1f
theorem c221z  : CallOK prog 221 [.lit (.slice none 0 0),.lit (.int .i64 0),.lit (.int .i64 0),.clo 124 []] [] (.tup []) []:=by
 refine zs func221 53 [] results221 ?_
 simp only[aD,Ak]
 repeat'(first|refine zg ?_|refine cK 2 ?_|(refine zc ?_ ?_<;>intro hc<;>first|simp only[NM]at hc|omega|skip)|refine zr ?_|(refine AW.nil (uL ?_)<;>simp -dsimp (disch:=try exact zo)only[go_sem])|refine⟨by omega,?_⟩|(refine zb ?_ ?_<;>intro hg<;>(try rw[hg])<;>try simp only[NM]at hg)|omega|simp -dsimp (disch:=try exact zo)only[go_sem]|contradiction|rfl)
theorem c179z  : CallOK prog 179 [.lit (.slice none 0 0),.lit (.int .i64 0),.lit (.int .i64 0),.lit (.int .i64 0),.clo 124 []] [] (.tup []) []:=by
 refine zs func179 148 [] results179 ?_
 simp only[aD,Ak]
 have zh0:=c221z
 exact z1b
theorem c123z  : CallOK prog 123 [.lit (.slice none 0 0),.clo 124 []] [] (.tup []) []:=by
 refine zs func123 14 [] results123 ?_
 simp only[aD,Ak]
 repeat'(first|refine zk ?_|(refine zu ?_ ?_<;>intro hc)|(refine AW.nil (uL ?_)<;>simp -dsimp (disch:=try exact zo)only[go_sem])|(refine zf b3b ?_)|(refine zq c179z ?_)|(refine zv ?_ ?_<;>intro hg)|omega|simp -dsimp (disch:=try exact zo)only[go_sem]|contradiction|rfl)
end Go.Proofs.Vx
namespace Go.Proofs
open Go.Shelf Go.RowKit Go.Lib Go.Sort
def b3q:Go.Shelf.Ren:=⟨fun|6=>123|15=>151|14=>179|28=>205|29=>206|20=>221|21=>222|22=>223|23=>224|24=>225|25=>226|26=>227|27=>228|46=>249|47=>242|48=>243|49=>250|50=>251|57=>266|n=>n,fun|22=>22|24=>26|25=>148|3=>3|39=>171|0=>0|53=>189|55=>158|4=>4|46=>201|45=>200|50=>205|5=>5|9=>9|66=>238|70=>242|76=>255|77=>256|n=>n,fun|n=>n⟩
theorem b4y:Go.Proofs.SlLaysF0.n6 Tryz.prog b3q:={
 mixed:=by kernel_rfl,
 f6:=⟨Tryz.f123.name,by decide,Tryz.func123.trans (congrArg some (by kernel_rfl))⟩,
 f14:=⟨Tryz.f179.name,by decide,Tryz.func179.trans (congrArg some (by kernel_rfl))⟩,
 f15:=Tryz.func151.trans (congrArg some (by kernel_rfl)),
 f20:=⟨Tryz.f221.name,by decide,Tryz.func221.trans (congrArg some (by kernel_rfl))⟩,
 f21:=⟨Tryz.f222.name,by decide,Tryz.func222.trans (congrArg some (by kernel_rfl))⟩,
 f22:=⟨Tryz.f223.name,by decide,Tryz.func223.trans (congrArg some (by kernel_rfl))⟩,
 f23:=⟨Tryz.f224.name,by decide,Tryz.func224.trans (congrArg some (by kernel_rfl))⟩,
 f24:=⟨Tryz.f225.name,by decide,Tryz.func225.trans (congrArg some (by kernel_rfl))⟩,
 f25:=⟨Tryz.f226.name,by decide,Tryz.func226.trans (congrArg some (by kernel_rfl))⟩,
 f26:=⟨Tryz.f227.name,by decide,Tryz.func227.trans (congrArg some (by kernel_rfl))⟩,
 f27:=⟨Tryz.f228.name,by decide,Tryz.func228.trans (congrArg some (by kernel_rfl))⟩,
 f28:=Tryz.func205.trans (congrArg some (by kernel_rfl)),
 f29:=Tryz.func206.trans (congrArg some (by kernel_rfl)),
 f46:=⟨Tryz.f249.name,by decide,Tryz.func249.trans (congrArg some (by kernel_rfl))⟩,
 f47:=Tryz.func242.trans (congrArg some (by kernel_rfl)),
 f48:=Tryz.func243.trans (congrArg some (by kernel_rfl)),
 f49:=⟨Tryz.f250.name,by decide,Tryz.func250.trans (congrArg some (by kernel_rfl))⟩,
 f50:=⟨Tryz.f251.name,by decide,Tryz.func251.trans (congrArg some (by kernel_rfl))⟩,
 f57:=⟨Tryz.f266.name,by decide,Tryz.func266.trans (congrArg some (by kernel_rfl))⟩,
 t0:=Tryz.underlying0,
 a0:=Tryz.isAgg0,
 z0:=Tryz.sizeOf0,
 v0:=Tryz.zeroValue0,
 t3:=Tryz.underlying3,
 a3:=Tryz.isAgg3,
 z3:=Tryz.sizeOf3,
 v3:=Tryz.zeroValue3,
 t4:=Tryz.underlying4,
 a4:=Tryz.isAgg4,
 z4:=Tryz.sizeOf4,
 v4:=Tryz.zeroValue4,
 t5:=Tryz.underlying5,
 a5:=Tryz.isAgg5,
 z5:=Tryz.sizeOf5,
 v5:=Tryz.zeroValue5,
 t9:=Tryz.underlying9,
 a9:=Tryz.isAgg9,
 z9:=Tryz.sizeOf9,
 v9:=Tryz.zeroValue9,
 t22:=Tryz.underlying22,
 a22:=Tryz.isAgg22,
 z22:=Tryz.sizeOf22,
 v22:=Tryz.zeroValue22,
 t25:=Tryz.underlying148,
 a25:=Tryz.isAgg148,
 z25:=Tryz.sizeOf148,
 v25:=Tryz.zeroValue148,
 t39:=Tryz.underlying171,
 a39:=Tryz.isAgg171,
 z39:=Tryz.sizeOf171,
 v39:=Tryz.zeroValue171,
 t45:=Tryz.underlying200,
 a45:=Tryz.isAgg200,
 z45:=Tryz.sizeOf200,
 v45:=Tryz.zeroValue200,
 t46:=Tryz.underlying201,
 a46:=Tryz.isAgg201,
 z46:=Tryz.sizeOf201,
 v46:=Tryz.zeroValue201,
 t50:=Tryz.underlying205,
 a50:=Tryz.isAgg205,
 z50:=Tryz.sizeOf205,
 v50:=Tryz.zeroValue205,
 t53:=Tryz.underlying189,
 a53:=Tryz.isAgg189,
 z53:=Tryz.sizeOf189,
 v53:=Tryz.zeroValue189,
 t55:=Tryz.underlying158,
 a55:=Tryz.isAgg158,
 z55:=Tryz.sizeOf158,
 v55:=Tryz.zeroValue158,
 t66:=Tryz.underlying238,
 a66:=Tryz.isAgg238,
 z66:=Tryz.sizeOf238,
 v66:=Tryz.zeroValue238,
 t70:=Tryz.underlying242,
 a70:=Tryz.isAgg242,
 z70:=Tryz.sizeOf242,
 v70:=Tryz.zeroValue242,
 t76:=Tryz.underlying255,
 a76:=Tryz.isAgg255,
 z76:=Tryz.sizeOf255,
 v76:=Tryz.zeroValue255,
 t77:=Tryz.underlying256,
 a77:=Tryz.isAgg256,
 z77:=Tryz.sizeOf256,
 v77:=Tryz.zeroValue256 }
end Go.Proofs
namespace Go.Proofs.Vx
open Go Go.Sx Go.Proofs Tryz
theorem b8w:∀ args w,(callFunc 124 args).run prog w=.ok (.enter 124 args) w:=enters_of func124 (by kernel_rfl) rfl
theorem a9d (p:Pl) (g:Gh):Rel g (.agg (eH p)) (.agg (mL p).toArray):=a2a ⟨p.a,p.b,p.c,p.d⟩ g
theorem c7m (blk off size:Nat) (w:World):CmpLays prog 124 #[] dJ 8 cfH blk off size w:=by
 intro m os dk _ x y
 have h:=c124 x.1 y.1 x.2 y.2
 have:=h.grown (vals:=[.agg (mL x.1).toArray,.agg (mL y.1).toArray]) (fun g=>RelL.cons (a9d _ g) (RelL.cons (a9d _ g) RelL.nil)) (.lit _) (sortWorldK dJ 8 w blk off m dk os)
 refine Calls.mono (by simpa [dJ]using this) ?_
 rintro e w' ⟨⟨v,rfl,hv⟩,q,os',rfl⟩
 refine⟨?_,q,os',rfl⟩
 have hq:=hv ⟨w,fun _=>False,fun _=>False,fun _=>0,fun _=>⟨none,0,0,0⟩,fun _=>0⟩
 cases hq
 rfl
theorem c7q (w:World):(isAgg 26).run prog w=.ok true w:=by kernel_rfl
theorem c1i (w:World):(Go.sizeOf 26).run prog w=.ok 8 w:=by kernel_rfl
theorem c123 (vs:List Pl) (hv:∀ p∈vs,Bs 268435456 p.a p.b p.c p.d) (hn:vs.length<4611686018427387904):CallOK prog 123 [.ref 0 0 vs.length vs.length,.clo 124 []] [(0,.vec 8 (vs.map eH))] (.tup []) [(0,.vec 8 ((iF vs).map eH))]:=by
 refine c1f vs hv hn c123z ?_
 intro blk cap d w hH hb hsz
 have:=AnyQ.slices_SortFunc b4y 8 c7q c1i dJ c3n c3m cfH swoH 124 #[] blk 0 cap d w b8w (c7m blk 0 d.size w) hH hb hsz
 change Calls prog 123 _ _ _ at this
 exact this
end Go.Proofs.Vx
namespace Go.Sx
set_option linter.unusedVariables false
theorem zO (pre:List (Nat × AV)) (l:Nat):upd aG (pre.map fun p=>(p.1,AV.any)) l=.any:=by
 induction pre with
 | nil=>rfl
 | cons p pre ih =>
  simp only[List.map_cons,upd]
  split
  ·rfl
  ·exact ih
theorem b6g {P : Program} {f : Nat} {fn : Func} {code : Code} {args : List AV} {pre : List (Nat × AV)} {r : AV} (hf : P.funcs[f]? = some fn) (hb : fn.body = some code) (nt : Nat) (hnt : fn.ntmps = nt) (ha : decide (args.length ≤ nt) = true) (hn : ∀ p ∈ pre, p.1 < 8) (hin : In (fun _ => False) r) (rs : List ResultVar) (hrs : fn.results.toList = rs)
  (h:AW P nt (RetA P rs r) [.code code] ⟨aD 0 args,pre,8⟩):CallOK P f args pre r (pre.map fun p=>(p.1,.any)):=by
 subst hnt
 subst hrs
 have ha:args.length≤fn.ntmps:=by simpa using ha
 intro g vals hus hg hr
 have hsim:=pT (P:=P) (f:=f) (fn:=fn) (n:=8) (pre:=pre) hn (Ac _) ha hus hg hr
 refine pK hf hb (wpIn_mono (h _ _ _ rfl hsim) (pX rfl rfl fun S g1 a hS hg1 ht hsz hln=>?_))
 obtain⟨x,hx,hxr⟩:=hS
 obtain⟨v,hv,hvr⟩:=pN (c:=bK P g (upd aG pre)) hx hg1 ht
 have hrel:=a9b hg1 hvr
 rw[hxr]at hrel
 let g2:Gh:={ gB g1 (look S.o)with us:=g.us }
 have hfz:∀ b,g.fz b→g1.w.heap[b]?=g.w.heap[b]?:=fun b hb=>hg1.old b (hg.fzx b hb) fun⟨l,hl⟩=>(hg.own l b hl).2 hb
 refine⟨v,hv,v,g2,rfl,rfl,⟨fun b hb=>⟨.inl (hg1.fzo b hb),hfz b hb⟩,fun l hl=>⟨hl,(hln l hl).2.2⟩⟩,fun l=>Iff.rfl,?_,?_⟩
 ·refine⟨hg1.os,hg1.tape,hg1.output,hg1.size,hg1.old,fun b hb=>.inl (hg1.fzo b hb),?_,?_,fun l=>by rw[zO];trivial,fun l b hb=>by rw[zO]at hb;simp[aF]at hb,fun l l' b hb hb'=>by rw[zO]at hb;simp[aF]at hb⟩
  ·rintro b (hb|⟨l,hb⟩)
   ·exact hg1.fzn b hb
   ·rcases (hg1.own l b hb).1 with h|h
    ·exact .inr (.inl h)
    ·exact .inr (.inr h)
  ·rintro b (hb|⟨l,hb⟩)
   ·exact hg1.fzx b hb
   ·exact (hg1.obj l).lt hb
 ·exact cX (g:=gB g1 (look S.o)) (g':=g2) (K:=fun _=>False) (fun b hb=>⟨hb,rfl⟩) (fun l hl=>hl.elim) hrel hin
end Go.Sx
namespace Go.Proofs.Vx
open Go Go.Sx Go.Proofs Tryz
attribute [local irreducible] fnT CallOK CallFr AW aK callV aL aJ aI aM gcaseP hid
theorem b6i:boT prog 26=false∧Tryz.prog.eqGuardType Tryz.prog.depth 26=false∧lfT prog 30 26=some [.b,.s,.b,.s,.b,.s,.b,.s]:=by and_intros<;>kernel_rfl
attribute [go_sem] b6i
theorem eH_getD (vs:List Pl) (i:Nat) (h:i<vs.length):(vs.map eH).getD i []=eH vs[i]:=by
 rw[List.getD_eq_getElem?_getD,List.getElem?_map,Ab h];rfl
theorem kB (vs:List Pl):∀ e∈vs.map eH,∀ c∈e,Flat c:=by
 intro e he c hc
 obtain⟨p,_,rfl⟩:=Ax.1 he
 exact oK [⟨p.a,p.b,p.c,p.d⟩] _ (by simp[eP,eH]) c hc
theorem r5 {K:Nat→Prop} (vs:List Pl):(∀ e∈vs.map eH,∀ c∈e,In K c)=True:=eq_true fun e he c hc=>(kB vs e he c hc).inn
theorem rH {K:Nat→Prop} (vs:List Pl):InC K (.vec 8 (vs.map eH)):=fun e he c hc=>(kB vs e he c hc).inn
theorem frzS {n:Nat} {W:List (List AV)} (h:W.length=n):(if 0<n then AV.sl (W.take n)else if n=0 then AV.sl []else .any)=.sl W:=by
 subst h
 cases W with
 | nil=>rfl
 | cons a W=>rw[if_pos (by simp),Aj (Ac _)]
def vwH (s:List Pl) (j:Nat):List Pl:=aZ s j++s.drop (aZ s j).length
theorem a8q {s:List Pl} {j:Nat} (h:(aZ s j).length≤s.length):(vwH s j).length=s.length:=by
 unfold vwH;rw[An,Aw];omega
theorem a1a {s:List Pl} {j q:Nat} (h:(aZ s j).length≤q) (hq:q<s.length):((vwH s j).map eH).getD q []=eH s[q]:=by
 rw[eH_getD _ _ (by rw[a8q (by omega)];exact hq)]
 congr 1
 unfold vwH
 rw[List.getElem_append_right h,List.getElem_drop]
 congr 1;omega
theorem c0v {s:List Pl} {i j:Nat} (e:aZ s i=aZ s j):vwH s i=vwH s j:=by unfold vwH;rw[e]
theorem c5r {s:List Pl} {i j:Nat} {y:Pl} (e:aZ s i=aZ s j++[y]) (h:(aZ s j).length<s.length):((vwH s j).map eH).set (aZ s j).length (eH y)=(vwH s i).map eH:=by
 have:((vwH s j).map eH).set (aZ s j).length (eH y)=((vwH s j).set (aZ s j).length y).map eH:=by rw[List.map_set]
 rw[this]
 congr 1
 unfold vwH
 rw[e,List.set_append_right _ _ (Ac _),Nat.sub_self,List.drop_eq_getElem_cons h,List.set_cons_zero,An,List.append_assoc]
 rfl
theorem c0u {s:List Pl} {j:Nat} (h:aZ s j=s.take (aZ s j).length):vwH s j=s:=by
 unfold vwH
 conv=>lhs;lhs;rw[h]
 exact List.take_append_drop _ _
theorem c5q (s:List Pl) (j:Nat) (X:List (List AV)):((((vwH s j).map eH).take (aZ s j).length)++X).take (aZ s j).length=(aZ s j).map eH:=by
 have e:((vwH s j).map eH).take (aZ s j).length=(aZ s j).map eH:=by
  unfold vwH
  rw[List.map_append,Al (by rw[Aa];exact Ac _),Aj (by rw[Aa];exact Ac _)]
 rw[e,Al (by rw[Aa];exact Ac _),Aj (by rw[Aa];exact Ac _)]
attribute [go_sem] r5
theorem c125 (s:List Pl) (hn:s.length≤268435456):CallOK prog 125 [.ref 0 0 s.length s.length] [(0,.vec 8 (s.map eH))] (.sl ((aZ s s.length).map eH)) [(0,.any)]:=by
 refine b6g func125 rfl 61 rfl rfl (by simp) (by rw[iI,r5];trivial) [.tmp 2] (congrArg Array.toList results125) ?_
 simp only[aD,Ak]
 have hml:maxLen=9223372036854775807:=rfl
 have hl:(s.map eH).length=s.length:=Aa _
 by_cases hs:s.length<2
 ·have hs2:((s.length:Int)<2)=True:=eq_true (by omega)
  rw[zY (Ac _) (fun q h _=>by omega),Aq]
  repeat'(first|refine zk ?_|(refine zu ?_ ?_<;>intro hc)|(refine zv ?_ ?_<;>intro hg)|omega|simp -dsimp (disch:=try exact zo)only[go_sem,hl,hs2]|contradiction|rfl)
  all_goals exact frzS hl
 have hs2:((s.length:Int)<2)=False:=eq_false (by omega)
 repeat'(first|refine zk ?_|(refine zu ?_ ?_<;>intro hc)|(refine zv ?_ ?_<;>intro hg)|omega|simp -dsimp (disch:=try exact zo)only[go_sem,hl,hs2]|contradiction|rfl)
 refine AW.loop (fun z:{k:Nat // (1≤k∧k≤s.length)∧Hid (∀ q (h:q+1<s.length),q+1<k→s[q+1]≠s[q])}=>⟨[(3,.lit (.int .i64 z.1)),(0,.ref 0 0 s.length s.length)],[(0,.vec 8 (s.map eH))],60⟩) (fun z=>s.length - z.1) ⟨1,⟨Ac _,by omega⟩,Hid.mk (fun q _ h=>by omega)⟩ zw ?_
 rintro⟨k,⟨hk1',hk⟩,hI⟩
 dsimp only
 by_cases hlt:k<s.length
 ·have hk0:k - 1<s.length:=by omega
  have es1:=eH_getD s k hlt
  have es0:=eH_getD s (k - 1) hk0
  have hk1:((k:Int) - 1).toNat=k - 1:=by omega
  have hI1:=Hid.mk (show s[k]≠s[k - 1]'hk0→∀ q (h:q+1<s.length),q+1<k+1→s[q+1]≠s[q]from fun hne q h h2=>by
   by_cases e:q+1=k
   ·subst e;exact hne
   ·exact hI.out q h (by omega))
  have hc0:aZ s k=s.take k:=zY hk hI.out
  have hcl:(aZ s k).length=k:=by rw[hc0,Ap];omega
  have hdup:s[k]=s[k - 1]'hk0→aZ s (k+1)=aZ s k:=fun e=>by
   obtain⟨j,rfl⟩:∃ j,k=j+1:=⟨k - 1,by omega⟩
   exact zZ hlt e
  by_cases hq:s[k]=s[k - 1]'hk0
  ·have hd:=hdup hq
   have hw0:vwH s (k+1)=s:=c0u (by rw[hd,hcl,hc0])
   have hl1:(aZ s (k+1)).length=k:=by rw[hd,hcl]
   clear hI hI1 hdup hc0 hcl hd
   generalize s[k]=y at *
   generalize s[k - 1]'hk0=y0 at *
   have k1:(y.a=y0.a∧y.b=y0.b∧y.c=y0.c∧y.d=y0.d)=True:=eq_true (by subst hq;simp)
   clear hq
   obtain⟨a1,a2,a3,a4⟩:=y
   obtain⟨b1,b2,b3,b4⟩:=y0
   simp only[eH,e4]at es1 es0
   dsimp only at k1
   repeat'(first|refine zk ?_|(refine zu ?_ ?_<;>intro hc)|(refine zv ?_ ?_<;>intro hg)|omega|simp -dsimp (disch:=try exact zo)only[go_sem,hl,es1,es0,hk1,k1,ZT]|contradiction|rfl)
   refine AW.loop (fun z:{q:Nat // 1≤q∧k+q≤s.length∧(aZ s (k+q)).length+1≤k+q}=>⟨[(5,.lit (.int .i64 z.1)),(4,.ref 0 k (s.length - k) s.length),(3,.lit (.int .i64 (aZ s (k+z.1)).length)),(0,.ref 0 0 s.length s.length)],[(0,.vec 8 ((vwH s (k+z.1)).map eH))],90⟩) (fun z=>s.length - z.1) ⟨1,Ac _,by omega,by omega⟩ zw ?_
   rintro⟨q,hq1',hq2,hq3⟩
   dsimp only
   have hWl:((vwH s (k+q)).map eH).length=s.length:=by rw[Aa,a8q (by omega)]
   by_cases hlq:k+q<s.length
   ·have hq0:k+(q - 1)<s.length:=by omega
    have hm0:(aZ s (k+q)).length<s.length:=by omega
    have e1:=a1a (s:=s) (j:=k+q) (q:=k+q) (by omega) hlq
    have e0:=a1a (s:=s) (j:=k+q) (q:=k+(q - 1)) (by omega) hq0
    have em:=a1a (s:=s) (j:=k+q) (q:=(aZ s (k+q)).length) (Ac _) hm0
    have hq1:((q:Int) - 1).toNat=q - 1:=by omega
    have hsame:s[k+q]=s[k+(q - 1)]'hq0→aZ s (k+(q+1))=aZ s (k+q):=fun e=>by
     obtain⟨j,rfl⟩:∃ j,q=j+1:=⟨q - 1,by omega⟩
     exact zZ (j:=k+j) hlq e
    have hnew:s[k+q]≠s[k+(q - 1)]'hq0→aZ s (k+(q+1))=aZ s (k+q)++[s[k+q]]:=fun e=>by
     obtain⟨j,rfl⟩:∃ j,q=j+1:=⟨q - 1,by omega⟩
     exact a0q (j:=k+j) hlq e
    clear es1 es0
    by_cases hy:s[k+q]=s[k+(q - 1)]'hq0
    ·have hs':=hsame hy
     have hw1:vwH s (k+(q+1))=vwH s (k+q):=c0v hs'
     have hlen1:(aZ s (k+(q+1))).length=(aZ s (k+q)).length:=by rw[hs']
     have hset:True:=trivial
     clear hsame hnew hs'
     generalize s[k+q]=y at *
     generalize s[k+(q - 1)]'hq0=y0 at *
     have k1:(y.a=y0.a∧y.b=y0.b∧y.c=y0.c∧y.d=y0.d)=True:=eq_true (by subst hy;simp)
     clear hy em
     have em:True:=trivial
     obtain⟨a1,a2,a3,a4⟩:=y
     obtain⟨b1,b2,b3,b4⟩:=y0
     simp only[eH,e4]at e1 e0
     dsimp only at k1
     repeat'(first|refine zk ?_|(refine zu ?_ ?_<;>intro hc)|(refine zv ?_ ?_<;>intro hg)|omega|simp -dsimp (disch:=try exact zo)only[go_sem,hWl,e1,e0,hq1,k1,ZT,em,hset]|contradiction|rfl)
     all_goals exact AW.stop ⟨⟨q+1,by omega,by omega,by omega⟩,zw,by dsimp only;omega⟩
    ·have hs':=hnew hy
     have hset:=c5r hs' hm0
     have hlen1:(aZ s (k+(q+1))).length=(aZ s (k+q)).length+1:=by rw[hs',An];rfl
     have hw1:True:=trivial
     clear hsame hnew hs'
     generalize s[(aZ s (k+q)).length]'hm0=ym at *
     generalize s[k+q]=y at *
     generalize s[k+(q - 1)]'hq0=y0 at *
     have k1:(y.a=y0.a∧y.b=y0.b∧y.c=y0.c∧y.d=y0.d)=False:=eq_false (fun e=>hy (by obtain⟨a1,a2,a3,a4⟩:=y;obtain⟨b1,b2,b3,b4⟩:=y0;simp only at e;obtain⟨rfl,rfl,rfl,rfl⟩:=e;rfl))
     clear hy
     obtain⟨a1,a2,a3,a4⟩:=y
     obtain⟨b1,b2,b3,b4⟩:=y0
     simp only[eH,e4]at e1 e0 em hset
     dsimp only at k1
     repeat'(first|refine zk ?_|(refine zu ?_ ?_<;>intro hc)|(refine zv ?_ ?_<;>intro hg)|omega|simp -dsimp (disch:=try exact zo)only[go_sem,hWl,e1,e0,hq1,k1,ZT,em,hset]|contradiction|rfl)
     all_goals exact AW.stop ⟨⟨q+1,by omega,by omega,by omega⟩,zw,by dsimp only;omega⟩
   ·have hqn:k+q=s.length:=by omega
    have hpre:=c5q s (k+q)
    rw[hqn]at hpre hq3 hWl ⊢
    clear es1 es0
    generalize hm:(aZ s s.length).length=m at *
    generalize (vwH s s.length).map eH=W at *
    repeat'(first|refine zk ?_|(refine zu ?_ ?_<;>intro hc)|(refine zv ?_ ?_<;>intro hg)|omega|simp -dsimp (disch:=try exact zo)only[go_sem,hWl,ZT,Ap,Aw,Nat.sub_zero]|contradiction|rfl)
    all_goals rw[if_pos ⟨by omega,by omega,by omega⟩]
    all_goals exact congrArg AV.sl (hpre _)
  ·have hI2:=Hid.mk (hI1.out hq)
   clear hI hI1 hdup hc0 hcl
   generalize s[k]=y at *
   generalize s[k - 1]'hk0=y0 at *
   have k1:(y.a=y0.a∧y.b=y0.b∧y.c=y0.c∧y.d=y0.d)=False:=eq_false (fun e=>hq (by obtain⟨a1,a2,a3,a4⟩:=y;obtain⟨b1,b2,b3,b4⟩:=y0;simp only at e;obtain⟨rfl,rfl,rfl,rfl⟩:=e;rfl))
   clear hq
   obtain⟨a1,a2,a3,a4⟩:=y
   obtain⟨b1,b2,b3,b4⟩:=y0
   simp only[eH,e4]at es1 es0
   dsimp only at k1
   repeat'(first|refine zk ?_|(refine zu ?_ ?_<;>intro hc)|(refine zv ?_ ?_<;>intro hg)|omega|simp -dsimp (disch:=try exact zo)only[go_sem,hl,es1,es0,hk1,k1,ZT]|contradiction|rfl)
   all_goals exact AW.stop ⟨⟨k+1,⟨by omega,by omega⟩,hI2⟩,zw,by dsimp only;omega⟩
 ·have hkl:k=s.length:=by omega
  subst hkl
  rw[zY (Ac _) hI.out,Aq]
  clear hI
  have es1:True:=trivial
  repeat'(first|refine zk ?_|(refine zu ?_ ?_<;>intro hc)|(refine zv ?_ ?_<;>intro hg)|omega|simp -dsimp (disch:=try exact zo)only[go_sem,hl,hs2]|contradiction|rfl)
  all_goals exact frzS hl
end Go.Proofs.Vx
