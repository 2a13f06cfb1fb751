import Derived.Test.YtjlfgmhmalbiiaaGreatDoorX25
set_option linter.all false
set_option maxHeartbeats 16000000
open Bool renaming and_eq_true → Ak
open Int renaming mul_ne_zero → Ah, one_mul → Al, mul_assoc → Ar, mul_ediv_cancel_left → As, mul_comm → A6
open List renaming mem_map_of_mem → Aa, any_eq_true → Ab, map_map → Ac, all_eq_true → Ad, mem_map → Ae, mem_flatMap → Af, foldl_cons → Ag, take_succ_eq_append_getElem → Ai, getElem_mem → Aj, length_map → Am, mem_append → An, length_append → Ao, mem_of_find?_eq_some → Ap, mem_cons → Aq, foldl_nil → At, mem_of_mem_take → Au, filterMap_cons → Av, flatMap_append → Aw, toList_toArray → Ax, map_cons → Ay, mem_filterMap → Az, find?_eq_none → A0, flatMap_cons → A3, foldl_append → A4, nodup_append → A5, length_cons → A8, take_length → A9, find?_some → Bb, mem_filter → Bc, take_zero → Be
open Nat renaming le_trans → A7, zero_le → Ba
open Option renaming some → Bg
open Rat renaming le_of_lt → Bf
namespace Go.Sx
open Geo (H V Sd)
set_option linter.unusedVariables false
abbrev aE:=List (Pl × List Pt)
def sd (s:Pl × List Pt):Sd:=⟨tH s.1,s.2.map tv⟩
def sds (l:aE):List Sd:=l.map sd
def bh (b:Pl) (l:aE):aE:=l.filterMap fun s=>if bH (-1) b s.2 s.2.length then some (s.1,bF (-1) b s.2)else none
def jG (b:Pl) (l:aE):aE:=bh b l++[(b,cD b (bh b l))]
def bC (b:Pl) (l:aE):Bool:=l.any fun s=>s.2.any fun v=>decide (0<aC b v)
def bD (b:Pl) (l:aE):Bool:=l.any fun s=>s.2.any fun v=>decide (aC b v<0)
def aQ (b:Pl) (l:aE):aE × aE:=if bC b l=false then (l,[])else if bD b l=false then ([],l)else (jG b l,jG (aY b) l)
structure CanC (l:aE):Prop where
 can:∀ s∈l,∀ v∈s.2,CanP v
structure CellOK (l:aE):Prop extends CanC l where
 cell:Geo.Cell (sds l)
theorem CanC.w {l:aE} (h:CanC l) {s:Pl × List Pt} (hs:s∈l):∀ v∈s.2,0<v.w:=fun v hv=>(h.can s hs v hv).w
theorem rL {b:Pl} {l:aE} (h:CanC l):CanC (bh b l):=by
 refine⟨fun s hs=>?_⟩
 obtain⟨t,ht,e⟩:=Az.1 hs
 split at e
 ·obtain rfl:=Bg.inj e
  exact b7s (h.can t ht)
 ·contradiction
theorem yE {b:Pl} {l:aE} (h:CanC l):sds (bh b l)=Geo.aT (tH b) (sds l):=by
 unfold sds bh Geo.aT
 rw[List.map_filterMap,List.filterMap_map]
 induction l with
 | nil=>rfl
 | cons s l ih =>
  have hs:=h.w (s:=s) (by simp)
  have e:Option.map sd (if bH (-1) b s.2 s.2.length=true then some (s.1,bF (-1) b s.2)else none)=((fun s=>if Geo.bQ (tH b) s.vs=true then some (⟨s.h,Geo.part (tH b) s.vs⟩:Sd)else none)∘sd) s:=by
   simp only[Function.comp,sd]
   rw[a6w hs]
   by_cases hl:Geo.bQ (tH b) (s.2.map tv)=true
   ·rw[if_pos hl]
    refine Eq.trans ?_ (if_pos hl).symm
    simp only[Option.map_some,sd,a7d hs]
   ·rw[if_neg hl]
    exact (if_neg hl).symm
  rw[Av,Av,e,ih ⟨fun t ht=>h.can t (by simp[ht])⟩]
def tv2 (e:Pt × Pt):V × V:=(tv e.1,tv e.2)
def esP (l:aE):List (Pt × Pt):=l.flatMap fun s=>Geo.edges s.2
def onE (b:Pl) (e:Pt × Pt):Bool:=decide (aC b e.1=0∧aC b e.2=0)
theorem E_sds (l:aE):Geo.E (sds l)=(esP l).map tv2:=by
 unfold Geo.E sds esP
 rw[List.flatMap_map,List.map_flatMap]
 congr 1
 funext s
 exact Geo.zX tv s.2
theorem a7w (b:Pl) (l:aE):c7 b l=bY b ([],P0) (esP l):=by
 unfold c7 esP
 generalize (([],P0):MS)=s
 induction l generalizing s with
 | nil=>rfl
 | cons x l ih=>simp only[Ag,A3,bY,A4]at ih ⊢;exact ih _
theorem b4n (b:Pl) (es:List (Pt × Pt)) (s:MS):bY b s es=bY b s (es.filter (onE b)):=by
 induction es generalizing s with
 | nil=>rfl
 | cons e es ih =>
  rw[List.filter_cons]
  by_cases h:onE b e=true
  ·rw[if_pos h];exact ih _
  ·rw[if_neg h]
   have:iD b s e=s:=by
    unfold iD
    rw[if_neg (fun hh=>h (by unfold onE;exact decide_eq_true hh))]
   show bY b (iD b s e) es=_
   rw[this];exact ih _
theorem c3h {b : Pl} : ∀ (he : List (Pt × Pt)) (m : List (Pt × Pt)) (f : Pt), (∀ e ∈ he, onE b e = true) → (m.map (·.1) ++ he.map (·.2)).Nodup →
  (bY b (m,f) he).1=m++he.map Geo.sw∧(he≠[]→(bY b (m,f) he).2∈he.map (·.2)):=by
 intro he
 induction he with
 | nil=>intro m f _ _;exact⟨by simp[bY],fun h=>absurd rfl h⟩
 | cons e he ih =>
  intro m f hon hnd
  have h1:iD b (m,f) e=(m++[(e.2,e.1)],e.2):=by
   have:=of_decide_eq_true (hon e (by simp))
   unfold iD kO
   rw[if_pos this,if_neg]
   intro hm
   rw[A5]at hnd
   exact hnd.2.2 _ hm e.2 (by simp) rfl
  obtain⟨k1,k2⟩:=ih (m++[(e.2,e.1)]) e.2 (fun x hx=>hon x (by simp[hx])) (by simpa using hnd)
  have h2:bY b (m,f) (e::he)=bY b (m++[(e.2,e.1)],e.2) he:=by
   show bY b (iD b (m,f) e) he=_
   rw[h1]
  rw[h2]
  refine⟨by rw[k1];simp[Geo.sw],fun _=>?_⟩
  by_cases hne:he=[]
  ·subst hne;simp[bY]
  ·simp only[Ay,Aq];exact .inr (k2 hne)
theorem a0o {m:List (Pt × Pt)} (hn:(m.map (·.1)).Nodup) {e:Pt × Pt} (he:e∈m):nxP m e.1=e.2:=by
 unfold nxP rE
 cases hq:m.find? fun x=>decide (x.1=e.1)with
 | none=>have:=A0.1 hq e he;simp at this
 | some x =>
  have h1:=Ap hq
  have h2:x.1=e.1:=by have:=Bb hq;simpa using this
  have:=Geo.sX hn h1 he h2
  rw[this];rfl
theorem on_tv {b:Pl} {e:Pt × Pt} (h1:0<e.1.w) (h2:0<e.2.w):onE b e=!Geo.off (tH b) (tv2 e):=by
 unfold onE Geo.off tv2
 rw[Bool.eq_iff_iff]
 simp only[decide_eq_true_eq,Bool.not_eq_true',decide_eq_false_iff_not,Classical.not_not]
 rw[oY b h1,oY b h2,a1b,a1b]
theorem es_w {l:aE} (h:CanC l):∀ e∈esP l,CanP e.1∧CanP e.2:=by
 intro e he
 obtain⟨s,hs,he⟩:=Af.1 he
 exact⟨h.can s hs _ (Geo.bJ he),h.can s hs _ (Geo.bO he)⟩
def heP (b:Pl) (l:aE):List (Pt × Pt):=(esP (bh b l)).filter (onE b)
structure CapF (b:Pl) (l:aE):Prop where
 ne:heP b l≠[]
 nd:((heP b l).map (·.2)).Nodup
 io:∀ e∈heP b l,e.1∈(heP b l).map (·.2)
 le:(heP b l).length≤(bh b l).length
 nx:∀ e∈heP b l,nxP ((heP b l).map Geo.sw) e.2=e.1
 run:∀ f∈(heP b l).map (·.2),Geo.Spl.Cap (tH b) (sds l) ((aW (nxP ((heP b l).map Geo.sw)) (heP b l).length f).map tv)∧∀ v∈aW (nxP ((heP b l).map Geo.sw)) (heP b l).length f,CanP v
 cap:(c7 b (bh b l)).1=(heP b l).map Geo.sw∧(c7 b (bh b l)).2∈(heP b l).map (·.2)
 hHE:Geo.HE (tH b) (sds l)=(heP b l).map tv2
theorem uJ {b:Pl} {l:aE} (h:CellOK l) (hS:Geo.Spl (sds l) (tH b)):CapF b l:=by
 have hk:=rL (b:=b) h.toCanC
 have hw:=es_w hk
 generalize hhe:heP b l=he
 have hHE:Geo.HE (tH b) (sds l)=he.map tv2:=by
  subst hhe
  unfold Geo.HE heP
  rw[← yE h.toCanC,E_sds,List.filter_map]
  congr 1
  apply List.filter_congr
  intro e hh
  rw[on_tv (hw e hh).1.w (hw e hh).2.w]
  rfl
 have hcan:∀ e∈he,CanP e.1∧CanP e.2:=fun e hh=>hw e (Bc.1 (by subst hhe;exact hh)).1
 have hon:∀ e∈he,onE b e=true:=fun e hh=>(Bc.1 (by subst hhe;exact hh)).2
 have hcy:=hS.cyc
 have hnd0:(((Geo.HE (tH b) (sds l)).map Geo.sw).map (·.1)).Nodup:=hcy.nd
 have hnd:(he.map (·.2)).Nodup:=by
  rw[hHE]at hnd0
  have:((he.map tv2).map Geo.sw).map (·.1)=(he.map (·.2)).map tv:=by
   rw[Ac,Ac,Ac];rfl
  rw[this]at hnd0
  exact Geo.yY hnd0
 have hio:∀ e∈he,e.1∈he.map (·.2):=by
  intro e hh
  have h1:=hcy.io
  rw[hHE,Ac,Ac,Ac,Ac]at h1
  have h2:tv e.1∈he.map ((fun x=>x.2)∘Geo.sw∘tv2):=Ae.2 ⟨e,hh,rfl⟩
  obtain⟨e',he',q⟩:=Ae.1 (h1.mem_iff.2 h2)
  have:e'.2=e.1:=l7 (hcan e' he').2 (hcan e hh).1 q
  exact Ae.2 ⟨e',he',this⟩
 obtain⟨f1,f2⟩:=c3h (b:=b) he [] P0 hon (by simpa using hnd)
 have hne:he≠[]:=fun e=>by have:=hS.HE_ne;rw[hHE,e]at this;exact this rfl
 have f3:=f2 hne
 have hfold:c7 b (bh b l)=bY b ([],P0) he:=by rw[a7w,b4n];subst hhe;rfl
 have hkeys:((he.map Geo.sw).map (·.1)).Nodup:=by rw[Ac];exact hnd
 have hnx:∀ e∈he,nxP (he.map Geo.sw) e.2=e.1:=fun e hh=>a0o (e:=Geo.sw e) hkeys (Aa hh)
 let nx:V→V:=fun v=>(((he.map tv2).find? fun e=>decide (e.2=v)).map (·.1)).getD v
 have hnxV:∀ e∈he,nx (tv e.2)=tv e.1:=by
  intro e hh
  have hndV:((he.map tv2).map (·.2)).Nodup:=by
   rw[hHE]at hnd0
   rw[Ac]at hnd0 ⊢
   rw[Ac]at hnd0
   exact hnd0
  show (((he.map tv2).find? fun x=>decide (x.2=tv e.2)).map (·.1)).getD (tv e.2)=tv e.1
  cases hq:(he.map tv2).find? fun x=>decide (x.2=tv e.2)with
  | none=>have:=A0.1 hq (tv2 e) (Aa hh);simp[tv2]at this
  | some x =>
   have h1:=Ap hq
   have h2:x.2=(tv2 e).2:=by have:=Bb hq;exact of_decide_eq_true this
   have:=Geo.sX hndV h1 (Aa hh) h2
   rw[this];rfl
 have hrun:∀ (n:Nat) (x:Pt),x∈he.map (·.2)→(aW (nxP (he.map Geo.sw)) n x).map tv=Geo.cQ nx n (tv x)∧∀ v∈aW (nxP (he.map Geo.sw)) n x,CanP v:=by
  intro n
  induction n with
  | zero=>intro x _;exact⟨rfl,fun v hv=>by simp[aW]at hv⟩
  | succ n ih =>
   intro x hx
   obtain⟨e,hh,rfl⟩:=Ae.1 hx
   have h1:=hnx e hh
   obtain⟨i1,i2⟩:=ih e.1 (hio e hh)
   rw[aW,h1]
   refine⟨?_,fun v hv=>?_⟩
   ·rw[Ay,i1,Geo.cQ,hnxV e hh]
   ·rcases Aq.1 hv with rfl|hv
    ·exact (hcan e hh).2
    ·exact i2 v hv
 have hle:he.length≤(bh b l).length:=by
  have:=hS.HE_le
  rw[hHE,← yE h.toCanC]at this
  simpa [sds]using this
 subst hhe
 refine⟨hne,hnd,hio,hle,hnx,fun f hf=>?_,by rw[hfold];exact⟨by simpa using f1,f3⟩,hHE⟩
 obtain⟨r1,r2⟩:=hrun (heP b l).length f hf
 refine⟨?_,r2⟩
 rw[r1]
 have hlen:(heP b l).length=(Geo.HE (tH b) (sds l)).length:=by rw[hHE];simp
 rw[hlen]
 refine hS.cap_of (nx:=nx) (fun e hh=>?_) ?_
 ·rw[hHE]at hh
  obtain⟨e0,hh0,rfl⟩:=Ae.1 hh
  exact hnxV e0 hh0
 ·rw[hHE,Ac]
  obtain⟨e,hh,rfl⟩:=Ae.1 hf
  exact Ae.2 ⟨e,hh,rfl⟩
theorem CapF.ex {b:Pl} {l:aE} (C:CapF b l):∃ f∈(heP b l).map (·.2),cD b (bh b l)=aW (nxP ((heP b l).map Geo.sw)) (heP b l).length f:=by
 refine⟨_,C.cap.2,?_⟩
 unfold cD
 rw[C.cap.1,Am]
theorem uI {b:Pl} {l:aE} (h:CellOK l) (hS:Geo.Spl (sds l) (tH b)):Geo.Spl.Cap (tH b) (sds l) ((cD b (bh b l)).map tv)∧(∀ v∈cD b (bh b l),CanP v)∧(cD b (bh b l)).length≤(bh b l).length∧(c7 b (bh b l)).1.length≤(bh b l).length:=by
 have C:=uJ h hS
 obtain⟨f,hf,e⟩:=C.ex
 rw[e,C.cap.1]
 exact⟨(C.run f hf).1,(C.run f hf).2,by rw[pL];exact C.le,by rw[Am];exact C.le⟩
theorem a2k {b:Pl} {l:aE} (h:CellOK l) (hS:Geo.Spl (sds l) (tH b)):Geo.Spl.Cap (tH b) (sds l) ((cD b (bh b l)).map tv)∧∀ v∈cD b (bh b l),CanP v:=⟨(uI h hS).1,(uI h hS).2.1⟩
theorem a2r {b:Pl} {l:aE} (h:CanC l):sds (jG b l)=Geo.aT (tH b) (sds l)++[⟨tH b,(cD b (bh b l)).map tv⟩]:=by
 unfold jG
 show (bh b l++[(b,cD b (bh b l))]).map sd=_
 rw[List.map_append]
 show sds (bh b l)++_=_
 rw[yE h]
 rfl
theorem gO {b:Pl} {l:aE} (h:CellOK l) (hf:bC b l=true) (hb:bD b l=true):Geo.Spl (sds l) (tH b):=by
 refine⟨h.cell,?_,?_⟩
 ·unfold bD at hb
  obtain⟨s,hs,hb⟩:=Ab.1 hb
  obtain⟨v,hv,hb⟩:=Ab.1 hb
  refine⟨sd s,Aa hs,tv v,Aa hv,(nQ b (h.w hs v hv)).2 ?_⟩
  have:=of_decide_eq_true hb
  unfold aC at this
  exact l9.1 this
 ·unfold bC at hf
  obtain⟨s,hs,hf⟩:=Ab.1 hf
  obtain⟨v,hv,hf⟩:=Ab.1 hf
  refine⟨sd s,Aa hs,tv v,Aa hv,(r8 b (h.w hs v hv)).2 ?_⟩
  have:=of_decide_eq_true hf
  unfold aC at this
  exact xV.1 this
theorem xB {b:Pl} {l:aE} (h:CellOK l) (hS:Geo.Spl (sds l) (tH b)):CellOK (jG b l):=by
 obtain⟨K,hc⟩:=a2k h hS
 refine⟨⟨fun s hs=>?_⟩,?_⟩
 ·rcases An.1 hs with hs|hs
  ·exact (rL h.toCanC).can s hs
  ·obtain rfl:s=_:=by simpa using hs
   exact hc
 ·rw[a2r h.toCanC]
  exact hS.cell K
theorem lM (b:Pl) (l:aE):bC (aY b) l=bD b l:=by
 unfold bC bD
 congr 1;funext s;congr 1;funext v
 rw[tV]
 congr 1
 simp only[eq_iff_iff];omega
theorem lK (b:Pl) (l:aE):bD (aY b) l=bC b l:=by
 unfold bC bD
 congr 1;funext s;congr 1;funext v
 rw[tV]
 congr 1
 simp only[eq_iff_iff];omega
theorem a0c {b:Pl} {l:aE} (h:CellOK l):((aQ b l).1=[]∨CellOK (aQ b l).1)∧((aQ b l).2=[]∨CellOK (aQ b l).2):=by
 unfold aQ
 by_cases hf:bC b l=false
 ·rw[if_pos hf];exact⟨.inr h,.inl rfl⟩
 ·rw[if_neg hf]
  by_cases hb:bD b l=false
  ·rw[if_pos hb];exact⟨.inl rfl,.inr h⟩
  ·rw[if_neg hb]
   have hf':bC b l=true:=by simpa using hf
   have hb':bD b l=true:=by simpa using hb
   refine⟨.inr (xB h (gO h hf' hb')),.inr (xB h (gO h (by rw[lM];exact hb') (by rw[lK];exact hf')))⟩
theorem c4k {b:Pl} {l:aE} (h:CellOK l) (hn:(tH b).n≠⟨0,0,0⟩):bC b l=true∨bD b l=true:=by
 by_cases hf:bC b l=true
 ·exact .inl hf
 ·right
  by_cases hb:bD b l=true
  ·exact hb
  ·exfalso
   have hz:∀ s∈sds l,∀ v∈s.vs,(tH b).at v=0:=by
    intro s hs v hv
    obtain⟨s0,hs0,rfl⟩:=Ae.1 hs
    obtain⟨v0,hv0,rfl⟩:=Ae.1 hv
    rw[oY b (h.w hs0 v0 hv0)]
    have h1:¬ 0<aC b v0:=fun hh=>hf (Ab.2 ⟨s0,hs0,Ab.2 ⟨v0,hv0,decide_eq_true hh⟩⟩)
    have h2:¬ aC b v0<0:=fun hh=>hb (Ab.2 ⟨s0,hs0,Ab.2 ⟨v0,hv0,decide_eq_true hh⟩⟩)
    unfold aC at h1 h2
    have h3:¬ 0<abv b v0:=fun hh=>h1 (xV.2 hh)
    have h4:¬ abv b v0<0:=fun hh=>h2 (l9.2 hh)
    omega
   obtain⟨m,hm⟩:=h.cell.exists_inn
   have c1:∀ y,Geo.Inn (sds l) y→(tH b).at y≤0:=fun y hy=>h.cell.hull (fun s hs v hv=>by rw[hz s hs v hv];exact Rat.le_refl) fun t ht=>Bf (hy t ht)
   have c2:∀ y,Geo.Inn (sds l) y→(Geo.neg (tH b)).at y≤0:=fun y hy=>h.cell.hull (fun s hs v hv=>by rw[Geo.iQ,hz s hs v hv];decide) fun t ht=>Bf (hy t ht)
   have n2:(Geo.neg (tH b)).n≠⟨0,0,0⟩:=fun e=>hn (by
    have ex:=congrArg V.x e
    have ey:=congrArg V.y e
    have ez:=congrArg V.z e
    simp only[Geo.neg,Geo.dH,Geo.dG,Geo.dF]at ex ey ez
    apply V.ext<;>simp only<;>grind)
   have d1:=Geo.a6d hm hn c1
   have d2:=Geo.a6d hm n2 c2
   rw[Geo.iQ]at d2
   grind
end Go.Sx
namespace Go.Sx
open Geo (H V Sd)
set_option linter.unusedVariables false
def crA (a:V) (e:V × V):V:=Geo.aA (e.1 - a) (e.2 - a)
def jH (a:V) (es:List (V × V)):V:=es.foldl (fun s e=>s+crA a e) ⟨0,0,0⟩
def hd (vs:List Pt):V:=match vs with|[]=>⟨0,0,0⟩|v::_=>tv v
def iH (vs:List Pt):V:=⟨(jH (hd vs) (Geo.edges (vs.map tv))).x / 2,(jH (hd vs) (Geo.edges (vs.map tv))).y / 2,(jH (hd vs) (Geo.edges (vs.map tv))).z / 2⟩
def kT (s:Rat) (x:Pl × List Pt):Rat:=if x.2=[]then s else s+(iH x.2).x*(hd x.2).x+(iH x.2).y*(hd x.2).y+(iH x.2).z*(hd x.2).z
def dM (l:aE):Rat:=l.foldl kT 0 / 3
theorem b9l (a:V) (es:List (V × V)):Geo.dot (jH a es) a=Geo.sm (fun e=>Geo.dot a (Geo.aA e.1 e.2)) es:=by
 have key:∀ (es:List (V × V)) (s:V),Geo.dot (es.foldl (fun s e=>s+crA a e) s) a=Geo.dot s a+Geo.sm (fun e=>Geo.dot a (Geo.aA e.1 e.2)) es:=by
  intro es
  induction es with
  | nil=>intro s;simp only[At,Geo.sm];grind
  | cons e es ih =>
   intro s
   rw[Ag,ih]
   have:Geo.dot (s+crA a e) a=Geo.dot s a+Geo.dot a (Geo.aA e.1 e.2):=by
    simp only[crA,Geo.dot,Geo.aA,Geo.gF,Geo.gE,Geo.gD,Geo.cO,Geo.cN,Geo.cM];grind
   rw[this]
   simp only[Geo.sm]
   grind
 have:=key es ⟨0,0,0⟩
 unfold jH
 rw[this]
 simp only[Geo.dot]
 grind
theorem c5u {s:Pl × List Pt} (q:Rat) (pv:Geo.PV (tH s.1).n (s.2.map tv)) (pl:∀ v∈s.2.map tv,(tH s.1).at v=0):kT q s=q+Geo.sh (sd s) / 2:=by
 have hne:s.2≠[]:=fun e=>by have:=pv.len;rw[e]at this;simp at this
 unfold kT
 rw[if_neg hne]
 have h1:=b9l (hd s.2) (Geo.edges (s.2.map tv))
 have hm:hd s.2∈s.2.map tv:=by
  cases hs:s.2 with
  | nil=>exact absurd hs hne
  | cons v vs=>simp[hd]
 have h2:Geo.ar (hd s.2) (s.2.map tv)=Geo.sh (sd s):=Geo.sh_at (s:=sd s) pv pl (pl _ hm)
 unfold Geo.ar at h2
 rw[h2]at h1
 simp only[iH]
 simp only[Geo.dot]at h1
 rw[← h1]
 grind
theorem xH {l:aE} (h:CellOK l):dM l=Geo.mG (sds l) / 6:=by
 have key:∀ (m:aE),(∀ s∈m,Geo.PV (tH s.1).n (s.2.map tv)∧∀ v∈s.2.map tv,(tH s.1).at v=0)→∀ q,m.foldl kT q=q+Geo.sm Geo.sh (sds m) / 2:=by
  intro m
  induction m with
  | nil=>intro _ q;simp only[At,sds,List.map_nil,Geo.sm];grind
  | cons s m ih =>
   intro hm q
   obtain⟨h1,h2⟩:=hm s (by simp)
   rw[Ag,ih (fun t ht=>hm t (by simp[ht])),c5u q h1 h2]
   simp only[sds,Ay,Geo.sm]
   grind
 unfold dM Geo.mG
 rw[key l (fun s hs=>⟨h.cell.pv (sd s) (Aa hs),h.cell.pl (sd s) (Aa hs)⟩)]
 grind
theorem a6p:dM []=0:=by unfold dM;simp only[At];grind
theorem c0w {l:aE} (h:CellOK l):0<dM l:=by
 rw[xH h]
 have:=h.cell.vol_pos
 rw[Rat.lt_div_iff (by decide)]
 grind
theorem b6s {b:Pl} {l:aE} (h:CellOK l):dM (aQ b l).1+dM (aQ b l).2=dM l:=by
 unfold aQ
 by_cases hf:bC b l=false
 ·rw[if_pos hf,a6p];grind
 ·rw[if_neg hf]
  by_cases hb:bD b l=false
  ·rw[if_pos hb,a6p];grind
  ·rw[if_neg hb]
   have hf':bC b l=true:=by simpa using hf
   have hb':bD b l=true:=by simpa using hb
   have S:=gO h hf' hb'
   have S':=gO (b:=aY b) h (by rw[lM];exact hb') (by rw[lK];exact hf')
   rw[xH (xB h S),xH (xB h S'),xH h,a2r h.toCanC,a2r h.toCanC]
   have K:=(a2k h S).1
   have K':=(a2k h S').1
   rw[c9w]at K' ⊢
   have:=S.vol_add K K'
   grind
theorem b5g {b:Pl} {l:aE} (h:bC b l=true∨bD b l=true):aQ (aY b) l=((aQ b l).2,(aQ b l).1):=by
 unfold aQ
 rw[lM,lK,b5m]
 cases hf:bC b l<;>cases hb:bD b l<;>simp_all
end Go.Sx
namespace Go.Sx
open Geo (H V Sd)
set_option linter.unusedVariables false
def iC (m:List Pt) (x:Pt):List Pt:=if x∈m then m else m++[x]
def ddP (l:List Pt):List Pt:=l.foldl iC []
theorem b1p (l m:List Pt) (hm:m.Nodup):(l.foldl iC m).Nodup∧∀ x,x∈l.foldl iC m↔x∈m∨x∈l:=by
 induction l generalizing m with
 | nil=>exact⟨hm,fun x=>by simp⟩
 | cons a l ih =>
  have h1:(iC m a).Nodup∧∀ x,x∈iC m a↔x∈m∨x=a:=by
   unfold iC
   split
   ·rename_i h;exact⟨hm,fun x=>⟨.inl,fun hh=>hh.elim id fun e=>e▸h⟩⟩
   ·rename_i h
    refine⟨?_,fun x=>by simp⟩
    rw[A5]
    exact⟨hm,by simp,fun p hp q hq e=>by simp at hq;exact h (hq▸e▸hp)⟩
  obtain⟨i1,i2⟩:=ih _ h1.1
  refine⟨i1,fun x=>?_⟩
  rw[Ag,i2,h1.2,Aq,or_assoc]
theorem c4g (l:List Pt):(ddP l).Nodup:=(b1p l [] (by simp)).1
theorem a2i {l:List Pt} {x:Pt}:x∈ddP l↔x∈l:=((b1p l [] (by simp)).2 x).trans (by simp)
theorem a2j (l:List Pt):(ddP l).length≤l.length:=by
 have key:∀ (l m:List Pt),(l.foldl iC m).length≤m.length+l.length:=by
  intro l
  induction l with
  | nil=>intro m;simp
  | cons a l ih =>
   intro m
   have:=ih (iC m a)
   have h2:(iC m a).length≤m.length+1:=by unfold iC;split<;>simp
   simp only[Ag,A8];omega
 simpa [ddP]using key l []
def bE (l:aE):List Pt:=l.flatMap (·.2)
def eX (l:aE):List Pt:=iE (ddP (bE l))
theorem tK {l:aE} {x:Pt}:x∈eX l↔∃ s∈l,x∈s.2:=by
 unfold eX bE
 rw[a5p,a2i,Af]
def OkC (l:aE):Prop:=l=[]∨CellOK l
def beh (b:Pl) (l:aE):aE:=(aQ b l).1
theorem CellOK.ne {l:aE} (h:CellOK l):l≠[]:=fun e=>by have:=h.cell.four;subst e;simp[sds]at this
theorem OkC.can {l:aE} (h:OkC l):CanC l:=h.elim (fun e=>by subst e;exact⟨fun s hs=>by simp at hs⟩) (·.toCanC)
theorem a5o (b:Pl):aQ b []=([],[]):=rfl
theorem b1u {b:Pl} {l:aE} (h:OkC l):OkC (beh b l):=by
 rcases h with rfl|h
 ·exact .inl rfl
 ·exact (a0c h).1
theorem b8s {b:Pl} {l:aE} (h:OkC l) (hn:(tH b).n≠⟨0,0,0⟩):(aQ b l).2=beh (aY b) l:=by
 rcases h with rfl|h
 ·rfl
 ·unfold beh
  rw[b5g (c4k h hn)]
end Go.Sx
namespace Go.Proofs.Vx
open Go Go.Sx Go.Proofs Tryz
attribute [local irreducible] fnT CallOK CallFr AW aK callV aL aJ aI aM gcaseP hid
theorem c0d:fdT prog 33 0=some (0,1,false)∧mpT prog 110=some (51,4)∧zvT prog 4=some (.bool false):=by and_intros<;>kernel_rfl
attribute [go_sem] c0d
theorem c9j:fnT prog 84=true:=by kernel_rfl
theorem b4r (l:aE) (i:Nat) (h:i<l.length) (j:Nat):(∀ p∈bE (l.take i)++l[i].2.take j,∃ s∈l,p∈s.2)∧(bE (l.take i)++l[i].2.take j).length≤(bE l).length:=by
 refine⟨fun p hp=>?_,?_⟩
 ·rcases An.1 hp with hp|hp
  ·obtain⟨s,hs,hp⟩:=Af.1 hp
   exact⟨s,Au hs,hp⟩
  ·exact⟨l[i],Aj h,Au hp⟩
 ·have e:bE l=bE (l.take i)++(l[i].2++bE (l.drop (i+1))):=by
   unfold bE
   conv=>lhs;rw[← List.take_append_drop i l,List.drop_eq_getElem_cons h]
   rw[Aw,A3]
  rw[e]
  simp only[Ao,List.length_take]
  omega
theorem b4c (l:aE) (i:Nat) (h:i<l.length):bE (l.take i)++l[i].2=bE (l.take (i+1)):=by
 unfold bE
 rw[Ai h,Aw]
 simp
theorem c8l (l:List Pt) (x:Pt):ddP (l++[x])=iC (ddP l) x:=by unfold ddP;rw[A4];rfl
theorem yK {K:Nat→Prop} (f:Nat):In K (.clo f []):=.clo f [] (by simp)
theorem yA {K:Nat→Prop} (vs:List Pt):InC K (.vec 8 (vs.map eP)):=fun e he c hc=>(oK vs e he c hc).inn
theorem c27f (l:aE) (hn:l.length≤1048576) (hv:∀ s∈l,s.2.length≤268435456∧∀ v∈s.2,CanP v∧BPt 1073741824 v) (hm:(bE l).length≤268435456):CallFr prog 27 [.agg [.sl (eS l)]] 8 (((eX l).map eP)):=by
 refine CallFr.flat func27 rfl 39 rfl rfl (oK _) [.tmp 2] (congrArg Array.toList results27) ?_
 simp only[aD,Nat.reduceAdd]
 have hml:maxLen=9223372036854775807:=rfl
 have hl:(eS l).length=l.length:=Am _
 have hd0:ddP []=[]:=rfl
 have hm0:mPB []=[]:=rfl
 have hc0:bE []=[]:=rfl
 repeat'(first|refine zg ?_|(refine zc ?_ ?_<;>intro hc<;>try simp only[NM]at hc)|refine zr ?_|refine⟨by omega,?_⟩|(refine zb ?_ ?_<;>intro hg<;>(try rw[hg])<;>try simp only[NM]at hg)|omega|simp -dsimp (disch:=try exact zo)only[go_sem,hl]|contradiction|rfl)
 refine AW.loop (fun z:{i:Nat // i≤l.length}=>⟨[(13,.lit (.int .i64 z.1)),(12,.lit (.int .i64 l.length)),(4,.ref 17 0 (ddP (bE (l.take z.1))).length (ddP (bE (l.take z.1))).length),(11,.sl (eS l)),(3,.mp 10)],[(17,.vec 8 ((ddP (bE (l.take z.1))).map eP)),(10,.mpo (mPB (ddP (bE (l.take z.1)))))],60⟩) (fun z=>l.length - z.1) ⟨0,Ba _⟩ (Weak.trans (Weak.nil 4 8 (by decide) rfl) (aR (by refine⟨?_,?_,?_,?_⟩<;>simp -dsimp (disch:=try exact zo)only[go_sem,Be,hc0,hd0,hm0,ZC]))) ?_
 rintro⟨i,hi⟩
 dsimp only
 by_cases hlt:i<l.length
 ·have es1:=qU l i hlt
  have hS1:=b4c l i hlt
  have hsub:=b4r l i hlt
  generalize hq:l[i]=sd at *
  obtain⟨sp,svs⟩:=sd
  dsimp only at es1 hS1 hsub
  have hvn:svs.length≤268435456:=(hv _ (hq▸Aj hlt)).1
  simp only[eG]at es1
  repeat'(first|refine zg ?_|(refine zc ?_ ?_<;>intro hc<;>first|simp only[NM]at hc|omega|skip)|refine zr ?_|refine⟨by omega,?_⟩|(refine zb ?_ ?_<;>intro hg<;>(try rw[hg])<;>try simp only[NM]at hg)|omega|simp -dsimp (disch:=try exact zo)only[go_sem,hl,es1,ZT,zl]|contradiction|rfl)
  refine AW.loop (fun z:{j:Nat // j≤svs.length}=>⟨[(20,.lit (.int .i64 z.1)),(19,.lit (.int .i64 svs.length)),(18,.sl (svs.map eP)),(13,.lit (.int .i64 i)),(12,.lit (.int .i64 l.length)),(4,.ref 17 0 (ddP (bE (l.take i)++svs.take z.1)).length (ddP (bE (l.take i)++svs.take z.1)).length),(11,.sl (eS l)),(3,.mp 10)],[(17,.vec 8 ((ddP (bE (l.take i)++svs.take z.1)).map eP)),(10,.mpo (mPB (ddP (bE (l.take i)++svs.take z.1))))],80⟩) (fun z=>svs.length - z.1) ⟨0,Ba _⟩ (aR (by refine⟨?_,?_,?_,?_⟩<;>simp -dsimp (disch:=try exact zo)only[go_sem,Be,List.append_nil,ZC])) ?_
  rintro⟨j,hj⟩
  dsimp only
  by_cases hjt:j<svs.length
  ·have ea:=eD svs j hjt
   have hst0:ddP (bE (l.take i)++svs.take (j+1))=iC (ddP (bE (l.take i)++svs.take j)) svs[j]:=by
    rw[Ai hjt,← List.append_assoc,c8l]
   obtain⟨hs1,hs2⟩:=hsub j
   have ha0:svs[j]∈svs:=Aj hjt
   have hsl:(sp,svs)∈l:=hq▸Aj hlt
   have ha:BPt 1073741824 svs[j]:=((hv _ hsl).2 _ ha0).2
   have hRn:=c4g (bE (l.take i)++svs.take j)
   have hRl0:=a2j (bE (l.take i)++svs.take j)
   have hRb:∀ p∈ddP (bE (l.take i)++svs.take j),BPt 1073741824 p:=fun p hp=>by
    obtain⟨s,hs,hps⟩:=hs1 p (a2i.1 hp)
    exact ((hv s hs).2 p hps).2
   generalize ddP (bE (l.take i)++svs.take j)=R at *
   generalize svs[j]=a at *
   have hRl:(R.map eP).length=R.length:=Am _
   have hkey:=u7 a ha
   have hko:=d1j hRn hRb
   have hfind:=c2l R a
   simp only[eP,e4]at ea
   clear hsub hs1 hv
   by_cases q:a∈R
   ·have hlk:(fR (mPB R) (pv a)).getD (.bool false)=.bool true:=by rw[hfind,if_pos q];rfl
    have hst:ddP (bE (l.take i)++svs.take (j+1))=R:=by rw[hst0];unfold iC;rw[if_pos q]
    have hput:True:=trivial
    have hRm:True:=trivial
    clear hst0 hfind
    simp only[pv]at hkey hlk
    repeat'(first|refine zg ?_|(refine zc ?_ ?_<;>intro hc<;>first|simp only[NM]at hc|omega|skip)|refine zr ?_|refine⟨by omega,?_⟩|(refine zb ?_ ?_<;>intro hg<;>(try rw[hg])<;>try simp only[NM]at hg)|omega|simp -dsimp (disch:=try exact zo)only[go_sem,hl,es1,ea,hlk,sE,hkey,hko,hput,ZT,zl,hRl,Ax,hRm]|rfl)
    all_goals exact AW.stop ⟨⟨j+1,by omega⟩,(aR (by refine⟨?_,?_,?_,?_⟩<;>simp -dsimp (disch:=try exact zo)only[go_sem,hst,ZC])),by dsimp only;omega⟩
   ·have hlk:(fR (mPB R) (pv a)).getD (.bool false)=.bool false:=by rw[hfind,if_neg q];rfl
    have hst:ddP (bE (l.take i)++svs.take (j+1))=R++[a]:=by rw[hst0];unfold iC;rw[if_neg q]
    have hput:=c7j R a q
    have hRm:(R++[a]).map eP=R.map eP++[eP a]:=by simp
    clear hst0 hfind
    simp only[pv]at hkey hlk hput
    repeat'(first|refine zg ?_|(refine zc ?_ ?_<;>intro hc<;>first|simp only[NM]at hc|omega|skip)|refine zr ?_|refine⟨by omega,?_⟩|(refine zb ?_ ?_<;>intro hg<;>(try rw[hg])<;>try simp only[NM]at hg)|omega|simp -dsimp (disch:=try exact zo)only[go_sem,hl,es1,ea,hlk,sE,hkey,hko,hput,ZT,zl,hRl,Ax,hRm]|rfl)
    all_goals exact AW.stop ⟨⟨j+1,by omega⟩,(aR (by refine⟨?_,?_,?_,?_⟩<;>first|(simp -dsimp (disch:=try exact zo)only[go_sem,hst,hRm,Ao,ZC];done)|(simp -dsimp (disch:=try exact zo)only[go_sem,hst,ZC];done))),by dsimp only;omega⟩
  ·have hjl:j=svs.length:=by omega
   subst hjl
   rw[A9]
   clear hv
   repeat'(first|refine zg ?_|(refine zc ?_ ?_<;>intro hc<;>first|simp only[NM]at hc|omega|skip)|refine zr ?_|refine⟨by omega,?_⟩|(refine zb ?_ ?_<;>intro hg<;>(try rw[hg])<;>try simp only[NM]at hg)|omega|simp -dsimp (disch:=try exact zo)only[go_sem,hl,zl]|contradiction|rfl)
   all_goals exact AW.stop ⟨⟨i+1,by omega⟩,(aR (by refine⟨?_,?_,?_,?_⟩<;>simp -dsimp (disch:=try exact zo)only[go_sem,hS1,ZC])),by dsimp only;omega⟩
 ·have hil:i=l.length:=by omega
  subst hil
  rw[A9]
  have hvR:∀ p∈ddP (bE l),CanP p∧BPt 1073741824 p:=fun p hp=>by
   obtain⟨s,hs,hps⟩:=Af.1 (a2i.1 hp)
   exact (hv s hs).2 p hps
  have hRl:=a2j (bE l)
  unfold eX
  generalize ddP (bE l)=R at *
  have hSl:=n7 R
  clear hv
  repeat'(first|refine zg ?_|(refine zc ?_ ?_<;>intro hc<;>try simp only[NM]at hc)|(refine AW.ret (qY ?_);simp -dsimp (disch:=try exact zo)only[go_sem,hl,zl,hSl]<;>try (exact⟨_,rfl,rfl⟩))|(refine j1 17 _ _ _ c9j (mX (c84 R hvR (by omega)) (yA _) (yA _) (.tup _ (by simp)) (by simp[iW,yK]) 17) rfl (by simp[rQ,yK]) (yA _) (yA _) (.tup _ (by simp)) rfl ?_)|refine⟨by omega,?_⟩|(refine zb ?_ ?_<;>intro hg<;>(try rw[hg])<;>try simp only[NM]at hg)|omega|simp -dsimp (disch:=try exact zo)only[go_sem,hl,zl,hSl]|contradiction)
theorem c27 (l:aE) (hn:l.length≤1048576) (hv:∀ s∈l,s.2.length≤268435456∧∀ v∈s.2,CanP v∧BPt 1073741824 v) (hm:(bE l).length≤268435456):CallOK prog 27 [.agg [.sl (eS l)]] [] (.sl ((eX l).map eP)) []:=(c27f l hn hv hm).ok
end Go.Proofs.Vx
namespace Go.Sx
open Geo (H V Sd)
set_option linter.unusedVariables false
def wpt (x y z:Int):Pt:=⟨1000*x,1000*y,1000*z,1⟩
def aO:aE:=[
 (⟨-1,0,0,1000⟩,[wpt (-1) (-1) 1,wpt (-1) 1 1,wpt (-1) 1 (-1),wpt (-1) (-1) (-1)]),
 (⟨1,0,0,1000⟩,[wpt 1 (-1) (-1),wpt 1 1 (-1),wpt 1 1 1,wpt 1 (-1) 1]),
 (⟨0,-1,0,1000⟩,[wpt 1 (-1) (-1),wpt 1 (-1) 1,wpt (-1) (-1) 1,wpt (-1) (-1) (-1)]),
 (⟨0,1,0,1000⟩,[wpt (-1) 1 (-1),wpt (-1) 1 1,wpt 1 1 1,wpt 1 1 (-1)]),
 (⟨0,0,-1,1000⟩,[wpt (-1) 1 (-1),wpt 1 1 (-1),wpt 1 (-1) (-1),wpt (-1) (-1) (-1)]),
 (⟨0,0,1,1000⟩,[wpt (-1) (-1) 1,wpt 1 (-1) 1,wpt 1 1 1,wpt (-1) 1 1])]
def canB (p:Pt):Bool:=decide (0<p.w)&&decide (g4 p.x p.y p.z p.w=1)
theorem eW {p:Pt} (h:canB p=true):CanP p:=by
 simp only[canB,Ak,decide_eq_true_eq]at h
 exact⟨h.1,h.2⟩
def pvB (s:Sd):Bool:=decide (3≤s.vs.length)&&decide s.vs.Nodup&&(Geo.edges s.vs).all fun e=>s.vs.all fun x=>decide (x=e.1)||decide (x=e.2)||decide (0<Geo.ori s.h.n e.1 e.2 x)
theorem d0u {s:Sd} (h:pvB s=true):Geo.PV s.h.n s.vs:=by
 simp only[pvB,Ak,decide_eq_true_eq,Ad,Bool.or_eq_true]at h
 exact⟨h.1.1,h.1.2,fun e he x hx h1 h2=>(h.2 e he x hx).elim (fun h=>h.elim (fun h=>absurd h h1) fun h=>absurd h h2) id⟩
def apB (xs:List V) (h g:H):Bool:=xs.any fun x=>decide (h.at x=0)&&decide (g.at x≠0)
theorem d2r {xs:List V} {h g:H} (k:apB xs h g=true):¬ Geo.Prp h g:=by
 simp only[apB,Ab,Ak,decide_eq_true_eq]at k
 obtain⟨x,_,h1,h2⟩:=k
 rintro⟨c,hc,e⟩
 have:=e x
 grind
def b2t (c:List Sd):Bool:=c.all pvB&&(c.all fun s=>s.vs.all fun v=>decide (s.h.at v=0))&&(c.all fun s=>c.all fun t=>t.vs.all fun v=>decide (s.h.at v≤0)) &&
 (Geo.E c).isPerm ((Geo.E c).map Geo.sw)&&decide (Geo.E c).Nodup&&decide (4≤c.length)&&decide (c.Pairwise fun s t=>apB (c.flatMap (·.vs)) s.h t.h=true)
theorem a8e {c:List Sd} (h:b2t c=true):Geo.Cell c:=by
 simp only[b2t,Ak,decide_eq_true_eq,Ad,List.isPerm_iff]at h
 obtain⟨⟨⟨⟨⟨⟨h1,h2⟩,h3⟩,h4⟩,h5⟩,h6⟩,h7⟩:=h
 exact⟨fun s hs=>d0u (h1 s hs),h2,h3,h4,h5,h6,h7.imp fun h=>d2r h⟩
theorem pO:CellOK aO:=by
 refine⟨⟨fun s hs v hv=>?_⟩,a8e (by decide +kernel)⟩
 have:(aO.all fun s=>s.2.all canB)=true:=by decide +kernel
 exact eW (Ad.1 (Ad.1 this s hs) v hv)
end Go.Sx
namespace Go.Sx
open Geo (H V Sd)
set_option linter.unusedVariables false
theorem a1s (a b c:Rat):tv (mkP a b c)=⟨a,b,c⟩:=by
 have ha:(a.den:Int)≠0:=by have:=a.den_nz;omega
 have hb:(b.den:Int)≠0:=by have:=b.den_nz;omega
 have hc:(c.den:Int)≠0:=by have:=c.den_nz;omega
 have hD:1*(a.den:Int)*(b.den:Int)*(c.den:Int)≠0:=Ah (Ah (by simpa using ha) hb) hc
 have key:∀ (q:Rat) (k:Int),k≠0→((q.num*k:Int):Rat) / (((q.den:Int)*k:Int):Rat)=q:=by
  intro q k hk
  have h:=Rat.divInt_mul_right (n:=q.num) (d:=(q.den:Int)) hk
  rw[← Rat.divInt_eq_div,h,Rat.num_divInt_den]
 unfold mkP
 rw[a1r hD]
 have e1:1*(a.den:Int)*(b.den:Int)*(c.den:Int) / (a.den:Int)=(b.den:Int)*(c.den:Int):=by
  rw[Al,Ar];exact As _ ha
 have e2:1*(a.den:Int)*(b.den:Int)*(c.den:Int) / (b.den:Int)=(a.den:Int)*(c.den:Int):=by
  rw[Al,A6 (a.den:Int),Ar];exact As _ hb
 have e3:1*(a.den:Int)*(b.den:Int)*(c.den:Int) / (c.den:Int)=(a.den:Int)*(b.den:Int):=by
  rw[Al];exact Int.mul_ediv_cancel _ hc
 rw[e1,e2,e3]
 apply V.ext
 ·rw[show 1*(a.den:Int)*(b.den:Int)*(c.den:Int)=(a.den:Int)*((b.den:Int)*(c.den:Int)) by rw[Al,Ar]]
  exact key a _ (Ah hb hc)
 ·rw[show 1*(a.den:Int)*(b.den:Int)*(c.den:Int)=(b.den:Int)*((a.den:Int)*(c.den:Int)) by rw[Al,A6 (a.den:Int),Ar]]
  exact key b _ (Ah ha hc)
 ·rw[show 1*(a.den:Int)*(b.den:Int)*(c.den:Int)=(c.den:Int)*((a.den:Int)*(b.den:Int)) by rw[Al,A6 (c.den:Int)]]
  exact key c _ (Ah ha hb)
theorem a1h (a b c:Rat):CanP (mkP a b c):=zQ _ _ _ _
end Go.Sx
namespace Go.Sx
open Geo (H V Sd)
set_option linter.unusedVariables false
structure Bd (S M K:Nat) (l:aE):Prop where
 n:l.length≤S
 m:∀ s∈l,s.2.length≤M
 k:∀ s∈l,∀ v∈s.2,BPt K v
 p:∀ s∈l,BPl (K+1048576) s.1
theorem Bd.mono {S M K S' M' K':Nat} {l:aE} (h:Bd S M K l) (h1:S≤S') (h2:M≤M') (h3:K≤K'):Bd S' M' K' l :=
 ⟨A7 h.n h1,fun s hs=>A7 (h.m s hs) h2,fun s hs v hv=>(h.k s hs v hv).mono h3,fun s hs=>(h.p s hs).mono (Nat.add_le_add_right h3 _)⟩
theorem pV (h:Int) (b:Pl) (vs:List Pt):(bF h b vs).length≤2*vs.length:=by
 rw[← wJ];exact vN h b vs vs.length
theorem a0h {h:Int} {b:Pl} {vs:List Pt} {k K:Nat} (hb:BPl k b) (hv:∀ v∈vs,BPt K v):∀ v∈bF h b vs,BPt (k+2*K+4) v:=by
 intro v hvm
 unfold bF at hvm
 obtain⟨e,he,hvm⟩:=Af.1 hvm
 unfold pc at hvm
 rcases An.1 hvm with hvm|hvm
 ·split at hvm
  ·obtain rfl:v=e.1:=by simpa using hvm
   exact (hv _ (Geo.bJ he)).mono (by omega)
  ·simp at hvm
 ·split at hvm
  ·obtain rfl:v=_:=by simpa using hvm
   exact c7h hb (hv _ (Geo.bJ he)) (hv _ (Geo.bO he))
  ·simp at hvm
theorem a3c {b:Pl} {l:aE} {S M K k:Nat} (h:Bd S M K l) (hb:BPl k b):Bd S (2*M) (k+2*K+4) (bh b l):=by
 refine⟨A7 (List.length_filterMap_le _ _) h.n,fun s hs=>?_,fun s hs v hv=>?_,fun s hs=>?_⟩
 all_goals
  obtain⟨t,ht,e⟩:=Az.1 hs
  by_cases hq:bH (-1) b t.2 t.2.length=true
  rotate_left
  ·rw[if_neg hq]at e;contradiction
  rw[if_pos hq]at e
  obtain rfl:=Bg.inj e
 ·have:=pV (-1) b t.2
  have:=h.m t ht
  show (bF (-1) b t.2).length≤_
  omega
 ·exact a0h hb (h.k t ht) v hv
 ·exact (h.p t ht).mono (by omega)
theorem c8q {b:Pl} {l:aE} {K:Nat} (h:∀ s∈l,∀ v∈s.2,BPt K v):∀ v∈cD b l,BPt K v:=by
 have hI:MInv K (c7 b l):=by
  have f1:∀ (es:List (Pt × Pt)) (s:MS),MInv K s→(∀ e∈es,BPt K e.1∧BPt K e.2)→MInv K (bY b s es):=by
   intro es
   induction es with
   | nil=>intro s h _;exact h
   | cons e es ih=>intro s h he;exact ih _ (h.step (he _ (by simp))) fun q hq=>he q (by simp[hq])
  rw[a7w]
  refine f1 _ _ ⟨by simp,by simp,uD K⟩ fun e he=>?_
  obtain⟨s,hs,he⟩:=Af.1 he
  exact⟨h s hs _ (Geo.bJ he),h s hs _ (Geo.bO he)⟩
 intro v hv
 unfold cD at hv
 have key:∀ n x,BPt K x→∀ v∈aW (nxP (c7 b l).1) n x,BPt K v:=by
  intro n
  induction n with
  | zero=>intro x _ v hv;simp[aW]at hv
  | succ n ih =>
   intro x hx v hv
   rcases Aq.1 hv with rfl|hv
   ·exact hx
   ·exact ih _ (a9y hI.bt) v hv
 exact key _ _ hI.fb v hv
theorem a8i {b:Pl} {l:aE} {S M K k:Nat} (hc:CellOK l) (hS:Geo.Spl (sds l) (tH b)) (h:Bd S M K l) (hb:BPl k b) (hSM:S≤2*M):Bd (S+1) (2*M) (k+2*K+4) (jG b l):=by
 have h1:=a3c h hb
 have h2:=(uI hc hS).2.2.1
 refine⟨?_,fun s hs=>?_,fun s hs v hv=>?_,fun s hs=>?_⟩
 ·unfold jG;rw[Ao];have:=h1.n;simp only[A8,List.length_nil];omega
 all_goals rcases An.1 hs with hs|hs
 ·exact h1.m s hs
 ·obtain rfl:s=_:=by simpa using hs
  have:=h1.n
  show (cD b (bh b l)).length≤_
  omega
 ·exact h1.k s hs v hv
 ·obtain rfl:s=_:=by simpa using hs
  exact c8q h1.k v hv
 ·exact h1.p s hs
 ·obtain rfl:s=_:=by simpa using hs
  exact hb.mono (by omega)
theorem Bd.nil {S M K:Nat}:Bd S M K []:=⟨Ba _,by simp,by simp,by simp⟩
theorem a6u {b:Pl} {l:aE} {S M K k:Nat} (hc:OkC l) (h:Bd S M K l) (hb:BPl k b) (hSM:S≤2*M):Bd (S+1) (2*M) (k+2*K+4) (aQ b l).1∧Bd (S+1) (2*M) (k+2*K+4) (aQ b l).2:=by
 rcases hc with rfl|hc
 ·exact⟨Bd.nil,Bd.nil⟩
 ·have hm:=h.mono (S':=S+1) (M':=2*M) (K':=k+2*K+4) (by omega) (by omega) (by omega)
  unfold aQ
  by_cases hf:bC b l=false
  ·rw[if_pos hf];exact⟨hm,Bd.nil⟩
  ·rw[if_neg hf]
   by_cases hbb:bD b l=false
   ·rw[if_pos hbb];exact⟨Bd.nil,hm⟩
   ·rw[if_neg hbb]
    have hf':bC b l=true:=by simpa using hf
    have hb':bD b l=true:=by simpa using hbb
    exact⟨a8i hc (gO hc hf' hb') h hb hSM,a8i hc (gO hc (by rw[lM];exact hb') (by rw[lK];exact hf')) h hb.neg hSM⟩
theorem a6n:∀ s∈aO,BPl 2 s.1:=fun s hs=>by
 have:(aO.all fun s=>decide ((Zm s.1.a).size≤2∧(Zm s.1.b).size≤2∧(Zm s.1.c).size≤2∧(Zm s.1.d).size≤2))=true:=by simp only[bX];decide
 have h:=of_decide_eq_true (Ad.1 this s hs)
 exact⟨⟨h.1,h.2.1,h.2.2.1,h.2.2.2⟩⟩
theorem a0a:Bd 6 4 2 aO:=by
 refine⟨by decide,by decide,fun s hs v hv=>?_,fun s hs=>?_⟩
 ·have:(aO.all fun s=>s.2.all fun v=>decide ((Zm v.x).size≤2∧(Zm v.y).size≤2∧(Zm v.z).size≤2∧(Zm v.w).size≤2))=true:=by simp only[bX];decide
  have h:=of_decide_eq_true (Ad.1 (Ad.1 this s hs) v hv)
  exact⟨⟨h.1,h.2.1,h.2.2.1,h.2.2.2⟩⟩
 ·exact (a6n s hs).mono (by decide)
end Go.Sx
