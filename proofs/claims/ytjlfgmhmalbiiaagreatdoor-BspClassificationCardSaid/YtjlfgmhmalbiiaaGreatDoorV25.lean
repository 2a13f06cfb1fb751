import Derived.Test.YtjlfgmhmalbiiaaGreatDoorV24
set_option linter.all false
set_option maxHeartbeats 16000000
namespace Go.Sx
open Geo (H V Sd)
set_option linter.unusedVariables false
abbrev aF:=List (Pl × List Pt)
def sd (s:Pl × List Pt):Sd:=⟨tH s.1,s.2.map tv⟩
def sds (l:aF):List Sd:=l.map sd
def bh (b:Pl) (l:aF):aF:=l.filterMap fun s=>if bG (-1) b s.2 s.2.length then some (s.1,bD (-1) b s.2)else none
def iR (b:Pl) (l:aF):aF:=bh b l++[(b,b8 b (bh b l))]
def bI (b:Pl) (l:aF):Bool:=l.any fun s=>s.2.any fun v=>decide (0<aB b v)
def bJ (b:Pl) (l:aF):Bool:=l.any fun s=>s.2.any fun v=>decide (aB b v<0)
def aS (b:Pl) (l:aF):aF × aF:=if bI b l=false then (l,[])else if bJ b l=false then ([],l)else (iR b l,iR (bH b) l)
structure CanC (l:aF):Prop where
 can:∀ s∈l,∀ v∈s.2,CanP v
structure CellOK (l:aF):Prop extends CanC l where
 cell:Geo.Cell (sds l)
theorem CanC.w {l:aF} (h:CanC l) {s:Pl × List Pt} (hs:s∈l):∀ v∈s.2,0<v.w:=fun v hv=>(h.can s hs v hv).w
theorem pX {b:Pl} {l:aF} (h:CanC l):CanC (bh b l):=by
 refine⟨fun s hs=>?_⟩
 obtain⟨t,ht,e⟩:=List.mem_filterMap.1 hs
 split at e
 ·obtain rfl:=Option.some.inj e
  exact b3d (h.can t ht)
 ·contradiction
theorem vW {b:Pl} {l:aF} (h:CanC l):sds (bh b l)=Geo.aW (tH b) (sds l):=by
 unfold sds bh Geo.aW
 rw[List.map_filterMap,List.filterMap_map]
 induction l with
 | nil=>rfl
 | cons s l ih =>
  have hs:=h.w (s:=s) (by simp)
  have e:Option.map sd (if bG (-1) b s.2 s.2.length=true then some (s.1,bD (-1) b s.2)else none)=((fun s=>if Geo.gY (tH b) s.vs=true then some (⟨s.h,Geo.part (tH b) s.vs⟩:Sd)else none)∘sd) s:=by
   simp only[Function.comp,sd]
   rw[a3c hs]
   by_cases hl:Geo.gY (tH b) (s.2.map tv)=true
   ·rw[if_pos hl]
    refine Eq.trans ?_ (if_pos hl).symm
    simp only[Option.map_some,sd,a3j hs]
   ·rw[if_neg hl]
    exact (if_neg hl).symm
  rw[List.filterMap_cons,List.filterMap_cons,e,ih ⟨fun t ht=>h.can t (by simp[ht])⟩]
def tv2 (e:Pt × Pt):V × V:=(tv e.1,tv e.2)
def esP (l:aF):List (Pt × Pt):=l.flatMap fun s=>Geo.edges s.2
def onE (b:Pl) (e:Pt × Pt):Bool:=decide (aB b e.1=0∧aB b e.2=0)
theorem E_sds (l:aF):Geo.E (sds l)=(esP l).map tv2:=by
 unfold Geo.E sds esP
 rw[List.flatMap_map,List.map_flatMap]
 congr 1
 funext s
 exact Geo.a2s tv s.2
theorem a3x (b:Pl) (l:aF):cU b l=bZ b ([],P0) (esP l):=by
 unfold cU esP
 generalize (([],P0):MS)=s
 induction l generalizing s with
 | nil=>rfl
 | cons x l ih=>simp only[List.foldl_cons,List.flatMap_cons,bZ,List.foldl_append]at ih ⊢;exact ih _
theorem b0d (b:Pl) (es:List (Pt × Pt)) (s:MS):bZ b s es=bZ b s (es.filter (onE b)):=by
 induction es generalizing s with
 | nil=>rfl
 | cons e es ih =>
  rw[List.filter_cons]
  by_cases h:onE b e=true
  ·rw[if_pos h];exact ih _
  ·rw[if_neg h]
   have:gS b s e=s:=by
    unfold gS
    rw[if_neg (fun hh=>h (by unfold onE;exact decide_eq_true hh))]
   show bZ b (gS b s e) es=_
   rw[this];exact ih _
theorem b7y {b : Pl} : ∀ (he : List (Pt × Pt)) (m : List (Pt × Pt)) (f : Pt), (∀ e ∈ he, onE b e = true) → (m.map (·.1) ++ he.map (·.2)).Nodup →
  (bZ b (m,f) he).1=m++he.map Geo.sw∧(he≠[]→(bZ b (m,f) he).2∈he.map (·.2)):=by
 intro he
 induction he with
 | nil=>intro m f _ _;exact⟨by simp[bZ],fun h=>absurd rfl h⟩
 | cons e he ih =>
  intro m f hon hnd
  have h1:gS b (m,f) e=(m++[(e.2,e.1)],e.2):=by
   have:=of_decide_eq_true (hon e (by simp))
   unfold gS jX
   rw[if_pos this,if_neg]
   intro hm
   rw[List.nodup_append]at hnd
   exact hnd.2.2 _ hm e.2 (by simp) rfl
  obtain⟨k1,k2⟩:=ih (m++[(e.2,e.1)]) e.2 (fun x hx=>hon x (by simp[hx])) (by simpa using hnd)
  have h2:bZ b (m,f) (e::he)=bZ b (m++[(e.2,e.1)],e.2) he:=by
   show bZ b (gS b (m,f) e) he=_
   rw[h1]
  rw[h2]
  refine⟨by rw[k1];simp[Geo.sw],fun _=>?_⟩
  by_cases hne:he=[]
  ·subst hne;simp[bZ]
  ·simp only[List.map_cons,List.mem_cons];exact .inr (k2 hne)
theorem yA {m:List (Pt × Pt)} (hn:(m.map (·.1)).Nodup) {e:Pt × Pt} (he:e∈m):nxP m e.1=e.2:=by
 unfold nxP pS
 cases hq:m.find? fun x=>decide (x.1=e.1)with
 | none=>have:=List.find?_eq_none.1 hq e he;simp at this
 | some x =>
  have h1:=List.mem_of_find?_eq_some hq
  have h2:x.1=e.1:=by have:=List.find?_some hq;simpa using this
  have:=Geo.rF hn h1 he h2
  rw[this];rfl
theorem on_tv {b:Pl} {e:Pt × Pt} (h1:0<e.1.w) (h2:0<e.2.w):onE b e=!Geo.off (tH b) (tv2 e):=by
 unfold onE Geo.off tv2
 rw[Bool.eq_iff_iff]
 simp only[decide_eq_true_eq,Bool.not_eq_true',decide_eq_false_iff_not,Classical.not_not]
 rw[qK b h1,qK b h2,yJ,yJ]
theorem es_w {l:aF} (h:CanC l):∀ e∈esP l,CanP e.1∧CanP e.2:=by
 intro e he
 obtain⟨s,hs,he⟩:=List.mem_flatMap.1 he
 exact⟨h.can s hs _ (Geo.bL he),h.can s hs _ (Geo.bU he)⟩
def heP (b:Pl) (l:aF):List (Pt × Pt):=(esP (bh b l)).filter (onE b)
structure CapF (b:Pl) (l:aF):Prop where
 ne:heP b l≠[]
 nd:((heP b l).map (·.2)).Nodup
 io:∀ e∈heP b l,e.1∈(heP b l).map (·.2)
 le:(heP b l).length≤(bh b l).length
 nx:∀ e∈heP b l,nxP ((heP b l).map Geo.sw) e.2=e.1
 run:∀ f∈(heP b l).map (·.2),Geo.Spl.Cap (tH b) (sds l) ((bA (nxP ((heP b l).map Geo.sw)) (heP b l).length f).map tv)∧∀ v∈bA (nxP ((heP b l).map Geo.sw)) (heP b l).length f,CanP v
 cap:(cU b (bh b l)).1=(heP b l).map Geo.sw∧(cU b (bh b l)).2∈(heP b l).map (·.2)
 hHE:Geo.HE (tH b) (sds l)=(heP b l).map tv2
theorem sN {b:Pl} {l:aF} (h:CellOK l) (hS:Geo.Spl (sds l) (tH b)):CapF b l:=by
 have hk:=pX (b:=b) h.toCanC
 have hw:=es_w hk
 generalize hhe:heP b l=he
 have hHE:Geo.HE (tH b) (sds l)=he.map tv2:=by
  subst hhe
  unfold Geo.HE heP
  rw[← vW h.toCanC,E_sds,List.filter_map]
  congr 1
  apply List.filter_congr
  intro e hh
  rw[on_tv (hw e hh).1.w (hw e hh).2.w]
  rfl
 have hcan:∀ e∈he,CanP e.1∧CanP e.2:=fun e hh=>hw e (List.mem_filter.1 (by subst hhe;exact hh)).1
 have hon:∀ e∈he,onE b e=true:=fun e hh=>(List.mem_filter.1 (by subst hhe;exact hh)).2
 have hcy:=hS.cyc
 have hnd0:(((Geo.HE (tH b) (sds l)).map Geo.sw).map (·.1)).Nodup:=hcy.nd
 have hnd:(he.map (·.2)).Nodup:=by
  rw[hHE]at hnd0
  have:((he.map tv2).map Geo.sw).map (·.1)=(he.map (·.2)).map tv:=by
   rw[List.map_map,List.map_map,List.map_map];rfl
  rw[this]at hnd0
  exact Geo.wQ hnd0
 have hio:∀ e∈he,e.1∈he.map (·.2):=by
  intro e hh
  have h1:=hcy.io
  rw[hHE,List.map_map,List.map_map,List.map_map,List.map_map]at h1
  have h2:tv e.1∈he.map ((fun x=>x.2)∘Geo.sw∘tv2):=List.mem_map.2 ⟨e,hh,rfl⟩
  obtain⟨e',he',q⟩:=List.mem_map.1 (h1.mem_iff.2 h2)
  have:e'.2=e.1:=kT (hcan e' he').2 (hcan e hh).1 q
  exact List.mem_map.2 ⟨e',he',this⟩
 obtain⟨f1,f2⟩:=b7y (b:=b) he [] P0 hon (by simpa using hnd)
 have hne:he≠[]:=fun e=>by have:=hS.HE_ne;rw[hHE,e]at this;exact this rfl
 have f3:=f2 hne
 have hfold:cU b (bh b l)=bZ b ([],P0) he:=by rw[a3x,b0d];subst hhe;rfl
 have hkeys:((he.map Geo.sw).map (·.1)).Nodup:=by rw[List.map_map];exact hnd
 have hnx:∀ e∈he,nxP (he.map Geo.sw) e.2=e.1:=fun e hh=>yA (e:=Geo.sw e) hkeys (List.mem_map_of_mem hh)
 let nx:V→V:=fun v=>(((he.map tv2).find? fun e=>decide (e.2=v)).map (·.1)).getD v
 have hnxV:∀ e∈he,nx (tv e.2)=tv e.1:=by
  intro e hh
  have hndV:((he.map tv2).map (·.2)).Nodup:=by
   rw[hHE]at hnd0
   rw[List.map_map]at hnd0 ⊢
   rw[List.map_map]at hnd0
   exact hnd0
  show (((he.map tv2).find? fun x=>decide (x.2=tv e.2)).map (·.1)).getD (tv e.2)=tv e.1
  cases hq:(he.map tv2).find? fun x=>decide (x.2=tv e.2)with
  | none=>have:=List.find?_eq_none.1 hq (tv2 e) (List.mem_map_of_mem hh);simp[tv2]at this
  | some x =>
   have h1:=List.mem_of_find?_eq_some hq
   have h2:x.2=(tv2 e).2:=by have:=List.find?_some hq;exact of_decide_eq_true this
   have:=Geo.rF hndV h1 (List.mem_map_of_mem hh) h2
   rw[this];rfl
 have hrun:∀ (n:Nat) (x:Pt),x∈he.map (·.2)→(bA (nxP (he.map Geo.sw)) n x).map tv=Geo.cM nx n (tv x)∧∀ v∈bA (nxP (he.map Geo.sw)) n x,CanP v:=by
  intro n
  induction n with
  | zero=>intro x _;exact⟨rfl,fun v hv=>by simp[bA]at hv⟩
  | succ n ih =>
   intro x hx
   obtain⟨e,hh,rfl⟩:=List.mem_map.1 hx
   have h1:=hnx e hh
   obtain⟨i1,i2⟩:=ih e.1 (hio e hh)
   rw[bA,h1]
   refine⟨?_,fun v hv=>?_⟩
   ·rw[List.map_cons,i1,Geo.cM,hnxV e hh]
   ·rcases List.mem_cons.1 hv with rfl|hv
    ·exact (hcan e hh).2
    ·exact i2 v hv
 have hle:he.length≤(bh b l).length:=by
  have:=hS.HE_le
  rw[hHE,← vW h.toCanC]at this
  simpa [sds]using this
 subst hhe
 refine⟨hne,hnd,hio,hle,hnx,fun f hf=>?_,by rw[hfold];exact⟨by simpa using f1,f3⟩,hHE⟩
 obtain⟨r1,r2⟩:=hrun (heP b l).length f hf
 refine⟨?_,r2⟩
 rw[r1]
 have hlen:(heP b l).length=(Geo.HE (tH b) (sds l)).length:=by rw[hHE];simp
 rw[hlen]
 refine hS.cap_of (nx:=nx) (fun e hh=>?_) ?_
 ·rw[hHE]at hh
  obtain⟨e0,hh0,rfl⟩:=List.mem_map.1 hh
  exact hnxV e0 hh0
 ·rw[hHE,List.map_map]
  obtain⟨e,hh,rfl⟩:=List.mem_map.1 hf
  exact List.mem_map.2 ⟨e,hh,rfl⟩
theorem CapF.ex {b:Pl} {l:aF} (C:CapF b l):∃ f∈(heP b l).map (·.2),b8 b (bh b l)=bA (nxP ((heP b l).map Geo.sw)) (heP b l).length f:=by
 refine⟨_,C.cap.2,?_⟩
 unfold b8
 rw[C.cap.1,List.length_map]
theorem sM {b:Pl} {l:aF} (h:CellOK l) (hS:Geo.Spl (sds l) (tH b)):Geo.Spl.Cap (tH b) (sds l) ((b8 b (bh b l)).map tv)∧(∀ v∈b8 b (bh b l),CanP v)∧(b8 b (bh b l)).length≤(bh b l).length∧(cU b (bh b l)).1.length≤(bh b l).length:=by
 have C:=sN h hS
 obtain⟨f,hf,e⟩:=C.ex
 rw[e,C.cap.1]
 exact⟨(C.run f hf).1,(C.run f hf).2,by rw[oJ];exact C.le,by rw[List.length_map];exact C.le⟩
theorem c5z {b:Pl} {l:aF} (h:CellOK l) (hS:Geo.Spl (sds l) (tH b)):Geo.Spl.Cap (tH b) (sds l) ((b8 b (bh b l)).map tv)∧∀ v∈b8 b (bh b l),CanP v:=⟨(sM h hS).1,(sM h hS).2.1⟩
theorem sds_b {b:Pl} {l:aF} (h:CanC l):sds (iR b l)=Geo.aW (tH b) (sds l)++[⟨tH b,(b8 b (bh b l)).map tv⟩]:=by
 unfold iR
 show (bh b l++[(b,b8 b (bh b l))]).map sd=_
 rw[List.map_append]
 show sds (bh b l)++_=_
 rw[vW h]
 rfl
theorem gP {b:Pl} {l:aF} (h:CellOK l) (hf:bI b l=true) (hb:bJ b l=true):Geo.Spl (sds l) (tH b):=by
 refine⟨h.cell,?_,?_⟩
 ·unfold bJ at hb
  obtain⟨s,hs,hb⟩:=List.any_eq_true.1 hb
  obtain⟨v,hv,hb⟩:=List.any_eq_true.1 hb
  refine⟨sd s,List.mem_map_of_mem hs,tv v,List.mem_map_of_mem hv,(mS b (h.w hs v hv)).2 ?_⟩
  have:=of_decide_eq_true hb
  unfold aB at this
  exact mD.1 this
 ·unfold bI at hf
  obtain⟨s,hs,hf⟩:=List.any_eq_true.1 hf
  obtain⟨v,hv,hf⟩:=List.any_eq_true.1 hf
  refine⟨sd s,List.mem_map_of_mem hs,tv v,List.mem_map_of_mem hv,(qJ b (h.w hs v hv)).2 ?_⟩
  have:=of_decide_eq_true hf
  unfold aB at this
  exact a6t.1 this
theorem a4i {b:Pl} {l:aF} (h:CellOK l) (hS:Geo.Spl (sds l) (tH b)):CellOK (iR b l):=by
 obtain⟨K,hc⟩:=c5z h hS
 refine⟨⟨fun s hs=>?_⟩,?_⟩
 ·rcases List.mem_append.1 hs with hs|hs
  ·exact (pX h.toCanC).can s hs
  ·obtain rfl:s=_:=by simpa using hs
   exact hc
 ·rw[sds_b h.toCanC]
  exact hS.cell K
theorem nD (b:Pl) (l:aF):bI (bH b) l=bJ b l:=by
 unfold bI bJ
 congr 1;funext s;congr 1;funext v
 rw[r7]
 congr 1
 simp only[eq_iff_iff];omega
theorem nA (b:Pl) (l:aF):bJ (bH b) l=bI b l:=by
 unfold bI bJ
 congr 1;funext s;congr 1;funext v
 rw[r7]
 congr 1
 simp only[eq_iff_iff];omega
theorem a3a {b:Pl} {l:aF} (h:CellOK l):((aS b l).1=[]∨CellOK (aS b l).1)∧((aS b l).2=[]∨CellOK (aS b l).2):=by
 unfold aS
 by_cases hf:bI b l=false
 ·rw[if_pos hf];exact⟨.inr h,.inl rfl⟩
 ·rw[if_neg hf]
  by_cases hb:bJ b l=false
  ·rw[if_pos hb];exact⟨.inl rfl,.inr h⟩
  ·rw[if_neg hb]
   have hf':bI b l=true:=by simpa using hf
   have hb':bJ b l=true:=by simpa using hb
   refine⟨.inr (a4i h (gP h hf' hb')),.inr (a4i h (gP h (by rw[nD];exact hb') (by rw[nA];exact hf')))⟩
end Go.Sx
namespace Go.Sx
open Geo (H V Sd)
set_option linter.unusedVariables false
def hd (vs:List Pt):V:=match vs with|[]=>⟨0,0,0⟩|v::_=>tv v
end Go.Sx
namespace Go.Sx
open Geo (H V Sd)
set_option linter.unusedVariables false
def gR (m:List Pt) (x:Pt):List Pt:=if x∈m then m else m++[x]
def ddP (l:List Pt):List Pt:=l.foldl gR []
theorem a7j (l m:List Pt) (hm:m.Nodup):(l.foldl gR m).Nodup∧∀ x,x∈l.foldl gR m↔x∈m∨x∈l:=by
 induction l generalizing m with
 | nil=>exact⟨hm,fun x=>by simp⟩
 | cons a l ih =>
  have h1:(gR m a).Nodup∧∀ x,x∈gR m a↔x∈m∨x=a:=by
   unfold gR
   split
   ·rename_i h;exact⟨hm,fun x=>⟨.inl,fun hh=>hh.elim id fun e=>e▸h⟩⟩
   ·rename_i h
    refine⟨?_,fun x=>by simp⟩
    rw[List.nodup_append]
    exact⟨hm,by simp,fun p hp q hq e=>by simp at hq;exact h (hq▸e▸hp)⟩
  obtain⟨i1,i2⟩:=ih _ h1.1
  refine⟨i1,fun x=>?_⟩
  rw[List.foldl_cons,i2,h1.2,List.mem_cons,or_assoc]
theorem b8u (l:List Pt):(ddP l).Nodup:=(a7j l [] (by simp)).1
theorem zK {l:List Pt} {x:Pt}:x∈ddP l↔x∈l:=((a7j l [] (by simp)).2 x).trans (by simp)
theorem zL (l:List Pt):(ddP l).length≤l.length:=by
 have key:∀ (l m:List Pt),(l.foldl gR m).length≤m.length+l.length:=by
  intro l
  induction l with
  | nil=>intro m;simp
  | cons a l ih =>
   intro m
   have:=ih (gR m a)
   have h2:(gR m a).length≤m.length+1:=by unfold gR;split<;>simp
   simp only[List.foldl_cons,List.length_cons];omega
 simpa [ddP]using key l []
def bC (l:aF):List Pt:=l.flatMap (·.2)
def d9 (l:aF):List Pt:=gU (ddP (bC l))
theorem rR {l:aF} {x:Pt}:x∈d9 l↔∃ s∈l,x∈s.2:=by
 unfold d9 bC
 rw[a2a,zK,List.mem_flatMap]
def OkC (l:aF):Prop:=l=[]∨CellOK l
theorem CellOK.ne {l:aF} (h:CellOK l):l≠[]:=fun e=>by have:=h.cell.four;subst e;simp[sds]at this
theorem OkC.can {l:aF} (h:OkC l):CanC l:=h.elim (fun e=>by subst e;exact⟨fun s hs=>by simp at hs⟩) (·.toCanC)
theorem a1z (b:Pl):aS b []=([],[]):=rfl
end Go.Sx
namespace Go.Proofs.Vx
open Go Go.Sx Go.Proofs Tryz
attribute [local irreducible] fnT CallOK CallFr AW aO callV aP aN aM aQ gcaseP hid
theorem b5g:fdT prog 33 0=some (0,1,false)∧mpT prog 110=some (51,4)∧zvT prog 4=some (.bool false):=by and_intros<;>kernel_rfl
attribute [go_sem] b5g
theorem c3i:fnT prog 84=true:=by kernel_rfl
theorem b0i (l:aF) (i:Nat) (h:i<l.length) (j:Nat):(∀ p∈bC (l.take i)++l[i].2.take j,∃ s∈l,p∈s.2)∧(bC (l.take i)++l[i].2.take j).length≤(bC l).length:=by
 refine⟨fun p hp=>?_,?_⟩
 ·rcases List.mem_append.1 hp with hp|hp
  ·obtain⟨s,hs,hp⟩:=List.mem_flatMap.1 hp
   exact⟨s,List.mem_of_mem_take hs,hp⟩
  ·exact⟨l[i],List.getElem_mem h,List.mem_of_mem_take hp⟩
 ·have e:bC l=bC (l.take i)++(l[i].2++bC (l.drop (i+1))):=by
   unfold bC
   conv=>lhs;rw[← List.take_append_drop i l,List.drop_eq_getElem_cons h]
   rw[List.flatMap_append,List.flatMap_cons]
  rw[e]
  simp only[List.length_append,List.length_take]
  omega
theorem a9s (l:aF) (i:Nat) (h:i<l.length):bC (l.take i)++l[i].2=bC (l.take (i+1)):=by
 unfold bC
 rw[List.take_succ_eq_append_getElem h,List.flatMap_append]
 simp
theorem c2m (l:List Pt) (x:Pt):ddP (l++[x])=gR (ddP l) x:=by unfold ddP;rw[List.foldl_append];rfl
theorem a8k {K:Nat→Prop} (f:Nat):In K (.clo f []):=.clo f [] (by simp)
theorem vT {K:Nat→Prop} (vs:List Pt):InC K (.vec 8 (vs.map eP)):=fun e he c hc=>(pI vs e he c hc).inn
theorem c27f (l:aF) (hn:l.length≤1048576) (hv:∀ s∈l,s.2.length≤268435456∧∀ v∈s.2,CanP v∧BPt 1073741824 v) (hm:(bC l).length≤268435456):CallFr prog 27 [.agg [.sl (eS l)]] 8 (((Sx.d9 l).map eP)):=by
 refine CallFr.flat func27 rfl 39 rfl rfl (pI _) [.tmp 2] (congrArg Array.toList results27) ?_
 simp only[aD,Nat.reduceAdd]
 have hml:maxLen=9223372036854775807:=rfl
 have hl:(eS l).length=l.length:=List.length_map _
 have hd0:ddP []=[]:=rfl
 have hm0:mPB []=[]:=rfl
 have hc0:bC []=[]:=rfl
 repeat'(first|refine zg ?_|(refine zc ?_ ?_<;>intro hc<;>try simp only[NM]at hc)|refine zr ?_|refine⟨by omega,?_⟩|(refine zb ?_ ?_<;>intro hg<;>(try rw[hg])<;>try simp only[NM]at hg)|omega|simp -dsimp (disch:=try exact zo)only[go_sem,hl]|contradiction|rfl)
 refine AW.loop (fun z:{i:Nat // i≤l.length}=>⟨[(13,.lit (.int .i64 z.1)),(12,.lit (.int .i64 l.length)),(4,.ref 17 0 (ddP (bC (l.take z.1))).length (ddP (bC (l.take z.1))).length),(11,.sl (eS l)),(3,.mp 10)],[(17,.vec 8 ((ddP (bC (l.take z.1))).map eP)),(10,.mpo (mPB (ddP (bC (l.take z.1)))))],60⟩) (fun z=>l.length - z.1) ⟨0,Nat.zero_le _⟩ (Weak.trans (Weak.nil 4 8 (by decide) rfl) (aH (by refine⟨?_,?_,?_,?_⟩<;>simp -dsimp (disch:=try exact zo)only[go_sem,List.take_zero,hc0,hd0,hm0,aG,aC,ZC]))) ?_
 rintro⟨i,hi⟩
 dsimp only
 by_cases hlt:i<l.length
 ·have es1:=sL l i hlt
  have hS1:=a9s l i hlt
  have hsub:=b0i l i hlt
  generalize hq:l[i]=sd at *
  obtain⟨sp,svs⟩:=sd
  dsimp only at es1 hS1 hsub
  have hvn:svs.length≤268435456:=(hv _ (hq▸List.getElem_mem hlt)).1
  simp only[eG]at es1
  repeat'(first|refine zg ?_|(refine zc ?_ ?_<;>intro hc<;>first|simp only[NM]at hc|omega|skip)|refine zr ?_|refine⟨by omega,?_⟩|(refine zb ?_ ?_<;>intro hg<;>(try rw[hg])<;>try simp only[NM]at hg)|omega|simp -dsimp (disch:=try exact zo)only[go_sem,hl,es1,ZT,aG,aC,zl]|contradiction|rfl)
  refine AW.loop (fun z:{j:Nat // j≤svs.length}=>⟨[(20,.lit (.int .i64 z.1)),(19,.lit (.int .i64 svs.length)),(18,.sl (svs.map eP)),(13,.lit (.int .i64 i)),(12,.lit (.int .i64 l.length)),(4,.ref 17 0 (ddP (bC (l.take i)++svs.take z.1)).length (ddP (bC (l.take i)++svs.take z.1)).length),(11,.sl (eS l)),(3,.mp 10)],[(17,.vec 8 ((ddP (bC (l.take i)++svs.take z.1)).map eP)),(10,.mpo (mPB (ddP (bC (l.take i)++svs.take z.1))))],80⟩) (fun z=>svs.length - z.1) ⟨0,Nat.zero_le _⟩ (aH (by refine⟨?_,?_,?_,?_⟩<;>simp -dsimp (disch:=try exact zo)only[go_sem,aG,aC,List.take_zero,List.append_nil,ZC])) ?_
  rintro⟨j,hj⟩
  dsimp only
  by_cases hjt:j<svs.length
  ·have ea:=fB svs j hjt
   have hst0:ddP (bC (l.take i)++svs.take (j+1))=gR (ddP (bC (l.take i)++svs.take j)) svs[j]:=by
    rw[List.take_succ_eq_append_getElem hjt,← List.append_assoc,c2m]
   obtain⟨hs1,hs2⟩:=hsub j
   have ha0:svs[j]∈svs:=List.getElem_mem hjt
   have hsl:(sp,svs)∈l:=hq▸List.getElem_mem hlt
   have ha:BPt 1073741824 svs[j]:=((hv _ hsl).2 _ ha0).2
   have hRn:=b8u (bC (l.take i)++svs.take j)
   have hRl0:=zL (bC (l.take i)++svs.take j)
   have hRb:∀ p∈ddP (bC (l.take i)++svs.take j),BPt 1073741824 p:=fun p hp=>by
    obtain⟨s,hs,hps⟩:=hs1 p (zK.1 hp)
    exact ((hv s hs).2 p hps).2
   generalize ddP (bC (l.take i)++svs.take j)=R at *
   generalize svs[j]=a at *
   have hRl:(R.map eP).length=R.length:=List.length_map _
   have hkey:=tF a ha
   have hko:=c5l hRn hRb
   have hfind:=b7i R a
   simp only[eP,e4]at ea
   clear hsub hs1 hv
   by_cases q:a∈R
   ·have hlk:(fF (mPB R) (pv a)).getD (.bool false)=.bool true:=by rw[hfind,if_pos q];rfl
    have hst:ddP (bC (l.take i)++svs.take (j+1))=R:=by rw[hst0];unfold gR;rw[if_pos q]
    have hput:True:=trivial
    have hRm:True:=trivial
    clear hst0 hfind
    simp only[pv]at hkey hlk
    repeat'(first|refine zg ?_|(refine zc ?_ ?_<;>intro hc<;>first|simp only[NM]at hc|omega|skip)|refine zr ?_|refine⟨by omega,?_⟩|(refine zb ?_ ?_<;>intro hg<;>(try rw[hg])<;>try simp only[NM]at hg)|omega|simp -dsimp (disch:=try exact zo)only[go_sem,hl,es1,ea,hlk,qS,hkey,hko,hput,ZT,zl,hRl,aG,aC,List.toList_toArray,hRm]|rfl)
    all_goals exact AW.stop ⟨⟨j+1,by omega⟩,(aH (by refine⟨?_,?_,?_,?_⟩<;>simp -dsimp (disch:=try exact zo)only[go_sem,aG,aC,hst,ZC])),by dsimp only;omega⟩
   ·have hlk:(fF (mPB R) (pv a)).getD (.bool false)=.bool false:=by rw[hfind,if_neg q];rfl
    have hst:ddP (bC (l.take i)++svs.take (j+1))=R++[a]:=by rw[hst0];unfold gR;rw[if_neg q]
    have hput:=c1q R a q
    have hRm:(R++[a]).map eP=R.map eP++[eP a]:=by simp
    clear hst0 hfind
    simp only[pv]at hkey hlk hput
    repeat'(first|refine zg ?_|(refine zc ?_ ?_<;>intro hc<;>first|simp only[NM]at hc|omega|skip)|refine zr ?_|refine⟨by omega,?_⟩|(refine zb ?_ ?_<;>intro hg<;>(try rw[hg])<;>try simp only[NM]at hg)|omega|simp -dsimp (disch:=try exact zo)only[go_sem,hl,es1,ea,hlk,qS,hkey,hko,hput,ZT,zl,hRl,aG,aC,List.toList_toArray,hRm]|rfl)
    all_goals exact AW.stop ⟨⟨j+1,by omega⟩,(aH (by refine⟨?_,?_,?_,?_⟩<;>first|(simp -dsimp (disch:=try exact zo)only[go_sem,hst,hRm,List.length_append,ZC];done)|(simp -dsimp (disch:=try exact zo)only[go_sem,aG,aC,hst,ZC];done))),by dsimp only;omega⟩
  ·have hjl:j=svs.length:=by omega
   subst hjl
   rw[List.take_length]
   clear hv
   repeat'(first|refine zg ?_|(refine zc ?_ ?_<;>intro hc<;>first|simp only[NM]at hc|omega|skip)|refine zr ?_|refine⟨by omega,?_⟩|(refine zb ?_ ?_<;>intro hg<;>(try rw[hg])<;>try simp only[NM]at hg)|omega|simp -dsimp (disch:=try exact zo)only[go_sem,hl,zl]|contradiction|rfl)
   all_goals exact AW.stop ⟨⟨i+1,by omega⟩,(aH (by refine⟨?_,?_,?_,?_⟩<;>simp -dsimp (disch:=try exact zo)only[go_sem,aG,aC,hS1,ZC])),by dsimp only;omega⟩
 ·have hil:i=l.length:=by omega
  subst hil
  rw[List.take_length]
  have hvR:∀ p∈ddP (bC l),CanP p∧BPt 1073741824 p:=fun p hp=>by
   obtain⟨s,hs,hps⟩:=List.mem_flatMap.1 (zK.1 hp)
   exact (hv s hs).2 p hps
  have hRl:=zL (bC l)
  unfold Sx.d9
  generalize ddP (bC l)=R at *
  have hSl:=nB R
  clear hv
  repeat'(first|refine zg ?_|(refine zc ?_ ?_<;>intro hc<;>try simp only[NM]at hc)|(refine AW.ret (pM ?_);simp -dsimp (disch:=try exact zo)only[go_sem,hl,zl,hSl]<;>try (exact⟨_,rfl,rfl⟩))|(refine lR 17 _ _ _ c3i (oM (c84 R hvR (by omega)) (vT _) (vT _) (.tup _ (by simp)) (by simp[jE,a8k]) 17) rfl (by simp[vY,a8k]) (vT _) (vT _) (.tup _ (by simp)) rfl ?_)|refine⟨by omega,?_⟩|(refine zb ?_ ?_<;>intro hg<;>(try rw[hg])<;>try simp only[NM]at hg)|omega|simp -dsimp (disch:=try exact zo)only[go_sem,hl,zl,hSl]|contradiction)
theorem c27 (l:aF) (hn:l.length≤1048576) (hv:∀ s∈l,s.2.length≤268435456∧∀ v∈s.2,CanP v∧BPt 1073741824 v) (hm:(bC l).length≤268435456):CallOK prog 27 [.agg [.sl (eS l)]] [] (.sl ((Sx.d9 l).map eP)) []:=(c27f l hn hv hm).ok
end Go.Proofs.Vx
namespace Go.Sx
open Geo (H V Sd)
set_option linter.unusedVariables false
def wpt (x y z:Int):Pt:=⟨1000*x,1000*y,1000*z,1⟩
def aX:aF:=[
 (⟨-1,0,0,1000⟩,[wpt (-1) (-1) 1,wpt (-1) 1 1,wpt (-1) 1 (-1),wpt (-1) (-1) (-1)]),
 (⟨1,0,0,1000⟩,[wpt 1 (-1) (-1),wpt 1 1 (-1),wpt 1 1 1,wpt 1 (-1) 1]),
 (⟨0,-1,0,1000⟩,[wpt 1 (-1) (-1),wpt 1 (-1) 1,wpt (-1) (-1) 1,wpt (-1) (-1) (-1)]),
 (⟨0,1,0,1000⟩,[wpt (-1) 1 (-1),wpt (-1) 1 1,wpt 1 1 1,wpt 1 1 (-1)]),
 (⟨0,0,-1,1000⟩,[wpt (-1) 1 (-1),wpt 1 1 (-1),wpt 1 (-1) (-1),wpt (-1) (-1) (-1)]),
 (⟨0,0,1,1000⟩,[wpt (-1) (-1) 1,wpt 1 (-1) 1,wpt 1 1 1,wpt (-1) 1 1])]
def canB (p:Pt):Bool:=decide (0<p.w)&&decide (g4 p.x p.y p.z p.w=1)
theorem d8 {p:Pt} (h:canB p=true):CanP p:=by
 simp only[canB,Bool.and_eq_true,decide_eq_true_eq]at h
 exact⟨h.1,h.2⟩
def pvB (s:Sd):Bool:=decide (3≤s.vs.length)&&decide s.vs.Nodup&&(Geo.edges s.vs).all fun e=>s.vs.all fun x=>decide (x=e.1)||decide (x=e.2)||decide (0<Geo.ori s.h.n e.1 e.2 x)
theorem c4u {s:Sd} (h:pvB s=true):Geo.PV s.h.n s.vs:=by
 simp only[pvB,Bool.and_eq_true,decide_eq_true_eq,List.all_eq_true,Bool.or_eq_true]at h
 exact⟨h.1.1,h.1.2,fun e he x hx h1 h2=>(h.2 e he x hx).elim (fun h=>h.elim (fun h=>absurd h h1) fun h=>absurd h h2) id⟩
def apB (xs:List V) (h g:H):Bool:=xs.any fun x=>decide (h.at x=0)&&decide (g.at x≠0)
theorem c6g {xs:List V} {h g:H} (k:apB xs h g=true):¬ Geo.Prp h g:=by
 simp only[apB,List.any_eq_true,Bool.and_eq_true,decide_eq_true_eq]at k
 obtain⟨x,_,h1,h2⟩:=k
 rintro⟨c,hc,e⟩
 have:=e x
 grind
def a8p (c:List Sd):Bool:=c.all pvB&&(c.all fun s=>s.vs.all fun v=>decide (s.h.at v=0))&&(c.all fun s=>c.all fun t=>t.vs.all fun v=>decide (s.h.at v≤0)) &&
 (Geo.E c).isPerm ((Geo.E c).map Geo.sw)&&decide (Geo.E c).Nodup&&decide (4≤c.length)&&decide (c.Pairwise fun s t=>apB (c.flatMap (·.vs)) s.h t.h=true)
theorem a4e {c:List Sd} (h:a8p c=true):Geo.Cell c:=by
 simp only[a8p,Bool.and_eq_true,decide_eq_true_eq,List.all_eq_true,List.isPerm_iff]at h
 obtain⟨⟨⟨⟨⟨⟨h1,h2⟩,h3⟩,h4⟩,h5⟩,h6⟩,h7⟩:=h
 exact⟨fun s hs=>c4u (h1 s hs),h2,h3,h4,h5,h6,h7.imp fun h=>c6g h⟩
theorem rN:CellOK aX:=by
 refine⟨⟨fun s hs v hv=>?_⟩,a4e (by decide +kernel)⟩
 have:(aX.all fun s=>s.2.all canB)=true:=by decide +kernel
 exact d8 (List.all_eq_true.1 (List.all_eq_true.1 this s hs) v hv)
end Go.Sx
namespace Go.Sx
open Geo (H V Sd)
set_option linter.unusedVariables false
theorem y9 (a b c:Rat):tv (mkP a b c)=⟨a,b,c⟩:=by
 have ha:(a.den:Int)≠0:=by have:=a.den_nz;omega
 have hb:(b.den:Int)≠0:=by have:=b.den_nz;omega
 have hc:(c.den:Int)≠0:=by have:=c.den_nz;omega
 have hD:1*(a.den:Int)*(b.den:Int)*(c.den:Int)≠0:=Int.mul_ne_zero (Int.mul_ne_zero (by simpa using ha) hb) hc
 have key:∀ (q:Rat) (k:Int),k≠0→((q.num*k:Int):Rat) / (((q.den:Int)*k:Int):Rat)=q:=by
  intro q k hk
  have h:=Rat.divInt_mul_right (n:=q.num) (d:=(q.den:Int)) hk
  rw[← Rat.divInt_eq_div,h,Rat.num_divInt_den]
 unfold mkP
 rw[y8 hD]
 have e1:1*(a.den:Int)*(b.den:Int)*(c.den:Int) / (a.den:Int)=(b.den:Int)*(c.den:Int):=by
  rw[Int.one_mul,Int.mul_assoc];exact Int.mul_ediv_cancel_left _ ha
 have e2:1*(a.den:Int)*(b.den:Int)*(c.den:Int) / (b.den:Int)=(a.den:Int)*(c.den:Int):=by
  rw[Int.one_mul,Int.mul_comm (a.den:Int),Int.mul_assoc];exact Int.mul_ediv_cancel_left _ hb
 have e3:1*(a.den:Int)*(b.den:Int)*(c.den:Int) / (c.den:Int)=(a.den:Int)*(b.den:Int):=by
  rw[Int.one_mul];exact Int.mul_ediv_cancel _ hc
 rw[e1,e2,e3]
 apply V.ext
 ·rw[show 1*(a.den:Int)*(b.den:Int)*(c.den:Int)=(a.den:Int)*((b.den:Int)*(c.den:Int)) by rw[Int.one_mul,Int.mul_assoc]]
  exact key a _ (Int.mul_ne_zero hb hc)
 ·rw[show 1*(a.den:Int)*(b.den:Int)*(c.den:Int)=(b.den:Int)*((a.den:Int)*(c.den:Int)) by rw[Int.one_mul,Int.mul_comm (a.den:Int),Int.mul_assoc]]
  exact key b _ (Int.mul_ne_zero ha hc)
 ·rw[show 1*(a.den:Int)*(b.den:Int)*(c.den:Int)=(c.den:Int)*((a.den:Int)*(b.den:Int)) by rw[Int.one_mul,Int.mul_comm (c.den:Int)]]
  exact key c _ (Int.mul_ne_zero ha hb)
theorem yR (a b c:Rat):CanP (mkP a b c):=xH _ _ _ _
end Go.Sx
namespace Go.Sx
open Geo (H V Sd)
set_option linter.unusedVariables false
structure Bd (S M K:Nat) (l:aF):Prop where
 n:l.length≤S
 m:∀ s∈l,s.2.length≤M
 k:∀ s∈l,∀ v∈s.2,BPt K v
 p:∀ s∈l,BPl (K+1048576) s.1
theorem Bd.mono {S M K S' M' K':Nat} {l:aF} (h:Bd S M K l) (h1:S≤S') (h2:M≤M') (h3:K≤K'):Bd S' M' K' l :=
 ⟨Nat.le_trans h.n h1,fun s hs=>Nat.le_trans (h.m s hs) h2,fun s hs v hv=>(h.k s hs v hv).mono h3,fun s hs=>(h.p s hs).mono (Nat.add_le_add_right h3 _)⟩
theorem oR (h:Int) (b:Pl) (vs:List Pt):(bD h b vs).length≤2*vs.length:=by
 rw[← uM];exact tU h b vs vs.length
theorem xY {h:Int} {b:Pl} {vs:List Pt} {k K:Nat} (hb:BPl k b) (hv:∀ v∈vs,BPt K v):∀ v∈bD h b vs,BPt (k+2*K+4) v:=by
 intro v hvm
 unfold bD at hvm
 obtain⟨e,he,hvm⟩:=List.mem_flatMap.1 hvm
 unfold pc at hvm
 rcases List.mem_append.1 hvm with hvm|hvm
 ·split at hvm
  ·obtain rfl:v=e.1:=by simpa using hvm
   exact (hv _ (Geo.bL he)).mono (by omega)
  ·simp at hvm
 ·split at hvm
  ·obtain rfl:v=_:=by simpa using hvm
   exact c1o hb (hv _ (Geo.bL he)) (hv _ (Geo.bU he))
  ·simp at hvm
theorem zZ {b:Pl} {l:aF} {S M K k:Nat} (h:Bd S M K l) (hb:BPl k b):Bd S (2*M) (k+2*K+4) (bh b l):=by
 refine⟨Nat.le_trans (List.length_filterMap_le _ _) h.n,fun s hs=>?_,fun s hs v hv=>?_,fun s hs=>?_⟩
 all_goals
  obtain⟨t,ht,e⟩:=List.mem_filterMap.1 hs
  by_cases hq:bG (-1) b t.2 t.2.length=true
  rotate_left
  ·rw[if_neg hq]at e;contradiction
  rw[if_pos hq]at e
  obtain rfl:=Option.some.inj e
 ·have:=oR (-1) b t.2
  have:=h.m t ht
  show (bD (-1) b t.2).length≤_
  omega
 ·exact xY hb (h.k t ht) v hv
 ·exact (h.p t ht).mono (by omega)
theorem c2p {b:Pl} {l:aF} {K:Nat} (h:∀ s∈l,∀ v∈s.2,BPt K v):∀ v∈b8 b l,BPt K v:=by
 have hI:MInv K (cU b l):=by
  have f1:∀ (es:List (Pt × Pt)) (s:MS),MInv K s→(∀ e∈es,BPt K e.1∧BPt K e.2)→MInv K (bZ b s es):=by
   intro es
   induction es with
   | nil=>intro s h _;exact h
   | cons e es ih=>intro s h he;exact ih _ (h.step (he _ (by simp))) fun q hq=>he q (by simp[hq])
  rw[a3x]
  refine f1 _ _ ⟨by simp,by simp,vA K⟩ fun e he=>?_
  obtain⟨s,hs,he⟩:=List.mem_flatMap.1 he
  exact⟨h s hs _ (Geo.bL he),h s hs _ (Geo.bU he)⟩
 intro v hv
 unfold b8 at hv
 have key:∀ n x,BPt K x→∀ v∈bA (nxP (cU b l).1) n x,BPt K v:=by
  intro n
  induction n with
  | zero=>intro x _ v hv;simp[bA]at hv
  | succ n ih =>
   intro x hx v hv
   rcases List.mem_cons.1 hv with rfl|hv
   ·exact hx
   ·exact ih _ (a5s hI.bt) v hv
 exact key _ _ hI.fb v hv
theorem a4j {b:Pl} {l:aF} {S M K k:Nat} (hc:CellOK l) (hS:Geo.Spl (sds l) (tH b)) (h:Bd S M K l) (hb:BPl k b) (hSM:S≤2*M):Bd (S+1) (2*M) (k+2*K+4) (iR b l):=by
 have h1:=zZ h hb
 have h2:=(sM hc hS).2.2.1
 refine⟨?_,fun s hs=>?_,fun s hs v hv=>?_,fun s hs=>?_⟩
 ·unfold iR;rw[List.length_append];have:=h1.n;simp only[List.length_cons,List.length_nil];omega
 all_goals rcases List.mem_append.1 hs with hs|hs
 ·exact h1.m s hs
 ·obtain rfl:s=_:=by simpa using hs
  have:=h1.n
  show (b8 b (bh b l)).length≤_
  omega
 ·exact h1.k s hs v hv
 ·obtain rfl:s=_:=by simpa using hs
  exact c2p h1.k v hv
 ·exact h1.p s hs
 ·obtain rfl:s=_:=by simpa using hs
  exact hb.mono (by omega)
theorem Bd.nil {S M K:Nat}:Bd S M K []:=⟨Nat.zero_le _,by simp,by simp,by simp⟩
theorem a3b {b:Pl} {l:aF} {S M K k:Nat} (hc:OkC l) (h:Bd S M K l) (hb:BPl k b) (hSM:S≤2*M):Bd (S+1) (2*M) (k+2*K+4) (aS b l).1∧Bd (S+1) (2*M) (k+2*K+4) (aS b l).2:=by
 rcases hc with rfl|hc
 ·exact⟨Bd.nil,Bd.nil⟩
 ·have hm:=h.mono (S':=S+1) (M':=2*M) (K':=k+2*K+4) (by omega) (by omega) (by omega)
  unfold aS
  by_cases hf:bI b l=false
  ·rw[if_pos hf];exact⟨hm,Bd.nil⟩
  ·rw[if_neg hf]
   by_cases hbb:bJ b l=false
   ·rw[if_pos hbb];exact⟨Bd.nil,hm⟩
   ·rw[if_neg hbb]
    have hf':bI b l=true:=by simpa using hf
    have hb':bJ b l=true:=by simpa using hbb
    exact⟨a4j hc (gP hc hf' hb') h hb hSM,a4j hc (gP hc (by rw[nD];exact hb') (by rw[nA];exact hf')) h hb.neg hSM⟩
theorem a2x:∀ s∈aX,BPl 2 s.1:=fun s hs=>by
 have:(aX.all fun s=>decide ((Zm s.1.a).size≤2∧(Zm s.1.b).size≤2∧(Zm s.1.c).size≤2∧(Zm s.1.d).size≤2))=true:=by simp only[cI];decide
 have h:=of_decide_eq_true (List.all_eq_true.1 this s hs)
 exact⟨⟨h.1,h.2.1,h.2.2.1,h.2.2.2⟩⟩
theorem xR:Bd 6 4 2 aX:=by
 refine⟨by decide,by decide,fun s hs v hv=>?_,fun s hs=>?_⟩
 ·have:(aX.all fun s=>s.2.all fun v=>decide ((Zm v.x).size≤2∧(Zm v.y).size≤2∧(Zm v.z).size≤2∧(Zm v.w).size≤2))=true:=by simp only[cI];decide
  have h:=of_decide_eq_true (List.all_eq_true.1 (List.all_eq_true.1 this s hs) v hv)
  exact⟨⟨h.1,h.2.1,h.2.2.1,h.2.2.2⟩⟩
 ·exact (a2x s hs).mono (by decide)
end Go.Sx
namespace Go.Sx
set_option linter.unusedVariables false
theorem CallOK.wk {P:Program} {f:Nat} {args:List AV} {pre post:List (Nat × AV)} {r r':AV} (h:CallOK P f args pre r post) (hr:∀ g v,Rel g r v→Rel g r' v):CallOK P f args pre r' post:=by
 intro g vals h1 h2 h3
 refine (h g vals h1 h2 h3).mono ?_
 rintro e w' ⟨v,g',k1,k2,k3,k4,k5,k6⟩
 exact⟨v,g',k1,k2,k3,k4,k5,hr _ _ k6⟩
theorem c0u {g:Gh} {v:Value} (h:Rel g (.lit (.slice none 0 0)) v):Rel g (.sl []) v:=by cases h;exact .slnil
theorem uL {g:Gh} {v:Value} (h:Rel g (.agg [.lit (.slice none 0 0)]) v):Rel g (.agg [.sl []]) v:=by
 cases h with
 | agg _ vs hs h1 h =>
  refine .agg _ _ hs h1 fun i h2 h3=>?_
  have hi:i=0:=by simpa using h2
  subst hi
  exact c0u (h 0 (by simp) h3)
theorem uV {g:Gh} {a b a' b':AV} {v:Value} (ha:∀ v,Rel g a v→Rel g a' v) (hb:∀ v,Rel g b v→Rel g b' v) (h:Rel g (.tup [a,b]) v):Rel g (.tup [a',b']) v:=by
 cases h with
 | tup _ vs hs h =>
  refine .tup _ _ hs fun i h2 h3=>?_
  match i,h2 with
  | 0,_=>exact ha _ (h 0 (by simp) h3)
  | 1,_=>exact hb _ (h 1 (by simp) h3)
def cK (h:Int) (b:Pl) (l:aF):aF:=l.filterMap fun s=>if bG h b s.2 s.2.length then some (s.1,bD h b s.2)else none
theorem a5m (b:Pl) (l:aF):cK (-1) b l=bh b l:=rfl
theorem b7r {b:Pl} {l:aF} (h:CanC l):cK 1 b l=bh (bH b) l:=by
 unfold cK bh
 induction l with
 | nil=>rfl
 | cons s l ih =>
  rw[List.filterMap_cons,List.filterMap_cons,b2j,b3c (h.w (s:=s) (by simp)),ih ⟨fun t ht=>h.can t (by simp[ht])⟩]
theorem a2j (h:Int) (b:Pl) (l:aF) (i:Nat) (hi:i<l.length):cK h b (l.take (i+1))=cK h b (l.take i)++(if bG h b l[i].2 l[i].2.length then [(l[i].1,bD h b l[i].2)]else []):=by
 unfold cK
 rw[List.take_succ_eq_append_getElem hi,List.filterMap_append]
 congr 1
 simp only[List.filterMap_cons,List.filterMap_nil]
 split<;>simp_all
theorem uY (h:Int) (b:Pl) (l:aF):(cK h b l).length≤l.length:=List.length_filterMap_le _ _
theorem vE {h:Int} (hh:h≠0) {b:Pl} {vs:List Pt} (hs:bG h b vs vs.length=true):bD h b vs≠[]:=by
 unfold bG at hs
 rw[List.take_length]at hs
 obtain⟨v,hv,e⟩:=List.any_eq_true.1 hs
 have e:=of_decide_eq_true e
 rw[← Geo.i6 vs]at hv
 obtain⟨ed,he,rfl⟩:=List.mem_map.1 hv
 intro hn
 have:ed.1∈bD h b vs:=List.mem_flatMap.2 ⟨ed,he,List.mem_append_left _ (by rw[if_pos (by omega)];simp)⟩
 rw[hn]at this
 simp at this
theorem oO (l:aF) (f:Pt→Bool):(d9 l).any f=l.any fun s=>s.2.any f:=by
 apply Bool.eq_iff_iff.2
 simp only[List.any_eq_true]
 constructor
 ·rintro⟨v,hv,h⟩
  obtain⟨s,hs,hv⟩:=rR.1 hv
  exact⟨s,hs,v,hv,h⟩
 ·rintro⟨s,hs,v,hv,h⟩
  exact⟨v,rR.2 ⟨s,hs,hv⟩,h⟩
def cN (f:Pt→Bool) (vs:List Pt) (i:Nat):Bool:=(vs.take i).any f
theorem uR (f:Pt→Bool) (vs:List Pt):cN f vs 0=false:=rfl
theorem lZ (f:Pt→Bool) (vs:List Pt) (i:Nat) (hi:i<vs.length):cN f vs (i+1)=(cN f vs i||f vs[i]):=by
 unfold cN
 rw[List.take_succ_eq_append_getElem hi,List.any_append]
 simp
theorem l6 (f:Pt→Bool) (vs:List Pt):cN f vs vs.length=vs.any f:=by unfold cN;rw[List.take_length]
theorem wO (l:aF):(d9 l).length≤(bC l).length:=by unfold d9;rw[nB];exact zL _
end Go.Sx
