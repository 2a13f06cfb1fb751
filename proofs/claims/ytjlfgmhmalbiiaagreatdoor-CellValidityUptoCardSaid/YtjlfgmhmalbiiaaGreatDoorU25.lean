import Derived.Test.YtjlfgmhmalbiiaaGreatDoorProg
import Derived.Test.YtjlfgmhmalbiiaaGreatDoorU11
import Derived.Test.YtjlfgmhmalbiiaaGreatDoorU19
import Derived.Test.YtjlfgmhmalbiiaaGreatDoorU21
import Derived.Test.YtjlfgmhmalbiiaaGreatDoorU24
set_option linter.all false
namespace Go.Sx
open Geo (H V)
set_option linter.unusedVariables false
def tH (b:Pl):H:=⟨⟨(b.a:Rat),(b.b:Rat),(b.c:Rat)⟩,(b.d:Rat)⟩
theorem w_ne {p:Pt} (hp:0<p.w):(p.w:Rat)≠0:=by
 have:(0:Rat)<(p.w:Rat):=Rat.intCast_pos.2 hp
 grind
theorem at_tv (b:Pl) {p:Pt} (hp:0<p.w):(tH b).at (tv p)=(abv b p:Rat) / (p.w:Rat):=by
 have hw:=w_ne hp
 have hi:(p.w:Rat)*(p.w:Rat)⁻¹=1:=Rat.mul_inv_cancel _ hw
 simp only[H.at,Geo.dot,tH,tv,abv,Rat.intCast_sub,Rat.intCast_add,Rat.intCast_mul,Rat.div_def]
 grind
theorem at_lt (b:Pl) {p:Pt} (hp:0<p.w):(tH b).at (tv p)<0↔abv b p<0:=by
 rw[at_tv b hp,Rat.div_lt_iff (Rat.intCast_pos.2 hp),Rat.zero_mul]
 exact Rat.intCast_lt_intCast (b:=0)
theorem at_gt (b:Pl) {p:Pt} (hp:0<p.w):0<(tH b).at (tv p)↔0<abv b p:=by
 rw[at_tv b hp,Rat.lt_div_iff (Rat.intCast_pos.2 hp),Rat.zero_mul]
 exact Rat.intCast_lt_intCast (a:=0)
theorem at_eq (b:Pl) {p:Pt} (hp:0<p.w):(tH b).at (tv p)=0↔abv b p=0:=by
 have h1:=at_lt b hp
 have h2:=at_gt b hp
 constructor
 ·intro h
  have k1:¬ abv b p<0:=fun hh=>by have:=h1.2 hh;grind
  have k2:¬ 0<abv b p:=fun hh=>by have:=h2.2 hh;grind
  omega
 ·intro h
  have k1:¬ (tH b).at (tv p)<0:=fun hh=>by have:=h1.1 hh;omega
  have k2:¬ 0<(tH b).at (tv p):=fun hh=>by have:=h2.1 hh;omega
  grind
theorem side_lo {b:Pl} {p:Pt}:sideP b p=-1↔abv b p<0:=by unfold sideP;rcases sg_cases (abv b p)with ⟨e,h⟩|⟨e,h⟩|⟨e,h⟩<;>omega
theorem side_on {b:Pl} {p:Pt}:sideP b p=0↔abv b p=0:=by unfold sideP;rcases sg_cases (abv b p)with ⟨e,h⟩|⟨e,h⟩|⟨e,h⟩<;>omega
theorem side_hi {b:Pl} {p:Pt}:sideP b p=1↔0<abv b p:=by unfold sideP;rcases sg_cases (abv b p)with ⟨e,h⟩|⟨e,h⟩|⟨e,h⟩<;>omega
theorem side_neg (b:Pl) (p:Pt):sideP (negP b) p=- sideP b p:=by
 unfold sideP
 rw[abv_neg]
 rcases sg_cases (abv b p)with ⟨e,h⟩|⟨e,h⟩|⟨e,h⟩<;>rcases sg_cases (- abv b p)with ⟨e',h'⟩|⟨e',h'⟩|⟨e',h'⟩<;>omega
theorem opp_iff {b:Pl} {p q:Pt} (hp:0<p.w) (hq:0<q.w):sideP b p*sideP b q<0↔(tH b).at (tv p)*(tH b).at (tv q)<0:=by
 have p1:=at_lt b hp
 have p2:=at_gt b hp
 have q1:=at_lt b hq
 have q2:=at_gt b hq
 generalize (tH b).at (tv p)=x at *
 generalize (tH b).at (tv q)=y at *
 constructor
 ·intro h
  rcases opp h with ⟨h1,h2⟩|⟨h1,h2⟩
  ·have a1:=p1.2 h1;have a2:=q2.2 h2
   exact (Geo.mul_neg_iff a2).2 a1
  ·have a1:=p2.2 h1;have a2:=q1.2 h2
   rw[Rat.mul_comm];exact (Geo.mul_neg_iff a1).2 a2
 ·intro h
  unfold sideP
  rcases sg_cases (abv b p)with ⟨e,h1⟩|⟨e,h1⟩|⟨e,h1⟩<;>rcases sg_cases (abv b q)with ⟨e',h2⟩|⟨e',h2⟩|⟨e',h2⟩<;>rw[e,e']<;>first|decide|exfalso
  ·exact Geo.mul_np (Rat.le_of_lt (p1.2 h1)) (Rat.le_of_lt (q1.2 h2)) h
  ·have:y=0:=by
    have k1:¬ y<0:=fun hh=>by have:=q1.1 hh;omega
    have k2:¬ 0<y:=fun hh=>by have:=q2.1 hh;omega
    grind
   rw[this]at h;grind
  ·have:x=0:=by
    have k1:¬ x<0:=fun hh=>by have:=p1.1 hh;omega
    have k2:¬ 0<x:=fun hh=>by have:=p2.1 hh;omega
    grind
   rw[this]at h;grind
  ·have:x=0:=by
    have k1:¬ x<0:=fun hh=>by have:=p1.1 hh;omega
    have k2:¬ 0<x:=fun hh=>by have:=p2.1 hh;omega
    grind
   rw[this]at h;grind
  ·have:x=0:=by
    have k1:¬ x<0:=fun hh=>by have:=p1.1 hh;omega
    have k2:¬ 0<x:=fun hh=>by have:=p2.1 hh;omega
    grind
   rw[this]at h;grind
  ·have:y=0:=by
    have k1:¬ y<0:=fun hh=>by have:=q1.1 hh;omega
    have k2:¬ 0<y:=fun hh=>by have:=q2.1 hh;omega
    grind
   rw[this]at h;grind
  ·exact Geo.mul_pp (Rat.le_of_lt (p2.2 h1)) (Rat.le_of_lt (q2.2 h2)) h
theorem turn_div {x w g:Int} (hg:g≠0) (hw:w≠0) (hx:g∣x) (hd:g∣w):(turn w (x / g):Rat) / (turn w (w / g):Rat)=(x:Rat) / (w:Rat):=by
 obtain ⟨x',rfl⟩:=hx
 obtain ⟨w',rfl⟩:=hd
 rw[Int.mul_ediv_cancel_left _ hg,Int.mul_ediv_cancel_left _ hg]
 have hw':w'≠0:=fun h=>hw (by rw[h];simp)
 have a1:(g:Rat)≠0:=by exact_mod_cast hg
 have a2:(w':Rat)≠0:=by exact_mod_cast hw'
 have i1:(g:Rat)*(g:Rat)⁻¹=1:=Rat.mul_inv_cancel _ a1
 have i2:(w':Rat)*(w':Rat)⁻¹=1:=Rat.mul_inv_cancel _ a2
 have e:((g*x':Int):Rat) / ((g*w':Int):Rat)=(x':Rat) / (w':Rat):=by
  rw[Rat.intCast_mul,Rat.intCast_mul]
  grind
 rw[e]
 unfold turn
 split
 ·rw[Rat.intCast_neg,Rat.intCast_neg];grind
 ·rfl
theorem tv_nrm {x y z w:Int} (hw:w≠0):tv (nrm x y z w)=⟨(x:Rat) / (w:Rat),(y:Rat) / (w:Rat),(z:Rat) / (w:Rat)⟩:=by
 have hz:nz w=w:=if_neg hw
 have hp:=g4_pos (x:=x) (y:=y) (z:=z) hw
 have hg:(g4 x y z w:Int)≠0:=by omega
 obtain ⟨d1,d2,d3,d4⟩:=g4_dvd x y z w
 unfold nrm tv
 rw[hz]
 apply V.ext
 ·exact turn_div hg hw d1 d4
 ·exact turn_div hg hw d2 d4
 ·exact turn_div hg hw d3 d4
theorem mix {ax aw bx bw A B:Rat} (ha:aw≠0) (hb:bw≠0) (hD:aw*B - bw*A≠0):(ax*B - bx*A) / (aw*B - bw*A)=ax / aw+(A / aw) / ((A / aw) - (B / bw))*(bx / bw - ax / aw):=by
 have h1:A / aw - B / bw≠0:=by
  intro h
  apply hD
  have i1:aw*aw⁻¹=1:=Rat.mul_inv_cancel _ ha
  have i2:bw*bw⁻¹=1:=Rat.mul_inv_cancel _ hb
  rw[Rat.div_def,Rat.div_def]at h
  grind
 grind
theorem meet_tv {b:Pl} {p q:Pt} (hp:0<p.w) (hq:0<q.w) (h:sideP b p*sideP b q<0):tv (meetP b p q)=Geo.X (tH b) (tv p) (tv q):=by
 have hD:=opp_w hp hq h
 have hD':(p.w:Rat)*(abv b q:Rat) - (q.w:Rat)*(abv b p:Rat)≠0:=by
  rw[← Rat.intCast_mul,← Rat.intCast_mul,← Rat.intCast_sub]
  exact_mod_cast hD
 unfold meetP
 rw[tv_nrm hD]
 simp only[Rat.intCast_sub,Rat.intCast_mul]
 unfold Geo.X Geo.lerp
 rw[at_tv b hp,at_tv b hq]
 apply V.ext
 ·exact mix (w_ne hp) (w_ne hq) hD'
 ·exact mix (w_ne hp) (w_ne hq) hD'
 ·exact mix (w_ne hp) (w_ne hq) hD'
theorem nrm_neg {x y z w:Int} (hw:w≠0):nrm (-x) (-y) (-z) (-w)=nrm x y z w:=by
 have hz:nz w=w:=if_neg hw
 have hz':nz (-w)=-w:=if_neg (by omega)
 have hg:g4 (-x) (-y) (-z) (-w)=g4 x y z w:=by unfold g4;simp
 obtain ⟨d1,d2,d3,d4⟩:=g4_dvd x y z w
 have key:∀ a:Int,(g4 x y z w:Int)∣a→turn (-w) (-a / (g4 x y z w:Int))=turn w (a / (g4 x y z w:Int)):=by
  intro a ha
  rw[Int.neg_ediv_of_dvd ha]
  unfold turn
  split
  ·rw[if_neg (by omega)];omega
  ·rw[if_pos (by omega)]
 unfold nrm
 rw[hz,hz',hg,key x d1,key y d2,key z d3,key w d4]
theorem meet_neg {b:Pl} {p q:Pt} (hp:0<p.w) (hq:0<q.w) (h:sideP b p*sideP b q<0):meetP (negP b) p q=meetP b p q:=by
 have hD:=opp_w hp hq h
 unfold meetP
 rw[abv_neg,abv_neg]
 have e:∀ x y:Int,x * -abv b q - y * -abv b p=-(x*abv b q - y*abv b p):=fun x y=>by
  rw[Int.mul_neg,Int.mul_neg];omega
 rw[e,e,e,e,nrm_neg hD]
theorem pc_neg {b:Pl} {p q:Pt} (hp:0<p.w) (hq:0<q.w):pc 1 b p q=pc (-1) (negP b) p q:=by
 unfold pc
 rw[side_neg,side_neg]
 have e:- sideP b p * - sideP b q=sideP b p*sideP b q:=Int.neg_mul_neg _ _
 rw[e]
 congr 1
 ·by_cases h:sideP b p=-1
  ·rw[if_neg (by omega),if_neg (by omega)]
  ·rw[if_pos (by omega),if_pos (by omega)]
 ·split
  ·rename_i h;rw[meet_neg hp hq h]
  ·rfl
theorem partI_neg {b:Pl} {vs:List Pt} (h:∀ v∈vs,0<v.w):partI 1 b vs=partI (-1) (negP b) vs:=by
 unfold partI
 have key:∀ l:List (Pt × Pt),(∀ e∈l,0<e.1.w∧0<e.2.w)→(l.flatMap fun e=>pc 1 b e.1 e.2)=l.flatMap fun e=>pc (-1) (negP b) e.1 e.2:=by
  intro l
  induction l with
  | nil=>intro _;rfl
  | cons a l ih =>
   intro hl
   obtain ⟨h1,h2⟩:=hl a (by simp)
   rw[List.flatMap_cons,List.flatMap_cons,pc_neg h1 h2,ih fun e he=>hl e (by simp[he])]
 exact key _ fun e he=>⟨h _ (Geo.mem_fst he),h _ (Geo.mem_snd he)⟩
theorem someT_neg (b:Pl) (vs:List Pt) (n:Nat):someT 1 b vs n=someT (-1) (negP b) vs n:=by
 unfold someT
 congr 1
 funext v
 rw[side_neg]
 congr 1
 simp only[eq_iff_iff]
 omega
theorem pc_tv {b:Pl} {p q:Pt} (hp:0<p.w) (hq:0<q.w):(pc (-1) b p q).map tv=Geo.piece (tH b) (tv p,tv q):=by
 unfold pc Geo.piece
 rw[List.map_append]
 have hgt:=at_gt b hp
 congr 1
 ·by_cases h:sideP b p=1
  ·have:=hgt.2 (side_hi.1 h)
   rw[if_neg (by omega),if_neg (by grind)]
   rfl
  ·have:¬ 0<(tH b).at (tv p):=fun hh=>h (side_hi.2 (hgt.1 hh))
   rw[if_pos (by omega),if_pos (by grind)]
   rfl
 ·by_cases h:sideP b p*sideP b q<0
  ·rw[if_pos h,if_pos ((opp_iff hp hq).1 h)]
   simp only[List.map_cons,List.map_nil,meet_tv hp hq h]
  ·rw[if_neg h,if_neg (fun hh=>h ((opp_iff hp hq).2 hh))]
   rfl
theorem partI_tv {b:Pl} {vs:List Pt} (h:∀ v∈vs,0<v.w):(partI (-1) b vs).map tv=Geo.part (tH b) (vs.map tv):=by
 unfold partI Geo.part
 rw[Geo.edges_map]
 have key:∀ l:List (Pt × Pt),(∀ e∈l,0<e.1.w∧0<e.2.w)→(l.flatMap fun e=>pc (-1) b e.1 e.2).map tv=(l.map fun e=>(tv e.1,tv e.2)).flatMap (Geo.piece (tH b)):=by
  intro l
  induction l with
  | nil=>intro _;rfl
  | cons a l ih =>
   intro hl
   obtain ⟨h1,h2⟩:=hl a (by simp)
   rw[List.flatMap_cons,List.map_append,List.map_cons,List.flatMap_cons,pc_tv h1 h2,ih fun e he=>hl e (by simp[he])]
 exact key _ fun e he=>⟨h _ (Geo.mem_fst he),h _ (Geo.mem_snd he)⟩
theorem partI_can {h:Int} {b:Pl} {vs:List Pt} (hc:∀ v∈vs,CanP v):∀ v∈partI h b vs,CanP v:=by
 intro v hv
 unfold partI at hv
 obtain ⟨e,he,hv⟩:=List.mem_flatMap.1 hv
 unfold pc at hv
 rcases List.mem_append.1 hv with hv|hv
 ·split at hv
  ·obtain rfl:v=e.1:=by simpa using hv
   exact hc _ (Geo.mem_fst he)
  ·simp at hv
 ·split at hv
  ·obtain rfl:v=_:=by simpa using hv
   exact meet_can _ _ _
  ·simp at hv
theorem some_low {b:Pl} {vs:List Pt} (h:∀ v∈vs,0<v.w):someT (-1) b vs vs.length=Geo.lowB (tH b) (vs.map tv):=by
 unfold someT Geo.lowB
 rw[List.take_length,List.any_map]
 apply Bool.eq_iff_iff.2
 simp only[List.any_eq_true,Function.comp,decide_eq_true_eq]
 constructor
 ·rintro ⟨v,hv,e⟩;exact ⟨v,hv,(at_lt b (h v hv)).2 (side_lo.1 e)⟩
 ·rintro ⟨v,hv,e⟩;exact ⟨v,hv,side_lo.2 ((at_lt b (h v hv)).1 e)⟩
end Go.Sx
namespace Go.Sx
open Geo (H V Sd)
set_option linter.unusedVariables false
abbrev PCell:=List (Pl × List Pt)
def sd (s:Pl × List Pt):Sd:=⟨tH s.1,s.2.map tv⟩
def sds (l:PCell):List Sd:=l.map sd
def bh (b:Pl) (l:PCell):PCell:=l.filterMap fun s=>if someT (-1) b s.2 s.2.length then some (s.1,partI (-1) b s.2)else none
def bcell (b:Pl) (l:PCell):PCell:=bh b l++[(b,capP b (bh b l))]
def frontB (b:Pl) (l:PCell):Bool:=l.any fun s=>s.2.any fun v=>decide (0<sideP b v)
def behindB (b:Pl) (l:PCell):Bool:=l.any fun s=>s.2.any fun v=>decide (sideP b v<0)
def splitP (b:Pl) (l:PCell):PCell × PCell:=if frontB b l=false then (l,[])else if behindB b l=false then ([],l)else (bcell b l,bcell (negP b) l)
structure CanC (l:PCell):Prop where
 can:∀ s∈l,∀ v∈s.2,CanP v
structure CellOK (l:PCell):Prop extends CanC l where
 cell:Geo.Cell (sds l)
theorem CanC.w {l:PCell} (h:CanC l) {s:Pl × List Pt} (hs:s∈l):∀ v∈s.2,0<v.w:=fun v hv=>(h.can s hs v hv).w
theorem bh_can {b:Pl} {l:PCell} (h:CanC l):CanC (bh b l):=by
 refine ⟨fun s hs=>?_⟩
 obtain ⟨t,ht,e⟩:=List.mem_filterMap.1 hs
 split at e
 ·obtain rfl:=Option.some.inj e
  exact partI_can (h.can t ht)
 ·contradiction
theorem bh_sds {b:Pl} {l:PCell} (h:CanC l):sds (bh b l)=Geo.cutSides (tH b) (sds l):=by
 unfold sds bh Geo.cutSides
 rw[List.map_filterMap,List.filterMap_map]
 induction l with
 | nil=>rfl
 | cons s l ih =>
  have hs:=h.w (s:=s) (by simp)
  have e:Option.map sd (if someT (-1) b s.2 s.2.length=true then some (s.1,partI (-1) b s.2)else none)=((fun s=>if Geo.lowB (tH b) s.vs=true then some (⟨s.h,Geo.part (tH b) s.vs⟩:Sd)else none)∘sd) s:=by
   simp only[Function.comp,sd]
   rw[some_low hs]
   by_cases hl:Geo.lowB (tH b) (s.2.map tv)=true
   ·rw[if_pos hl]
    refine Eq.trans ?_ (if_pos hl).symm
    simp only[Option.map_some,sd,partI_tv hs]
   ·rw[if_neg hl]
    exact (if_neg hl).symm
  rw[List.filterMap_cons,List.filterMap_cons,e,ih ⟨fun t ht=>h.can t (by simp[ht])⟩]
def tv2 (e:Pt × Pt):V × V:=(tv e.1,tv e.2)
def esP (l:PCell):List (Pt × Pt):=l.flatMap fun s=>Geo.edges s.2
def onE (b:Pl) (e:Pt × Pt):Bool:=decide (sideP b e.1=0∧sideP b e.2=0)
theorem E_sds (l:PCell):Geo.E (sds l)=(esP l).map tv2:=by
 unfold Geo.E sds esP
 rw[List.flatMap_map,List.map_flatMap]
 congr 1
 funext s
 exact Geo.edges_map tv s.2
theorem foldS_es (b:Pl) (l:PCell):foldS b l=foldE b ([],P0) (esP l):=by
 unfold foldS esP
 generalize (([],P0):MS)=s
 induction l generalizing s with
 | nil=>rfl
 | cons x l ih=>simp only[List.foldl_cons,List.flatMap_cons,foldE,List.foldl_append]at ih ⊢;exact ih _
theorem fold_filter (b:Pl) (es:List (Pt × Pt)) (s:MS):foldE b s es=foldE b s (es.filter (onE b)):=by
 induction es generalizing s with
 | nil=>rfl
 | cons e es ih =>
  rw[List.filter_cons]
  by_cases h:onE b e=true
  ·rw[if_pos h];exact ih _
  ·rw[if_neg h]
   have:stepE b s e=s:=by
    unfold stepE
    rw[if_neg (fun hh=>h (by unfold onE;exact decide_eq_true hh))]
   show foldE b (stepE b s e) es=_
   rw[this];exact ih _
theorem fold_put {b : Pl} : ∀ (he : List (Pt × Pt)) (m : List (Pt × Pt)) (f : Pt), (∀ e ∈ he, onE b e = true) → (m.map (·.1) ++ he.map (·.2)).Nodup →
  (foldE b (m,f) he).1=m++he.map Geo.sw∧(he≠[]→(foldE b (m,f) he).2∈he.map (·.2)):=by
 intro he
 induction he with
 | nil=>intro m f _ _;exact ⟨by simp[foldE],fun h=>absurd rfl h⟩
 | cons e he ih =>
  intro m f hon hnd
  have h1:stepE b (m,f) e=(m++[(e.2,e.1)],e.2):=by
   have:=of_decide_eq_true (hon e (by simp))
   unfold stepE putPP
   rw[if_pos this,if_neg]
   intro hm
   rw[List.nodup_append]at hnd
   exact hnd.2.2 _ hm e.2 (by simp) rfl
  obtain ⟨k1,k2⟩:=ih (m++[(e.2,e.1)]) e.2 (fun x hx=>hon x (by simp[hx])) (by simpa using hnd)
  have h2:foldE b (m,f) (e::he)=foldE b (m++[(e.2,e.1)],e.2) he:=by
   show foldE b (stepE b (m,f) e) he=_
   rw[h1]
  rw[h2]
  refine ⟨by rw[k1];simp[Geo.sw],fun _=>?_⟩
  by_cases hne:he=[]
  ·subst hne;simp[foldE]
  ·simp only[List.map_cons,List.mem_cons];exact .inr (k2 hne)
theorem find_key {m:List (Pt × Pt)} (hn:(m.map (·.1)).Nodup) {e:Pt × Pt} (he:e∈m):nxP m e.1=e.2:=by
 unfold nxP findPP
 cases hq:m.find? fun x=>decide (x.1=e.1)with
 | none=>have:=List.find?_eq_none.1 hq e he;simp at this
 | some x =>
  have h1:=List.mem_of_find?_eq_some hq
  have h2:x.1=e.1:=by have:=List.find?_some hq;simpa using this
  have:=Geo.inj_of_nodup_map hn h1 he h2
  rw[this];rfl
theorem on_tv {b:Pl} {e:Pt × Pt} (h1:0<e.1.w) (h2:0<e.2.w):onE b e=!Geo.off (tH b) (tv2 e):=by
 unfold onE Geo.off tv2
 rw[Bool.eq_iff_iff]
 simp only[decide_eq_true_eq,Bool.not_eq_true',decide_eq_false_iff_not,Classical.not_not]
 rw[at_eq b h1,at_eq b h2,side_on,side_on]
theorem es_w {l:PCell} (h:CanC l):∀ e∈esP l,CanP e.1∧CanP e.2:=by
 intro e he
 obtain ⟨s,hs,he⟩:=List.mem_flatMap.1 he
 exact ⟨h.can s hs _ (Geo.mem_fst he),h.can s hs _ (Geo.mem_snd he)⟩
def heP (b:Pl) (l:PCell):List (Pt × Pt):=(esP (bh b l)).filter (onE b)
structure CapF (b:Pl) (l:PCell):Prop where
 ne:heP b l≠[]
 nd:((heP b l).map (·.2)).Nodup
 io:∀ e∈heP b l,e.1∈(heP b l).map (·.2)
 le:(heP b l).length≤(bh b l).length
 nx:∀ e∈heP b l,nxP ((heP b l).map Geo.sw) e.2=e.1
 run:∀ f∈(heP b l).map (·.2),Geo.Spl.Cap (tH b) (sds l) ((runP' (nxP ((heP b l).map Geo.sw)) (heP b l).length f).map tv)∧∀ v∈runP' (nxP ((heP b l).map Geo.sw)) (heP b l).length f,CanP v
 cap:(foldS b (bh b l)).1=(heP b l).map Geo.sw∧(foldS b (bh b l)).2∈(heP b l).map (·.2)
 hHE:Geo.HE (tH b) (sds l)=(heP b l).map tv2
theorem capF_of {b:Pl} {l:PCell} (h:CellOK l) (hS:Geo.Spl (sds l) (tH b)):CapF b l:=by
 have hk:=bh_can (b:=b) h.toCanC
 have hw:=es_w hk
 generalize hhe:heP b l=he
 have hHE:Geo.HE (tH b) (sds l)=he.map tv2:=by
  subst hhe
  unfold Geo.HE heP
  rw[← bh_sds h.toCanC,E_sds,List.filter_map]
  congr 1
  apply List.filter_congr
  intro e hh
  rw[on_tv (hw e hh).1.w (hw e hh).2.w]
  rfl
 have hcan:∀ e∈he,CanP e.1∧CanP e.2:=fun e hh=>hw e (List.mem_filter.1 (by subst hhe;exact hh)).1
 have hon:∀ e∈he,onE b e=true:=fun e hh=>(List.mem_filter.1 (by subst hhe;exact hh)).2
 have hcy:=hS.cyc
 have hnd0:(((Geo.HE (tH b) (sds l)).map Geo.sw).map (·.1)).Nodup:=hcy.nd
 have hnd:(he.map (·.2)).Nodup:=by
  rw[hHE]at hnd0
  have:((he.map tv2).map Geo.sw).map (·.1)=(he.map (·.2)).map tv:=by
   rw[List.map_map,List.map_map,List.map_map];rfl
  rw[this]at hnd0
  exact Geo.nodup_of_map hnd0
 have hio:∀ e∈he,e.1∈he.map (·.2):=by
  intro e hh
  have h1:=hcy.io
  rw[hHE,List.map_map,List.map_map,List.map_map,List.map_map]at h1
  have h2:tv e.1∈he.map ((fun x=>x.2)∘Geo.sw∘tv2):=List.mem_map.2 ⟨e,hh,rfl⟩
  obtain ⟨e',he',q⟩:=List.mem_map.1 (h1.mem_iff.2 h2)
  have:e'.2=e.1:=tv_inj (hcan e' he').2 (hcan e hh).1 q
  exact List.mem_map.2 ⟨e',he',this⟩
 obtain ⟨f1,f2⟩:=fold_put (b:=b) he [] P0 hon (by simpa using hnd)
 have hne:he≠[]:=fun e=>by have:=hS.HE_ne;rw[hHE,e]at this;exact this rfl
 have f3:=f2 hne
 have hfold:foldS b (bh b l)=foldE b ([],P0) he:=by rw[foldS_es,fold_filter];subst hhe;rfl
 have hkeys:((he.map Geo.sw).map (·.1)).Nodup:=by rw[List.map_map];exact hnd
 have hnx:∀ e∈he,nxP (he.map Geo.sw) e.2=e.1:=fun e hh=>find_key (e:=Geo.sw e) hkeys (List.mem_map_of_mem hh)
 let nx:V→V:=fun v=>(((he.map tv2).find? fun e=>decide (e.2=v)).map (·.1)).getD v
 have hnxV:∀ e∈he,nx (tv e.2)=tv e.1:=by
  intro e hh
  have hndV:((he.map tv2).map (·.2)).Nodup:=by
   rw[hHE]at hnd0
   rw[List.map_map]at hnd0 ⊢
   rw[List.map_map]at hnd0
   exact hnd0
  show (((he.map tv2).find? fun x=>decide (x.2=tv e.2)).map (·.1)).getD (tv e.2)=tv e.1
  cases hq:(he.map tv2).find? fun x=>decide (x.2=tv e.2)with
  | none=>have:=List.find?_eq_none.1 hq (tv2 e) (List.mem_map_of_mem hh);simp[tv2]at this
  | some x =>
   have h1:=List.mem_of_find?_eq_some hq
   have h2:x.2=(tv2 e).2:=by have:=List.find?_some hq;exact of_decide_eq_true this
   have:=Geo.inj_of_nodup_map hndV h1 (List.mem_map_of_mem hh) h2
   rw[this];rfl
 have hrun:∀ (n:Nat) (x:Pt),x∈he.map (·.2)→(runP' (nxP (he.map Geo.sw)) n x).map tv=Geo.iter nx n (tv x)∧∀ v∈runP' (nxP (he.map Geo.sw)) n x,CanP v:=by
  intro n
  induction n with
  | zero=>intro x _;exact ⟨rfl,fun v hv=>by simp[runP']at hv⟩
  | succ n ih =>
   intro x hx
   obtain ⟨e,hh,rfl⟩:=List.mem_map.1 hx
   have h1:=hnx e hh
   obtain ⟨i1,i2⟩:=ih e.1 (hio e hh)
   rw[runP',h1]
   refine ⟨?_,fun v hv=>?_⟩
   ·rw[List.map_cons,i1,Geo.iter,hnxV e hh]
   ·rcases List.mem_cons.1 hv with rfl|hv
    ·exact (hcan e hh).2
    ·exact i2 v hv
 have hle:he.length≤(bh b l).length:=by
  have:=hS.HE_le
  rw[hHE,← bh_sds h.toCanC]at this
  simpa [sds]using this
 subst hhe
 refine ⟨hne,hnd,hio,hle,hnx,fun f hf=>?_,by rw[hfold];exact ⟨by simpa using f1,f3⟩,hHE⟩
 obtain ⟨r1,r2⟩:=hrun (heP b l).length f hf
 refine ⟨?_,r2⟩
 rw[r1]
 have hlen:(heP b l).length=(Geo.HE (tH b) (sds l)).length:=by rw[hHE];simp
 rw[hlen]
 refine hS.cap_of (nx:=nx) (fun e hh=>?_) ?_
 ·rw[hHE]at hh
  obtain ⟨e0,hh0,rfl⟩:=List.mem_map.1 hh
  exact hnxV e0 hh0
 ·rw[hHE,List.map_map]
  obtain ⟨e,hh,rfl⟩:=List.mem_map.1 hf
  exact List.mem_map.2 ⟨e,hh,rfl⟩
theorem CapF.ex {b:Pl} {l:PCell} (C:CapF b l):∃ f∈(heP b l).map (·.2),capP b (bh b l)=runP' (nxP ((heP b l).map Geo.sw)) (heP b l).length f:=by
 refine ⟨_,C.cap.2,?_⟩
 unfold capP
 rw[C.cap.1,List.length_map]
theorem cap_ok3 {b:Pl} {l:PCell} (h:CellOK l) (hS:Geo.Spl (sds l) (tH b)):Geo.Spl.Cap (tH b) (sds l) ((capP b (bh b l)).map tv)∧(∀ v∈capP b (bh b l),CanP v)∧(capP b (bh b l)).length≤(bh b l).length∧(foldS b (bh b l)).1.length≤(bh b l).length:=by
 have C:=capF_of h hS
 obtain ⟨f,hf,e⟩:=C.ex
 rw[e,C.cap.1]
 exact ⟨(C.run f hf).1,(C.run f hf).2,by rw[runP'_length];exact C.le,by rw[List.length_map];exact C.le⟩
theorem cap_ok {b:Pl} {l:PCell} (h:CellOK l) (hS:Geo.Spl (sds l) (tH b)):Geo.Spl.Cap (tH b) (sds l) ((capP b (bh b l)).map tv)∧∀ v∈capP b (bh b l),CanP v:=⟨(cap_ok3 h hS).1,(cap_ok3 h hS).2.1⟩
theorem sds_b {b:Pl} {l:PCell} (h:CanC l):sds (bcell b l)=Geo.cutSides (tH b) (sds l)++[⟨tH b,(capP b (bh b l)).map tv⟩]:=by
 unfold bcell
 show (bh b l++[(b,capP b (bh b l))]).map sd=_
 rw[List.map_append]
 show sds (bh b l)++_=_
 rw[bh_sds h]
 rfl
theorem spl_of {b:Pl} {l:PCell} (h:CellOK l) (hf:frontB b l=true) (hb:behindB b l=true):Geo.Spl (sds l) (tH b):=by
 refine ⟨h.cell,?_,?_⟩
 ·unfold behindB at hb
  obtain ⟨s,hs,hb⟩:=List.any_eq_true.1 hb
  obtain ⟨v,hv,hb⟩:=List.any_eq_true.1 hb
  refine ⟨sd s,List.mem_map_of_mem hs,tv v,List.mem_map_of_mem hv,(at_lt b (h.w hs v hv)).2 ?_⟩
  have:=of_decide_eq_true hb
  unfold sideP at this
  exact sg_neg.1 this
 ·unfold frontB at hf
  obtain ⟨s,hs,hf⟩:=List.any_eq_true.1 hf
  obtain ⟨v,hv,hf⟩:=List.any_eq_true.1 hf
  refine ⟨sd s,List.mem_map_of_mem hs,tv v,List.mem_map_of_mem hv,(at_gt b (h.w hs v hv)).2 ?_⟩
  have:=of_decide_eq_true hf
  unfold sideP at this
  exact sg_pos.1 this
theorem bcell_ok {b:Pl} {l:PCell} (h:CellOK l) (hS:Geo.Spl (sds l) (tH b)):CellOK (bcell b l):=by
 obtain ⟨K,hc⟩:=cap_ok h hS
 refine ⟨⟨fun s hs=>?_⟩,?_⟩
 ·rcases List.mem_append.1 hs with hs|hs
  ·exact (bh_can h.toCanC).can s hs
  ·obtain rfl:s=_:=by simpa using hs
   exact hc
 ·rw[sds_b h.toCanC]
  exact hS.cell K
theorem front_neg (b:Pl) (l:PCell):frontB (negP b) l=behindB b l:=by
 unfold frontB behindB
 congr 1;funext s;congr 1;funext v
 rw[side_neg]
 congr 1
 simp only[eq_iff_iff];omega
theorem behind_neg (b:Pl) (l:PCell):behindB (negP b) l=frontB b l:=by
 unfold frontB behindB
 congr 1;funext s;congr 1;funext v
 rw[side_neg]
 congr 1
 simp only[eq_iff_iff];omega
theorem split_ok {b:Pl} {l:PCell} (h:CellOK l):((splitP b l).1=[]∨CellOK (splitP b l).1)∧((splitP b l).2=[]∨CellOK (splitP b l).2):=by
 unfold splitP
 by_cases hf:frontB b l=false
 ·rw[if_pos hf];exact ⟨.inr h,.inl rfl⟩
 ·rw[if_neg hf]
  by_cases hb:behindB b l=false
  ·rw[if_pos hb];exact ⟨.inl rfl,.inr h⟩
  ·rw[if_neg hb]
   have hf':frontB b l=true:=by simpa using hf
   have hb':behindB b l=true:=by simpa using hb
   refine ⟨.inr (bcell_ok h (spl_of h hf' hb')),.inr (bcell_ok h (spl_of h (by rw[front_neg];exact hb') (by rw[behind_neg];exact hf')))⟩
end Go.Sx
namespace Go.Sx
open Geo (H V Sd)
set_option linter.unusedVariables false
def crA (a:V) (e:V × V):V:=Geo.cross (e.1 - a) (e.2 - a)
def areaL (a:V) (es:List (V × V)):V:=es.foldl (fun s e=>s+crA a e) ⟨0,0,0⟩
def hd (vs:List Pt):V:=match vs with|[]=>⟨0,0,0⟩|v::_=>tv v
def areaP (vs:List Pt):V:=⟨(areaL (hd vs) (Geo.edges (vs.map tv))).x / 2,(areaL (hd vs) (Geo.edges (vs.map tv))).y / 2,(areaL (hd vs) (Geo.edges (vs.map tv))).z / 2⟩
def volS (s:Rat) (x:Pl × List Pt):Rat:=if x.2=[]then s else s+(areaP x.2).x*(hd x.2).x+(areaP x.2).y*(hd x.2).y+(areaP x.2).z*(hd x.2).z
def volP (l:PCell):Rat:=l.foldl volS 0 / 3
end Go.Sx
namespace Go.Sx
open Geo (H V Sd)
set_option linter.unusedVariables false
def ddStep (m:List Pt) (x:Pt):List Pt:=if x∈m then m else m++[x]
def ddP (l:List Pt):List Pt:=l.foldl ddStep []
theorem dd_aux (l m:List Pt) (hm:m.Nodup):(l.foldl ddStep m).Nodup∧∀ x,x∈l.foldl ddStep m↔x∈m∨x∈l:=by
 induction l generalizing m with
 | nil=>exact ⟨hm,fun x=>by simp⟩
 | cons a l ih =>
  have h1:(ddStep m a).Nodup∧∀ x,x∈ddStep m a↔x∈m∨x=a:=by
   unfold ddStep
   split
   ·rename_i h;exact ⟨hm,fun x=>⟨.inl,fun hh=>hh.elim id fun e=>e▸h⟩⟩
   ·rename_i h
    refine ⟨?_,fun x=>by simp⟩
    rw[List.nodup_append]
    exact ⟨hm,by simp,fun p hp q hq e=>by simp at hq;exact h (hq▸e▸hp)⟩
  obtain ⟨i1,i2⟩:=ih _ h1.1
  refine ⟨i1,fun x=>?_⟩
  rw[List.foldl_cons,i2,h1.2,List.mem_cons,or_assoc]
theorem dd_nodup (l:List Pt):(ddP l).Nodup:=(dd_aux l [] (by simp)).1
theorem dd_mem {l:List Pt} {x:Pt}:x∈ddP l↔x∈l:=((dd_aux l [] (by simp)).2 x).trans (by simp)
theorem dd_len (l:List Pt):(ddP l).length≤l.length:=by
 have key:∀ (l m:List Pt),(l.foldl ddStep m).length≤m.length+l.length:=by
  intro l
  induction l with
  | nil=>intro m;simp
  | cons a l ih =>
   intro m
   have:=ih (ddStep m a)
   have h2:(ddStep m a).length≤m.length+1:=by unfold ddStep;split<;>simp
   simp only[List.foldl_cons,List.length_cons];omega
 simpa [ddP]using key l []
def cornersP (l:PCell):List Pt:=l.flatMap (·.2)
def vertsP (l:PCell):List Pt:=sortP (ddP (cornersP l))
theorem verts_mem {l:PCell} {x:Pt}:x∈vertsP l↔∃ s∈l,x∈s.2:=by
 unfold vertsP cornersP
 rw[sortP_mem,dd_mem,List.mem_flatMap]
theorem nodup_len {α:Type} [DecidableEq α]:∀ {l m:List α},l.Nodup→(∀ x∈l,x∈m)→l.length≤m.length
 | [],_,_,_=>Nat.zero_le _
 | a::l,m,hn,h=>by
  have ha:a∈m:=h a (by simp)
  obtain ⟨h1,h2⟩:=List.nodup_cons.1 hn
  have:=nodup_len (m:=m.erase a) h2 fun x hx=>(List.mem_erase_of_ne (fun e=>h1 (by rw[← e];exact hx))).2 (h x (by simp[hx]))
  rw[List.length_erase_of_mem ha]at this
  have hp:=List.length_pos_of_mem ha
  simp only[List.length_cons]
  omega
def OkC (l:PCell):Prop:=l=[]∨CellOK l
structure InnP (l:PCell) (x:V):Prop where
 ne:l≠[]
 inn:Geo.Inn (sds l) x
theorem CellOK.ne {l:PCell} (h:CellOK l):l≠[]:=fun e=>by have:=h.cell.four;subst e;simp[sds]at this
theorem OkC.can {l:PCell} (h:OkC l):CanC l:=h.elim (fun e=>by subst e;exact ⟨fun s hs=>by simp at hs⟩) (·.toCanC)
end Go.Sx
namespace Go.Proofs.Vx
open Go Go.Sx Go.Proofs
attribute [local irreducible] fnT CallOK CallFr AW effV callV runP runO oneP oneO gcaseP hid
theorem yqq_Nx28:fdT Tryz.prog 33 0=some (0,1,false)∧mpT Tryz.prog 110=some (51,4)∧zvT Tryz.prog 4=some (.bool false):=by and_intros<;>kernel_rfl
attribute [go_sem] yqq_Nx28
theorem yfn_27:fnT Tryz.prog 27=true:=by kernel_rfl
theorem yfn_84:fnT Tryz.prog 84=true:=by kernel_rfl
theorem corners_sub (l:PCell) (i:Nat) (h:i<l.length) (j:Nat):(∀ p∈cornersP (l.take i)++l[i].2.take j,∃ s∈l,p∈s.2)∧(cornersP (l.take i)++l[i].2.take j).length≤(cornersP l).length:=by
 refine ⟨fun p hp=>?_,?_⟩
 ·rcases List.mem_append.1 hp with hp|hp
  ·obtain ⟨s,hs,hp⟩:=List.mem_flatMap.1 hp
   exact ⟨s,List.mem_of_mem_take hs,hp⟩
  ·exact ⟨l[i],List.getElem_mem h,List.mem_of_mem_take hp⟩
 ·have e:cornersP l=cornersP (l.take i)++(l[i].2++cornersP (l.drop (i+1))):=by
   unfold cornersP
   conv=>lhs;rw[← List.take_append_drop i l,List.drop_eq_getElem_cons h]
   rw[List.flatMap_append,List.flatMap_cons]
  rw[e]
  simp only[List.length_append,List.length_take]
  omega
theorem corners_succ (l:PCell) (i:Nat) (h:i<l.length):cornersP (l.take i)++l[i].2=cornersP (l.take (i+1)):=by
 unfold cornersP
 rw[List.take_succ_eq_append_getElem h,List.flatMap_append]
 simp
theorem dd_snoc (l:List Pt) (x:Pt):ddP (l++[x])=ddStep (ddP l) x:=by unfold ddP;rw[List.foldl_append];rfl
theorem inClo {K:Nat→Prop} (f:Nat):In K (.clo f []):=.clo f [] (by simp)
theorem eP_inC {K:Nat→Prop} (vs:List Pt):InC K (.vec 8 (vs.map eP)):=fun e he c hc=>(eP_flat vs e he c hc).inn
set_option maxHeartbeats 16000000 in
theorem c27f (l:PCell) (hn:l.length≤1048576) (hv:∀ s∈l,s.2.length≤268435456∧∀ v∈s.2,CanP v∧BPt 1073741824 v) (hm:(cornersP l).length≤268435456):CallFr Tryz.prog 27 [.agg [.sl (eS l)]] 8 (((vertsP l).map eP)):=by
 refine CallFr.flat Tryz.func27 rfl 39 rfl rfl (eP_flat _) [.tmp 2] (congrArg Array.toList Tryz.results27) ?_
 simp only[startT,Nat.reduceAdd]
 have hml:maxLen=9223372036854775807:=rfl
 have hl:(eS l).length=l.length:=List.length_map _
 have hd0:ddP []=[]:=rfl
 have hm0:mPB []=[]:=rfl
 have hc0:cornersP []=[]:=rfl
 repeat' (first|refine zg ?_|(refine AW.cond rfl ?_ ?_<;>intro hc<;>try simp only[NM]at hc)|refine zr ?_|refine ⟨by omega,?_⟩|(refine zb ?_ ?_<;>intro hg<;>(try rw[hg])<;>try simp only[NM]at hg)|omega|simp -dsimp (disch:=try exact zo) only[go_sem,hl]|contradiction|rfl)
 refine AW.loop (fun z:{i:Nat // i≤l.length}=>⟨[(13,.lit (.int .i64 z.1)),(12,.lit (.int .i64 l.length)),(4,.ref 17 0 (ddP (cornersP (l.take z.1))).length (ddP (cornersP (l.take z.1))).length),(11,.sl (eS l)),(3,.mp 10)],[(17,.vec 8 ((ddP (cornersP (l.take z.1))).map eP)),(10,.mpo (mPB (ddP (cornersP (l.take z.1)))))],60⟩) (fun z=>l.length - z.1) ⟨0,Nat.zero_le _⟩ (Weak.trans (Weak.nil 4 8 (by decide) rfl) (Weak.t4 (by refine ⟨?_,?_,?_,?_⟩<;>simp -dsimp (disch:=try exact zo) only[go_sem,List.take_zero,hc0,hd0,hm0,eS_in,eP_in,ZC]))) ?_
 rintro ⟨i,hi⟩
 dsimp only
 by_cases hlt:i<l.length
 ·have es1:=eS_getD l i hlt
  have hS1:=corners_succ l i hlt
  have hsub:=corners_sub l i hlt
  generalize hq:l[i]=sd at *
  obtain ⟨sp,svs⟩:=sd
  dsimp only at es1 hS1 hsub
  have hvn:svs.length≤268435456:=(hv _ (hq▸List.getElem_mem hlt)).1
  simp only[eG]at es1
  repeat' (first|refine zg ?_|(refine AW.cond rfl ?_ ?_<;>intro hc<;>first|simp only[NM]at hc|omega|skip)|refine zr ?_|refine ⟨by omega,?_⟩|(refine zb ?_ ?_<;>intro hg<;>(try rw[hg])<;>try simp only[NM]at hg)|omega|simp -dsimp (disch:=try exact zo) only[go_sem,hl,es1,ZT,eS_in,eP_in,zl]|contradiction|rfl)
  refine AW.loop (fun z:{j:Nat // j≤svs.length}=>⟨[(20,.lit (.int .i64 z.1)),(19,.lit (.int .i64 svs.length)),(18,.sl (svs.map eP)),(13,.lit (.int .i64 i)),(12,.lit (.int .i64 l.length)),(4,.ref 17 0 (ddP (cornersP (l.take i)++svs.take z.1)).length (ddP (cornersP (l.take i)++svs.take z.1)).length),(11,.sl (eS l)),(3,.mp 10)],[(17,.vec 8 ((ddP (cornersP (l.take i)++svs.take z.1)).map eP)),(10,.mpo (mPB (ddP (cornersP (l.take i)++svs.take z.1))))],80⟩) (fun z=>svs.length - z.1) ⟨0,Nat.zero_le _⟩ (Weak.t4 (by refine ⟨?_,?_,?_,?_⟩<;>simp -dsimp (disch:=try exact zo) only[go_sem,eS_in,eP_in,List.take_zero,List.append_nil,ZC])) ?_
  rintro ⟨j,hj⟩
  dsimp only
  by_cases hjt:j<svs.length
  ·have ea:=eP_getD svs j hjt
   have hst0:ddP (cornersP (l.take i)++svs.take (j+1))=ddStep (ddP (cornersP (l.take i)++svs.take j)) svs[j]:=by
    rw[List.take_succ_eq_append_getElem hjt,← List.append_assoc,dd_snoc]
   obtain ⟨hs1,hs2⟩:=hsub j
   have ha0:svs[j]∈svs:=List.getElem_mem hjt
   have hsl:(sp,svs)∈l:=hq▸List.getElem_mem hlt
   have ha:BPt 1073741824 svs[j]:=((hv _ hsl).2 _ ha0).2
   have hRn:=dd_nodup (cornersP (l.take i)++svs.take j)
   have hRl0:=dd_len (cornersP (l.take i)++svs.take j)
   have hRb:∀ p∈ddP (cornersP (l.take i)++svs.take j),BPt 1073741824 p:=fun p hp=>by
    obtain ⟨s,hs,hps⟩:=hs1 p (dd_mem.1 hp)
    exact ((hv s hs).2 p hps).2
   generalize ddP (cornersP (l.take i)++svs.take j)=R at *
   generalize svs[j]=a at *
   have hRl:(R.map eP).length=R.length:=List.length_map _
   have hkey:=key51 a ha
   have hko:=keysPB hRn hRb
   have hfind:=mPB_find R a
   simp only[eP,e4]at ea
   clear hsub hs1 hv
   by_cases q:a∈R
   ·have hlk:(mfind (mPB R) (pv a)).getD (.bool false)=.bool true:=by rw[hfind,if_pos q];rfl
    have hst:ddP (cornersP (l.take i)++svs.take (j+1))=R:=by rw[hst0];unfold ddStep;rw[if_pos q]
    have hput:True:=trivial
    have hRm:True:=trivial
    clear hst0 hfind
    simp only[pv]at hkey hlk
    repeat' (first|refine zg ?_|(refine AW.cond rfl ?_ ?_<;>intro hc<;>first|simp only[NM]at hc|omega|skip)|refine zr ?_|refine ⟨by omega,?_⟩|(refine zb ?_ ?_<;>intro hg<;>(try rw[hg])<;>try simp only[NM]at hg)|omega|simp -dsimp (disch:=try exact zo) only[go_sem,hl,es1,ea,hlk,kl51,hkey,hko,hput,ZT,zl,hRl,eS_in,eP_in,List.toList_toArray,hRm]|rfl)
    all_goals exact AW.stop ⟨⟨j+1,by omega⟩,(Weak.t4 (by refine ⟨?_,?_,?_,?_⟩<;>simp -dsimp (disch:=try exact zo) only[go_sem,eS_in,eP_in,hst,ZC])),by dsimp only;omega⟩
   ·have hlk:(mfind (mPB R) (pv a)).getD (.bool false)=.bool false:=by rw[hfind,if_neg q];rfl
    have hst:ddP (cornersP (l.take i)++svs.take (j+1))=R++[a]:=by rw[hst0];unfold ddStep;rw[if_neg q]
    have hput:=mPB_put R a q
    have hRm:(R++[a]).map eP=R.map eP++[eP a]:=by simp
    clear hst0 hfind
    simp only[pv]at hkey hlk hput
    repeat' (first|refine zg ?_|(refine AW.cond rfl ?_ ?_<;>intro hc<;>first|simp only[NM]at hc|omega|skip)|refine zr ?_|refine ⟨by omega,?_⟩|(refine zb ?_ ?_<;>intro hg<;>(try rw[hg])<;>try simp only[NM]at hg)|omega|simp -dsimp (disch:=try exact zo) only[go_sem,hl,es1,ea,hlk,kl51,hkey,hko,hput,ZT,zl,hRl,eS_in,eP_in,List.toList_toArray,hRm]|rfl)
    all_goals exact AW.stop ⟨⟨j+1,by omega⟩,(Weak.t4 (by refine ⟨?_,?_,?_,?_⟩<;>first|(simp -dsimp (disch:=try exact zo) only[go_sem,hst,hRm,List.length_append,ZC];done)|(simp -dsimp (disch:=try exact zo) only[go_sem,eS_in,eP_in,hst,ZC];done))),by dsimp only;omega⟩
  ·have hjl:j=svs.length:=by omega
   subst hjl
   rw[List.take_length]
   clear hv
   repeat' (first|refine zg ?_|(refine AW.cond rfl ?_ ?_<;>intro hc<;>first|simp only[NM]at hc|omega|skip)|refine zr ?_|refine ⟨by omega,?_⟩|(refine zb ?_ ?_<;>intro hg<;>(try rw[hg])<;>try simp only[NM]at hg)|omega|simp -dsimp (disch:=try exact zo) only[go_sem,hl,zl]|contradiction|rfl)
   all_goals exact AW.stop ⟨⟨i+1,by omega⟩,(Weak.t4 (by refine ⟨?_,?_,?_,?_⟩<;>simp -dsimp (disch:=try exact zo) only[go_sem,eS_in,eP_in,hS1,ZC])),by dsimp only;omega⟩
 ·have hil:i=l.length:=by omega
  subst hil
  rw[List.take_length]
  have hvR:∀ p∈ddP (cornersP l),CanP p∧BPt 1073741824 p:=fun p hp=>by
   obtain ⟨s,hs,hps⟩:=List.mem_flatMap.1 (dd_mem.1 hp)
   exact (hv s hs).2 p hps
  have hRl:=dd_len (cornersP l)
  unfold vertsP
  generalize ddP (cornersP l)=R at *
  have hSl:=sortP_len R
  clear hv
  repeat' (first|refine zg ?_|(refine AW.cond rfl ?_ ?_<;>intro hc<;>try simp only[NM]at hc)|(refine AW.ret (RetF.of ?_);simp -dsimp (disch:=try exact zo) only[go_sem,hl,zl,hSl]<;>try (exact ⟨_,rfl,rfl⟩))|(refine callV.inout1 17 _ _ _ yfn_84 (CallOK.ren (c84 R hvR (by omega)) (eP_inC _) (eP_inC _) (.tup _ (by simp)) (by simp[top0,inClo]) 17) rfl (by simp[In_ref,inClo]) (eP_inC _) (eP_inC _) (.tup _ (by simp)) rfl ?_)|refine ⟨by omega,?_⟩|(refine zb ?_ ?_<;>intro hg<;>(try rw[hg])<;>try simp only[NM]at hg)|omega|simp -dsimp (disch:=try exact zo) only[go_sem,hl,zl,hSl]|contradiction)
theorem c27 (l:PCell) (hn:l.length≤1048576) (hv:∀ s∈l,s.2.length≤268435456∧∀ v∈s.2,CanP v∧BPt 1073741824 v) (hm:(cornersP l).length≤268435456):CallOK Tryz.prog 27 [.agg [.sl (eS l)]] [] (.sl ((vertsP l).map eP)) []:=(c27f l hn hv hm).ok
end Go.Proofs.Vx
namespace Go.Sx
open Geo (H V Sd)
set_option linter.unusedVariables false
def wpt (x y z:Int):Pt:=⟨1000*x,1000*y,1000*z,1⟩
def worldP:PCell:=[
 (⟨-1,0,0,1000⟩,[wpt (-1) (-1) 1,wpt (-1) 1 1,wpt (-1) 1 (-1),wpt (-1) (-1) (-1)]),
 (⟨1,0,0,1000⟩,[wpt 1 (-1) (-1),wpt 1 1 (-1),wpt 1 1 1,wpt 1 (-1) 1]),
 (⟨0,-1,0,1000⟩,[wpt 1 (-1) (-1),wpt 1 (-1) 1,wpt (-1) (-1) 1,wpt (-1) (-1) (-1)]),
 (⟨0,1,0,1000⟩,[wpt (-1) 1 (-1),wpt (-1) 1 1,wpt 1 1 1,wpt 1 1 (-1)]),
 (⟨0,0,-1,1000⟩,[wpt (-1) 1 (-1),wpt 1 1 (-1),wpt 1 (-1) (-1),wpt (-1) (-1) (-1)]),
 (⟨0,0,1,1000⟩,[wpt (-1) (-1) 1,wpt 1 (-1) 1,wpt 1 1 1,wpt (-1) 1 1])]
def canB (p:Pt):Bool:=decide (0<p.w)&&decide (g4 p.x p.y p.z p.w=1)
theorem canB_ok {p:Pt} (h:canB p=true):CanP p:=by
 simp only[canB,Bool.and_eq_true,decide_eq_true_eq]at h
 exact ⟨h.1,h.2⟩
def pvB (s:Sd):Bool:=decide (3≤s.vs.length)&&decide s.vs.Nodup&&(Geo.edges s.vs).all fun e=>s.vs.all fun x=>decide (x=e.1)||decide (x=e.2)||decide (0<Geo.ori s.h.n e.1 e.2 x)
theorem pvB_ok {s:Sd} (h:pvB s=true):Geo.PV s.h.n s.vs:=by
 simp only[pvB,Bool.and_eq_true,decide_eq_true_eq,List.all_eq_true,Bool.or_eq_true]at h
 exact ⟨h.1.1,h.1.2,fun e he x hx h1 h2=>(h.2 e he x hx).elim (fun h=>h.elim (fun h=>absurd h h1) fun h=>absurd h h2) id⟩
def apB (xs:List V) (h g:H):Bool:=xs.any fun x=>decide (h.at x=0)&&decide (g.at x≠0)
theorem apB_ok {xs:List V} {h g:H} (k:apB xs h g=true):¬ Geo.Prp h g:=by
 simp only[apB,List.any_eq_true,Bool.and_eq_true,decide_eq_true_eq]at k
 obtain ⟨x,_,h1,h2⟩:=k
 rintro ⟨c,hc,e⟩
 have:=e x
 grind
def cellB (c:List Sd):Bool:=c.all pvB&&(c.all fun s=>s.vs.all fun v=>decide (s.h.at v=0))&&(c.all fun s=>c.all fun t=>t.vs.all fun v=>decide (s.h.at v≤0)) &&
 (Geo.E c).isPerm ((Geo.E c).map Geo.sw)&&decide (Geo.E c).Nodup&&decide (4≤c.length)&&decide (c.Pairwise fun s t=>apB (c.flatMap (·.vs)) s.h t.h=true)
theorem cellB_ok {c:List Sd} (h:cellB c=true):Geo.Cell c:=by
 simp only[cellB,Bool.and_eq_true,decide_eq_true_eq,List.all_eq_true,List.isPerm_iff]at h
 obtain ⟨⟨⟨⟨⟨⟨h1,h2⟩,h3⟩,h4⟩,h5⟩,h6⟩,h7⟩:=h
 exact ⟨fun s hs=>pvB_ok (h1 s hs),h2,h3,h4,h5,h6,h7.imp fun h=>apB_ok h⟩
theorem world_cell:CellOK worldP:=by
 refine ⟨⟨fun s hs v hv=>?_⟩,cellB_ok (by decide +kernel)⟩
 have:(worldP.all fun s=>s.2.all canB)=true:=by decide +kernel
 exact canB_ok (List.all_eq_true.1 (List.all_eq_true.1 this s hs) v hv)
end Go.Sx
namespace Go.Sx
open Geo (H V Sd)
set_option linter.unusedVariables false
def outB (l:PCell) (x:Pt):Bool:=l.any fun s=>decide (0<sideP s.1 x)
def onB (l:PCell) (x:Pt):Bool:=l.any fun s=>decide (sideP s.1 x=0)
def clsP (l:PCell) (x:Pt):Int:=if l=[]∨outB l x=true then -1 else if onB l x=true then 0 else 1
theorem tv_mkP (a b c:Rat):tv (mkP a b c)=⟨a,b,c⟩:=by
 have ha:(a.den:Int)≠0:=by have:=a.den_nz;omega
 have hb:(b.den:Int)≠0:=by have:=b.den_nz;omega
 have hc:(c.den:Int)≠0:=by have:=c.den_nz;omega
 have hD:1*(a.den:Int)*(b.den:Int)*(c.den:Int)≠0:=Int.mul_ne_zero (Int.mul_ne_zero (by simpa using ha) hb) hc
 have key:∀ (q:Rat) (k:Int),k≠0→((q.num*k:Int):Rat) / (((q.den:Int)*k:Int):Rat)=q:=by
  intro q k hk
  have h:=Rat.divInt_mul_right (n:=q.num) (d:=(q.den:Int)) hk
  rw[← Rat.divInt_eq_div,h,Rat.num_divInt_den]
 unfold mkP
 rw[tv_nrm hD]
 have e1:1*(a.den:Int)*(b.den:Int)*(c.den:Int) / (a.den:Int)=(b.den:Int)*(c.den:Int):=by
  rw[Int.one_mul,Int.mul_assoc];exact Int.mul_ediv_cancel_left _ ha
 have e2:1*(a.den:Int)*(b.den:Int)*(c.den:Int) / (b.den:Int)=(a.den:Int)*(c.den:Int):=by
  rw[Int.one_mul,Int.mul_comm (a.den:Int),Int.mul_assoc];exact Int.mul_ediv_cancel_left _ hb
 have e3:1*(a.den:Int)*(b.den:Int)*(c.den:Int) / (c.den:Int)=(a.den:Int)*(b.den:Int):=by
  rw[Int.one_mul];exact Int.mul_ediv_cancel _ hc
 rw[e1,e2,e3]
 apply V.ext
 ·rw[show 1*(a.den:Int)*(b.den:Int)*(c.den:Int)=(a.den:Int)*((b.den:Int)*(c.den:Int)) by rw[Int.one_mul,Int.mul_assoc]]
  exact key a _ (Int.mul_ne_zero hb hc)
 ·rw[show 1*(a.den:Int)*(b.den:Int)*(c.den:Int)=(b.den:Int)*((a.den:Int)*(c.den:Int)) by rw[Int.one_mul,Int.mul_comm (a.den:Int),Int.mul_assoc]]
  exact key b _ (Int.mul_ne_zero ha hc)
 ·rw[show 1*(a.den:Int)*(b.den:Int)*(c.den:Int)=(c.den:Int)*((a.den:Int)*(b.den:Int)) by rw[Int.one_mul,Int.mul_comm (c.den:Int)]]
  exact key c _ (Int.mul_ne_zero ha hb)
theorem mkP_can (a b c:Rat):CanP (mkP a b c):=nrm_isCan _ _ _ _
theorem cls_vert {l:PCell} (h:CellOK l) {x:Pt} (hx:x∈vertsP l):clsP l x=0:=by
 obtain ⟨s,hs,hxs⟩:=verts_mem.1 hx
 have hw:=h.w hs x hxs
 have zs:sideP s.1 x=0:=side_on.2 ((at_eq s.1 hw).1 (h.cell.pl (sd s) (List.mem_map_of_mem hs) (tv x) (List.mem_map_of_mem hxs)))
 unfold clsP
 have hon:onB l x=true:=List.any_eq_true.2 ⟨s,hs,decide_eq_true zs⟩
 rw[if_neg,if_pos hon]
 rintro (e|e)
 ·exact h.ne e
 ·obtain ⟨t,ht,e⟩:=List.any_eq_true.1 e
  have h1:=side_hi (b:=t.1) (p:=x)
  have h2:=of_decide_eq_true e
  have h3:0<abv t.1 x:=sg_pos.1 h2
  have h4:=(at_gt t.1 hw).2 h3
  have:=h.cell.le (sd t) (List.mem_map_of_mem ht) (sd s) (List.mem_map_of_mem hs) (tv x) (List.mem_map_of_mem hxs)
  simp only[sd]at this
  grind
end Go.Sx
