import Derived.Test.YtjlfgmhmalbiiaaGreatDoorProg
import Derived.Test.YtjlfgmhmalbiiaaGreatDoorU10
import Derived.Test.YtjlfgmhmalbiiaaGreatDoorU26
import Derived.Test.YtjlfgmhmalbiiaaGreatDoorU31
import Derived.Test.YtjlfgmhmalbiiaaGreatDoorU33
set_option linter.all false
namespace Go.Sx
open Geo (H V Sd)
set_option linter.unusedVariables false
theorem mid_not {h g : H} {vs : List V} (pv : Geo.PV h.n vs) (pl : ∀ v ∈ vs, h.at v = 0) (hN : 0 < Geo.dot (Geo.cross h.n g.n) (Geo.cross h.n g.n)) {x y z : V} (hx : x ∈ vs) (hy : y ∈ vs) (hz : z ∈ vs)
  (gx:g.at x=0) (gy:g.at y=0) (gz:g.at z=0) (h1:Geo.dot y (Geo.cross h.n g.n)<Geo.dot x (Geo.cross h.n g.n)) (h2:Geo.dot x (Geo.cross h.n g.n)<Geo.dot z (Geo.cross h.n g.n)):False:=by
 obtain ⟨t,t0,t1,e⟩:=Geo.between hN (pl y hy) (pl z hz) gy gz (pl x hx) gx h1 h2
 have:=(pv.extreme pl hx t0 t1 e (pl y hy) (pl z hz) (fun e he=>pv.weak he hy) (fun e he=>pv.weak he hz)).1
 rw[this]at h1
 grind
theorem three_not {h g : H} {vs : List V} (pv : Geo.PV h.n vs) (pl : ∀ v ∈ vs, h.at v = 0) (hN : 0 < Geo.dot (Geo.cross h.n g.n) (Geo.cross h.n g.n)) {x y z : V} (hx : x ∈ vs) (hy : y ∈ vs) (hz : z ∈ vs)
  (gx:g.at x=0) (gy:g.at y=0) (gz:g.at z=0) (n1:x≠y) (n2:x≠z) (n3:y≠z):False:=by
 have k:∀ {p q:V},p∈vs→q∈vs→g.at p=0→g.at q=0→p≠q→Geo.dot p (Geo.cross h.n g.n)<Geo.dot q (Geo.cross h.n g.n)∨Geo.dot q (Geo.cross h.n g.n)<Geo.dot p (Geo.cross h.n g.n):=by
  intro p q hp hq gp gq n
  by_cases e:Geo.dot p (Geo.cross h.n g.n)=Geo.dot q (Geo.cross h.n g.n)
  ·exact absurd (Geo.phi_inj hN (pl p hp) (pl q hq) gp gq e) n
  ·generalize Geo.dot p (Geo.cross h.n g.n)=a at *
   generalize Geo.dot q (Geo.cross h.n g.n)=b at *
   grind
 rcases k hx hy gx gy n1 with a|a<;>rcases k hx hz gx gz n2 with b|b<;>rcases k hy hz gy gz n3 with c|c
 ·exact mid_not pv pl hN hy hx hz gy gx gz a c
 ·exact mid_not pv pl hN hz hx hy gz gx gy b c
 ·exfalso;grind
 ·exact mid_not pv pl hN hx hz hy gx gz gy b a
 ·exact mid_not pv pl hN hx hy hz gx gy gz a b
 ·exfalso;grind
 ·exact mid_not pv pl hN hz hy hx gz gy gx c b
 ·exact mid_not pv pl hN hy hz hx gy gz gx c a
theorem pc_high {b:Pl} {es:List (Pt × Pt)} (h:∀ e∈es,0≤sideP b e.1∧0≤sideP b e.2):(es.flatMap fun e=>pc (-1) b e.1 e.2)=(es.map (·.1)).filter fun v=>decide (sideP b v≠1):=by
 induction es with
 | nil=>rfl
 | cons e es ih =>
  have he:=h e (by simp)
  rw[List.flatMap_cons,ih fun x hx=>h x (by simp[hx]),List.map_cons,List.filter_cons]
  have h2:¬ sideP b e.1*sideP b e.2<0:=by have:=Int.mul_nonneg he.1 he.2;omega
  unfold pc
  rw[if_neg h2,List.append_nil]
  by_cases q:sideP b e.1=1
  ·simp[q]
  ·simp[q]
theorem len3 {b:Pl} {l:PCell} (h:CellOK l) (hS:Geo.Spl (sds l) (tH b)) {s:Pl × List Pt} (hs:s∈l):someT (-1) b s.2 s.2.length=decide (3≤(partI (-1) b s.2).length):=by
 have hw:=h.w hs
 have hm:sd s∈sds l:=List.mem_map_of_mem hs
 have pv:=h.cell.pv _ hm
 have pl:=h.cell.pl _ hm
 rw[some_low hw]
 by_cases q:Geo.lowB (tH b) (s.2.map tv)=true
 ·rw[q]
  have:=(Geo.part_ok (g:=tH b) pv pl (Geo.lowB_iff.1 q)).pv.len
  have e:(partI (-1) b s.2).length=(Geo.part (tH b) (s.2.map tv)).length:=by rw[← partI_tv hw,List.length_map]
  exact (decide_eq_true (by rw[e];exact this)).symm
 ·have hlo:∀ v∈s.2,0≤sideP b v:=fun v hv=>by
   apply Classical.byContradiction
   intro hn
   exact q (Geo.lowB_iff.2 ⟨tv v,List.mem_map_of_mem hv,(at_lt b (hw v hv)).2 (by unfold sideP at hn;exact sg_neg.1 (by omega))⟩)
  rw[Bool.not_eq_true]at q
  rw[q]
  symm
  apply decide_eq_false
  intro hlen
  have e:partI (-1) b s.2=s.2.filter fun v=>decide (sideP b v≠1):=by
   unfold partI
   rw[pc_high (fun e he=>⟨hlo _ (Geo.mem_fst he),hlo _ (Geo.mem_snd he)⟩),Geo.edges_fst]
  rw[e]at hlen
  have hnd:(s.2.filter fun v=>decide (sideP b v≠1)).Nodup:=(Geo.nodup_of_map pv.nd).filter _
  have hin:∀ v∈s.2.filter fun v=>decide (sideP b v≠1),v∈s.2∧(tH b).at (tv v)=0:=fun v hv=>by
   obtain ⟨h1,h2⟩:=List.mem_filter.1 hv
   have h3:=hlo v h1
   have h4:=of_decide_eq_true h2
   refine ⟨h1,(at_eq b (hw v h1)).2 (side_on.1 ?_)⟩
   have:=sg_range (abv b v)
   unfold sideP at *
   omega
  generalize s.2.filter (fun v=>decide (sideP b v≠1))=F at *
  obtain ⟨w,hwm,gw⟩:∃ w∈(sd s).vs,0<(tH b).at w:=by
   rcases hS.not_on hm with k|k
   ·have k':Geo.lowB (tH b) (s.2.map tv)=true:=k
    rw[q]at k';exact absurd k' (by decide)
   ·obtain ⟨w,hw1,hw2⟩:=Geo.lowB_iff.1 k
    exact ⟨w,hw1,by rw[Geo.neg_at]at hw2;grind⟩
  match F,hlen,hnd,hin with
  | x::y::z::F,_,hnd,hin =>
   have hx:=hin x (by simp)
   have hy:=hin y (by simp)
   have hz:=hin z (by simp)
   simp only[List.nodup_cons,List.mem_cons,not_or]at hnd
   have ne:∀ {p q:Pt},p∈s.2→q∈s.2→p≠q→tv p≠tv q:=fun hp hq n e=>n (tv_inj (h.can s hs _ hp) (h.can s hs _ hq) e)
   have mm:∀ {p:Pt},p∈s.2→tv p∈(sd s).vs:=fun hp=>List.mem_map_of_mem hp
   have hN:=Geo.cross_pos (h:=(sd s).h) (g:=tH b) (a:=tv x) (w:=w) pv.n_ne (by rw[pl _ (mm hx.1),pl _ hwm]) (by rw[hx.2];grind)
   exact three_not pv pl hN (mm hx.1) (mm hy.1) (mm hz.1) hx.2 hy.2 hz.2 (ne hx.1 hy.1 hnd.1.1) (ne hx.1 hz.1 hnd.1.2.1) (ne hy.1 hz.1 hnd.2.1.1)
def bhR (b:Pl) (l:PCell):PCell:=l.filterMap fun s=>if 3≤(partI (-1) b s.2).length then some (s.1,partI (-1) b s.2)else none
theorem bhR_eq {b:Pl} {l:PCell} (h:CellOK l) (hS:Geo.Spl (sds l) (tH b)):bhR b l=bh b l:=by
 unfold bhR bh
 have key:∀ m:PCell,(∀ s∈m,s∈l)→(m.filterMap fun s=>if 3≤(partI (-1) b s.2).length then some (s.1,partI (-1) b s.2)else none)=m.filterMap fun s=>if someT (-1) b s.2 s.2.length then some (s.1,partI (-1) b s.2)else none:=by
  intro m
  induction m with
  | nil=>intro _;rfl
  | cons s m ih =>
   intro hm
   have e:=len3 h hS (hm s (by simp))
   rw[List.filterMap_cons,List.filterMap_cons,ih fun t ht=>hm t (by simp[ht]),e]
   simp only[decide_eq_true_eq]
 exact key l fun s hs=>hs
theorem RC.cls {l m:PCell} (h:RC l m) (x:Pt):clsP l x=clsP m x:=by
 have h1:outB l x=outB m x:=h.any _ fun s t k=>by rw[k.1]
 have h2:onB l x=onB m x:=h.any _ fun s t k=>by rw[k.1]
 unfold clsP
 rw[h1,h2]
 have:=h.nil_iff
 simp only[this]
end Go.Sx
namespace Go.Proofs.Vx
open Go Go.Sx Go.Proofs
attribute [local irreducible] fnT CallOK CallFr AW effV callV runP runO oneP oneO gcaseP hid
theorem yfn_30:fnT Tryz.prog 30=true:=by kernel_rfl
theorem yfn_91:fnT Tryz.prog 91=true:=by kernel_rfl
theorem yfn_92:fnT Tryz.prog 92=true:=by kernel_rfl
theorem yfn_93:fnT Tryz.prog 93=true:=by kernel_rfl
theorem yfn_158:fnT Tryz.prog 158=true:=by kernel_rfl
theorem yfn_159:fnT Tryz.prog 159=true:=by kernel_rfl
set_option maxHeartbeats 1600000 in
theorem c158 (p:Pl) (vs:List Pt) (x:Pt) (hp:BPl 1073741824 p) (hx:BPt 1073741824 x):CallOK Tryz.prog 158 [.agg (eG p vs),.fp (eP x)] [] (.lit (.bool (decide (0<sideP p x)))) []:=by
 refine CallOK.flat Tryz.func158 rfl 9 rfl rfl rfl [.tmp 3] (congrArg Array.toList Tryz.results158) ?_
 simp only[startT,Nat.reduceAdd]
 simp only[eG]
 repeat' (first|refine zg ?_|(refine AW.cond rfl ?_ ?_<;>intro hc<;>first|simp only[NM]at hc|omega|skip)|refine zr ?_|(refine callV.flat _ yfn_34 (c34 p x hp hx) rfl rfl ?_)|refine ⟨by omega,?_⟩|(refine zb ?_ ?_<;>intro hg<;>(try rw[hg])<;>try simp only[NM]at hg)|omega|simp -dsimp (disch:=try exact zo) only[go_sem,eH,e4]|contradiction|rfl)
set_option maxHeartbeats 1600000 in
theorem c93 (p:Pl) (vs:List Pt) (x:Pt) (hp:BPl 1073741824 p) (hx:BPt 1073741824 x):CallOK Tryz.prog 93 [.agg (eG p vs),.fp (eP x)] [] (.lit (.bool (decide (sideP p x=0)))) []:=by
 refine CallOK.flat Tryz.func93 rfl 9 rfl rfl rfl [.tmp 3] (congrArg Array.toList Tryz.results93) ?_
 simp only[startT,Nat.reduceAdd]
 simp only[eG]
 repeat' (first|refine zg ?_|(refine AW.cond rfl ?_ ?_<;>intro hc<;>first|simp only[NM]at hc|omega|skip)|refine zr ?_|(refine callV.flat _ yfn_34 (c34 p x hp hx) rfl rfl ?_)|refine ⟨by omega,?_⟩|(refine zb ?_ ?_<;>intro hg<;>(try rw[hg])<;>try simp only[NM]at hg)|omega|simp -dsimp (disch:=try exact zo) only[go_sem,eH,e4]|contradiction|rfl)
theorem eP_in1 {K:Nat→Prop} (x:Pt):(∀ c∈eP x,In K c)=True:=eq_true fun c hc=>(eP_flat [x] (eP x) (by simp) c hc).inn
def idxP (t:Pl × List Pt→Bool) (l:PCell):Int:=if l.any t then (l.findIdx t:Int)else -1
theorem idxP_at {t:Pl × List Pt→Bool} {l:PCell} {i:Nat} (h:i<l.length) (hb:∀ j (hj:j<i),t (l[j]'(by omega))=false) (hi:t l[i]=true):idxP t l=i:=by
 unfold idxP
 rw[if_pos (List.any_eq_true.2 ⟨l[i],List.getElem_mem h,hi⟩)]
 have:l.findIdx t=i:=(List.findIdx_eq h).2 ⟨hi,fun j hj=>hb j hj⟩
 rw[this]
theorem idxP_no {t:Pl × List Pt→Bool} {l:PCell} (hb:∀ j (hj:j<l.length),t l[j]=false):idxP t l=-1:=by
 unfold idxP
 rw[if_neg]
 rw[Bool.not_eq_true,List.any_eq_false]
 intro s hs
 obtain ⟨j,hj,rfl⟩:=List.mem_iff_getElem.1 hs
 rw[hb j hj];decide
theorem idxP_nonneg (t:Pl × List Pt→Bool) (l:PCell):(decide (0≤idxP t l))=l.any t:=by
 unfold idxP
 by_cases h:l.any t=true
 ·rw[if_pos h,h];simp
 ·rw[if_neg h];simp only[Bool.not_eq_true]at h;rw[h];decide
set_option maxHeartbeats 1600000 in
theorem c159 (l:PCell) (k:Nat) (x:Pt) (t:Pl × List Pt→Bool) (hn:l.length≤1048576) (hk:fnT Tryz.prog k=true) (ck:∀ s∈l,CallOK Tryz.prog k [.agg (eG s.1 s.2),.fp (eP x)] [] (.lit (.bool (t s))) []):CallOK Tryz.prog 159 [.sl (eS l),.clo k [.fp (eP x)]] [] (.lit (.int .i64 (idxP t l))) []:=by
 refine CallOK.flat Tryz.func159 rfl 19 rfl rfl rfl [.tmp 4] (congrArg Array.toList Tryz.results159) ?_
 simp only[startT,Nat.reduceAdd]
 have hml:maxLen=9223372036854775807:=rfl
 have hl:(eS l).length=l.length:=List.length_map _
 repeat' (first|refine zg ?_|(refine AW.cond rfl ?_ ?_<;>intro hc<;>try simp only[NM]at hc)|refine zr ?_|refine ⟨by omega,?_⟩|(refine zb ?_ ?_<;>intro hg<;>(try rw[hg])<;>try simp only[NM]at hg)|omega|simp -dsimp (disch:=try exact zo) only[go_sem,hl]|contradiction|rfl)
 refine AW.loop (fun z:{i:Nat // i≤l.length∧∀ j (hj:j<i) (h:j<l.length),t l[j]=false}=>⟨[(8,.lit (.int .i64 z.1)),(7,.lit (.int .i64 l.length)),(0,.sl (eS l)),(1,.clo k [.fp (eP x)])],[],60⟩) (fun z=>l.length - z.1) ⟨0,Nat.zero_le _,fun j hj=>by omega⟩ (Weak.t4 (by refine ⟨?_,?_,?_,?_⟩<;>simp -dsimp (disch:=try exact zo) only[go_sem,eS_in,eP_in1,ZC])) ?_
 rintro ⟨i,hi,hb⟩
 dsimp only
 by_cases hlt:i<l.length
 ·have es1:=eS_getD l i hlt
  have cq:=ck l[i] (List.getElem_mem hlt)
  by_cases q:t l[i]=true
  ·rw[idxP_at hlt (fun j hj=>hb j hj (by omega)) q]
   rw[q]at cq
   clear hb ck
   generalize l[i]=s at *
   obtain ⟨sp,svs⟩:=s
   simp only[eG]at es1 cq
   repeat' (first|refine zg ?_|(refine AW.cond rfl ?_ ?_<;>intro hc<;>first|simp only[NM]at hc|omega|skip)|refine zr ?_|(refine callV.plain _ hk cq (by simp -dsimp (disch:=try exact zo) only[go_sem,eP_in,eP_in1]) (.lit _) ?_)|refine ⟨by omega,?_⟩|(refine zb ?_ ?_<;>intro hg<;>(try rw[hg])<;>try simp only[NM]at hg)|omega|simp -dsimp (disch:=try exact zo) only[go_sem,hl,es1,ZT,eS_in]|contradiction|rfl)
  ·have hb':∀ j (hj:j<i+1) (h:j<l.length),t l[j]=false:=fun j hj h=>by
    by_cases e:j=i
    ·subst e;simpa using q
    ·exact hb j (by omega) h
   simp only[Bool.not_eq_true]at q
   rw[q]at cq
   clear hb ck q
   generalize l[i]=s at *
   obtain ⟨sp,svs⟩:=s
   simp only[eG]at es1 cq
   generalize hQ:idxP t l=Q
   replace hb':=Hid.mk hb'
   repeat' (first|refine zg ?_|(refine AW.cond rfl ?_ ?_<;>intro hc<;>first|simp only[NM]at hc|omega|skip)|refine zr ?_|(refine callV.plain _ hk cq (by simp -dsimp (disch:=try exact zo) only[go_sem,eP_in,eP_in1]) (.lit _) ?_)|refine ⟨by omega,?_⟩|(refine zb ?_ ?_<;>intro hg<;>(try rw[hg])<;>try simp only[NM]at hg)|omega|simp -dsimp (disch:=try exact zo) only[go_sem,hl,es1,ZT,eS_in]|contradiction|rfl)
   all_goals exact AW.stop ⟨⟨i+1,by omega,hb'.out⟩,(Weak.t4 (by refine ⟨?_,?_,?_,?_⟩<;>simp -dsimp (disch:=try exact zo) only[go_sem,eS_in,eP_in1,ZC])),by dsimp only;omega⟩
 ·have hil:i=l.length:=by omega
  rw[idxP_no (fun j hj=>hb j (by omega) hj)]
  clear hb ck
  subst hil
  repeat' (first|refine zg ?_|(refine AW.cond rfl ?_ ?_<;>intro hc<;>first|simp only[NM]at hc|omega|skip)|refine zr ?_|refine ⟨by omega,?_⟩|(refine zb ?_ ?_<;>intro hg<;>(try rw[hg])<;>try simp only[NM]at hg)|omega|simp -dsimp (disch:=try exact zo) only[go_sem,hl]|contradiction|rfl)
set_option maxHeartbeats 1600000 in
theorem c92 (l:PCell) (k:Nat) (x:Pt) (t:Pl × List Pt→Bool) (hn:l.length≤1048576) (hk:fnT Tryz.prog k=true) (ck:∀ s∈l,CallOK Tryz.prog k [.agg (eG s.1 s.2),.fp (eP x)] [] (.lit (.bool (t s))) []):CallOK Tryz.prog 92 [.sl (eS l),.clo k [.fp (eP x)]] [] (.lit (.bool (l.any t))) []:=by
 refine CallOK.flat Tryz.func92 rfl 9 rfl rfl rfl [.tmp 4] (congrArg Array.toList Tryz.results92) ?_
 simp only[startT,Nat.reduceAdd]
 have cq:=c159 l k x t hn hk ck
 rw[← idxP_nonneg]
 have hr:idxP t l<2147483648∧-2<idxP t l:=by
  unfold idxP
  split
  ·have:=List.findIdx_le_length (xs:=l) (p:=t)
   omega
  ·omega
 generalize idxP t l=r at *
 clear ck
 repeat' (first|refine zg ?_|(refine AW.cond rfl ?_ ?_<;>intro hc<;>first|simp only[NM]at hc|omega|skip)|refine zr ?_|(refine callV.plain _ yfn_159 cq (by simp -dsimp (disch:=try exact zo) only[go_sem,eS_in,eP_in1]) (.lit _) ?_)|refine ⟨by omega,?_⟩|(refine zb ?_ ?_<;>intro hg<;>(try rw[hg])<;>try simp only[NM]at hg)|omega|simp -dsimp (disch:=try exact zo) only[go_sem]|contradiction|rfl)
def outP (l:PCell) (x:Pt):Bool:=l.any fun s=>decide (0<sideP s.1 x)
def onP (l:PCell) (x:Pt):Bool:=l.any fun s=>decide (sideP s.1 x=0)
def classP (l:PCell) (x:Pt):Int:=if l=[]then -1 else if outP l x then -1 else if onP l x then 0 else 1
set_option maxHeartbeats 1600000 in
theorem c91 (l:PCell) (x:Pt) (hn:l.length≤1048576) (hp:∀ s∈l,BPl 1073741824 s.1) (hx:BPt 1073741824 x):CallOK Tryz.prog 91 [.agg [.sl (eS l)],.agg (eP x)] [] (.lit (.bool (outP l x))) []:=by
 refine CallOK.flat Tryz.func91 rfl 9 rfl rfl rfl [.tmp 4] (congrArg Array.toList Tryz.results91) ?_
 simp only[startT,Nat.reduceAdd]
 have cq:=c92 l 158 x (fun s=>decide (0<sideP s.1 x)) hn yfn_158 fun s hs=>c158 s.1 s.2 x (hp s hs) hx
 unfold outP
 generalize (l.any fun s=>decide (0<sideP s.1 x))=r at *
 clear hp
 simp only[eP,e4]at cq
 simp only[eP,e4]
 repeat' (first|refine zg ?_|(refine AW.cond rfl ?_ ?_<;>intro hc<;>first|simp only[NM]at hc|omega|skip)|refine zr ?_|(refine callV.lend _ yfn_92 (by simp -dsimp (disch:=try exact zo) only[go_sem];exact cq) (by simp -dsimp (disch:=try exact zo) only[go_sem,eS_in]) (.lit _) ?_)|refine ⟨by omega,?_⟩|(refine zb ?_ ?_<;>intro hg<;>(try rw[hg])<;>try simp only[NM]at hg)|omega|simp -dsimp (disch:=try exact zo) only[go_sem]|contradiction|rfl)
set_option maxHeartbeats 1600000 in
theorem c30 (l:PCell) (x:Pt) (hn:l.length≤1048576) (hp:∀ s∈l,BPl 1073741824 s.1) (hx:BPt 1073741824 x):CallOK Tryz.prog 30 [.agg [.sl (eS l)],.agg (eP x)] [] (.lit (.int .i64 (classP l x))) []:=by
 refine CallOK.flat Tryz.func30 rfl 18 rfl rfl rfl [.tmp 4] (congrArg Array.toList Tryz.results30) ?_
 simp only[startT,Nat.reduceAdd]
 have co:=c91 l x hn hp hx
 have cq:=c92 l 93 x (fun s=>decide (sideP s.1 x=0)) hn yfn_93 fun s hs=>c93 s.1 s.2 x (hp s hs) hx
 have hl:(eS l).length=l.length:=List.length_map _
 have hl0:(l=[])=((l.length:Int)=0):=by
  cases l with
  | nil=>simp
  | cons a l=>simp;omega
 unfold classP
 simp only[hl0]
 change CallOK _ _ _ _ (.lit (.bool (onP l x))) _ at cq
 generalize outP l x=o at *
 generalize onP l x=r at *
 clear hp hl0
 simp only[eP,e4]at cq co
 simp only[eP,e4]
 by_cases h0:(l.length:Int)=0
 ·simp only[h0,if_true]
  have hd:True:=trivial
  repeat' (first|refine zg ?_|(refine AW.cond rfl ?_ ?_<;>intro hc<;>first|simp only[NM]at hc|omega|skip)|refine zr ?_|(refine callV.lend _ yfn_92 (by simp -dsimp (disch:=try exact zo) only[go_sem];exact cq) (by simp -dsimp (disch:=try exact zo) only[go_sem,eS_in]) (.lit _) ?_)|(refine callV.plain _ yfn_91 co (by simp -dsimp (disch:=try exact zo) only[go_sem,eS_in]) (.lit _) ?_)|refine ⟨by omega,?_⟩|(refine zb ?_ ?_<;>intro hg<;>(try rw[hg])<;>try simp only[NM]at hg)|omega|simp -dsimp (disch:=try exact zo) only[go_sem,hl,h0]|contradiction|rfl)
 ·simp only[h0,if_false]
  have hd:decide ((l.length:Int)=0)=false:=decide_eq_false h0
  cases o
  ·cases r
   ·simp only[Bool.false_eq_true,if_false]
    repeat' (first|refine zg ?_|(refine AW.cond rfl ?_ ?_<;>intro hc<;>first|simp only[NM]at hc|omega|skip)|refine zr ?_|(refine callV.lend _ yfn_92 (by simp -dsimp (disch:=try exact zo) only[go_sem];exact cq) (by simp -dsimp (disch:=try exact zo) only[go_sem,eS_in]) (.lit _) ?_)|(refine callV.plain _ yfn_91 co (by simp -dsimp (disch:=try exact zo) only[go_sem,eS_in]) (.lit _) ?_)|refine ⟨by omega,?_⟩|(refine zb ?_ ?_<;>intro hg<;>(try rw[hg])<;>try simp only[NM]at hg)|omega|simp -dsimp (disch:=try exact zo) only[go_sem,hl,h0,hd]|contradiction|rfl)
   ·simp only[Bool.false_eq_true,if_false,if_true]
    repeat' (first|refine zg ?_|(refine AW.cond rfl ?_ ?_<;>intro hc<;>first|simp only[NM]at hc|omega|skip)|refine zr ?_|(refine callV.lend _ yfn_92 (by simp -dsimp (disch:=try exact zo) only[go_sem];exact cq) (by simp -dsimp (disch:=try exact zo) only[go_sem,eS_in]) (.lit _) ?_)|(refine callV.plain _ yfn_91 co (by simp -dsimp (disch:=try exact zo) only[go_sem,eS_in]) (.lit _) ?_)|refine ⟨by omega,?_⟩|(refine zb ?_ ?_<;>intro hg<;>(try rw[hg])<;>try simp only[NM]at hg)|omega|simp -dsimp (disch:=try exact zo) only[go_sem,hl,h0,hd]|contradiction|rfl)
  ·simp only[if_true]
   repeat' (first|refine zg ?_|(refine AW.cond rfl ?_ ?_<;>intro hc<;>first|simp only[NM]at hc|omega|skip)|refine zr ?_|(refine callV.lend _ yfn_92 (by simp -dsimp (disch:=try exact zo) only[go_sem];exact cq) (by simp -dsimp (disch:=try exact zo) only[go_sem,eS_in]) (.lit _) ?_)|(refine callV.plain _ yfn_91 co (by simp -dsimp (disch:=try exact zo) only[go_sem,eS_in]) (.lit _) ?_)|refine ⟨by omega,?_⟩|(refine zb ?_ ?_<;>intro hg<;>(try rw[hg])<;>try simp only[NM]at hg)|omega|simp -dsimp (disch:=try exact zo) only[go_sem,hl,h0,hd]|contradiction|rfl)
end Go.Proofs.Vx
namespace Go.Proofs.Vx
open Go Go.Sx Go.Proofs
attribute [local irreducible] fnT CallOK CallFr AW effV callV runP runO oneP oneO gcaseP hid
theorem yfn_33:fnT Tryz.prog 33=true:=by kernel_rfl
theorem classP_eq (l:PCell) (x:Pt):classP l x=clsP l x:=by
 unfold classP clsP
 by_cases h:l=[]
 ·rw[if_pos h,if_pos (.inl h)]
 ·rw[if_neg h]
  by_cases ho:outP l x=true
  ·have:outB l x=true:=ho
   rw[if_pos ho,if_pos (.inr this)]
  ·have h2:¬ (l=[]∨outB l x=true):=by rintro (e|e)<;>first|exact h e|exact ho e
   rw[if_neg ho,if_neg h2]
   rfl
theorem sum_succ (vs:List Pt) (i:Nat) (h:i<vs.length):sumV (vs.take (i+1))=sumV (vs.take i)+tv vs[i]:=by
 unfold sumV
 rw[List.take_succ_eq_append_getElem h,List.foldl_append]
 rfl
theorem sum_qs {vs:List Pt} (hv:∀ v∈vs,CanP v∧BPt 2000 v) (i:Nat) (hi:i≤vs.length):QV (2001*i+1) (sumV (vs.take i)):=by
 induction i with
 | zero=>exact zero_qs (by decide)
 | succ i ih =>
  have h:=ih (by omega)
  obtain ⟨h1,h2⟩:=hv _ (List.getElem_mem (show i<vs.length by omega))
  have ht:=tv_qs h1 h2
  rw[sum_succ vs i (by omega)]
  exact ⟨(h.x.add ht.x).mono (by omega),(h.y.add ht.y).mono (by omega),(h.z.add ht.z).mono (by omega)⟩
theorem nat_qs {n:Nat} (h:n<2147483648):Qs 8 ((n:Nat):Rat):=by
 have hz:(Zm (n:Int)).size≤8:=(Zm_size n 8).2 (by omega)
 exact ⟨hz,by show (nb 1).size≤_;rw[nb_one];decide⟩
theorem nat_ne {n:Nat} (h:0<n):((n:Nat):Rat)≠0:=by
 intro e
 have:n=0:=by exact_mod_cast e
 omega
set_option maxHeartbeats 40000000 in
theorem c33 (l:PCell) (hc:CanC l) (hB:BdV l):CallOK Tryz.prog 33 [.agg [.sl (eS l)]] [] (.agg (eP (midP l))) []:=by
 refine CallOK.flat Tryz.func33 rfl 52 rfl rfl rfl [.cell 2 51] (congrArg Array.toList Tryz.results33) ?_
 simp only[startT,Nat.reduceAdd]
 have hml:maxLen=9223372036854775807:=rfl
 have ct:=c27x l hc (hB.mono (by decide) (by decide) (by decide))
 have hvn:(vertsP l).length≤32768:=Nat.le_trans (verts_len_le l) (Nat.le_trans (corners_len hB.m hB.n) (by decide))
 have hv:∀ v∈vertsP l,CanP v∧BPt 2000 v:=fun v hv=>by
  obtain ⟨s,hs,h⟩:=verts_mem.1 hv
  exact ⟨hc.can s hs v h,hB.k s hs v h⟩
 unfold midP
 generalize vertsP l=vs at *
 clear hB hc
 have hl:(vs.map eP).length=vs.length:=List.length_map _
 repeat' (first|refine zg ?_|(refine AW.cond rfl ?_ ?_<;>intro hc<;>first|simp only[NM]at hc|omega|skip)|refine zr ?_|(refine callV.plain _ yfn_27 ct (by simp -dsimp (disch:=try exact zo) only[go_sem,eS_in]) (by rw[In_sl,eP_in];trivial) ?_)|refine ⟨by omega,?_⟩|(refine zb ?_ ?_<;>intro hg<;>(try rw[hg])<;>try simp only[NM]at hg)|omega|simp -dsimp (disch:=try exact zo) only[go_sem,hl]|contradiction|rfl)
 have hzx:(sumV []).x=0:=rfl
 have hzy:(sumV []).y=0:=rfl
 have hzz:(sumV []).z=0:=rfl
 refine AW.loop (fun z:{i:Nat // i≤vs.length}=>⟨[(14,.lit (.int .i64 z.1)),(13,.lit (.int .i64 vs.length)),(12,.sl (vs.map eP)),(3,.sl (vs.map eP)),(2,.loc 9 0),(4,.loc 13 0)],[(9,.blk [.lit (.bool false),.lit (.string ⟨#[]⟩),.lit (.bool false),.lit (.string ⟨#[]⟩),.lit (.bool false),.lit (.string ⟨#[]⟩),.lit (.bool false),.lit (.string ⟨#[]⟩)]),(13,.blk (eV (sumV (vs.take z.1)).x (sumV (vs.take z.1)).y (sumV (vs.take z.1)).z))],60⟩) (fun z=>vs.length - z.1) ⟨0,Nat.zero_le _⟩ (Weak.t4 (by refine ⟨?_,?_,?_,?_⟩<;>simp -dsimp (disch:=try exact zo) only[go_sem,List.take_zero,hzx,hzy,hzz,eV,eQ,Zz,Zmz,Qz,eP_in,ZC])) ?_
 rintro ⟨i,hi⟩
 dsimp only
 have hs:=sum_qs hv i hi
 by_cases hlt:i<vs.length
 ·have ea:=eP_getD vs i hlt
  have hst:=sum_succ vs i hlt
  obtain ⟨h1,h2⟩:=hv _ (List.getElem_mem hlt)
  have c77v:=c77t vs[i] h1 (h2.mono (by decide))
  have ht:=tv_qs h1 h2
  clear hv h1 h2
  generalize vs[i]=a at *
  generalize sumV (vs.take i)=A at *
  generalize tv a=T at *
  have hx1:(sumV (vs.take (i+1))).x=A.x+T.x:=by rw[hst];rfl
  have hy1:(sumV (vs.take (i+1))).y=A.y+T.y:=by rw[hst];rfl
  have hz1:(sumV (vs.take (i+1))).z=A.z+T.z:=by rw[hst];rfl
  clear hst
  obtain ⟨b1,b2,b3⟩:=hs.mono (show _≤17179869184 by omega)
  obtain ⟨t1,t2,t3⟩:=ht.mono (show _≤17179869184 by omega)
  clear hs ht
  simp only[eP,e4]at ea
  repeat' (first|refine zg ?_|refine AW.unroll 6 ?_|(refine AW.cond rfl ?_ ?_<;>intro hc<;>first|simp only[NM]at hc|omega|skip)|refine zr ?_|(refine callV.flat _ yfn_77 c77v rfl rfl ?_)|(refine callV.flat _ yfn_25 (c25 _ _ (by assumption) (by assumption)) rfl rfl ?_)|refine ⟨by omega,?_⟩|(refine zb ?_ ?_<;>intro hg<;>(try rw[hg])<;>try simp only[NM]at hg)|omega|simp -dsimp (disch:=try exact zo) only[go_sem,hl,ea,ZT,eP_in]|contradiction|rfl)
  all_goals exact AW.stop ⟨⟨i+1,by omega⟩,(Weak.t4 (by refine ⟨?_,?_,?_,?_⟩<;>simp -dsimp (disch:=try exact zo) only[go_sem,eP_in,hx1,hy1,hz1,eV,eQ,ZC])),by dsimp only;omega⟩
 ·have hil:i=vs.length:=by omega
  subst hil
  rw[List.take_length]at hs ⊢
  have hne:((max vs.length 1:Nat):Rat)≠0:=nat_ne (by omega)
  have hq:=nat_qs (n:=max vs.length 1) (by omega)
  have c68v:=c68 (max vs.length 1:Nat) (by omega)
  have hmx:(if (1:Int)>(vs.length:Int)then 1 else (vs.length:Int))=((max vs.length 1:Nat):Int):=by split<;>omega
  obtain ⟨b1,b2,b3⟩:=hs
  have e1:=(b1.div hq hne).mono (show _≤1073741824 by omega)
  have e2:=(b2.div hq hne).mono (show _≤1073741824 by omega)
  have e3:=(b3.div hq hne).mono (show _≤1073741824 by omega)
  have b1':=b1.mono (show _≤17179869184 by omega)
  have b2':=b2.mono (show _≤17179869184 by omega)
  have b3':=b3.mono (show _≤17179869184 by omega)
  have hq':=hq.mono (show _≤17179869184 by omega)
  clear hv b1 b2 b3 hq
  have hcast:(((max vs.length 1:Nat):Int):Rat)=((max vs.length 1:Nat):Rat):=rfl
  rw[hcast]at c68v
  generalize ((max vs.length 1:Nat):Rat)=N at *
  generalize sumV vs=A at *
  repeat' (first|refine zg ?_|refine AW.unroll 6 ?_|(refine AW.cond rfl ?_ ?_<;>intro hc<;>first|simp only[NM]at hc|omega|skip)|refine zr ?_|(refine callV.flat _ yfn_68 c68v rfl rfl ?_)|(refine callV.flat _ yfn_80 (c80 _ _ (by assumption) (by assumption) hne) rfl rfl ?_)|(refine callV.flat _ yfn_96 (c96 _ _ _ (by assumption) (by assumption) (by assumption)) rfl rfl ?_)|refine ⟨by omega,?_⟩|(refine zb ?_ ?_<;>intro hg<;>(try rw[hg])<;>try simp only[NM]at hg)|omega|simp -dsimp (disch:=try exact zo) only[go_sem,hl,hmx]|contradiction|rfl)
end Go.Proofs.Vx
