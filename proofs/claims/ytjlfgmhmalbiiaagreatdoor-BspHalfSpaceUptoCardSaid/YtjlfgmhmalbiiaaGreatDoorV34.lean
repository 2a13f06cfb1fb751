import Derived.Test.YtjlfgmhmalbiiaaGreatDoorV29
set_option linter.all false
namespace Geo
namespace Cell
variable {c:List Sd}
theorem a5n {α:Type} [DecidableEq α]:∀ {l m:List α},l.Nodup→(∀ x∈l,x∈m)→l.length≤m.length
 | [],_,_,_=>Nat.zero_le _
 | a::l,m,hn,h=>by
  have ha:a∈m:=h a (by simp)
  have h2:=a5n (m:=m.erase a) (List.nodup_cons.1 hn).2 fun x hx=>(List.mem_erase_of_ne (fun (e:x=a)=>(List.nodup_cons.1 hn).1 (e▸hx))).2 (h x (by simp[hx]))
  have h3:=List.length_erase_of_mem ha
  have h4:=List.length_pos_of_mem ha
  simp only[List.length_cons]
  omega
open Classical in
theorem side_len (C:Cell c) {s:Sd} (hs:s∈c):s.vs.length≤c.length:=by
 have pv:=C.pv s hs
 have hch:∀ e∈edges s.vs,∃ t,t∈c∧t.h.at e.1=0∧t.h.at e.2=0∧∀ x∈s.vs,x≠e.1→x≠e.2→t.h.at x<0:=fun e he=>by
  obtain⟨t,ht,hts,hte,k,hk,hf⟩:=C.beside hs he
  refine⟨t,ht,C.pl t ht _ (bP hte),C.pl t ht _ (bH hte),fun x hx h1 h2=>?_⟩
  have ho:=pv.lf _ he x hx h1 h2
  have:=hf x (C.pl s hs x hx)
  rcases fC (C.le t ht s hs x hx)with h|h
  ·exact h
  ·rw[h]at this;grind
 let f:V × V→Sd:=fun e=>if h:e∈edges s.vs then (hch e h).choose else s
 have hf:∀ e∈edges s.vs,f e∈c∧(f e).h.at e.1=0∧(f e).h.at e.2=0∧∀ x∈s.vs,x≠e.1→x≠e.2→(f e).h.at x<0:=fun e he=>by
  simp only[f,dif_pos he]
  exact (hch e he).choose_spec
 have inj:∀ a∈edges s.vs,∀ b∈edges s.vs,f a=f b→a=b:=by
  intro a ha b hb e
  obtain⟨_,a1,a2,a3⟩:=hf a ha
  obtain⟨_,b1,b2,b3⟩:=hf b hb
  rw[← e]at b1 b2
  have two:∀ x∈s.vs,(f a).h.at x=0→x=a.1∨x=a.2:=fun x hx h0=>by
   by_cases h1:x=a.1
   ·exact .inl h1
   ·by_cases h2:x=a.2
    ·exact .inr h2
    ·have:=a3 x hx h1 h2;rw[h0]at this;exact absurd this (by grind)
  rcases two _ (bH hb) b1 with h|h
  ·have:(a.1,b.2)∈edges s.vs:=h▸hb
   exact Prod.ext h.symm (a3k pv.nd (show (a.1,a.2)∈edges s.vs from ha) this)
  ·rcases two _ (bP hb) b2 with h'|h'
   ·have:b=sw a:=Prod.ext h h'
    exact (v8 pv ha (this▸hb)).elim
   ·exact absurd (h.trans h'.symm) (pv.ne hb)
 have hnd:((edges s.vs).map f).Nodup:=by
  have he:=r8 pv.nd
  unfold List.Nodup at he ⊢
  rw[List.pairwise_map]
  exact he.imp_of_mem fun ha hb hab e=>hab (inj _ ha _ hb e)
 have:=a5n hnd (m:=c) fun x hx=>by
  obtain⟨e,he,rfl⟩:=List.mem_map.1 hx
  exact (hf e he).1
 rw[List.length_map,gJ]at this
 exact this
theorem indep (C:Cell c) {s:Sd} (hs:s∈c) {v:V} (hv:v∈s.vs):∃ p∈c,∃ q∈c,∃ r∈c,p.h.at v=0∧q.h.at v=0∧r.h.at v=0∧dot r.h.n (aA p.h.n q.h.n)≠0:=by
 have hx:=C.vert_ext hs hv
 have get:∀ d:V,d≠⟨0,0,0⟩→∃ t∈c,t.h.at v=0∧dot t.h.n d≠0:=by
  intro d hd
  apply Classical.byContradiction
  intro hno
  obtain⟨t,t0,h1,h2⟩:=b7b (l:=c) (x:=v) (d:=d) fun u hu=>by
   rcases fC (hx.1 u hu)with h|h
   ·exact .inl h
   ·refine .inr ⟨h,Classical.byContradiction fun hn=>hno ⟨u,hu,h,hn⟩⟩
  exact c5e hx hd ⟨t,t0,h1,h2⟩
 obtain⟨p,hp,p0,pd⟩:=get ⟨1,0,0⟩ (fun h=>by have:=congrArg V.x h;simp at this)
 have pa:p.h.n.x≠0:=fun h=>pd (by simp only[dot,h];grind)
 obtain⟨q,hq,q0,qd⟩:=get ⟨p.h.n.y,- p.h.n.x,0⟩ (fun h=>by have:=congrArg V.y h;simp only at this;grind)
 have hcr:aA p.h.n q.h.n≠⟨0,0,0⟩:=fun h=>by
  have hz:=congrArg V.z h
  simp only[aA]at hz
  refine qd ?_
  simp only[dot]
  grind
 obtain⟨r,hr,r0,rd⟩:=get _ hcr
 exact⟨p,hp,q,hq,r,hr,p0,q0,r0,rd⟩
end Cell
end Geo
namespace Go.Sx
open Geo
theorem c9l {v : Pt} (hv : CanP v) {a1 b1 c1 d1 a2 b2 c2 d2 a3 b3 c3 d3 : Int} (e1 : a1 * v.x + b1 * v.y + c1 * v.z = d1 * v.w) (e2 : a2 * v.x + b2 * v.y + c2 * v.z = d2 * v.w) (e3 : a3 * v.x + b3 * v.y + c3 * v.z = d3 * v.w)
  (hD:a1*(b2*c3 - b3*c2) - b1*(a2*c3 - a3*c2)+c1*(a2*b3 - a3*b2)≠0) {K:Nat} (h1:Bs K a1 b1 c1 d1) (h2:Bs K a2 b2 c2 d2) (h3:Bs K a3 b3 c3 d3):BPt (3*K+4) v:=by
 generalize hDe:a1*(b2*c3 - b3*c2) - b1*(a2*c3 - a3*c2)+c1*(a2*b3 - a3*b2)=D at hD
 have x1:D*v.x=(d1*(b2*c3 - b3*c2) - b1*(d2*c3 - d3*c2)+c1*(d2*b3 - d3*b2))*v.w:=by rw[← hDe];grind
 have y1:D*v.y=(a1*(d2*c3 - d3*c2) - d1*(a2*c3 - a3*c2)+c1*(a2*d3 - a3*d2))*v.w:=by rw[← hDe];grind
 have z1:D*v.z=(a1*(b2*d3 - b3*d2) - b1*(a2*d3 - a3*d2)+d1*(a2*b3 - a3*b2))*v.w:=by rw[← hDe];grind
 have sz : ∀ p q r p' q' r' p'' q'' r'' : Int, (Zm p).size ≤ K → (Zm q).size ≤ K → (Zm r).size ≤ K → (Zm p').size ≤ K → (Zm q').size ≤ K → (Zm r').size ≤ K → (Zm p'').size ≤ K → (Zm q'').size ≤ K → (Zm r'').size ≤ K →
   (Zm (p*(q'*r'' - q''*r') - q*(p'*r'' - p''*r')+r*(p'*q'' - p''*q'))).size≤3*K+4:=by
  intro p q r p' q' r' p'' q'' r'' k1 k2 k3 k4 k5 k6 k7 k8 k9
  have two:∀ s t u w:Int,(Zm s).size≤K→(Zm t).size≤K→(Zm u).size≤K→(Zm w).size≤K→(Zm (s*t - u*w)).size≤2*K+1:=fun s t u w m1 m2 m3 m4=>by
   have:=jZ (s*t) (u*w) (k:=2*K) (Nat.le_trans (aP s t m1 m2) (by omega)) (Nat.le_trans (aP u w m3 m4) (by omega))
   exact this
  have t1:=aP p (q'*r'' - q''*r') k1 (two _ _ _ _ k5 k9 k8 k6)
  have t2:=aP q (p'*r'' - p''*r') k2 (two _ _ _ _ k4 k9 k7 k6)
  have t3:=aP r (p'*q'' - p''*q') k3 (two _ _ _ _ k4 k8 k7 k5)
  have t4:=jZ _ _ t1 t2
  have t5:=gW _ _ t4 (Nat.le_succ_of_le t3)
  exact Nat.le_trans t5 (by omega)
 have hg:v.w∣D:=by
  have key:∀ m:Int,v.w∣D*m→v.w.natAbs∣D.natAbs*m.natAbs:=fun m hm=>by rw[← Int.natAbs_mul];exact Int.natAbs_dvd_natAbs.2 hm
  have k1:=key v.x ⟨_,by rw[x1,Int.mul_comm]⟩
  have k2:=key v.y ⟨_,by rw[y1,Int.mul_comm]⟩
  have k3:=key v.z ⟨_,by rw[z1,Int.mul_comm]⟩
  have k4:=key v.w ⟨D,Int.mul_comm _ _⟩
  have h12:=Nat.dvd_gcd k1 k2
  rw[Nat.gcd_mul_left]at h12
  have h3:=Nat.dvd_gcd h12 k3
  rw[Nat.gcd_mul_left]at h3
  have h4:=Nat.dvd_gcd h3 k4
  rw[Nat.gcd_mul_left]at h4
  have hg:=hv.g
  unfold g4 at hg
  rw[hg,Nat.mul_one]at h4
  exact Int.natAbs_dvd_natAbs.1 h4
 obtain⟨t,ht⟩:=hg
 have hw:=hv.w
 have ht0:t≠0:=fun h=>hD (by rw[ht,h];simp)
 have canc:∀ m n:Int,D*m=n*v.w→n=t*m:=fun m n h=>by
  have:v.w*(t*m)=v.w*n:=by rw[← Int.mul_assoc,← ht,h,Int.mul_comm]
  exact (Int.eq_of_mul_eq_mul_left (by omega) this).symm
 have le:∀ m n:Int,n=t*m→(Zm n).size≤3*K+4→(Zm m).size≤3*K+4:=fun m n h hn=>by
  refine Nat.le_trans (iW ?_) hn
  rw[h,Int.natAbs_mul]
  exact Nat.le_mul_of_pos_left _ (Int.natAbs_pos.2 ht0)
 refine⟨⟨le _ _ (canc _ _ x1) (sz _ _ _ _ _ _ _ _ _ h1.d h1.b h1.c h2.d h2.b h2.c h3.d h3.b h3.c),le _ _ (canc _ _ y1) (sz _ _ _ _ _ _ _ _ _ h1.a h1.d h1.c h2.a h2.d h2.c h3.a h3.d h3.c),le _ _ (canc _ _ z1) (sz _ _ _ _ _ _ _ _ _ h1.a h1.b h1.d h2.a h2.b h2.d h3.a h3.b h3.d),?_⟩⟩
 refine le v.w D (by rw[ht,Int.mul_comm]) ?_
 rw[← hDe]
 exact sz _ _ _ _ _ _ _ _ _ h1.a h1.b h1.c h2.a h2.b h2.c h3.a h3.b h3.c
theorem c3a {l:aD} (h:CellOK l) {K:Nat} (hp:∀ s∈l,BPl K s.1) {s:Pl × List Pt} (hs:s∈l) {v:Pt} (hv:v∈s.2):BPt (3*K+4) v:=by
 have hc:=h.can s hs v hv
 obtain⟨p,hp',q,hq',r,hr',p0,q0,r0,hd⟩:=h.cell.indep (s:=sd s) (List.mem_map_of_mem hs) (v:=tv v) (List.mem_map_of_mem hv)
 obtain⟨p,hpl,rfl⟩:=List.mem_map.1 hp'
 obtain⟨q,hql,rfl⟩:=List.mem_map.1 hq'
 obtain⟨r,hrl,rfl⟩:=List.mem_map.1 hr'
 have f1:=(lR p.1 hc.w).1 p0
 have f2:=(lR q.1 hc.w).1 q0
 have f3:=(lR r.1 hc.w).1 r0
 unfold abv at f1 f2 f3
 have hD:p.1.a*(q.1.b*r.1.c - r.1.b*q.1.c) - p.1.b*(q.1.a*r.1.c - r.1.a*q.1.c)+p.1.c*(q.1.a*r.1.b - r.1.a*q.1.b)≠0:=by
  intro e
  refine hd ?_
  have:((p.1.a*(q.1.b*r.1.c - r.1.b*q.1.c) - p.1.b*(q.1.a*r.1.c - r.1.a*q.1.c)+p.1.c*(q.1.a*r.1.b - r.1.a*q.1.b):Int):Rat)=0:=by rw[e];rfl
  simp only[Rat.intCast_add,Rat.intCast_mul,Rat.intCast_sub]at this
  simp only[sd,tH,dot,aA]
  grind
 exact c9l hc (by omega) (by omega) (by omega) hD (hp p hpl).out (hp q hql).out (hp r hrl).out
structure SmC (d:Nat) (l:aD):Prop extends CellOK l where
 n:l.length≤d
 p:∀ s∈l,BPl 6 s.1
theorem SmC.bd {d:Nat} {l:aD} (h:SmC d l):Bd d d 22 l:=by
 refine⟨h.n,fun s hs=>?_,fun s hs v hv=>c3a h.toCellOK (K:=6) h.p hs hv,fun s hs=>(h.p s hs).mono (by decide)⟩
 have:=h.cell.side_len (s:=sd s) (List.mem_map_of_mem hs)
 have e1:(sd s).vs.length=s.2.length:=List.length_map _
 have e2:(sds l).length=l.length:=List.length_map _
 have:=h.n
 omega
theorem wB {b:Pl} {l:aD} {d:Nat} (h:SmC d l) (hb:BPl 6 b):((aO b l).1=[]∨SmC (d+1) (aO b l).1)∧((aO b l).2=[]∨SmC (d+1) (aO b l).2):=by
 have hb':=h.bd
 have hs:=zE (.inr h.toCellOK) (hb'.mono (K':=22) (S':=d) (M':=d) (Nat.le_refl _) (Nat.le_refl _) (Nat.le_refl _)) hb (by omega)
 have ho:=zD (b:=b) h.toCellOK
 have hpl:∀ s,s∈(aO b l).1∨s∈(aO b l).2→BPl 6 s.1:=by
  intro s hs
  have key:∀ b',BPl 6 b'→∀ s∈g9 b' l,BPl 6 s.1:=fun b' hb' s hs=>by
   unfold g9 at hs
   rcases List.mem_append.1 hs with hs|hs
   ·obtain⟨t,ht,e⟩:=List.mem_filterMap.1 hs
    split at e
    ·obtain rfl:=Option.some.inj e
     exact h.p t ht
    ·contradiction
   ·obtain rfl:=List.mem_singleton.1 hs
    exact hb'
  unfold aO at hs
  split at hs
  ·rcases hs with hs|hs
   ·exact h.p s hs
   ·simp at hs
  ·split at hs
   ·rcases hs with hs|hs
    ·simp at hs
    ·exact h.p s hs
   ·rcases hs with hs|hs
    ·exact key b hb s hs
    ·exact key _ hb.neg s hs
 exact⟨ho.1.imp id fun q=>⟨q,hs.1.n,fun s hs=>hpl s (.inl hs)⟩,ho.2.imp id fun q=>⟨q,hs.2.n,fun s hs=>hpl s (.inr hs)⟩⟩
theorem vY:SmC 6 aK:=⟨gU,sN.n,fun s hs=>(a5c s hs).mono (by decide)⟩
end Go.Sx
namespace Go.Sx
open Geo (V Sd)
set_option linter.unusedVariables false
inductive BT where
 | lf (b:Bool)
 | nd (k:Nat) (p:Pl) (l r:BT)
def lfv (b:Bool):Int:=if b then -1 else 0
namespace BT
def ids:BT→List Nat
 | lf _=>[]
 | nd k _ l r=>k::(ids l++ids r)
def pls:BT→List Pl
 | lf _=>[]
 | nd _ p l r=>p::(pls l++pls r)
def ht:BT→Nat
 | lf _=>0
 | nd _ _ l r=>max (ht l) (ht r)+1
def leaves (x:Pt):BT→List Int
 | lf b=>[lfv b]
 | nd _ p l r=>(if 0<aB p x then []else leaves x l)++(if aB p x<0 then []else leaves x r)
def cells:BT→aD→List aD
 | lf b,c=>if b then [c]else []
 | nd _ p l r,c=>cells l (aO p c).1++cells r (aO p c).2
def chk:BT→aD→Bool
 | lf _,c=>!c.isEmpty
 | nd _ p l r,c=>!c.isEmpty&&(chk l (aO p c).1&&chk r (aO p c).2)
def turn:BT→BT
 | lf b=>lf (!b)
 | nd k p l r=>nd k p (turn l) (turn r)
def flip:BT→BT
 | lf b=>lf b
 | nd k p l r=>nd k (aT p) (flip r) (flip l)
def tl:BT→Nat
 | lf b=>if b then 1 else 0
 | nd _ _ l r=>tl l+tl r
def reach:BT→Bool→V→Prop
 | lf b',b,_=>b'=b
 | nd _ p l r,b,x=>((tH p).at x≤0∧reach l b x)∨(0≤(tH p).at x∧reach r b x)
theorem chk_ne {T:BT} {c:aD} (h:T.chk c=true):c≠[]:=by
 intro e;subst e;cases T<;>simp[chk]at h
theorem chk_nd {k:Nat} {p:Pl} {l r:BT} {c:aD}:(nd k p l r).chk c=true↔c≠[]∧l.chk (aO p c).1=true∧r.chk (aO p c).2=true:=by
 simp[chk]
theorem cells_len (T:BT):∀ c,(T.cells c).length=T.tl:=by
 induction T with
 | lf b=>intro c;cases b<;>rfl
 | nd k p l r hl hr=>intro c;simp only[cells,tl,List.length_append,hl,hr]
theorem tl_turn (T:BT):T.tl+T.turn.tl=T.ids.length+1:=by
 induction T with
 | lf b=>cases b<;>rfl
 | nd k p l r hl hr=>simp only[tl,turn,ids,List.length_cons,List.length_append]at *;omega
theorem tl_flip (T:BT):T.flip.tl=T.tl:=by
 induction T with
 | lf b=>rfl
 | nd k p l r hl hr=>simp only[tl,flip,hl,hr];omega
theorem turn_ids (T:BT):T.turn.ids=T.ids:=by
 induction T with
 | lf b=>rfl
 | nd k p l r hl hr=>simp only[turn,ids,hl,hr]
theorem turn_chk (T:BT):∀ c,T.turn.chk c=T.chk c:=by
 induction T with
 | lf b=>intro c;rfl
 | nd k p l r hl hr=>intro c;simp only[turn,chk,hl,hr]
theorem turn_reach (T:BT) (b:Bool) (x:V):T.turn.reach b x↔T.reach (!b) x:=by
 induction T with
 | lf b'=>simp only[turn,reach];cases b'<;>cases b<;>simp
 | nd k p l r hl hr=>simp only[turn,reach,hl,hr]
theorem reach_any (T:BT) (x:V):T.reach true x∨T.reach false x:=by
 induction T with
 | lf b=>cases b<;>simp[reach]
 | nd k p l r hl hr =>
  simp only[reach]
  by_cases h:(tH p).at x≤0
  ·rcases hl with q|q
   ·exact .inl (.inl ⟨h,q⟩)
   ·exact .inr (.inl ⟨h,q⟩)
  ·have h':0≤(tH p).at x:=by grind
   rcases hr with q|q
   ·exact .inl (.inr ⟨h',q⟩)
   ·exact .inr (.inr ⟨h',q⟩)
theorem c3p {p:Pl} {x:Pt} (hw:0<x.w):¬ 0<aB p x↔(tH p).at (tv x)≤0:=by
 have h1:0<(tH p).at (tv x)↔0<aB p x:=(kA p hw).trans mX.symm
 rw[← h1]
 exact Rat.not_lt
theorem c3q {p:Pl} {x:Pt} (hw:0<x.w):¬ aB p x<0↔0≤(tH p).at (tv x):=by
 have h1:(tH p).at (tv x)<0↔aB p x<0:=(lQ p hw).trans j3.symm
 rw[← h1]
 exact Rat.not_lt
theorem leaves_iff (T:BT) {x:Pt} (hw:0<x.w) (b:Bool):lfv b∈T.leaves x↔T.reach b (tv x):=by
 induction T with
 | lf b'=>cases b'<;>cases b<;>simp[leaves,reach,lfv]
 | nd k p l r hl hr =>
  simp only[leaves,reach,List.mem_append,← c3p hw,← c3q hw,← hl,← hr]
  refine or_congr ?_ ?_<;>split<;>rename_i h<;>simp[h]
theorem leaves_two (T:BT) (x:Pt):∀ k∈T.leaves x,k=-1∨k=0:=by
 induction T with
 | lf b=>cases b<;>simp[leaves,lfv]
 | nd k p l r hl hr =>
  intro q hq
  simp only[leaves,List.mem_append]at hq
  rcases hq with hq|hq
  ·split at hq
   ·simp at hq
   ·exact hl q hq
  ·split at hq
   ·simp at hq
   ·exact hr q hq
def nz (T:BT):Prop:=∀ p∈T.pls,(tH p).n≠⟨0,0,0⟩
theorem j7 {k:Nat} {p:Pl} {l r:BT}:(nd k p l r).nz↔(tH p).n≠⟨0,0,0⟩∧l.nz∧r.nz:=by
 unfold nz
 simp only[pls,List.mem_cons,List.mem_append]
 constructor
 ·intro h;exact⟨h p (.inl rfl),fun q hq=>h q (.inr (.inl hq)),fun q hq=>h q (.inr (.inr hq))⟩
 ·rintro⟨h1,h2,h3⟩ q (rfl|hq|hq)
  ·exact h1
  ·exact h2 q hq
  ·exact h3 q hq
theorem at_negP (b:Pl) (v:V):(tH (aT b)).at v=- (tH b).at v:=by rw[a0x,Geo.mY]
theorem nz_neg {b:Pl} (hn:(tH b).n≠⟨0,0,0⟩):(tH (aT b)).n≠⟨0,0,0⟩:=by
 intro e
 apply hn
 rw[a0x]at e
 have ex:=congrArg Geo.V.x e
 have ey:=congrArg Geo.V.y e
 have ez:=congrArg Geo.V.z e
 simp only[Geo.neg,Geo.c8,Geo.c7,Geo.c6]at ex ey ez
 apply Geo.V.ext<;>simp only<;>grind
theorem b5s (b:Pl):aT (aT b)=b:=by cases b;simp[aT]
theorem xQ {k : Nat} {p : Pl} {l r : BT} {c : aD} (hc : CellOK c) (hn : (nd k p l r).nz) (h : (nd k p l r).chk c = true) :
  CellOK (beh p c)∧CellOK (beh (aT p) c)∧(aO p c).1=beh p c∧(aO p c).2=beh (aT p) c∧l.chk (beh p c)=true∧r.chk (beh (aT p) c)=true:=by
 obtain⟨h0,h1,h2⟩:=chk_nd.1 h
 obtain⟨n0,_,_⟩:=j7.1 hn
 have hf:=y5 (.inr hc) n0
 have e1:(aO p c).1=beh p c:=rfl
 rw[e1]at h1
 rw[hf]at h2
 have o1:=a1p (b:=p) (.inr hc)
 have o2:=a1p (b:=aT p) (.inr hc)
 exact⟨o1.elim (fun e=>absurd e (chk_ne h1)) id,o2.elim (fun e=>absurd e (chk_ne h2)) id,rfl,hf,h1,h2⟩
theorem cells_ok {T:BT}:∀ {c:aD},CellOK c→T.nz→T.chk c=true→∀ d∈T.cells c,CellOK d:=by
 induction T with
 | lf b=>intro c hc _ _ d hd;cases b<;>simp[cells]at hd;subst hd;exact hc
 | nd k p l r hl hr =>
  intro c hc hn h d hd
  obtain⟨c1,c2,e1,e2,h1,h2⟩:=xQ hc hn h
  simp only[cells,List.mem_append,e1,e2]at hd
  rcases hd with hd|hd
  ·exact hl c1 (j7.1 hn).2.1 h1 d hd
  ·exact hr c2 (j7.1 hn).2.2 h2 d hd
theorem cells_sm {T:BT}:∀ {c:aD} {d:Nat},SmC d c→T.nz→(∀ p∈T.pls,BPl 6 p)→T.chk c=true→∀ e∈T.cells c,SmC (d+T.ht) e:=by
 induction T with
 | lf b=>intro c d hc _ _ _ e he;cases b<;>simp[cells]at he;subst he;exact hc
 | nd k p l r hl hr =>
  intro c d hc hn hp h e he
  obtain⟨c1,c2,e1,e2,h1,h2⟩:=xQ hc.toCellOK hn h
  have hs:=wB hc (hp p (by simp[pls]))
  rw[e1,e2]at hs
  have s1:=hs.1.elim (fun q=>absurd q (chk_ne h1)) id
  have s2:=hs.2.elim (fun q=>absurd q (chk_ne h2)) id
  simp only[cells,List.mem_append,e1,e2]at he
  have key:∀ j,j≤max l.ht r.ht→SmC (d+1+j) e→SmC (d+(nd k p l r).ht) e:=fun j hj q=>⟨q.toCellOK,by have:=q.n;simp only[ht];omega,q.p⟩
  rcases he with he|he
  ·exact key _ (Nat.le_max_left _ _) (hl s1 (j7.1 hn).2.1 (fun q hq=>hp q (by simp[pls,hq])) h1 e he)
  ·exact key _ (Nat.le_max_right _ _) (hr s2 (j7.1 hn).2.2 (fun q hq=>hp q (by simp[pls,hq])) h2 e he)
theorem cells_cl {T:BT} (x:V):∀ {c:aD},CellOK c→T.nz→T.chk c=true→((T.reach true x∧Geo.Cl (sds c) x)↔∃ d∈T.cells c,Geo.Cl (sds d) x):=by
 induction T with
 | lf b=>intro c hc _ _;cases b<;>simp[cells,reach]
 | nd k p l r hl hr =>
  intro c hc hn h
  obtain⟨c1,c2,e1,e2,h1,h2⟩:=xQ hc hn h
  simp only[cells,List.mem_append,e1,e2,reach]
  have i1:=hl c1 (j7.1 hn).2.1 h1
  have i2:=hr c2 (j7.1 hn).2.2 h2
  rw[a9y (.inr hc) (chk_ne h1)]at i1
  rw[a9y (.inr hc) (chk_ne h2),at_negP]at i2
  have z:- (tH p).at x≤0↔0≤(tH p).at x:=by constructor<;>intro q<;>grind
  rw[z]at i2
  constructor
  ·rintro⟨⟨a,b⟩|⟨a,b⟩,q⟩
   ·obtain⟨d,d1,d2⟩:=i1.1 ⟨b,q,a⟩;exact⟨d,.inl d1,d2⟩
   ·obtain⟨d,d1,d2⟩:=i2.1 ⟨b,q,a⟩;exact⟨d,.inr d1,d2⟩
  ·rintro⟨d,d1|d1,d2⟩
   ·obtain⟨b,q,a⟩:=i1.2 ⟨d,d1,d2⟩;exact⟨.inl ⟨a,b⟩,q⟩
   ·obtain⟨b,q,a⟩:=i2.2 ⟨d,d1,d2⟩;exact⟨.inr ⟨a,b⟩,q⟩
theorem flip_reach (T:BT) (b:Bool) (x:V):T.flip.reach b x↔T.reach b x:=by
 induction T with
 | lf b'=>rfl
 | nd k p l r hl hr =>
  simp only[flip,reach,hl,hr,at_negP]
  have z1:- (tH p).at x≤0↔0≤(tH p).at x:=by constructor<;>intro q<;>grind
  have z2:0≤- (tH p).at x↔(tH p).at x≤0:=by constructor<;>intro q<;>grind
  rw[z1,z2,or_comm]
theorem flip_chk {T:BT}:∀ {c d:aD},CellOK c→CellOK d→(∀ x,InnP c x↔InnP d x)→T.nz→T.chk c=true→T.flip.chk d=true:=by
 induction T with
 | lf b=>intro c d _ hd _ _ _;simp[flip,chk,hd.ne]
 | nd k p l r hl hr =>
  intro c d hc hd hi hn h
  obtain⟨c1,c2,e1,e2,h1,h2⟩:=xQ hc hn h
  have n0:=(j7.1 hn).1
  have key:∀ q,(tH q).n≠⟨0,0,0⟩→CellOK (beh q c)→CellOK (beh q d)∧∀ x,InnP (beh q c) x↔InnP (beh q d) x:=fun q hq hb=>by
   have hx:∀ x,InnP (beh q c) x↔InnP (beh q d) x:=fun x=>by rw[a0o (.inr hc) hq,a0o (.inr hd) hq,hi]
   obtain⟨x,hx0⟩:=b3b (.inr hb) hb.ne
   exact⟨(a1p (b:=q) (.inr hd)).elim (fun e=>absurd e ((hx x).1 hx0).ne) id,hx⟩
  obtain⟨k1,k2⟩:=key p n0 c1
  obtain⟨k3,k4⟩:=key _ (nz_neg n0) c2
  have f1:(aO (aT p) d).1=beh (aT p) d:=rfl
  have f2:=y5 (b:=aT p) (.inr hd) (nz_neg n0)
  rw[b5s]at f2
  refine chk_nd.2 ⟨hd.ne,?_,?_⟩
  ·rw[f1];exact hr c2 k3 k4 (j7.1 hn).2.2 h2
  ·rw[f2];exact hl c1 k1 k2 (j7.1 hn).2.1 h1
end BT
def bN (x:Pt):Int:=if 1000*x.w<x.x.natAbs∨1000*x.w<x.y.natAbs∨1000*x.w<x.z.natAbs then -1 else if x.x.natAbs=1000*x.w∨x.y.natAbs=1000*x.w∨x.z.natAbs=1000*x.w then 0 else 1
theorem c0z (x:Pt):eY aK x=bN x:=by
 have hne:¬ aK=[]:=by unfold aK;simp
 have ho:kE aK x=true↔(1000*x.w<x.x.natAbs∨1000*x.w<x.y.natAbs∨1000*x.w<x.z.natAbs):=by
  unfold kE aK
  simp only[List.any_cons,List.any_nil,Bool.or_false,Bool.or_eq_true,decide_eq_true_eq,aB,mX,abv]
  omega
 have hi:onB aK x=true↔(x.x.natAbs=1000*x.w∨x.y.natAbs=1000*x.w∨x.z.natAbs=1000*x.w)∨(x.w<0∧(x.x.natAbs=- 1000*x.w∨x.y.natAbs=- 1000*x.w∨x.z.natAbs=- 1000*x.w)):=by
  unfold onB aK
  simp only[List.any_cons,List.any_nil,Bool.or_false,Bool.or_eq_true,decide_eq_true_eq,pT,abv]
  omega
 unfold eY bN
 by_cases h1:kE aK x=true
 ·rw[if_pos (.inr h1),if_pos (ho.1 h1)]
 ·rw[if_neg (fun e=>e.elim hne h1),if_neg (fun e=>h1 (ho.2 e))]
  have h3:¬ x.w<0:=fun h=>h1 (ho.2 (by omega))
  by_cases h2:onB aK x=true
  ·rw[if_pos h2,if_pos ((hi.1 h2).elim id (fun e=>absurd e.1 h3))]
  ·rw[if_neg h2,if_neg (fun e=>h2 (hi.2 (.inl e)))]
end Go.Sx
namespace Go.Sx
set_option linter.unusedVariables false
abbrev TN:=Pl × Int × Int
def Rep (N:List TN):BT→Int→Prop
 | .lf b,k=>k=lfv b
 | .nd j p l r,k=>k=(j:Int)+1∧∃ n,N[j]?=some n∧n.1=p∧Rep N l n.2.1∧Rep N r n.2.2
def Reps (N:List TN):List BT→List Int→Prop
 | [],[]=>True
 | T::Ts,k::ks=>Rep N T k∧Reps N Ts ks
 | _,_=>False
def tX (Ts:List BT):List Nat:=Ts.flatMap BT.ids
def bZ (N:List TN) (todo:List Int) (met:List Nat):Prop:=∃ Ts,Reps N Ts todo∧(tX Ts++met).Perm (List.range N.length)
theorem yY (b:Bool):lfv b=-1∨lfv b=0:=by cases b<;>simp[lfv]
theorem b5g {N:List TN} {ks ks':List Int} (h:ks.Perm ks'):∀ {Ts:List BT},Reps N Ts ks→∃ Ts',Reps N Ts' ks'∧Ts.Perm Ts':=by
 induction h with
 | nil=>intro Ts h;exact⟨Ts,h,.refl _⟩
 | cons k _ ih =>
  intro Ts h
  cases Ts with
  | nil=>exact h.elim
  | cons T Ts =>
   obtain⟨Ts',h1,h2⟩:=ih h.2
   exact⟨T::Ts',⟨h.1,h1⟩,h2.cons T⟩
 | swap a b l =>
  intro Ts h
  match Ts,h with
  | [],h=>exact h.elim
  | [_],h=>exact h.2.elim
  | T::U::Ts,h=>exact⟨U::T::Ts,⟨h.2.1,h.1,h.2.2⟩,.swap _ _ _⟩
 | trans _ _ ih1 ih2 =>
  intro Ts h
  obtain⟨T1,a1,a2⟩:=ih1 h
  obtain⟨T2,b1,b2⟩:=ih2 a1
  exact⟨T2,b1,a2.trans b2⟩
theorem uY {N:List TN} {ks ks':List Int} {met met':List Nat} (h:ks.Perm ks') (hm:met.Perm met'):bZ N ks met↔bZ N ks' met':=by
 have key:∀ {ks ks':List Int} {met met':List Nat},ks.Perm ks'→met.Perm met'→bZ N ks met→bZ N ks' met':=by
  rintro ks ks' met met' h hm ⟨Ts,h1,h2⟩
  obtain⟨Ts',h3,h4⟩:=b5g h h1
  exact⟨Ts',h3,(List.Perm.append (h4.symm.flatMap_right _) hm.symm).trans h2⟩
 exact⟨key h hm,key h.symm hm.symm⟩
theorem a2z {N:List TN} {k:Int} {ks:List Int} {met:List Nat} (hk:k=-1∨k=0):bZ N (k::ks) met↔bZ N ks met:=by
 constructor
 ·rintro⟨Ts,h1,h2⟩
  cases Ts with
  | nil=>exact h1.elim
  | cons T Ts =>
   refine⟨Ts,h1.2,?_⟩
   cases T with
   | lf b=>exact h2
   | nd j p l r=>have:=h1.1.1;omega
 ·rintro⟨Ts,h1,h2⟩
  refine⟨.lf (decide (k=-1))::Ts,⟨?_,h1⟩,h2⟩
  rcases hk with rfl|rfl<;>simp[Rep,lfv]
theorem a1a {N:List TN} {T:BT}:∀ {k:Int},Rep N T k→(k=-1∨k=0)∨(1≤k∧k≤N.length∧(k - 1).toNat∈T.ids):=by
 cases T with
 | lf b=>intro k h;exact .inl (by rw[show k=lfv b from h];exact yY b)
 | nd j p l r =>
  rintro k ⟨rfl,n,n1,_⟩
  have:=(List.getElem?_eq_some_iff.1 n1).1
  exact .inr ⟨by omega,by omega,by simp[BT.ids]⟩
theorem b5j {a b c:List Nat} {n:Nat} (h:(a++b++c).Perm (List.range n)) {x:Nat} (h1:x∈a) (h2:x∈c):False:=by
 have:=h.nodup_iff.2 List.nodup_range
 rw[List.nodup_append]at this
 exact this.2.2 x (List.mem_append_left _ h1) x h2 rfl
theorem a3u {N:List TN} {k:Int} {ks:List Int} {met:List Nat} (hk:k < -1∨N.length<k∨(1≤k∧(k - 1).toNat∈met)):¬ bZ N (k::ks) met:=by
 rintro⟨Ts,h1,h2⟩
 cases Ts with
 | nil=>exact h1.elim
 | cons T Ts =>
  have:=a1a h1.1
  rcases hk with hk|hk|⟨hk,hm⟩
  ·omega
  ·omega
  ·rcases this with h|⟨_,_,h⟩
   ·omega
   ·exact b5j h2 h hm
theorem a2y {N:List TN} {j:Nat} {n:TN} {ks:List Int} {met:List Nat} (hn:N[j]?=some n):bZ N (((j:Int)+1)::ks) met↔bZ N (n.2.1::n.2.2::ks) (j::met):=by
 have pm:∀ (a b c:List Nat),(((j::(a++b))++c)++met).Perm ((a++(b++c))++(j::met)):=fun a b c=>by
  have:((j::(a++b))++c)++met=j::((a++(b++c))++met):=by simp
  rw[this]
  exact List.perm_middle.symm
 constructor
 ·rintro⟨Ts,h1,h2⟩
  cases Ts with
  | nil=>exact h1.elim
  | cons T Ts =>
   cases T with
   | lf b=>have h3:(j:Int)+1=lfv b:=h1.1;rcases yY b with e|e<;>omega
   | nd j' p l r =>
    obtain⟨⟨e1,m,m1,rfl,m3,m4⟩,h3⟩:=h1
    obtain rfl:j'=j:=by omega
    rw[hn]at m1
    obtain rfl:=Option.some.inj m1
    exact⟨l::r::Ts,⟨m3,m4,h3⟩,(pm _ _ _).symm.trans h2⟩
 ·rintro⟨Ts,h1,h2⟩
  match Ts,h1 with
  | [],h1=>exact h1.elim
  | [_],h1=>exact h1.2.elim
  | l::r::Ts,h1 =>
   exact⟨.nd j n.1 l r::Ts,⟨⟨rfl,n,hn,rfl,h1.1,h1.2.1⟩,h1.2.2⟩,(pm _ _ _).trans h2⟩
theorem a3s {N:List TN} {k:Int}:bZ N [k] []↔∃ T,Rep N T k∧T.ids.Perm (List.range N.length):=by
 constructor
 ·rintro⟨Ts,h1,h2⟩
  match Ts,h1 with
  | [],h1=>exact h1.elim
  | [T],h1=>exact⟨T,h1.1,by simpa [tX]using h2⟩
  | _::_::_,h1=>exact h1.2.elim
 ·rintro⟨T,h1,h2⟩
  exact⟨[T],⟨h1,trivial⟩,by simpa [tX]using h2⟩
def mtB (M:List Bool):List Nat:=(List.range M.length).filter fun j=>M.getD j false
theorem n5 {M:List Bool} {j:Nat}:j∈mtB M↔j<M.length∧M.getD j false=true:=by simp[mtB]
theorem a1g (M:List Bool):(mtB M).Nodup:=List.nodup_range.filter _
theorem a2u {a b:List Nat} (ha:a.Nodup) (hb:b.Nodup) (h:∀ x,x∈a↔x∈b):a.Perm b:=(List.perm_ext_iff_of_nodup ha hb).2 h
theorem a5w {M:List Bool} {j i:Nat} (hj:j<M.length):(M.set j true).getD i false=if i=j then true else M.getD i false:=by
 rw[List.getD_eq_getElem?_getD,List.getD_eq_getElem?_getD,List.getElem?_set]
 by_cases h:j=i
 ·subst h;simp[hj]
 ·rw[if_neg h,if_neg (fun e=>h e.symm)]
theorem a7m {M:List Bool} {j:Nat} (hj:j<M.length) (h:M.getD j false=false):(mtB (M.set j true)).Perm (j::mtB M):=by
 refine a2u (a1g _) (List.nodup_cons.2 ⟨fun hm=>?_,a1g _⟩) fun x=>?_
 ·have:=(n5.1 hm).2;rw[h]at this;contradiction
 ·rw[n5,List.length_set,a5w hj,List.mem_cons,n5]
  by_cases e:x=j
  ·subst e;simp[hj]
  ·simp[e]
theorem a7n (n:Nat):mtB (List.replicate n false)=[]:=by
 unfold mtB
 rw[List.filter_eq_nil_iff]
 intro a ha
 simp[List.getD_eq_getElem?_getD,List.getElem?_replicate]
 split<;>simp
theorem a3t {N:List TN} {M:List Bool} (hM:M.length=N.length):bZ N [] (mtB M)↔∀ b∈M,b=true:=by
 have h1:bZ N [] (mtB M)↔(mtB M).Perm (List.range N.length):=by
  constructor
  ·rintro⟨Ts,h1,h2⟩
   cases Ts with
   | nil=>simpa [tX]using h2
   | cons T Ts=>exact h1.elim
  ·exact fun h=>⟨[],trivial,by simpa [tX]using h⟩
 rw[h1]
 constructor
 ·intro h b hb
  obtain⟨i,hi,rfl⟩:=List.getElem_of_mem hb
  have:=(n5.1 (h.mem_iff.2 (List.mem_range.2 (hM▸hi)))).2
  rw[List.getD_eq_getElem?_getD,List.getElem?_eq_getElem hi]at this
  exact this
 ·intro h
  refine a2u (a1g _) List.nodup_range fun x=>?_
  rw[n5,List.mem_range,hM]
  refine⟨And.left,fun hx=>⟨hx,?_⟩⟩
  rw[List.getD_eq_getElem?_getD,List.getElem?_eq_getElem (hM▸hx)]
  exact h _ (List.getElem_mem _)
theorem yL {N:List TN} {k:Int} {ks:List Int} {met:List Nat}:bZ N (ks++[k]) met↔bZ N (k::ks) met:=uY List.perm_append_comm (.refl _)
theorem a3r {N:List TN} {a b:Int} {ks:List Int} {met:List Nat}:bZ N (ks++[a,b]) met↔bZ N (a::b::ks) met:=uY List.perm_append_comm (.refl _)
structure TrOK (N:List TN) (k:Int) (T:BT):Prop where
 rep:Rep N T k
 perm:T.ids.Perm (List.range N.length)
theorem TrOK.len {N:List TN} {k:Int} {T:BT} (h:TrOK N k T):T.ids.length=N.length:=by rw[h.perm.length_eq,List.length_range]
theorem b0y (T:BT):T.ht≤T.ids.length:=by
 induction T with
 | lf b=>exact Nat.zero_le _
 | nd j p l r hl hr=>simp only[BT.ht,BT.ids,List.length_cons,List.length_append];omega
theorem a6y {N:List TN} {T:BT}:∀ {k:Int},Rep N T k→∀ p∈T.pls,∃ n∈N,n.1=p:=by
 induction T with
 | lf b=>intro k _ p hp;simp[BT.pls]at hp
 | nd j q l r hl hr =>
  rintro k ⟨_,n,n1,rfl,n3,n4⟩ p hp
  simp only[BT.pls,List.mem_cons,List.mem_append]at hp
  rcases hp with rfl|hp|hp
  ·exact⟨n,List.mem_of_getElem? n1,rfl⟩
  ·exact hl n3 p hp
  ·exact hr n4 p hp
def i5 (k:Int):Int:=if k<1 then -1 - k else k
def fL (n:TN):TN:=(n.1,i5 n.2.1,i5 n.2.2)
def flN (n:TN):TN:=(aT n.1,n.2.2,n.2.1)
theorem b8x {N:List TN} {T:BT}:∀ {k:Int},Rep N T k→Rep (N.map fL) T.turn (i5 k):=by
 induction T with
 | lf b=>intro k h;rw[show k=lfv b from h];cases b<;>rfl
 | nd j p l r hl hr =>
  rintro k ⟨rfl,n,n1,rfl,n3,n4⟩
  refine⟨if_neg (by omega),fL n,by rw[List.getElem?_map,n1];rfl,rfl,hl n3,hr n4⟩
theorem b8y {N:List TN} {T:BT}:∀ {k:Int},Rep N T k→Rep (N.map flN) T.flip k:=by
 induction T with
 | lf b=>intro k h;exact h
 | nd j p l r hl hr =>
  rintro k ⟨rfl,n,n1,rfl,n3,n4⟩
  exact⟨rfl,flN n,by rw[List.getElem?_map,n1];rfl,rfl,hr n4,hl n3⟩
theorem c0q (T:BT):T.flip.ids.Perm T.ids:=by
 induction T with
 | lf b=>exact .refl _
 | nd j p l r hl hr=>exact ((hr.append hl).trans List.perm_append_comm).cons j
theorem TrOK.turn {N:List TN} {k:Int} {T:BT} (h:TrOK N k T):TrOK (N.map fL) (i5 k) T.turn:=⟨b8x h.rep,by rw[BT.turn_ids,List.length_map];exact h.perm⟩
theorem TrOK.flip {N:List TN} {k:Int} {T:BT} (h:TrOK N k T):TrOK (N.map flN) k T.flip:=⟨b8y h.rep,by rw[List.length_map];exact (c0q T).trans h.perm⟩
def BT.chkR:BT→aD→Bool
 | .lf _,_=>true
 | .nd _ p l r,c=>!(bY p c).1.isEmpty&&(!(bY p c).2.isEmpty&&(chkR l (bY p c).1&&chkR r (bY p c).2))
theorem c5s {T:BT}:∀ {c d:aD},CellOK c→CellOK d→RC c d→(T.chkR c=true↔T.chk d=true):=by
 induction T with
 | lf b=>intro c d _ hd _;simp[BT.chkR,BT.chk,hd.ne]
 | nd j p l r hl hr =>
  intro c d hc hd h
  obtain⟨r1,r2⟩:=h.spl hc hd p
  have o1:=a6v (b:=p) hc
  have o2:=zD (b:=p) hd
  rw[BT.chk_nd]
  simp only[BT.chkR,Bool.and_eq_true,Bool.not_eq_true',List.isEmpty_eq_false_iff]
  constructor
  ·rintro⟨n1,n2,h1,h2⟩
   have m1:(aO p d).1≠[]:=fun e=>n1 (r1.nil_iff.2 e)
   have m2:(aO p d).2≠[]:=fun e=>n2 (r2.nil_iff.2 e)
   exact⟨hd.ne,(hl (o1.1.elim (fun e=>absurd e n1) id) (o2.1.elim (fun e=>absurd e m1) id) r1).1 h1,(hr (o1.2.elim (fun e=>absurd e n2) id) (o2.2.elim (fun e=>absurd e m2) id) r2).1 h2⟩
  ·rintro⟨_,h1,h2⟩
   have m1:=BT.chk_ne h1
   have m2:=BT.chk_ne h2
   have n1:(bY p c).1≠[]:=fun e=>m1 (r1.nil_iff.1 e)
   have n2:(bY p c).2≠[]:=fun e=>m2 (r2.nil_iff.1 e)
   exact⟨n1,n2,(hl (o1.1.elim (fun e=>absurd e n1) id) (o2.1.elim (fun e=>absurd e m1) id) r1).2 h1,(hr (o1.2.elim (fun e=>absurd e n2) id) (o2.2.elim (fun e=>absurd e m2) id) r2).2 h2⟩
end Go.Sx
