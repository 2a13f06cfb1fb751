import Derived.Test.YtjlfgmhmalbiiaaGreatDoorW36
set_option linter.all false
set_option maxHeartbeats 8000000
open Array renaming getD_eq_getD_getElem? → Ac, size_setIfInBounds → Ak
open List renaming mem_cons → Ab, mem_map → Ae, map_cons → Ag, getD_eq_getElem?_getD → Aj, length_map → Am, length_pos_iff → An, all_eq_true → Ao
open Nat renaming lt_of_lt_of_le → Aa, not_lt → Ad, reduceAdd → Ah, le_refl → Ai, le_trans → Al, lt_irrefl → Ap
open Option renaming some → Af
namespace Go.Sx
set_option linter.unusedVariables false
set_option linter.unusedSimpArgs false
def rK:List Nat→List AV→List (Nat × AV)→List (Nat × AV)
 | p::ps,x::xs,t=>rK ps xs ((p,x)::t)
 | _,_,t=>t
theorem b4n (ts:List AV) (k:Nat):look (aD 0 ts) k=ts.getD k .any:=by
 rw[a3a]
 by_cases h:k<ts.length
 ·rw[if_pos ⟨Nat.zero_le _,by omega⟩];simp
 ·rw[if_neg (fun q=>h (by omega))]
  rw[Aj,List.getElem?_eq_none (by omega)];rfl
theorem b9w {g : Gh} : ∀ (ps : List Nat) (xs : List AV) (vs : List Value) (t : List (Nat × AV)) (tm : Array Value), ps.length = xs.length → (∀ p ∈ ps, p < tm.size) → RelL g xs vs → (∀ k, Rel g (look t k) (tm.getD k undef)) →
  ∀ k,Rel g (look (rK ps xs t) k) (((ps.zip vs).foldl (fun tm (p,v)=>tm.setIfInBounds p v) tm).getD k undef)∧((ps.zip vs).foldl (fun tm (p,v)=>tm.setIfInBounds p v) tm).size=tm.size:=by
 intro ps
 induction ps with
 | nil=>intro xs vs t tm _ _ _ h k;exact⟨by cases xs<;>exact h k,by simp⟩
 | cons p ps ih =>
  intro xs vs t tm hl hp hr h k
  cases xs with
  | nil=>simp at hl
  | cons x xs =>
   cases vs with
   | nil=>simp[RelL]at hr
   | cons v vs =>
    have h0:=hr.2 0 (by simp) (by simp)
    have hr':RelL g xs vs:=⟨by simpa using hr.1,fun i h1 h2=>hr.2 (i+1) (by simpa using h1) (by simpa using h2)⟩
    have hlt:p<tm.size:=hp p (by simp)
    simp only[rK,List.zip_cons_cons,List.foldl_cons]
    have:=ih xs vs ((p,x)::t) (tm.setIfInBounds p v) (by simpa using hl) (fun q hq=>by rw[Ak];exact hp q (by simp[hq])) hr' (fun k=>?_) k
    ·rw[Ak]at this;exact this
    ·simp only[look]
     by_cases hk:p=k
     ·subst hk
      rw[if_pos rfl,Ac,Array.getElem?_setIfInBounds_self_of_lt hlt]
      exact h0
     ·rw[if_neg hk,Ac,Array.getElem?_setIfInBounds_ne hk,← Ac]
      exact h k
def Cx.at (c:Cx) (g:Gh) (ob:Nat→AV):Cx:={ c with w0:=g.w,fz0:=g.fz,W0:=fun b=>∃ l,aE g l (ob l)=some b }
theorem x8 {c:Cx} {g:Gh} {ob:Nat→AV} (h:GOk c g ob):GOk (c.at g ob) g ob :=
 ⟨rfl,Tp.rfl,rfl,Ai _,fun _ _ _=>rfl,fun b hb=>hb,fun b hb=>.inl hb,h.fzx,h.obj,fun l b hb=>⟨.inl ⟨l,hb⟩,(h.own l b hb).2⟩,h.dis⟩
theorem xC {c:Cx} {g:Gh} {ob:Nat→AV} (h:GOk c g ob) {g':Gh} {ob':Nat→AV} (k:GOk (c.at g ob) g' ob'):GOk c g' ob':=by
 refine⟨k.os.trans h.os,k.tape.trans h.tape,k.output.trans h.output,Al h.size k.size,fun b hb hw=>?_,fun b hb=>k.fzo b (h.fzo b hb),fun b hb=>?_,k.fzx,k.obj,fun l b hb=>⟨?_,(k.own l b hb).2⟩,k.dis⟩
 ·refine (k.old b (Aa hb h.size) ?_).trans (h.old b hb hw)
  rintro⟨l,hl⟩
  rcases (h.own l b hl).1 with q|q
  ·exact hw q
  ·omega
 ·rcases k.fzn b hb with q|⟨l,q⟩|q
  ·exact h.fzn b q
  ·rcases (h.own l b q).1 with q|q
   ·exact .inr (.inl q)
   ·exact .inr (.inr q)
  ·exact .inr (.inr (Al h.size q))
 ·rcases (k.own l b hb).1 with⟨l',q⟩|q
  ·exact (h.own l' b q).1
  ·exact .inr (Al h.size q)
theorem GOk.putD {c : Cx} {g : Gh} {ob : Nat → AV} {D : Nat} (o : Obj) (hg : GOk c g ob) (h1 : c.W0 D ∨ c.w0.heap.size ≤ D) (h2 : ¬ g.fz D) (h3 : ∀ l b, aE g l (ob l) = some b → b ≠ D) :
  Ev g { g with w:=g.w.putObj D o }∧GOk c { g with w:=g.w.putObj D o } ob:=by
 have he:Ev g { g with w:=g.w.putObj D o }:=⟨fun b hb=>⟨hb,World.putObj_heap_other (fun e=>h2 (e▸hb))⟩,fun l hl=>⟨hl,rfl,Ai _,fun _=>rfl⟩⟩
 have hbk:∀ l x,aE { g with w:=g.w.putObj D o } l x=aE g l x:=fun l x=>by cases x<;>rfl
 refine⟨he,hg.os,hg.tape,hg.output,by simp only[World.putObj_size];exact hg.size,fun b hb hw=>?_,hg.fzo,hg.fzn,fun b hb=>by simp only[World.putObj_size];exact hg.fzx b hb,fun l=>?_,fun l b hb=>?_,fun l l' b hb hb'=>?_⟩
 ·have hne:b≠D:=by
   rintro rfl
   rcases h1 with h1|h1
   ·exact hw h1
   ·omega
  exact (World.putObj_heap_other hne).trans (hg.old b hb hw)
 ·exact (hg.obj l).keep he ⟨rfl,rfl⟩ fun b hb=>World.putObj_heap_other (h3 l b hb)
 ·rw[hbk]at hb;exact hg.own l b hb
 ·rw[hbk]at hb hb';exact hg.dis l l' b hb hb'
theorem GOk.cx {c c':Cx} {g:Gh} {ob:Nat→AV} (h:GOk c g ob) (h1:c'.w0=c.w0) (h2:c'.fz0=c.fz0) (h3:c'.W0=c.W0):GOk c' g ob :=
 ⟨by rw[h1];exact h.os,by rw[h1];exact h.tape,by rw[h1];exact h.output,by rw[h1];exact h.size,by rw[h1,h3];exact h.old,by rw[h2];exact h.fzo,by rw[h1,h2,h3];exact h.fzn,h.fzx,h.obj,by rw[h1,h3];exact h.own,h.dis⟩
theorem b9f {P : Program} {L i fn nt : Nat} {ps : List Nat} {asg body : Code} {ts : List AV} {args : List AV} {pre post : List (Nat × AV)}
  (hn:∀ p∈pre,p.1<8) (hi:i<8) (hip:i∉pre.map (·.1)) (hps:ps.length=args.length) (hpn:∀ p∈ps,p<nt)
  (hpost:∀ p∈post,p.1∈pre.map (·.1)∧InC (fun l=>l∈pre.map (·.1)) p.2)
  (h:AW P nt (fun _=>False) [.code asg,.stop (fun S=>AW P nt (fun _=>False) [.code body,.stop (fun S=>∀ p∈post,look S.o p.1=p.2)] S)] ⟨rK ps args (aD 0 ts),pre,8⟩) :
  XOK P (MY P L) args ((i,.lpo L fn nt ps asg body ts)::pre) (.lit (.bool true)) ((i,.lpo L fn nt ps asg body ts)::post):=by
 intro g vals hus hg hrel
 have hoi:upd aF ((i,.lpo L fn nt ps asg body ts)::pre) i=.lpo L fn nt ps asg body ts:=by simp[upd]
 have hob:∀ l,l≠i→upd aF ((i,.lpo L fn nt ps asg body ts)::pre) l=upd aF pre l:=fun l hl=>by
  simp only[upd];rw[if_neg (fun e=>hl e.symm)]
 have hpi:upd aF pre i=.any:=gU hip
 have hrec:=hg.obj i
 rw[hoi]at hrec
 obtain⟨hui,hL,tm,df,hrec,hsz,hts⟩:=hrec
 have hbi:=hg.own i L (by rw[hoi];simp only[aE,hL])
 have hdi:∀ l b,aE g l (upd aF pre l)=some b→b≠L:=fun l b hb e=>by
  subst e
  by_cases hl:l=i
  ·subst hl;rw[hpi]at hb;simp[aE]at hb
  ·exact hl (hg.dis l i b (by rw[hob l hl];exact hb) (by rw[hoi];simp only[aE,hL]))
 have hLlt:L<g.w.heap.size:=(Array.getElem?_eq_some_iff.1 hrec).1
 have hg1:GOk (bG P g (upd aF ((i,.lpo L fn nt ps asg body ts)::pre))) g (upd aF pre):=by
  refine⟨hg.os,hg.tape,hg.output,hg.size,hg.old,hg.fzo,hg.fzn,hg.fzx,fun l=>?_,fun l b hb=>?_,fun l l' b hb hb'=>?_⟩
  ·by_cases hl:l=i
   ·subst hl;rw[hpi];trivial
   ·have:=hg.obj l;rwa [hob l hl]at this
  ·by_cases hl:l=i
   ·subst hl;rw[hpi]at hb;simp[aE]at hb
   ·exact hg.own l b (by rw[hob l hl];exact hb)
  ·by_cases hl:l=i
   ·subst hl;rw[hpi]at hb;simp[aE]at hb
   ·by_cases hl':l'=i
    ·subst hl';rw[hpi]at hb';simp[aE]at hb'
    ·exact hg.dis l l' b (by rw[hob l hl];exact hb) (by rw[hob l' hl'];exact hb')
 let c0:Cx:={ bG P g (upd aF ((i,.lpo L fn nt ps asg body ts)::pre))with ro:=some L }
 have hg2:GOk c0 g (upd aF pre):=⟨hg1.os,hg1.tape,hg1.output,hg1.size,hg1.old,hg1.fzo,hg1.fzn,hg1.fzx,hg1.obj,hg1.own,hg1.dis⟩
 let c1:Cx:=c0.at g (upd aF pre)
 have hW1:¬ c1.W0 L:=by rintro⟨l,hl⟩;exact hdi l L hl rfl
 have hlnk:Lnk c1 g:=fun l hl=>by
  have hl':g.us l:=hl
  refine⟨?_,hl',rfl,Ai _,fun _=>rfl⟩
  rcases Ae.1 ((hus l).1 hl')with⟨p,hp,rfl⟩
  rcases Ab.1 hp with rfl|hp
  ·exact hi
  ·exact hn p hp
 have hu8:∀ l,g.us l→l<8:=fun l hl=>(hlnk l hl).1
 have hvl:=hrel.1
 have hy:=run_yield (P:=P) (args:=vals.toArray) hrec (by simp;omega)
 have hfold:∀ (q:List Nat) (v:List Value) (m:Array Value),((q.toArray.zip v.toArray).foldl (fun tmps (t,a)=>tmps.setIfInBounds t a) m)=(q.zip v).foldl (fun tm (p,v)=>tm.setIfInBounds p v) m:=fun q v m=>by
  rw[← Array.foldl_toList];simp
 simp only[hfold]at hy
 refine⟨fn,_,asg,body,hy,roundIn_of_wpIn (F:=Fence.wide) trivial ?_⟩
 have hT:=b9w (g:=g) ps args vals (aD 0 ts) tm hps (fun p hp=>by rw[hsz];exact hpn p hp) hrel (fun k=>by rw[b4n];exact hts k)
 generalize htm:(ps.zip vals).foldl (fun tm (p,v)=>tm.setIfInBounds p v) tm=tm1 at hT
 have hsim:Sim c1 nt ⟨rK ps args (aD 0 ts),pre,8⟩ { tmps:=tm1,defers:=[] } g.w:=by
  refine⟨g,rfl,?_,⟨trivial,fun k=>(hT k).1⟩,⟨(hT 0).2.trans hsz,rfl,fun l hl=>?_⟩,hu8,hlnk,Ai _⟩
  ·show GOk c1 g (look pre);rw[a5g];exact x8 hg2
  ·obtain rfl:L=l:=Af.inj hl
   exact⟨hLlt,hW1,_,hrec⟩
 refine wpIn_mono (h c1 _ _ rfl hsim) ?_
 intro e a1 w1 hq
 cases e with
 | normal =>
  obtain⟨c2,S1,hle,hJ,hs1⟩:=hq
  obtain⟨g1,rfl,k1,k2,k3,k4,k5,k6⟩:=hs1
  have b1:=hle.back _ _ k1
  have hr1:g1.w.heap[L]?=some (.loop { state:=.ready,pending:=none,fn:=fn,tmps:=tm,params:=ps.toArray,assign:=asg,body:=body,defers:=df }):=(b1.old L hLlt hW1).trans hrec
  have hfL:¬ g1.fz L:=fun hf=>by
   rcases b1.fzn L hf with q|q|q
   ·exact hbi.2 q
   ·exact hW1 q
   ·exact absurd hLlt (Ad.2 q)
  have hbL:∀ l b,aE g1 l (look S1.o l)=some b→b≠L:=fun l b hb e=>by
   subst e
   rcases (b1.own l b hb).1 with q|q
   ·exact hW1 q
   ·exact absurd hLlt (Ad.2 q)
  refine⟨_,run_beginRound hr1 rfl,?_⟩
  generalize hbz:(Obj.loop { state:=.busy,pending:=none,fn:=fn,tmps:=tm,params:=ps.toArray,assign:=asg,body:=body,defers:=df })=bz
  let cT:Cx:=bG P g (upd aF ((i,.lpo L fn nt ps asg body ts)::pre))
  have hWT:cT.W0 L:=⟨i,by rw[hoi];simp only[aE,hL]⟩
  have hgT:GOk cT g1 (look S1.o):=(xC hg2 b1).cx rfl rfl rfl
  obtain⟨e1,hgT1⟩:=hgT.putD bz (.inl hWT) hfL hbL
  let c3:Cx:={ cT.at { g1 with w:=g1.w.putObj L bz } (look S1.o)with ro:=some L,ds:=a1.defers }
  have hL2:L<(g1.w.putObj L bz).heap.size:=by rw[World.putObj_size];exact Aa hLlt b1.size
  have hb2:(g1.w.putObj L bz).heap[L]?=some bz:=World.putObj_heap_same (Aa hLlt b1.size)
  have hW3:¬ c3.W0 L:=by
   rintro⟨l,hl⟩
   refine hbL l L ?_ rfl
   rw[← hl];cases look S1.o l<;>rfl
  have hln3:Lnk c3 { g1 with w:=g1.w.putObj L bz }:=fun l hl=>(hle.lnk _ k5) l hl
  have hsim3:Sim c3 nt S1 a1 (g1.w.putObj L bz) :=
   ⟨{ g1 with w:=g1.w.putObj L bz },rfl,(x8 hgT1).cx rfl rfl rfl,k2.mono e1,⟨k3.1,rfl,fun l hl=>by
    obtain rfl:L=l:=Af.inj hl
    exact⟨hL2,hW3,_,hb2.trans (congrArg some hbz.symm)⟩⟩,k4,hln3,k6⟩
  refine wpIn_mono (hJ c3 a1 _ rfl hsim3) ?_
  intro e a3 w3 hq3
  cases e with
  | normal =>
   obtain⟨c4,S2,hle3,hpo,g3,rfl,m1,m2,m3,m4,m5,m6⟩:=hq3
   have d1:=hle3.back _ _ m1
   have hr3:g3.w.heap[L]?=some bz:=(d1.old L hL2 hW3).trans hb2
   have d2:GOk cT g3 (look S2.o):=xC hgT1 (d1.cx rfl rfl rfl)
   have hf3:¬ g3.fz L:=fun hf=>by
    rcases d1.fzn L hf with q|q|q
    ·exact hfL q
    ·exact hW3 q
    ·exact absurd hL2 (Ad.2 q)
   have hb3:∀ l b,aE g3 l (look S2.o l)=some b→b≠L:=fun l b hb e=>by
    subst e
    rcases (d1.own l b hb).1 with q|q
    ·exact hW3 q
    ·exact absurd hL2 (Ad.2 q)
   have hln4:=hle3.lnk _ m5
   rw[← hbz]at hr3
   refine⟨_,_,run_endRound none hr3,?_⟩
   simp only[Option.isNone_none,if_true]
   generalize hrz:(Obj.loop { state:=.ready,pending:=none,fn:=fn,tmps:=tm,params:=ps.toArray,assign:=asg,body:=body,defers:=df })=rz at *
   obtain⟨e4,d4⟩:=d2.putD rz (.inl hWT) hf3 hb3
   have hL4:(g3.w.putObj L rz).heap[L]?=some rz:=World.putObj_heap_same (Aa hLlt d2.size)
   let g4:Gh:={ g3 with w:=g3.w.putObj L rz }
   let g5:Gh:={ g4 with us:=g.us }
   have hfz:∀ b,g.fz b→g4.w.heap[b]?=g.w.heap[b]?:=fun b hb=>d4.old b (hg.fzx b hb) fun⟨l,hl⟩=>(hg.own l b hl).2 hb
   have hev:Ev g g5:=⟨fun b hb=>⟨d4.fzo b hb,hfz b hb⟩,fun l hl=>⟨hl,(hln4 l hl).2.2⟩⟩
   have hblk:∀ l x,aE g5 l x=aE g4 l x:=fun l x=>by cases x<;>rfl
   have hui5:g5.blk i=L:=((hln4 i hui).2.2.1).trans hL
   have hK:∀ l,l∈pre.map (·.1)→g4.us l→g5.us l∧g5.blk l=g4.blk l∧g5.des l=g4.des l∧g5.len l=g4.len l:=fun l hl hu=>⟨(hus l).2 (by simp only[Ag,Ab];exact .inr hl),rfl,rfl,rfl⟩
   have hoP:upd aF ((i,.lpo L fn nt ps asg body ts)::post) i=.lpo L fn nt ps asg body ts:=by simp[upd]
   have hoQ:∀ l,l≠i→upd aF ((i,.lpo L fn nt ps asg body ts)::post) l=upd aF post l:=fun l hl=>by
    simp only[upd];rw[if_neg (fun e=>hl e.symm)]
   have hobp:∀ l,upd aF post l=.any∨(l∈post.map (·.1)∧upd aF post l=look S2.o l):=fun l=>by
    by_cases hm:l∈post.map (·.1)
    ·exact .inr ⟨hm,(hpo _ (oK (ob:=aF) rfl hm)).symm⟩
    ·exact .inl (gU hm)
   have hbl:∀ l b,aE g5 l (upd aF post l)=some b→aE g4 l (look S2.o l)=some b:=fun l b hb=>by
    rcases hobp l with h|⟨_,h⟩
    ·rw[h]at hb;simp[aE]at hb
    ·rw[h,hblk]at hb;exact hb
   have hb4:∀ l b,aE g4 l (look S2.o l)=some b→b≠L:=fun l b hb=>hb3 l b (by rw[← hb];cases look S2.o l<;>rfl)
   refine⟨_,g5,rfl,rfl,hev,fun l=>Iff.rfl,⟨d4.os,d4.tape,d4.output,d4.size,d4.old,d4.fzo,d4.fzn,d4.fzx,fun l=>?_,fun l b hb=>?_,fun l l' b hb hb'=>?_⟩,.lit _⟩
   ·by_cases hl:l=i
    ·subst hl
     rw[hoP]
     exact⟨hui,hui5,tm,df,hL4.trans (by rw[hrz]),hsz,fun t=>(hts t).mono hev⟩
    ·rw[hoQ l hl]
     rcases hobp l with h|⟨hm,h⟩
     ·rw[h];trivial
     ·obtain⟨p,hp,rfl⟩:=Ae.1 hm
      have hp2:=hpost p hp
      have e:look S2.o p.1=p.2:=hpo p hp
      rw[h]
      exact sK (g:=g4) (g':=g5) (K:=fun l=>l∈pre.map (·.1)) rfl (fun b hb=>hb) hK hp2.1 (by rw[e];exact hp2.2) (d4.obj p.1)
   ·by_cases hl:l=i
    ·subst hl
     rw[hoP]at hb
     simp only[aE,Af.injEq]at hb
     obtain rfl:L=b:=hui5.symm.trans hb
     exact⟨.inl hWT,hf3⟩
    ·rw[hoQ l hl]at hb
     exact d4.own l b (hbl l b hb)
   ·by_cases hl:l=i
    ·by_cases hl':l'=i
     ·rw[hl,hl']
     ·subst hl
      rw[hoP]at hb
      rw[hoQ l' hl']at hb'
      simp only[aE,Af.injEq]at hb
      exact absurd (hb.symm.trans hui5) (hb4 l' b (hbl l' b hb'))
    ·by_cases hl':l'=i
     ·subst hl'
      rw[hoP]at hb'
      rw[hoQ l hl]at hb
      simp only[aE,Af.injEq]at hb'
      exact absurd (hb'.symm.trans hui5) (hb4 l b (hbl l b hb))
     ·rw[hoQ l hl]at hb
      rw[hoQ l' hl']at hb'
      exact d4.dis l l' b (hbl l b hb) (hbl l' b hb')
  | exit id=>obtain⟨_,_,_,h,_⟩:=hq3;exact h.elim
  | goto l=>obtain⟨_,_,_,h,_⟩:=hq3;exact h.elim
  | ret=>obtain⟨_,_,_,h,_⟩:=hq3;exact h.elim
  | panic ch=>exact hq3.elim
  | outgrown=>exact hq3.elim
 | exit id=>obtain⟨_,_,_,h,_⟩:=hq;exact h.elim
 | goto l=>obtain⟨_,_,_,h,_⟩:=hq;exact h.elim
 | ret=>obtain⟨_,_,_,h,_⟩:=hq;exact h.elim
 | panic ch=>exact hq.elim
 | outgrown=>exact hq.elim
theorem b2j {P : Program} {w : World} {l : Nat} {r : Loop} (fn : FuncId) (tmps : Array Value) (ps : Array Tmp) (assign body : Code) (h : w.heap[l]? = some (.loop r)) :
  (Instr.enterLoop fn tmps ps assign body (some l)).run P w=.ok (w.heap.size,[]) (w.alloc (.loop { state:=.ready,pending:=none,fn,tmps,params:=ps,assign,body,defers:=r.defers })):=by
 unfold Instr.enterLoop
 simp only[Sem.run_bind,run_getLoop h,run_newObj_alloc,Result.andThen,Sem.run_pure]
theorem GOk.push {c:Cx} {g:Gh} {ob:Nat→AV} (o:Obj) (hg:GOk c g ob):Ev g { g with w:=g.w.alloc o }∧GOk c { g with w:=g.w.alloc o } ob:=by
 have hold:∀ b,b<g.w.heap.size→(g.w.alloc o).heap[b]?=g.w.heap[b]?:=fun b hb=>Go.RowKit.Below.heap_alloc _ _ _ hb
 have he:Ev g { g with w:=g.w.alloc o }:=⟨fun b hb=>⟨hb,hold b (hg.fzx b hb)⟩,fun l hl=>⟨hl,rfl,Ai _,fun _=>rfl⟩⟩
 have hbk:∀ l x,aE { g with w:=g.w.alloc o } l x=aE g l x:=fun l x=>by cases x<;>rfl
 refine⟨he,hg.os,hg.tape,hg.output,by simp only[World.size_alloc];exact Nat.le_succ_of_le hg.size,fun b hb hw=>(hold b (Aa hb hg.size)).trans (hg.old b hb hw),hg.fzo,hg.fzn,fun b hb=>by simp only[World.size_alloc];exact Nat.lt_succ_of_lt (hg.fzx b hb),fun l=>?_,fun l b hb=>?_,fun l l' b hb hb'=>?_⟩
 ·exact (hg.obj l).keep he ⟨rfl,rfl⟩ fun b hb=>hold b ((hg.obj l).lt hb)
 ·rw[hbk]at hb;exact hg.own l b hb
 ·rw[hbk]at hb hb';exact hg.dis l l' b hb hb'
theorem a7r {c : Cx} {g : Gh} {ob : Nat → AV} (hg : GOk c g ob) (i : Nat) (hi : ¬ g.us i) {fn nt : Nat} {ps : List Nat} {asg body : Code} {ts : List AV} {tm : Array Value} (df : Nat) (hsz : tm.size = nt) (hts : ∀ t, Rel g (ts.getD t .any) (tm.getD t undef)) :
  ∃ g':Gh,g'.w=g.w.alloc (.loop { state:=.ready,pending:=none,fn:=fn,tmps:=tm,params:=ps.toArray,assign:=asg,body:=body,defers:=df })∧Ev g g'∧GOk c g' (upd ob [(i,.lpo g.w.heap.size fn nt ps asg body ts)])∧(∀ l,g'.us l→g.us l∨l=i)∧g'.fz=g.fz∧∀ l b,aE g' l (upd ob [(i,.lpo g.w.heap.size fn nt ps asg body ts)] l)=some b→b=g.w.heap.size∨aE g l (ob l)=some b:=by
 let o:Obj:=.loop { state:=.ready,pending:=none,fn:=fn,tmps:=tm,params:=ps.toArray,assign:=asg,body:=body,defers:=df }
 have hold:∀ b,b<g.w.heap.size→(g.w.alloc o).heap[b]?=g.w.heap[b]?:=fun b hb=>Go.RowKit.Below.heap_alloc _ _ _ hb
 let g':Gh:={ g with w:=g.w.alloc o,us:=fun l=>g.us l∨l=i,blk:=fun l=>if l=i then g.w.heap.size else g.blk l }
 have he:Ev g g':=⟨fun b hb=>⟨hb,hold b (hg.fzx b hb)⟩,fun l hl=>⟨.inl hl,if_neg (fun (e:l=i)=>hi (e▸hl)),Ai _,fun _=>rfl⟩⟩
 refine⟨g',rfl,he,?_,fun l hl=>hl,rfl,fun l b hb=>?_⟩
 case refine_2 =>
  by_cases e:i=l
  ·subst e
   left
   simp only[upd,if_true,aE,Af.injEq]at hb
   exact hb.symm.trans (if_pos rfl)
  ·right
   simp only[upd,if_neg e]at hb
   have e1:g'.blk l=g.blk l:=if_neg (fun h=>e h.symm)
   generalize ob l=x at hb ⊢
   cases x<;>simp only[aE]at hb ⊢<;>first|exact hb|(rw[← e1];exact hb)
 refine hg.turn he i _ rfl Tp.rfl rfl (by simp[g']) rfl (fun l hl=>⟨if_neg hl,rfl,rfl⟩) (fun b hb _=>hold b hb) ?_ ?_
 ·exact⟨.inr rfl,if_pos rfl,tm,df,World.alloc_heap_new g.w o,hsz,fun t=>(hts t).mono he⟩
 ·intro b hb
  right
  simp only[aE,Af.injEq]at hb
  rw[← hb]
  exact Nat.le_of_eq (if_pos rfl).symm
theorem c2p {g:Gh} {i:Nat} {x:AV} (h:ObjOk g i x) (hi:¬ g.us i):(∀ g':Gh,ObjOk g' i x)∧∀ g':Gh,aE g' i x=none:=by
 cases x<;>first|exact absurd h.1 hi|exact absurd h.1.1 hi|exact⟨fun _=>trivial,fun _=>rfl⟩
theorem b8f {P : Program} {nt : Nat} {R : AS → Prop} {k : List Itm} {S : AS} {fv : Operand} {ps : List Nat} {asg body : Code} {f : Nat} {caps : List AV} {pre post : List (Nat × AV)} (ts : List AV)
  (hf:fnT P f=true) (hfv:rdO (look S.t) fv=.clo f caps) (hts:∀ t,ts.getD t .any=.any∨ts.getD t .any=look S.t t)
  (hc:∀ L fn,CallOK P f (.lit (.func (.yield L) #[] #[])::caps) ((S.nx,.lpo L fn nt ps asg body ts)::pre) (.tup []) ((S.nx,.lpo L fn nt ps asg body ts)::post))
  (hob:∀ p∈pre,look S.o p.1=p.2) (hin:∀ a∈caps,In (fun l=>l∈pre.map (·.1)) a) (hinc:∀ p∈pre,InC (fun l=>l∈pre.map (·.1)) p.2) (htn:∀ a∈ts,In (fun l=>l∈pre.map (·.1)) a)
  (hnd:(pre.map (·.1)).Nodup) (hnx:∀ p∈pre,p.1<S.nx) (hpost:∀ p∈post,p.1∈pre.map (·.1)∧InC (fun l=>l∈pre.map (·.1)) p.2) (hall:(pre.map (·.1)).all (fun l=>(post.map (·.1)).contains l)=true) (hlv:∀ p∈pre,p.2.live=true)
  (h:AW P nt R k { t:=S.t,o:=post++S.o,nx:=S.nx+1 }):AW P nt R (.code (.rangeFunc fv ps.toArray asg body)::k) S:=by
 intro c a w hP hs
 subst hP
 obtain⟨g,rfl,hg,ht,hsz,hu,hln,h8⟩:=hs
 have hi0:¬ g.us S.nx:=fun h=>by have:=hu _ h;omega
 have hipre:S.nx∉pre.map (·.1):=fun hm=>by
  obtain⟨p,hp,e⟩:=Ae.1 hm
  have:=hnx p hp;omega
 have hipost:S.nx∉post.map (·.1):=fun hm=>by
  obtain⟨p,hp,e⟩:=Ae.1 hm
  exact hipre (e▸(hpost p hp).1)
 refine wpIn_rangeFunc ?_
 intro fn _
 have htsr:∀ (g':Gh),Ev g g'→∀ t,Rel g' (ts.getD t .any) (a.tmps.getD t undef):=fun g' he t=>by
  rcases hts t with q|q
  ·rw[q];exact .any _
  ·rw[q];exact (ht.2 t).mono he
 obtain⟨L, Ds, g1, hent, he1, hg1, hu1, hDn, hD'⟩ : ∃ L Ds g1, (Instr.enterLoop fn a.tmps ps.toArray asg body c.ro).run c.P g.w = .ok (L, List.map mark Ds) g1.w ∧ Ev g g1 ∧ GOk c g1 (upd (look S.o) [(S.nx, .lpo L fn nt ps asg body ts)]) ∧ (∀ l, g1.us l → g.us l ∨ l = S.nx) ∧ Ds.Nodup ∧
   ∀ D∈Ds,c.w0.heap.size≤D∧D<g1.w.heap.size∧¬ g1.fz D∧(∀ l b,aE g1 l (upd (look S.o) [(S.nx,.lpo L fn nt ps asg body ts)] l)=some b→b≠D)∧g1.w.heap[D]?=some (.deferred (some [])):=by
  cases hro:c.ro with
  | none =>
   obtain⟨p1,p2⟩:=hg.push (.deferred (some []))
   obtain⟨g2,q1,q2,q3,q4,q5,q6⟩:=a7r p2 S.nx hi0 (fn:=fn) (ps:=ps) (asg:=asg) (body:=body) g.w.heap.size hsz.1 (htsr _ p1)
   have e0:(g.w.alloc (.deferred (some []))).heap.size=g.w.heap.size+1:=World.size_alloc _ _
   simp only[e0]at q3 q6
   refine⟨g.w.heap.size+1,[g.w.heap.size],g2,?_,p1.trans q2,q3,q4,by simp,fun D hD=>?_⟩
   ·rw[run_enterLoop_outer,q1];rfl
   ·obtain rfl:=List.mem_singleton.1 hD
    have hlt:g.w.heap.size<(g.w.alloc (.deferred (some []))).heap.size:=by rw[e0];exact Nat.lt_succ_self _
    refine⟨hg.size,?_,?_,fun l b hb e=>?_,?_⟩
    ·rw[q1];simp;omega
    ·intro hfz
     rw[q5]at hfz
     exact absurd (hg.fzx _ hfz) (Ap _)
    ·subst e
     rcases q6 l _ hb with x|x
     ·omega
     ·have y:aE g l (look S.o l)=some g.w.heap.size:=by rw[← x];cases look S.o l<;>rfl
      exact absurd ((hg.obj l).lt y) (Ap _)
    ·rw[q1];exact (Go.RowKit.Below.heap_alloc _ _ _ hlt).trans (World.alloc_heap_new _ _)
  | some l0 =>
   obtain⟨r1,r2,r0,r3⟩:=hsz.2.2 l0 hro
   obtain⟨g2,q1,q2,q3,q4,q5,q6⟩:=a7r hg S.nx hi0 (fn:=fn) (ps:=ps) (asg:=asg) (body:=body) r0.defers hsz.1 (htsr _ (Ev.refl g))
   exact⟨g.w.heap.size,[],g2,by rw[b2j _ _ _ _ _ ((hg.old l0 r1 r2).trans r3),q1];rfl,q2,q3,q4,List.Pairwise.nil,fun D hD=>by simp at hD⟩
 let ob1:Nat→AV:=upd (look S.o) [(S.nx,.lpo L fn nt ps asg body ts)]
 let c1:Cx:=c.at g1 ob1
 have hg1c:GOk c1 g1 ob1:=x8 hg1
 have hoi:ob1 S.nx=.lpo L fn nt ps asg body ts:=by simp[ob1,upd]
 have hoj:∀ l,l≠S.nx→ob1 l=look S.o l:=fun l hl=>by simp only[ob1,upd];rw[if_neg (fun e=>hl e.symm)]
 have hrec:=hg1.obj S.nx
 rw[show upd (look S.o) [(S.nx,.lpo L fn nt ps asg body ts)] S.nx=_ from hoi]at hrec
 obtain⟨hui1,hL1,tm,df,hrec,_,_⟩:=hrec
 obtain⟨cs,hev,hcs⟩:∃ cs:Array Value,a.eval fv=.func (.func f) #[] cs∧RelL g caps cs.toList:=by
  have h1:=a0e ht fv
  rw[hfv]at h1
  generalize a.eval fv=v at h1
  cases h1 with
  | clo _ _ cs hs hh=>exact⟨cs,rfl,by simpa using hs,fun i i1 i2=>by simpa using hh i i1 (by simpa using i2)⟩
 have hrel:RelL g1 (.lit (.func (.yield L) #[] #[])::caps) (.func (.yield L) #[] #[]::cs.toList):=RelL.cons (.lit _) (hcs.mono he1)
 refine⟨L,Ds.map mark,g1.w,{ target:=.fn (.func f) cs,args:=#[.func (.yield L) #[] #[]] },g1.w,f,(.func (.yield L) #[] #[]::cs.toList).toArray,g1.w,hent,?_,fun _ _=>trivial,?_,fun h=>by simp[Fw,Fence.wide]at h,?_⟩
 ·simp only[resolve,hev]
  simp[go_sem]
 ·have:=a2p hf (#[.func (.yield L) #[] #[]]++cs) g1.w
  simp[invoke,this]
 refine a8q ?_
 have hmem:∀ l,l∈((S.nx,AV.lpo L fn nt ps asg body ts)::pre).map (·.1)→g1.us l:=fun l hl=>by
  simp only[Ag,Ab]at hl
  rcases hl with rfl|hl
  ·exact hui1
  ·obtain⟨p,hp,rfl⟩:=Ae.1 hl
   have h1:=hg1.obj p.1
   have hne:p.1≠S.nx:=by have:=hnx p hp;omega
   rw[show upd (look S.o) [(S.nx,.lpo L fn nt ps asg body ts)] p.1=_ from hoj _ hne,hob p hp]at h1
   have h2:=hlv p hp
   generalize p.2=x at h1 h2
   cases x<;>first|exact h1.1|(simp[AV.live]at h2)
 have hmono:∀ l,l∈pre.map (·.1)→l∈((S.nx,AV.lpo L fn nt ps asg body ts)::pre).map (·.1):=fun l hl=>by simp only[Ag,Ab];exact .inr hl
 have hrun := zH (c := c1) (M := fun vals w R => Calls c.P f vals.toArray w R) (fun h k => h.mono k) (ob := ob1) (hc L fn) (fun p hp => by
   rcases Ab.1 hp with rfl|hp
   ·exact hoi
   ·rw[hoj _ (by have:=hnx p hp;omega)];exact hob p hp)
  (fun x hx=>by
   rcases Ab.1 hx with rfl|hx
   ·exact .lit _
   ·exact (hin x hx).mono hmono)
  (fun p hp=>by
   rcases Ab.1 hp with rfl|hp
   ·exact fun x hx=>(htn x hx).mono hmono
   ·exact (hinc p hp).mono hmono)
  (by simp only[Ag,List.nodup_cons];exact⟨hipre,hnd⟩) (.tup _ (fun x hx=>by simp at hx))
  (fun p hp=>by
   rcases Ab.1 hp with rfl|hp
   ·exact⟨by simp,fun x hx=>(htn x hx).mono hmono⟩
   ·exact⟨hmono _ (hpost p hp).1,(hpost p hp).2.mono hmono⟩)
  (by
   simp only[Ag,List.all_cons,List.contains_cons,BEq.rfl,Bool.true_or,Bool.true_and]
   refine Ao.2 fun l hl=>?_
   have:=Ao.1 hall l hl
   simp only[this,Bool.or_true])
  ob1 (fun _ _=>rfl) g1 _ hg1c hrel hmem
 refine hrun.mono ?_
 rintro e w' ⟨v,g2,rfl,rfl,he2,hg2,_,hu2⟩
 have hrec2:=hg2.obj S.nx
 rw[show upd ob1 ((S.nx,AV.lpo L fn nt ps asg body ts)::post) S.nx=.lpo L fn nt ps asg body ts by simp[upd]]at hrec2
 obtain⟨hui2,hL2,tm2,df2,hrec2,_,_⟩:=hrec2
 have hown2:=hg2.own S.nx L (by rw[show upd ob1 ((S.nx,AV.lpo L fn nt ps asg body ts)::post) S.nx=.lpo L fn nt ps asg body ts by simp[upd]];simp only[aE,hL2])
 have hdead:=c2p (hg.obj S.nx) hi0
 have hob2:∀ l,l≠S.nx→upd ob1 ((S.nx,AV.lpo L fn nt ps asg body ts)::post) l=look (post++S.o) l:=fun l hl=>by
  rw[sI]
  simp only[upd]
  rw[if_neg (fun e=>hl e.symm)]
  by_cases hm:l∈post.map (·.1)
  ·exact (tN l hm).trans (tN l hm).symm
  ·rw[gU hm,gU hm,hoj l hl]
 have hoi2:look (post++S.o) S.nx=look S.o S.nx:=by rw[sI,gU hipost]
 have hbl2:∀ l b,aE g2 l (look (post++S.o) l)=some b→b≠L∧aE g2 l (upd ob1 ((S.nx,AV.lpo L fn nt ps asg body ts)::post) l)=some b:=fun l b hb=>by
  by_cases hl:l=S.nx
  ·subst hl;rw[hoi2,hdead.2]at hb;contradiction
  ·rw[← hob2 l hl]at hb
   refine⟨fun e=>?_,hb⟩
   rw[e]at hb
   exact hl (hg2.dis l S.nx _ hb (by rw[show upd ob1 ((S.nx,AV.lpo L fn nt ps asg body ts)::post) S.nx=.lpo L fn nt ps asg body ts by simp[upd]];simp only[aE,hL2]))
 have hg3:GOk c1 g2 (look (post++S.o)):=by
  refine⟨hg2.os,hg2.tape,hg2.output,hg2.size,hg2.old,hg2.fzo,hg2.fzn,hg2.fzx,fun l=>?_,fun l b hb=>hg2.own l b (hbl2 l b hb).2,fun l l' b hb hb'=>hg2.dis l l' b (hbl2 l b hb).2 (hbl2 l' b hb').2⟩
  by_cases hl:l=S.nx
  ·subst hl;rw[hoi2];exact hdead.1 g2
  ·rw[← hob2 l hl];exact hg2.obj l
 obtain⟨e3,hg4⟩:=hg3.putD (.loop { state:=.exhausted,pending:=none,fn:=fn,tmps:=tm2,params:=ps.toArray,assign:=asg,body:=body,defers:=df2 }) hown2.1 hown2.2 (fun l b hb=>(hbl2 l b hb).1)
 refine⟨none,_,run_endLoop hrec2 (by simp),?_⟩
 generalize hw4:g2.w.putObj L (.loop { state:=.exhausted,pending:=none,fn:=fn,tmps:=tm2,params:=ps.toArray,assign:=asg,body:=body,defers:=df2 })=w4 at e3 hg4
 have hs4:w4.heap.size=g2.w.heap.size:=by rw[← hw4,World.putObj_size]
 have hput:∀ b,b≠L→w4.heap[b]?=g2.w.heap[b]?:=fun b hb=>by rw[← hw4];exact World.putObj_heap_other hb
 have hgc:GOk c { g2 with w:=w4 } (look (post++S.o)):=xC hg1 hg4
 have hDL:∀ D∈Ds,D≠L:=fun D hD e=>by
  obtain⟨_,_,_,d4,_⟩:=hD' D hD
  exact d4 S.nx L (by rw[show upd (look S.o) [(S.nx,.lpo L fn nt ps asg body ts)] S.nx=_ from hoi];simp only[aE,hL1]) e.symm
 have hDW:∀ D∈Ds,¬ c1.W0 D:=fun D hD=>by
  rintro⟨l,hl⟩
  obtain⟨_,_,_,d4,_⟩:=hD' D hD
  exact d4 l D hl rfl
 have hD4:∀ D∈Ds,D<w4.heap.size∧w4.heap[D]?=some (.deferred (some []))∧¬ g2.fz D∧∀ l b,aE { g2 with w:=w4 } l (look (post++S.o) l)=some b→b≠D:=fun D hD=>by
  obtain⟨d1,d2,d3,d4,d5⟩:=hD' D hD
  refine⟨by rw[hs4];exact Aa d2 hg2.size,?_,?_,fun l b hb e=>?_⟩
  ·rw[hput D (hDL D hD)];exact (hg2.old D d2 (hDW D hD)).trans d5
  ·intro hf
   rcases hg2.fzn D hf with x|x|x
   ·exact d3 x
   ·exact hDW D hD x
   ·exact absurd d2 (Ad.2 x)
  ·subst e
   rcases (hg4.own l b hb).1 with x|x
   ·exact hDW b hD x
   ·exact absurd d2 (Ad.2 x)
 let c2:Cx:={ c.at { g2 with w:=w4 } (look (post++S.o))with ds:=Ds.map mark++c.ds }
 have hg5:GOk c2 { g2 with w:=w4 } (look (post++S.o)):=(x8 hgc).cx rfl rfl rfl
 have hle:Le c c2:=by
  refine⟨rfl,rfl,hgc.size,fun g' ob' q=>xC hgc (q.cx rfl rfl rfl),fun g' q=>q,Ds,rfl,hDn,fun D hD=>?_⟩
  obtain⟨m1,m2,m3,m4⟩:=hD4 D hD
  have hW2:¬ c2.W0 D:=by rintro⟨l,hl⟩;exact m4 l D hl rfl
  refine⟨m1,(hD' D hD).1,fun g' ob' q=>⟨(hD' D hD).1,fun hf=>?_,fun l b hb e=>?_,(q.old D m1 hW2).trans m2⟩⟩
  ·rcases q.fzn D hf with x|x|x
   ·exact m3 x
   ·exact hW2 x
   ·exact absurd m1 (Ad.2 x)
  ·subst e
   rcases (q.own l b hb).1 with x|x
   ·exact hW2 x
   ·exact absurd m1 (Ad.2 x)
 refine⟨c2,_,hle,h,{ g2 with w:=w4 },rfl,hg5,ht.mono ((he1.trans he2).trans e3),⟨hsz.1,congrArg _ hsz.2.1,fun l hl=>?_⟩,fun l hl=>?_,hln.mono ((he1.trans he2).trans e3),by simp only;omega⟩
 ·obtain⟨r1,r2,r0,r3⟩:=hsz.2.2 l hl
  refine⟨Aa r1 hgc.size,?_,r0,(hgc.old l r1 r2).trans r3⟩
  rintro⟨l',hl'⟩
  rcases (hgc.own l' l hl').1 with x|x
  ·exact r2 x
  ·exact absurd r1 (Ad.2 x)
 ·rcases hu1 l (hu2 l hl)with x|x
  ·have:=hu l x;simp only;omega
  ·simp only;omega
theorem b3q {P : Program} {L : Nat} {args : List AV} {ob : Nat → AV} {E : Eff → Prop} (pre : List (Nat × AV)) (r : AV) (post : List (Nat × AV)) (hc : XOK P (MY P L) args pre r post) (hob : ∀ p ∈ pre, ob p.1 = p.2) (hin : ∀ x ∈ args, In (fun k => k ∈ pre.map (·.1)) x)
  (ha:∀ p∈pre,InC (fun k=>k∈pre.map (·.1)) p.2) (hnd:(pre.map (·.1)).Nodup) (hr:In (fun _=>False) r) (hb:∀ p∈post,p.1∈pre.map (·.1)∧InC (fun k=>k∈pre.map (·.1)) p.2) (hall:(pre.map (·.1)).all (fun l=>(post.map (·.1)).contains l)=true)
  (hl:∀ p∈pre,p.2.live=true) (h:E ⟨r,post,pre.map (·.1)⟩):callY P L args ob fun e=>(∀ l∈e.rd,(ob l).live=true)∧E e:=by
 refine⟨pre,r,post,hc,hob,hin,ha,hnd,hr,hb,hall,?_,h⟩
 intro k hk
 obtain⟨p,hp,rfl⟩:=Ae.1 hk
 rw[hob p hp]
 exact hl p hp
@[congr] theorem callY_cg (P:Program) (L:Nat) (x:List AV) (ob:Nat→AV) (E:Eff→Prop) (x':List AV) (h_x:x=x'):callY P L x ob E=callY P L x' ob E:=by subst h_x;rfl
end Go.Sx
namespace Go.Proofs.Vx
open Go Go.Sx Go.Proofs Tryz
attribute [local irreducible] fnT CallOK CallFr AW aI callV aL aJ aH aK gcaseP hid
theorem b5j:agT prog 64=some true∧plT prog 64=some [(0,1),(1,1)]∧szT prog 64=some 2∧zeT prog 64=some [.lit (.int .i64 0),.lit (.slice none 0 0)]:=by and_intros<;>kernel_rfl
attribute [go_sem] b5j
abbrev eN (n:TN):List AV:=[.lit (.bool (Zn n.1.a)),.lit (.string (Zm n.1.a)),.lit (.bool (Zn n.1.b)),.lit (.string (Zm n.1.b)),.lit (.bool (Zn n.1.c)),.lit (.string (Zm n.1.c)),.lit (.bool (Zn n.1.d)),.lit (.string (Zm n.1.d)),.lit (.int .i64 n.2.1),.lit (.int .i64 n.2.2)]
def eTS (N:List TN):List (List AV):=N.map eN
theorem wM (N:List TN) (i:Nat) (h:i<N.length):(eTS N).getD i []=eN N[i]:=by
 unfold eTS
 rw[Aj,List.getElem?_map,List.getElem?_eq_getElem h];rfl
theorem uF {K:Nat→Prop} (N:List TN):(∀ e∈eTS N,∀ c∈e,In K c)=True:=eq_true fun e he c hc=>by
 obtain⟨n,_,rfl⟩:=Ae.1 he
 simp only[eN,Ab,List.not_mem_nil,or_false]at hc
 rcases hc with rfl|rfl|rfl|rfl|rfl|rfl|rfl|rfl|rfl|rfl<;>exact .lit _
theorem p9 (N:List TN):(eTS N).length=N.length:=Am _
abbrev eTr (k:Int) (N:List TN):List AV:=[.lit (.int .i64 k),.sl (eTS N)]
theorem rQ {K:Nat→Prop} (k:Int) (N:List TN):In K (.agg (eTr k N)):=.agg _ (by
 intro c hc
 simp only[zM,or_false]at hc
 rcases hc with rfl|rfl
 ·exact .lit _
 ·exact .sl _ (of_eq_true (uF N)))
theorem a7g {g:Gh} {k:Int} {v:Value} (h:Rel g (.agg [.lit (.int .i64 k),.lit (.slice none 0 0)]) v):Rel g (.agg (eTr k [])) v:=by
 cases h with
 | agg _ vs hs ho hr =>
  refine .agg _ _ hs ho fun i h1 h2=>?_
  match i,h1 with
  | 0,_=>exact hr 0 (by simp) h2
  | 1,_ =>
   have:=hr 1 (by simp) h2
   simp only[List.getElem_cons_succ,List.getElem_cons_zero]at this ⊢
   generalize vs[1]=x at this
   cases this
   exact .slnil
attribute [go_sem] uF
theorem c103 (c:aC) (hn:c.length≤1048576):CallOK prog 103 [.agg [.sl (eS c)]] [] (.lit (.bool c.isEmpty)) []:=by
 refine zs func103 7 [.tmp 2] results103 ?_
 simp only[aD,Ah]
 have hml:maxLen=9223372036854775807:=rfl
 have hl:(eS c).length=c.length:=Am _
 by_cases h0:c=[]
 ·have k0:((c.length:Int)=0)=True:=eq_true (by subst h0;rfl)
  rw[show c.isEmpty=true by subst h0;rfl]
  clear h0
  exact z1
 ·have k0:((c.length:Int)=0)=False:=eq_false (by have:=An.2 h0;omega)
  rw[show c.isEmpty=false by simpa using h0]
  clear h0
  exact z1
theorem c110 (c:aC) (hn:c.length≤1048576):CallOK prog 110 [.agg [.sl (eS c)]] [] (.lit (.bool c.isEmpty)) []:=by
 refine zs func110 7 [.tmp 2] results110 ?_
 simp only[aD,Ah]
 have hml:maxLen=9223372036854775807:=rfl
 have hl:(eS c).length=c.length:=Am _
 by_cases h0:c=[]
 ·have k0:((c.length:Int)=0)=True:=eq_true (by subst h0;rfl)
  rw[show c.isEmpty=true by subst h0;rfl]
  clear h0
  exact z1
 ·have k0:((c.length:Int)=0)=False:=eq_false (by have:=An.2 h0;omega)
  rw[show c.isEmpty=false by simpa using h0]
  clear h0
  exact z1
theorem c49x  : CallOK prog 49 [] [] (.agg [.lit (.int .i64 (-1)),.lit (.slice none 0 0)]) []:=by
 refine zs func49 2 [.cell 0 64] results49 ?_
 simp only[aD,Ah]
 exact z1
theorem c49:CallOK prog 49 [] [] (.agg (eTr (-1) [])) []:=c49x.wk fun g v=>a7g
theorem c99 (x y z:Int) (hx:-1000≤x∧x≤1000) (hy:-1000≤y∧y≤1000) (hz:-1000≤z∧z≤1000):CallOK prog 99 [.lit (.int .i64 x),.lit (.int .i64 y),.lit (.int .i64 z)] [] (.agg (eP ⟨x,y,z,1⟩)) []:=by
 refine zs func99 15 [.cell 6 51] results99 ?_
 simp only[aD,Ah]
 have cx:=rX x hx
 have cy:=rX y hy
 have cz:=rX z hz
 simp only[eP,e4]
 have zh0:=uT
 exact z1
theorem d0g (a:Int):[AV.lit (.bool false),AV.lit (.string (Zm a))]=eZ (a.natAbs:Int):=by
 unfold eZ Zm Zn
 have:¬ ((a.natAbs:Int)<0):=by omega
 simp[this]
def edS (w:Int):List Int→Int
 | []=>1
 | a::r=>if 1000*w<a.natAbs then -1 else if (a.natAbs:Int)=1000*w then (if edS w r=-1 then -1 else 0)else edS w r
theorem b7n (w:Int) (l:List Int):edS w l=-1∨edS w l=0∨edS w l=1:=by
 induction l with
 | nil=>exact .inr (.inr rfl)
 | cons a r ih =>
  unfold edS
  split
  ·exact .inl rfl
  ·split
   ·split
    ·exact .inl rfl
    ·exact .inr (.inl rfl)
   ·exact ih
theorem a8l (x:Pt):cD x=edS x.w [x.x,x.y,x.z]:=by
 unfold cD
 simp only[edS]
 have hn:∀ a:Int,¬ (1000*x.w<(a.natAbs:Int)∧(a.natAbs:Int)=1000*x.w):=fun a=>by omega
 by_cases a1:1000*x.w<(x.x.natAbs:Int)<;>by_cases a2:1000*x.w<(x.y.natAbs:Int)<;>by_cases a3:1000*x.w<(x.z.natAbs:Int)<;>by_cases e1:(x.x.natAbs:Int)=1000*x.w<;>by_cases e2:(x.y.natAbs:Int)=1000*x.w<;>by_cases e3:(x.z.natAbs:Int)=1000*x.w<;>first|(exfalso;omega)|simp[a1,a2,a3,e1,e2,e3]
theorem c106 (x:Pt) (hb:BPt 268435456 x):CallOK prog 106 [.agg (eP x)] [] (.lit (.int .i64 (cD x))) []:=by
 refine zs func106 32 [.tmp 2] results106 ?_
 simp only[aD,Ah]
 have hml:maxLen=9223372036854775807:=rfl
 have hw:=hb.out.d
 have h1000:(Zm 1000).size≤2:=(cO _ _).2 (by decide)
 have cm:=aX 1000 x.w (by omega) (by omega)
 have hm:(Zm (1000*x.w)).size≤268435458:=Al (aO 1000 x.w h1000 hw) (by omega)
 have hz:∀ a:Int,(Zm a).size≤268435456→(Zm (a.natAbs:Int)).size≤268435456:=fun a h=>by
  have:Zm (a.natAbs:Int)=Zm a:=by unfold Zm;simp
  rwa [this]
 have k1:=gD (x.x.natAbs:Int) (1000*x.w) (by have:=hz _ hb.out.a;omega) (by omega)
 have k2:=gD (x.y.natAbs:Int) (1000*x.w) (by have:=hz _ hb.out.b;omega) (by omega)
 have k3:=gD (x.z.natAbs:Int) (1000*x.w) (by have:=hz _ hb.out.c;omega) (by omega)
 rw[← d0g]at k1 k2 k3
 rw[a8l]
 simp only[edS]
 clear hb hz hm hw
 obtain⟨x,y,z,w⟩:=x
 simp only[eP,e4]at *
 have case:∀ a:Int,(sg ((a.natAbs:Int) - 1000*w)=1∧1000*w<(a.natAbs:Int))∨(sg ((a.natAbs:Int) - 1000*w)=0∧(a.natAbs:Int)=1000*w)∨(sg ((a.natAbs:Int) - 1000*w)=-1∧¬ 1000*w<(a.natAbs:Int)∧¬ (a.natAbs:Int)=1000*w):=fun a=>by
  rcases gS ((a.natAbs:Int) - 1000*w)with⟨e,h⟩|⟨e,h⟩|⟨e,h⟩
  all_goals first|exact .inl ⟨by omega,by omega⟩|exact .inr (.inl ⟨by omega,by omega⟩)|exact .inr (.inr ⟨by omega,by omega,by omega⟩)
 rcases case x with⟨g1,q1⟩|⟨g1,q1⟩|⟨g1,q1,q1'⟩<;>rcases case y with⟨g2,q2⟩|⟨g2,q2⟩|⟨g2,q2,q2'⟩<;>rcases case z with⟨g3,q3⟩|⟨g3,q3⟩|⟨g3,q3,q3'⟩<;>simp only[g1,g2,g3]at k1 k2 k3<;>simp only[*,if_true,if_false,reduceIte,Int.reduceNeg,Int.reduceEq,Int.lt_irrefl]<;>clear g1 g2 g3 case
 all_goals try have zh0:=(c67 1000 (by decide))
 all_goals exact z1d
end Go.Proofs.Vx
