import Derived.Test.YtjlfgmhmalbiiaaGreatDoorW05
set_option linter.all false
open Array renaming getElem_toList → Ad, length_toList → Ai
open List renaming replicate → Ab, getElem_mem → Ac, size_toArray → Af, getElem_toArray → Ah
open Nat renaming mul_le_mul_right → Aa, add_mul → Ae, le_refl → Ag, le_trans → Aj, zero_add → Ak
namespace Go.Sx
set_option linter.unusedVariables false
set_option linter.unusedSimpArgs false
def d1g (g g':Gh) (k:Nat) (es:List (List AV)) (v:Value):Prop :=
 0<k∧(∀ e∈es,e.length=k)∧((es=[]∧v=.slice none 0 0) ∨
  ∃ b cap vs ety,v=.slice (some ⟨b,0,none⟩) es.length cap∧g.w.heap.size≤b∧¬ g'.fz b∧g'.w.heap[b]?=some (.cells vs ety (0,0))∧es.length≤cap∧cap≤maxLen∧vs.size=cap*k ∧
   (∀ i (h2:i<vs.size),i<es.length*k→vs[i].oneCell'=true)∧∀ i (h1:i<es.length) j (h2:j<es[i].length) (h3:i*k+j<vs.size),Rel g' es[i][j] vs[i*k+j])
def CallVc (P:Program) (f:Nat) (args:List AV) (k:Nat) (es:List (List AV)):Prop :=
 ∀ (g:Gh) (vals:List Value),(∀ l,¬ g.us l)→GOk (bG P g (upd aF [])) g (upd aF [])→RelL g args vals →
  Calls P f vals.toArray g.w fun e w'=>∃ v g',e=.returned v∧g'.w=w'∧Ev g g'∧(∀ l,¬ g'.us l)∧GOk (bG P g (upd aF [])) g' (upd aF [])∧d1g g g' k es v
def callE (P:Program) (f:Nat) (args:List AV) (i:Nat) (E:Eff→Prop):Prop :=
 ∃ k es,fnT P f=true∧CallVc P f args k es∧(∀ a∈args,In (fun _=>False) a)∧(∀ e∈es,∀ c∈e,In (fun _=>False) c)∧E ⟨.ref i 0 es.length es.length,[(i,.vec k es)],[]⟩
theorem b7p {c : Cx} {f : Nat} {args : List AV} {i : Nat} {E : Eff → Prop} (h : callE c.P f args i E) :
  ∃ e,E e∧fnT c.P f=true∧∀ ob':Nat→AV,∀ g vals,GOk c g ob'→RelL g args vals→¬ g.us i →
   Calls c.P f vals.toArray g.w fun e' w'=>∃ v g',e'=.returned v∧g'.w=w'∧Ev g g'∧GOk c g' (upd ob' e.ob)∧Rel g' e.val v∧∀ l,g'.us l→g.us l∨l=i:=by
 obtain⟨k,es,hfn,hok,hin,hes,hE⟩:=h
 refine⟨_,hE,hfn,fun ob' g vals hg hr hi=>?_⟩
 let g0:Gh:={ g with us:=fun _=>False }
 have hW:∀ b,¬ (bG c.P g0 (upd aF [])).W0 b:=by
  rintro b ⟨l,hl⟩
  simp[upd,aF,aE]at hl
 have hg0:GOk (bG c.P g0 (upd aF [])) g0 (upd aF []) :=
  ⟨rfl,Tp.rfl,rfl,Ag _,fun _ _ _=>rfl,fun b hb=>hb,fun b hb=>.inl hb,hg.fzx,fun l=>trivial,fun l b hb=>by simp[upd,aF,aE]at hb,fun l l' b hb=>by simp[upd,aF,aE]at hb⟩
 have hrel:RelL g0 args vals:=⟨hr.1,fun j h1 h2=>cY (g:=g) (g':=g0) (K:=fun _=>False) (fun b hb=>⟨hb,rfl⟩) (fun l hl=>hl.elim) (hr.2 j h1 h2) (hin _ (Ac h1))⟩
 refine (hok g0 vals (fun l=>by simp[g0]) hg0 hrel).mono ?_
 rintro e' w' ⟨v,g1,rfl,rfl,he,_,hg1,hk0,hke,hv⟩
 have hold:∀ b,b<g.w.heap.size→g1.w.heap[b]?=g.w.heap[b]?:=fun b hb=>hg1.old b hb (hW b)
 have hne:∀ l,g.us l→l≠i:=fun l hl e=>hi (e▸hl)
 have key : ∀ D : Des, D.k = k → ((D.b = none ∧ es = [] ∧ D.cap = 0) ∨ ∃ b vs, D.b = some b ∧ g1.w.heap[b]? = some (.cells vs D.e (0, 0)) ∧ es.length ≤ D.cap ∧ D.cap ≤ maxLen ∧ vs.size = D.cap * k ∧ (∀ i (h2 : i < vs.size), i < es.length * k → vs[i].oneCell' = true) ∧
   ∀ i (h1:i<es.length) j (h2:j<es[i].length) (h3:i*k+j<vs.size),Rel g1 es[i][j] vs[i*k+j])→(∀ b,D.b=some b→g.w.heap.size≤b∧¬ g1.fz b)→v=D.slice 0 es.length→v.oneCell'=true →
   ∃ v' g',Ending.returned v=.returned v'∧g'.w=g1.w∧Ev g g'∧GOk c g' (upd ob' [(i,.vec k es)])∧Rel g' (.ref i 0 es.length es.length) v'∧∀ l,g'.us l→g.us l∨l=i:=by
  intro D hDk hD hDb hDv hone
  let g':Gh:={ w:=g1.w,fz:=g1.fz,us:=fun l=>g.us l∨l=i,blk:=g.blk,des:=fun l=>if l=i then D else g.des l,len:=fun l=>if l=i then es.length else g.len l }
  have hdi:g'.des i=D:=if_pos rfl
  have hli:g'.len i=es.length:=if_pos rfl
  have hev:Ev g g':=by
   refine⟨fun b hb=>he.fz b hb,fun l hl=>⟨.inl hl,rfl,?_,fun _=>if_neg (hne l hl)⟩⟩
   show _≤(if l=i then _ else _)
   rw[if_neg (hne l hl)]
   exact Ag _
  have hbk:∀ l x,l≠i→aE g' l x=aE g l x:=fun l x hl=>by
   have:g'.des l=g.des l:=if_neg hl
   cases x<;>simp only[aE,this]<;>rfl
  have hup:∀ l,upd ob' [(i,AV.vec k es)] l=if i=l then .vec k es else ob' l:=fun l=>rfl
  have hnf:∀ b,b<g.w.heap.size→¬ g.fz b→¬ g1.fz b:=fun b hb hn hf=>by
   rcases hg1.fzn b hf with h|h|h
   ·exact hn h
   ·exact hW b h
   ·exact absurd hb (Nat.not_lt.2 h)
  have hbi:∀ b,aE g' i (upd ob' [(i,AV.vec k es)] i)=some b→D.b=some b:=fun b hb=>by
   rw[hup,if_pos rfl]at hb
   simp only[aE,hdi]at hb
   exact hb
  have hbo:∀ l b,l≠i→aE g' l (upd ob' [(i,AV.vec k es)] l)=some b→aE g l (ob' l)=some b:=fun l b hl hb=>by
   rw[hup,if_neg (fun e=>hl e.symm),hbk l _ hl]at hb
   exact hb
  refine⟨v,g',rfl,rfl,hev,⟨hg1.os.trans hg.os,hg1.tape.trans hg.tape,hg1.output.trans hg.output,Aj hg.size hg1.size,fun b hb hw=>?_,fun b hb=>(he.fz b (hg.fzo b hb)).1,fun b hb=>?_,hg1.fzx,fun l=>?_,fun l b hb=>?_,fun l l' b hb hb'=>?_⟩,?_,fun l hl=>hl⟩
  ·show g1.w.heap[b]?=_
   rw[hold b (Nat.lt_of_lt_of_le hb hg.size)]
   exact hg.old b hb hw
  ·rcases hg1.fzn b hb with h|h|h
   ·exact hg.fzn b h
   ·exact absurd h (hW b)
   ·exact .inr (.inr (Aj hg.size h))
  ·rw[hup]
   by_cases hl:i=l
   ·subst hl
    rw[if_pos rfl]
    refine⟨.inr rfl,by rw[hdi];exact hDk,by rw[hli],hk0,hke,?_⟩
    rw[hdi]
    rcases hD with h|⟨b,vs,m1,m2,m3,m4,m5,m6,m7⟩
    ·exact .inl h
    ·exact .inr ⟨b,vs,m1,m2,m3,m4,m5,m6,fun a a1 j a2 a3=>cY (g:=g1) (g':=g') (K:=fun _=>False) (fun b hb=>⟨hb,rfl⟩) (fun l hl=>hl.elim) (m7 a a1 j a2 a3) (hes _ (Ac a1) _ (Ac a2))⟩
   ·rw[if_neg hl]
    have hl':l≠i:=fun e=>hl e.symm
    exact (hg.obj l).keep hev ⟨by show (if l=i then _ else _)=_;rw[if_neg hl'],by show (if l=i then _ else _)=_;rw[if_neg hl']⟩ fun b hb=>hold b ((hg.obj l).lt hb)
  ·by_cases hl:l=i
   ·subst hl
    have hb:=hbi b hb
    exact⟨.inr (Aj hg.size (hDb b hb).1),(hDb b hb).2⟩
   ·have hb:=hbo l b hl hb
    have:=hg.own l b hb
    exact⟨this.1,hnf b ((hg.obj l).lt hb) this.2⟩
  ·by_cases hl:l=i
   ·by_cases hl':l'=i
    ·exact hl.trans hl'.symm
    ·subst hl
     have h1:=(hDb b (hbi b hb)).1
     have h2:=(hg.obj l').lt (hbo l' b hl' hb')
     omega
   ·by_cases hl':l'=i
    ·subst hl'
     have h1:=(hDb b (hbi b hb')).1
     have h2:=(hg.obj l).lt (hbo l b hl hb)
     omega
    ·exact hg.dis l l' b (hbo l b hl hb) (hbo l' b hl' hb')
  ·exact .ref _ _ _ _ _ (.inr rfl) (by rw[hli];exact Ag _) hone fun _=>by rw[hdi];exact hDv
 rcases hv with⟨rfl,rfl⟩|⟨b,cap,vs,ety,rfl,hb0,hnf,hb,hc,hm,hs,h1,h2⟩
 ·exact key ⟨none,k,0,0⟩ rfl (.inl ⟨rfl,rfl,rfl⟩) (fun b hb=>by cases hb) rfl rfl
 ·refine key ⟨some b,k,cap,ety⟩ rfl (.inr ⟨b,vs,rfl,hb,hc,hm,hs,h1,h2⟩) (fun b' hb'=>?_) ?_ rfl
  ·obtain rfl:=Option.some.inj hb'
   exact⟨hb0,hnf⟩
  ·simp[Des.slice]
theorem CallVc.ok {P:Program} {f:Nat} {args:List AV} {k:Nat} {es:List (List AV)} (h:CallVc P f args k es):CallOK P f args [] (.sl es) []:=by
 intro g vals hus hg hr
 have hno:∀ l,¬ g.us l:=fun l hl=>by simpa using (hus l).1 hl
 refine (h g vals hno hg hr).mono ?_
 rintro e w' ⟨v,g',rfl,rfl,he,hu,hg',hk0,hke,hv⟩
 have hany:∀ l,upd aF [] l=.any:=fun l=>rfl
 rcases hv with⟨rfl,rfl⟩|⟨b,cap,vs,ety,rfl,hb0,hnf,hb,hc,hm,hs,h1,h2⟩
 ·exact⟨_,g',rfl,rfl,he,fun l=>⟨fun hl=>(hu l hl).elim,fun hl=>(hno l hl).elim⟩,hg',.slnil⟩
 ·let g1:Gh:={ g' with fz:=fun x=>g'.fz x∨x=b }
  have hlt:b<g'.w.heap.size:=Array.getElem?_eq_some_iff.1 hb |>.1
  have hev:Ev g' g1:=⟨fun b hb=>⟨.inl hb,rfl⟩,fun l hl=>⟨hl,rfl,Ag _,fun _=>rfl⟩⟩
  refine⟨_,g1,rfl,rfl,he.trans hev,fun l=>⟨fun hl=>(hu l hl).elim,fun hl=>(hno l hl).elim⟩,?_,?_⟩
  ·refine⟨hg'.os,hg'.tape,hg'.output,hg'.size,hg'.old,fun b hb=>.inl (hg'.fzo b hb),?_,?_,fun l=>trivial,fun l b hb=>by simp[hany,aE]at hb,fun l l' b hb=>by simp[hany,aE]at hb⟩
   ·rintro x (hx|rfl)
    ·exact hg'.fzn x hx
    ·exact .inr (.inr hb0)
   ·rintro x (hx|rfl)
    ·exact hg'.fzx x hx
    ·exact hlt
  ·refine .sl es b 0 cap k vs ety (0,0) (.inr rfl) hb hc (fun i h1=>hke _ (Ac h1)) (fun hp=>?_) (fun j a1 a2=>?_) fun i a1 j a2 a3=>?_
   ·rw[Ak,hs];exact Aa _ hc
   ·have:=h1 j (by omega) a2
    simpa only[Ak]using this
   ·have:=(h2 i a1 j a2 (by omega)).mono hev
    simpa only[Ak]using this
end Go.Sx
namespace Go.Sx
set_option linter.unusedVariables false
def rV (P:Program) (t:TypeId) (x:AV) (ob:Nat→AV) (E:Eff→Prop):Prop :=
 match slT P t with
 | some (e,s)=>match zeT P e with
  | some z=>z.length=s∧match x with
   | .ref l o n m=>match ob l with
    | .vec k es=>k=s∧m=es.length∧o+n≤m∧0<n∧E ⟨.tup [],[(l,.vec k (es.take o++Ab n z++es.drop (o+n)))],[l]⟩
    | _=>False
   | _=>False
  | none=>False
 | none=>False
theorem c6q {c : Cx} {t : TypeId} {x : AV} {ob : Nat → AV} {E : Eff → Prop} (h : rV c.P t x ob E) :
  ∃ e,E e∧e.val=.tup []∧∀ ob',(∀ l∈e.rd,ob' l=ob l)→∀ g v ty,GOk c g ob'→Rel g x v →
   ∃ g',(Builtin.clear_ #[t] ty #[v]).run c.P g.w=.ok (.tuple #[]) g'.w∧Ev g g'∧GOk c g' (upd ob' e.ob)∧∀ l,g'.us l→g.us l:=by
 unfold rV at h
 split at h
 ·rename_i e s hsl
  obtain⟨hu,hs⟩:=kU hsl
  split at h
  ·rename_i z hz
   obtain⟨hzl,h⟩:=h
   obtain⟨zv,hz1,hz2,hz3,hz4,hz5⟩:=pV hz
   split at h
   ·rename_i l o n m
    split at h
    ·rename_i k es hob
     obtain⟨rfl,rfl,hon,hn0,h⟩:=h
     refine⟨_,h,rfl,fun ob' ho g v ty hg hr=>?_⟩
     have hob':ob' l=.vec k es:=by rw[ho l (by simp),hob]
     have hok:=hg.obj l
     rw[hob']at hok
     obtain⟨hus,hk,hln,hk0,hke,h5⟩:=hok
     cases hr with
     | ref _ _ _ _ _ hu' hm2 hc hv =>
      have hv':=hv (by omega)
      rcases h5 with⟨_,rfl,_⟩|⟨b,vs,h6,h7,h8,h9,h10,h11,h12⟩
      ·simp at hon;omega
      ·have hb:aE g l (ob' l)=some b:=by rw[hob'];exact h6
       have hzs:zv.cells.size=k:=by rw[hz2,hzl]
       have hget:∀ j (hj:j<(Builtin.zeroCells zv.cells n).toList.length),∃ h2:j % k<zv.cells.size,(Builtin.zeroCells zv.cells n).toList[j]=zv.cells[j % k]:=by
        intro j hj
        have h2:j % k<zv.cells.size:=by rw[hzs];exact Nat.mod_lt _ hk0
        refine⟨h2,?_⟩
        simp only[Builtin.zeroCells,Ad,Array.getElem_map,Array.getElem_range,hzs]
        simp[h2]
       have hul:(Builtin.zeroCells zv.cells n).toList.length=n*k:=by rw[Ai,size_zeroCells,hzs]
       generalize hus':(Builtin.zeroCells zv.cells n).toList=us at *
       have hck:(o+n)*k≤es.length*k:=Aa _ hon
       have hvl:es.length*k≤vs.size:=by rw[h10];exact Aa _ h8
       rw[Ae]at hck
       have hvt:vs.toList.length=vs.size:=Ai
       have hle:o*k+us.length≤vs.toList.length:=by omega
       have hrun:(Builtin.clear_ #[t] ty #[v]).run c.P g.w=.ok (.tuple #[]) (g.w.setRow b (vs.toList.take (o*k)++us++vs.toList.drop (o*k+us.length)).toArray):=by
        have hst:=run_storeCells_at c.P b (o*k) (g.des l).e us 0 vs g.w h7 (by simpa using hle) (fun x hx=>by
         obtain⟨i,hi,rfl⟩:=List.getElem_of_mem hx
         obtain⟨h2,h3⟩:=hget i hi
         rw[h3];exact hz4 _ h2)
        simp only[Nat.add_zero]at hst
        rw[hv']
        obtain⟨n',rfl⟩:∃ n',n=n'+1:=⟨n - 1,by omega⟩
        simp[Des.slice,h6,hk,Builtin.clear_,Sem.run_bind,run_underlying hu,hz1,hus',hst]
       have hl2:(es.take o++Ab n z++es.drop (o+n)).length=es.length:=by simp;omega
       have hv2:(vs.toList.take (o*k)++us++vs.toList.drop (o*k+us.length)).length=vs.toList.length:=dB _ _ _ hle
       have hev:=y7 hg hb (vs.toList.take (o*k)++us++vs.toList.drop (o*k+us.length)).toArray
       obtain⟨he,hg'⟩:=yH hg hb vs (g.des l).e h7 (vs.toList.take (o*k)++us++vs.toList.drop (o*k+us.length)).toArray (.vec k (es.take o++Ab n z++es.drop (o+n)))
        (by
         refine⟨hus,hk,by rw[hl2];exact hln,hk0,fun x hx=>?_,.inr ⟨b,_,h6,setRow_heap _ _ _ _ _ _ h7,by rw[hl2];exact h8,h9,by rw[Af,hv2,hvt];exact h10,fun i h1 h2=>?_,fun i h1 j h2 h3=>?_⟩⟩
         ·simp only[List.mem_append,List.mem_replicate]at hx
          rcases hx with (hx|⟨_,rfl⟩)|hx
          ·exact hke _ (List.mem_of_mem_take hx)
          ·exact hzl
          ·exact hke _ (List.mem_of_mem_drop hx)
         ·rw[hl2]at h2
          simp only[Af,hv2]at h1
          simp only[Ah]
          rw[iS _ _ _ _ hle (by rw[hv2];exact h1) h1]
          split
          ·obtain⟨q2,q3⟩:=hget (i - o*k) (by omega)
           rw[q3];exact hz4 _ q2
          ·simp only[Ad];exact h11 _ _ h2
         ·have h1':i<es.length:=by rw[hl2]at h1;exact h1
          have h3':i*k+j<vs.toList.length:=by simpa only[Af,hv2]using h3
          simp only[Ah]
          rw[iS _ _ _ _ hle (by rw[hv2];exact h3') h3']
          have hrl:o+(Ab n z).length≤es.length:=by simp;omega
          have hei:(es.take o++Ab n z++es.drop (o+n))[i]=if h:o≤i∧i<o+n then z else es[i]:=by
           have:=iS es (Ab n z) o i hrl (by simp;omega) h1'
           simp only[List.length_replicate,List.getElem_replicate]at this
           exact this
          have hek:(es.take o++Ab n z++es.drop (o+n))[i].length=k:=by
           rw[hei];split
           ·exact hzl
           ·exact hke _ (Ac _)
          have hjk:j<k:=by rw[← hek];exact h2
          have hin:(i+1)*k≤es.length*k:=Aa _ h1'
          by_cases hc:o≤i∧i<o+n
          ·have ei:(es.take o++Ab n z++es.drop (o+n))[i]=z:=by rw[hei,dif_pos hc]
           have a1:o*k≤i*k:=Aa _ hc.1
           have a2:(i+1)*k≤(o+n)*k:=Aa _ hc.2
           rw[Ae,Ae]at a2
           have hq:o*k≤i*k+j∧i*k+j<o*k+us.length:=by rw[hul];omega
           rw[dif_pos hq]
           obtain⟨q2,q3⟩:=hget (i*k+j - o*k) (by omega)
           rw[q3]
           have hm:(i*k+j - o*k) % k=j:=by
            have:i*k+j - o*k=(i - o)*k+j:=by rw[Nat.sub_mul];omega
            rw[this,Nat.mul_comm,Nat.mul_add_mod]
            exact Nat.mod_eq_of_lt hjk
           simp only[ei,hm]
           exact hz3 _ j (by omega) (by rw[hzs];exact hjk)
          ·have ei:(es.take o++Ab n z++es.drop (o+n))[i]=es[i]:=by rw[hei,dif_neg hc]
           have hq:¬ (o*k≤i*k+j∧i*k+j<o*k+us.length):=by
            rw[hul]
            intro hq
            apply hc
            refine⟨?_,?_⟩
            ·by_cases q:o≤i
             ·exact q
             ·have:(i+1)*k≤o*k:=Aa _ (by omega)
              rw[Ae]at this
              omega
            ·by_cases q:i<o+n
             ·exact q
             ·have:(o+n)*k≤i*k:=Aa _ (by omega)
              rw[Ae]at this
              omega
           rw[dif_neg hq]
           simp only[ei,Ad]at h2 ⊢
           exact (h12 i h1' j h2 (by simpa using h3')).mono hev)
        (by show (g.des l).b=some b;exact h6)
       exact⟨_,hrun,he,hg',fun l hl=>hl⟩
    ·exact h.elim
   ·exact h.elim
  ·exact h.elim
 ·exact h.elim
end Go.Sx
