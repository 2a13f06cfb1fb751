import Derived.Test.YtjlfgmhmalbiiaaGreatDoorW03
set_option linter.all false
open Array renaming getElem_toList → Aj, length_toList → An, ext' → Aw, getElem?_toList → Ay
open List renaming getElem_append_left → Ab, size_toArray → Ad, length_append → Af, length_nil → Ag, getElem_take → Ah, getElem_toArray → Ai, mem_of_mem_take → Ak, getElem_append_right → Am, take_zero → Ao, eq_nil_of_length_eq_zero → Ap, mem_append → Aq, nil_append → Ar, replicate → At, getElem_mem → Av, mem_of_mem_drop → Az, getElem?_take → A3, getElem_drop → A5
open Nat renaming mul_le_mul_right → Aa, add_mul → Ac, le_refl → Ae, zero_add → Al, zero_mul → As, le_succ → Au, add_zero → A4
open Option renaming map_some → Ax, map_none → A6, some → A7
namespace Go.Sx
set_option linter.unusedVariables false
set_option linter.unusedSimpArgs false
theorem yC {P : Program} {w : World} {t ty e : TypeId} {s : Nat} (hu : P.underlying t = some (.slice e)) (hs : szT P e = some s) (b a : Option Addr) (n cap c : Nat) (h : n ≤ cap) :
  (Builtin.append_ #[t,t] ty #[.slice b n cap,.slice a 0 c]).run P w=.ok (.slice b n cap) w:=by
 cases a<;>cases b <;>
 simp[Builtin.append_,Sem.run_bind,run_underlying hu,eB hs,Builtin.lenOf,h,Builtin.firstCells,loadCells,loadCellsFrom,storeCells]
def sA (P:Program) (t:TypeId) (x y:AV) (ob:Nat→AV) (i:Nat) (E:Eff→Prop):Prop :=
 match slT P t,rD y ob with
 | some (e,s),some (ns,ls)=>match zeT P e,byT P e with
  | some z,some by'=>0<s∧z.length=s∧(∀ e∈ns,e.length=s) ∧
   match x with
   | .ref l o n m=>match ob l with
    | .vec k es => k = s ∧ o = 0 ∧ n = m ∧ m = es.length ∧ es.length + ns.length ≤ maxLen ∧ (es.length + ns.length) * by' ≤ 140737488355328 ∧
      E ⟨.ref l 0 (es.length+ns.length) (es.length+ns.length),[(l,.vec k (es++ns))],l::ls⟩
    | .vcp k es cp => k = s ∧ m = es.length ∧ o + n ≤ m ∧ m < o + n + ns.length ∧ o + n + ns.length ≤ maxLen ∧ (n + ns.length) * by' ≤ 140737488355328 ∧
      (o+n+ns.length≤cp→E ⟨.ref l o (n+ns.length) (o+n+ns.length),[(l,.vec k (es.take (o+n)++ns))],l::ls⟩) ∧
      (cp<o+n+ns.length→E ⟨.ref i 0 (n+ns.length) (n+ns.length),[(i,.vec k ((es.drop o).take n++ns))],l::ls⟩)
    | _=>False
   | .zs=>0<ns.length∧ns.length≤maxLen∧ns.length*by'≤140737488355328∧E ⟨.ref i 0 ns.length ns.length,[(i,.vec s ns)],ls⟩
   | .lit (.slice none 0 0)=>ns.length≤maxLen∧ns.length*by'≤140737488355328∧E ⟨.ref i 0 ns.length ns.length,[(i,.vec s ns)],ls⟩
   | _=>False
  | _,_=>False
 | _,_=>False
theorem b2p {P : Program} (w : World) (t ty e : TypeId) (i : TypeInfo) (z : Value) (ht : P.underlying t = some (.slice e)) (hi : P.info? e = some i) (hz : i.zero = some z) (ad : Option Addr)
  (a:Addr) (n c:Nat) (news:List Value) (hl:news.length=n*i.size) (hnews:∀ j v,news[j]?=some v→w.cell? (a.add j)=some v)
  (h0:0<n) (h63:(n:Int)≤9223372036854775807) (h48:n*i.bytes≤281474976710656) :
  (Builtin.append_ #[t,t] ty #[.slice ad 0 0,.slice (some a) n c]).run P w =
   .ok (.slice (some ⟨w.heap.size,0,none⟩) n (grownCap w n 0 e)) (w.drew.alloc (.cells (news.toArray++Builtin.zeroCells z.cells (grownCap w n 0 e - n)) e)):=by
 cases ad with
 | none=>exact run_append_nil (P:=P) w t ty e i z ht hi hz a n c news hl hnews h0 h63 h48
 | some b =>
  have:=run_append_grow (P:=P) w t ty e i z ht hi hz b 0 0 [] (by simp) (fun j v h=>by simp at h) a n c news hl hnews (by omega) (by simpa using h63) (by rw[Al,nextslicecap_zero h0];exact h48)
  simpa using this
theorem a0k {c : Cx} {g : Gh} {ob : Nat → AV} (h : GOk c g ob) (i k : Nat) (e : TypeId) (hi : ¬ g.us i) (hk : 0 < k) :
  ∃ g':Gh,g'.w=g.w∧Ev g g'∧GOk c g' (upd ob [(i,.vec k [])])∧Rel g' (.ref i 0 0 0) (.slice none 0 0)∧∀ l,g'.us l→g.us l∨l=i:=by
 let g':Gh:={ g with us:=fun l=>g.us l∨l=i,des:=fun l=>if l=i then ⟨none,k,0,e⟩else g.des l,len:=fun l=>if l=i then 0 else g.len l }
 have hdi:g'.des i=⟨none,k,0,e⟩:=if_pos rfl
 have hli:g'.len i=0:=if_pos rfl
 have hne:∀ l,g.us l→l≠i:=fun l hl e=>hi (e▸hl)
 have he:Ev g g':=by
  refine⟨fun b hb=>⟨hb,rfl⟩,fun l hl=>⟨.inl hl,rfl,?_,fun _=>if_neg (hne l hl)⟩⟩
  show _≤(if l=i then _ else _)
  rw[if_neg (hne l hl)]
  exact Ae _
 refine⟨g',rfl,he,?_,?_,fun l hl=>hl⟩
 ·refine h.turn he i (.vec k []) rfl Tp.rfl rfl (Ae _) rfl (fun l hl=>⟨rfl,if_neg hl,if_neg hl⟩) (fun b hb _=>rfl) ?_ ?_
  ·exact⟨.inr rfl,by rw[hdi],hli,hk,fun e he=>by simp at he,.inl ⟨by rw[hdi],rfl,by rw[hdi]⟩⟩
  ·intro b hb
   simp[aE,hdi]at hb
 ·refine .ref i 0 _ _ _ (.inr rfl) (by rw[hli];exact Ae _) rfl (fun _=>?_)
  simp[Des.slice,hdi]
theorem b8a {A us tail:List Value} {n:Nat} (h:n<(A++us++tail).length) (hA:n<A.length):(A++us++tail)[n]=A[n]:=by
 rw[Ab (by simp;omega),Ab hA]
theorem c3e {A us tail:List Value} {n m:Nat} (h:n<(A++us++tail).length) (hA:n=A.length+m) (hm:m<us.length):(A++us++tail)[n]=us[m]:=by
 subst hA
 rw[Ab (by simp;omega),Am (by omega)]
 congr 1
 omega
theorem n5 {g : Gh} {k : Nat} (hk : 0 < k) {es ns : List (List AV)} {vs : Array Value} {us : List Value} {tail : List Value} (hes : ∀ e ∈ es, e.length = k) (hns : ∀ e ∈ ns, e.length = k) (hs : es.length * k ≤ vs.size)
  (h1:∀ i (h2:i<vs.size),i<es.length*k→vs[i].oneCell'=true) (h2:∀ i (h1:i<es.length) j (h2:j<es[i].length) (h3:i*k+j<vs.size),Rel g es[i][j] vs[i*k+j])
  (hul:us.length=ns.length*k) (hu1:∀ u∈us,u.oneCell'=true) (hu2:∀ p (h1:p<ns.length) q (h2:q<ns[p].length) (h3:p*k+q<us.length),Rel g ns[p][q] us[p*k+q]) :
  (∀ j (hj:j<(vs.toList.take (es.length*k)++us++tail).toArray.size),j<(es++ns).length*k→((vs.toList.take (es.length*k)++us++tail).toArray)[j].oneCell'=true) ∧
  (∀ p (h1:p<(es++ns).length) q (h2:q<(es++ns)[p].length) (h3:p*k+q<(vs.toList.take (es.length*k)++us++tail).toArray.size),Rel g (es++ns)[p][q] ((vs.toList.take (es.length*k)++us++tail).toArray)[p*k+q]):=by
 have hlen:(vs.toList.take (es.length*k)).length=es.length*k:=by simp;omega
 refine⟨fun j hj hjl=>?_,fun p hp q hq h3=>?_⟩
 ·simp only[Ai]
  rw[Af,Ac]at hjl
  by_cases hc:j<es.length*k
  ·rw[Ab (by simp;omega),Ab (by omega)]
   simp only[Ah,Aj]
   exact h1 j (by omega) hc
  ·rw[Ab (by simp;omega),Am (by omega)]
   exact hu1 _ (Av _)
 ·simp only[Ai]
  by_cases hc:p<es.length
  ·simp only[Ab hc]at hq ⊢
   have hpq:p*k+q<es.length*k:=by
    have:(p+1)*k≤es.length*k:=Aa _ hc
    rw[Ac]at this
    have:=hes _ (Av hc)
    omega
   have e:=b8a (A:=vs.toList.take (es.length*k)) (us:=us) (tail:=tail) (n:=p*k+q) (by simpa using h3) (by omega)
   rw[e]
   simp only[Ah,Aj]
   exact h2 p hc q hq (by omega)
  ·have hp':p - es.length<ns.length:=by simp at hp;omega
   have hge:es.length≤p:=by omega
   simp only[Am hge]at hq ⊢
   have e1:p*k=es.length*k+(p - es.length)*k:=by rw[← Ac];congr 1;omega
   have hqk:q<k:=by rw[← hns _ (Av hp')];exact hq
   have hlt:(p - es.length)*k+q<us.length:=by
    have:(p - es.length+1)*k≤ns.length*k:=Aa _ hp'
    rw[Ac]at this
    omega
   have e:=c3e (A:=vs.toList.take (es.length*k)) (us:=us) (tail:=tail) (n:=p*k+q) (m:=(p - es.length)*k+q) (by simpa using h3) (by omega) hlt
   rw[e]
   exact hu2 _ hp' q hq hlt
theorem c6y {c : Cx} {t : TypeId} {x y : AV} {ob : Nat → AV} {i : Nat} {E : Eff → Prop} (h : sA c.P t x y ob i E) :
  ∃ e,E e∧∀ ob',(∀ l∈e.rd,ob' l=ob l)→∀ g v u ty,GOk c g ob'→Rel g x v→Rel g y u→¬ g.us i →
   ∃ r g',(Builtin.append_ #[t,t] ty #[v,u]).run c.P g.w=.ok r g'.w∧Ev g g'∧GOk c g' (upd ob' e.ob)∧Rel g' e.val r∧∀ l,g'.us l→g.us l∨l=i:=by
 unfold sA at h
 split at h
 ·rename_i e s ns ls hsl hnews
  obtain⟨hu,hs⟩:=kU hsl
  split at h
  ·rename_i z by' hz hb
   obtain⟨hs0,hzl,hns,h⟩:=h
   obtain⟨zv,hz1,hz2,hz3,hz4,hz5⟩:=pV hz
   obtain⟨inf,hi1,hi2,hi3,hi4⟩:=a8d (z:=z) hz5 hs hb
   split at h
   ·rename_i l o n m
    split at h
    ·rename_i k es hob
     obtain⟨rfl,rfl,rfl,rfl,hmax,hbytes,h⟩:=h
     refine⟨_,h,fun ob' ho g v u ty hg hr hr2 hi=>?_⟩
     have hob':ob' l=.vec k es:=by rw[ho l (by simp),hob]
     have hh:=pP hnews hns (fun l hl=>ho l (by simp[hl])) hg hr2
     have hok:=hg.obj l
     rw[hob']at hok
     obtain⟨hus,hk,hln,hk0,hke,h5⟩:=hok
     cases hr with
     | ref _ _ _ _ _ hu' hm2 hc hv =>
      have hv':=hv (by omega)
      have hcl:es.length≤(g.des l).cap:=by
       rcases h5 with⟨_,rfl,_⟩|⟨b,vs,h6,h7,h8,_⟩
       ·simp
       ·exact h8
      rcases hh with⟨rfl,a,cap,rfl⟩|⟨a,cap,us,rfl,hul,hcells,hone,hrel⟩
      ·
       refine⟨v,g,?_,Ev.refl g,?_,?_,fun l hl=>.inl hl⟩
       ·rw[hv']
        exact yC hu hs _ _ _ _ _ (by simpa [Des.slice]using hcl)
       ·have:upd ob' [(l,AV.vec k (es++[]))]=ob':=by
         funext l'
         simp only[upd]
         split
         ·rename_i e;subst e;rw[hob'];simp
         ·rfl
        simp only[this]
        exact hg
       ·simpa using Rel.ref (g:=g) l 0 es.length es.length v hus hm2 hc hv
      ·by_cases hn0:ns.length=0
       ·
        have hnil:ns=[]:=Ap hn0
        subst hnil
        refine⟨v,g,?_,Ev.refl g,?_,?_,fun l hl=>.inl hl⟩
        ·rw[hv']
         exact yC hu hs _ _ _ _ _ (by simpa [Des.slice]using hcl)
        ·have:upd ob' [(l,AV.vec k (es++[]))]=ob':=by
          funext l'
          simp only[upd]
          split
          ·rename_i e;subst e;rw[hob'];simp
          ·rfl
         simp only[this]
         exact hg
        ·simpa using Rel.ref (g:=g) l 0 es.length es.length v hus hm2 hc hv
       ·have grow : ∀ (vs : Array Value) (hvs : es.length * k ≤ vs.size) (h11 : ∀ i (h2 : i < vs.size), i < es.length * k → vs[i].oneCell' = true)
          (h12:∀ i (h1:i<es.length) j (h2:j<es[i].length) (h3:i*k+j<vs.size),Rel g es[i][j] vs[i*k+j]) (old:Nat) (hold:old<es.length+ns.length) (hfull:es.length≤old) (hne:∀ b,(g.des l).b=some b→True),
          ∃ g':Gh,g'.w=g.w.drew.alloc (.cells ((vs.toList.take (es.length*k)).toArray++us.toArray++Builtin.zeroCells zv.cells (grownCap g.w (es.length+ns.length) old e - (es.length+ns.length))) e)∧Ev g g' ∧
           GOk c g' (upd ob' [(l,.vec k (es++ns))])∧Rel g' (.ref l 0 (es.length+ns.length) (es.length+ns.length)) (.slice (some ⟨g.w.heap.size,0,none⟩) (es.length+ns.length) (grownCap g.w (es.length+ns.length) old e))∧∀ l',g'.us l'→g.us l'∨l'=i:=by
         intro vs hvs h11 h12 old hold hfull _
         have hge:=grownCap_ge g.w (es.length+ns.length) old e
         have hcm:=grownCap_le_maxLen g.w (es.length+ns.length) old e hmax
         have hcl2:(es++ns).length=es.length+ns.length:=by simp
         let row:=(vs.toList.take (es.length*k)).toArray++us.toArray++Builtin.zeroCells zv.cells (grownCap g.w (es.length+ns.length) old e - (es.length+ns.length))
         have hrow:row=(vs.toList.take (es.length*k)++us++(Builtin.zeroCells zv.cells (grownCap g.w (es.length+ns.length) old e - (es.length+ns.length))).toList).toArray:=by
          apply Aw
          simp[row]
         have hrs:row.size=grownCap g.w (es.length+ns.length) old e*k:=by
          have h1:(vs.toList.take (es.length*k)).length=es.length*k:=by simp;omega
          simp only[row,Array.size_append,Ad,h1,hul,size_zeroCells,hz2,hzl,← Ac]
          congr 1
          omega
         have hcs:=n5 (g:=g) (tail:=(Builtin.zeroCells zv.cells (grownCap g.w (es.length+ns.length) old e - (es.length+ns.length))).toList) hk0 hke hns hvs h11 h12 hul hone hrel
         have holdb:∀ b,b<g.w.heap.size→(g.w.drew.alloc (.cells row e)).heap[b]?=g.w.heap[b]?:=fun b hb=>Go.RowKit.Below.heap_alloc g.w.drew _ _ hb
         let g':Gh:={ g with w:=g.w.drew.alloc (.cells row e),des:=fun l'=>if l'=l then ⟨some g.w.heap.size,k,grownCap g.w (es.length+ns.length) old e,e⟩else g.des l',len:=fun l'=>if l'=l then es.length+ns.length else g.len l' }
         have hdi:g'.des l=⟨some g.w.heap.size,k,grownCap g.w (es.length+ns.length) old e,e⟩:=if_pos rfl
         have hli:g'.len l=es.length+ns.length:=if_pos rfl
         have he:Ev g g':=by
          refine⟨fun b hb=>⟨hb,holdb b (hg.fzx b hb)⟩,fun l' hl=>⟨hl,rfl,?_,?_⟩⟩
          ·show _≤(if l'=l then _ else _)
           split
           ·rename_i e;subst e;omega
           ·exact Ae _
          ·show (if l'=l then _ else _)=_→(if l'=l then _ else _)=_
           split
           ·rename_i e;subst e;intro;omega
           ·intro;rfl
         refine⟨g',rfl,he,?_,?_,fun l hl=>.inl hl⟩
         ·refine hg.turn he l (.vec k (es++ns)) rfl ⟨rfl,Au _⟩ rfl (by simp[g']) rfl (fun l' hl=>⟨rfl,if_neg hl,if_neg hl⟩) (fun b hb _=>holdb b hb) ?_ ?_
          ·refine⟨hus,by rw[hdi],by rw[hli,hcl2],hk0,fun x hx=>?_,.inr ⟨g.w.heap.size,row,by rw[hdi],by rw[hdi];exact heap_alloc_new g.w.drew _,by rw[hdi,hcl2];exact hge,by rw[hdi];exact hcm,by rw[hdi];exact hrs,?_,?_⟩⟩
           ·rcases Aq.1 hx with h|h
            ·exact hke _ h
            ·exact hns _ h
           ·rw[hrow];exact hcs.1
           ·rw[hrow];exact fun p h1 q h2 h3=>(hcs.2 p h1 q h2 h3).mono he
          ·intro b hb
           right
           simp only[aE,hdi,A7.injEq]at hb
           omega
         ·refine .ref l 0 _ _ _ hus (by rw[hli];exact Ae _) rfl (fun _=>?_)
          simp[Des.slice,hdi]
        rcases h5 with⟨h6,rfl,hcap0⟩|⟨b,vs,h6,h7,h8,h9,h10,h11,h12⟩
        ·
         obtain⟨g',a1,a2,a3,a4,a5⟩:=grow #[] (by simp) (fun i hi=>by simp at hi) (fun i hi=>by simp at hi) 0 (by simp;omega) (by simp) (fun _ _=>trivial)
         have hrun:=run_append_nil (P:=c.P) g.w t ty e inf zv hu hi1 hi2 a ns.length cap us (by rw[hul,hi3]) hcells (by omega) (by simp only[maxLen,Ag,Al]at hmax;omega) (by simp only[Ag,Al]at hbytes;rw[hi4];omega)
         rw[hv']
         simp only[Des.slice,h6,A6,hcap0,Ag,Al]
         simp only[Ag,Al,As,Ao]at a1 a2 a3 a4 a5
         refine⟨_,g',?_,a2,a3,a4,a5⟩
         rw[a1]
         simpa using hrun
        ·have hcap:es.length*k≤(g.des l).cap*k:=Aa _ h8
         have hb:aE g l (ob' l)=some b:=by rw[hob'];exact h6
         rw[hv']
         simp only[Des.slice,h6,Ax,As,Nat.sub_zero]
         by_cases hroom:es.length+ns.length≤(g.des l).cap
         ·
          have hfit:es.length*inf.size+us.length≤vs.size:=by rw[hi3,hul,h10,← Ac];exact Aa _ hroom
          have he':(g.des l).e=e∨True:=.inr trivial
          have hrun : (Builtin.append_ #[t, t] ty #[.slice (some ⟨b, 0, none⟩) es.length (g.des l).cap, .slice (some a) ns.length cap]).run c.P g.w =
            .ok (.slice (some ⟨b,0,none⟩) (es.length+ns.length) (g.des l).cap) (g.w.setRow b (vs.toList.take (es.length*inf.size)++us++vs.toList.drop (es.length*inf.size+us.length)).toArray):=by
           have hf:=run_firstCells_some (P:=c.P) g.w inf.size ns.length a ns.length cap us (by rw[hul,hi3]) hcells
           have hst:=run_storeCells_at c.P b (es.length*inf.size) (g.des l).e us 0 vs g.w h7 (by simpa using hfit) hone
           simp only[A4]at hst
           simp[Builtin.append_,run_underlying hu,sizeOf,typeInfo,hi1,Builtin.lenOf,hroom,hf,Addr.add_lit,hst]
          rw[hi3]at hrun
          have hrow:vs.toList.take (es.length*k)++us++vs.toList.drop (es.length*k+us.length)=vs.toList.take (es.length*k)++us++vs.toList.drop (es.length*k+us.length):=rfl
          have hcs:=n5 (g:=g) (tail:=vs.toList.drop (es.length*k+us.length)) hk0 hke hns (by omega) h11 h12 hul hone hrel
          let row:=(vs.toList.take (es.length*k)++us++vs.toList.drop (es.length*k+us.length)).toArray
          have hcl2:(es++ns).length=es.length+ns.length:=by simp
          let g':Gh:={ g with w:=g.w.setRow b row,len:=fun l'=>if l'=l then es.length+ns.length else g.len l' }
          have hli:g'.len l=es.length+ns.length:=if_pos rfl
          have hown:=hg.own l b hb
          have he:Ev g g':=by
           refine⟨fun b' hb'=>⟨hb',setRow_other _ _ _ _ (fun e=>by subst e;exact hown.2 hb')⟩,fun l' hl=>⟨hl,rfl,?_,fun _=>rfl⟩⟩
           show _≤(if l'=l then _ else _)
           split
           ·rename_i e;subst e;omega
           ·exact Ae _
          refine⟨_,g',hrun,he,?_,?_,fun l hl=>.inl hl⟩
          ·refine hg.turn he l (.vec k (es++ns)) rfl Tp.rfl rfl (by simp[g']) rfl (fun l' hl=>⟨rfl,rfl,if_neg hl⟩) (fun b' _ hne=>setRow_other _ _ _ _ (fun e=>hne (by rw[e];exact hb))) ?_ (fun b' hb'=>.inl ?_)
           ·refine⟨hus,hk,by rw[hli,hcl2],hk0,fun x hx=>?_,.inr ⟨b,row,h6,setRow_heap _ _ _ _ _ _ h7,by rw[hcl2];exact hroom,h9,?_,hcs.1,fun p h1 q h2 h3=>(hcs.2 p h1 q h2 h3).mono he⟩⟩
            ·rcases Aq.1 hx with h|h
             ·exact hke _ h
             ·exact hns _ h
            ·simp only[row,Ad]
             rw[dB _ _ _ (by simp;rw[hi3]at hfit;exact hfit)]
             simpa using h10
           ·rw[hb,← h6];exact hb'
          ·refine .ref l 0 _ _ _ hus (by rw[hli];exact Ae _) rfl (fun _=>?_)
           have hd:g'.des l=g.des l:=rfl
           rw[hd]
           simp[Des.slice,h6]
         ·
          obtain⟨g',a1,a2,a3,a4,a5⟩:=grow vs (by omega) h11 h12 (g.des l).cap (by omega) h8 (fun _ _=>trivial)
          have hrun:=run_append_grow (P:=c.P) g.w t ty e inf zv hu hi1 hi2 ⟨b,0,none⟩ es.length (g.des l).cap (vs.toList.take (es.length*k)) (by rw[hi3];simp;omega)
           (fun j u' hu'=>by
            rw[A3]at hu'
            split at hu'
            ·simp only[Ay]at hu'
             simp[jG,World.cell?,h7,hu']
            ·contradiction) a ns.length cap us (by rw[hul,hi3]) hcells (by omega) (by simp only[maxLen]at hmax;omega) (growslice_fits (by omega) (by rw[hi4];exact hbytes))
          exact⟨_,g',by rw[a1];exact hrun,a2,a3,a4,a5⟩
    ·rename_i k es cp hob
     obtain⟨rfl,rfl,hon,hlt,hmax,hbytes,hin,hout⟩:=h
     have hln':(es.take (o+n)).length=o+n:=by rw[List.length_take];omega
     have hnk:o*k+n*k=(o+n)*k:=(Ac _ _ _).symm
     by_cases hroom:o+n+ns.length≤cp
     ·refine⟨_,hin hroom,fun ob' ho g v u ty hg hr hr2 hi=>?_⟩
      have hob':ob' l=.vcp k es cp:=by rw[ho l (by simp),hob]
      have hh:=pP hnews hns (fun l hl=>ho l (by simp[hl])) hg hr2
      have hok:=hg.obj l
      rw[hob']at hok
      obtain⟨⟨hus,hk,hln,hk0,hke,h5⟩,hcp⟩:=hok
      cases hr with
      | ref _ _ _ _ _ hu' hm2 hc hv =>
       have hv':=hv (by omega)
       rcases hh with⟨rfl,_⟩|⟨a,cap,us,rfl,hul,hcells,hone,hrel⟩
       ·simp at hlt;omega
       ·rcases h5 with⟨h6,rfl,hcap0⟩|⟨b,vs,h6,h7,h8,h9,h10,h11,h12⟩
        ·rw[hcp]at hcap0;simp at hlt;omega
        ·have hb:aE g l (ob' l)=some b:=by rw[hob'];exact h6
         rw[hv']
         simp only[Des.slice,h6,Ax,hk,hcp]
         have hfit:(o+n)*k+us.length≤vs.size:=by rw[hul,h10,hcp,← Ac];exact Aa _ hroom
         have hrun : (Builtin.append_ #[t, t] ty #[.slice (some ⟨b, o * k, none⟩) n (cp - o), .slice (some a) ns.length cap]).run c.P g.w =
           .ok (.slice (some ⟨b,o*k,none⟩) (n+ns.length) (cp - o)) (g.w.setRow b (vs.toList.take ((o+n)*k)++us++vs.toList.drop ((o+n)*k+us.length)).toArray):=by
          have hf:=run_firstCells_some (P:=c.P) g.w inf.size ns.length a ns.length cap us (by rw[hul,hi3]) hcells
          have hst:=run_storeCells_at c.P b (o*k+n*k) (g.des l).e us 0 vs g.w h7 (by rw[hnk];simpa using hfit) hone
          simp only[A4]at hst
          rw[hi3]at hf
          have hr':n+ns.length≤cp - o:=by omega
          rw[← hnk]
          simp[Builtin.append_,run_underlying hu,sizeOf,typeInfo,hi1,Builtin.lenOf,hr',hf,Addr.add_lit,hi3,hst]
         have hck:(o+n)*k≤es.length*k:=Aa _ hon
         have hvl:es.length*k≤vs.size:=by rw[h10];exact Aa _ h8
         have hcs:=n5 (g:=g) (es:=es.take (o+n)) (vs:=vs) (us:=us) (tail:=vs.toList.drop ((o+n)*k+us.length)) hk0 (fun e he=>hke e (Ak he)) hns (by rw[hln'];omega)
          (fun j h2 hj=>h11 j h2 (by rw[hln']at hj;omega)) (fun p h1 q h2 h3=>by
           simp only[Ah]at h2 ⊢
           exact h12 p (by rw[hln']at h1;omega) q h2 h3) hul hone hrel
         rw[hln']at hcs
         let row:=(vs.toList.take ((o+n)*k)++us++vs.toList.drop ((o+n)*k+us.length)).toArray
         have hcl2:(es.take (o+n)++ns).length=o+n+ns.length:=by rw[Af,hln']
         let g':Gh:={ g with w:=g.w.setRow b row,len:=fun l'=>if l'=l then o+n+ns.length else g.len l' }
         have hli:g'.len l=o+n+ns.length:=if_pos rfl
         have hown:=hg.own l b hb
         have he:Ev g g':=by
          refine⟨fun b' hb'=>⟨hb',setRow_other _ _ _ _ (fun e=>by subst e;exact hown.2 hb')⟩,fun l' hl=>⟨hl,rfl,?_,fun _=>rfl⟩⟩
          show _≤(if l'=l then _ else _)
          split
          ·rename_i e;subst e;omega
          ·exact Ae _
         refine⟨_,g',hrun,he,?_,?_,fun l hl=>.inl hl⟩
         ·refine hg.turn he l (.vec k (es.take (o+n)++ns)) rfl Tp.rfl rfl (by simp[g']) rfl (fun l' hl=>⟨rfl,rfl,if_neg hl⟩) (fun b' _ hne=>setRow_other _ _ _ _ (fun e=>hne (by rw[e];exact hb))) ?_ (fun b' hb'=>.inl ?_)
          ·refine⟨hus,hk,by rw[hli,hcl2],hk0,fun x hx=>?_,.inr ⟨b,row,h6,setRow_heap _ _ _ _ _ _ h7,by rw[hcl2,show (g'.des l).cap=cp from hcp];exact hroom,h9,?_,hcs.1,fun p h1 q h2 h3=>(hcs.2 p h1 q h2 h3).mono he⟩⟩
           ·rcases Aq.1 hx with h|h
            ·exact hke _ (Ak h)
            ·exact hns _ h
           ·simp only[row,Ad]
            rw[dB _ _ _ (by simp;exact hfit)]
            simpa using h10
          ·rw[hb,← h6];exact hb'
         ·refine .ref l o _ _ _ hus (by rw[hli];exact Ae _) rfl (fun _=>?_)
          have hd:g'.des l=g.des l:=rfl
          rw[hd]
          simp[Des.slice,h6,hk,hcp]
     ·refine⟨_,hout (by omega),fun ob' ho g v u ty hg hr hr2 hi=>?_⟩
      have hob':ob' l=.vcp k es cp:=by rw[ho l (by simp),hob]
      have hh:=pP hnews hns (fun l hl=>ho l (by simp[hl])) hg hr2
      have hok:=hg.obj l
      rw[hob']at hok
      obtain⟨⟨hus,hk,hln,hk0,hke,h5⟩,hcp⟩:=hok
      have hdl:((es.drop o).take n).length=n:=by simp;omega
      cases hr with
      | ref _ _ _ _ _ hu' hm2 hc hv =>
       have hv':=hv (by omega)
       rcases hh with⟨rfl,_⟩|⟨a,cap,us,rfl,hul,hcells,hone,hrel⟩
       ·simp at hlt;omega
       ·have hne0:0<ns.length:=by omega
        rcases h5 with⟨h6,rfl,hcap0⟩|⟨b,vs,h6,h7,h8,h9,h10,h11,h12⟩
        ·have ho0:o=0:=by simp at hon;omega
         have hn0:n=0:=by simp at hon;omega
         subst ho0 hn0
         have hge:=grownCap_ge g.w ns.length 0 e
         have hcm:=grownCap_le_maxLen g.w ns.length 0 e (by omega)
         have hrun:=run_append_nil (P:=c.P) g.w t ty e inf zv hu hi1 hi2 a ns.length cap us (by rw[hul,hi3]) hcells hne0 (by simp only[maxLen]at hmax;omega) (by rw[hi4];simp only[Al]at hbytes;omega)
         have hcs:=n5 (g:=g) (k:=k) (es:=[]) (vs:=#[]) (tail:=(Builtin.zeroCells zv.cells (grownCap g.w ns.length 0 e - ns.length)).toList) hs0 (fun e he=>by simp at he) hns (by simp) (fun i hi=>by simp at hi) (fun i hi=>by simp at hi) hul hone hrel
         simp only[Ag,As,Ao,Ar]at hcs
         have hrow:us.toArray++Builtin.zeroCells zv.cells (grownCap g.w ns.length 0 e - ns.length)=(us++(Builtin.zeroCells zv.cells (grownCap g.w ns.length 0 e - ns.length)).toList).toArray:=by
          apply Aw
          simp
         rw[hrow]at hrun
         obtain⟨g',a1,a2,a3,a4,a5⟩:=pY hg i k (grownCap g.w ns.length 0 e) hi ns (us++(Builtin.zeroCells zv.cells (grownCap g.w ns.length 0 e - ns.length)).toList).toArray e hs0 hns
          (by simp only[Ad,Af,hul,An,size_zeroCells,hz2,hzl,← Ac];congr 1;omega) hge hcm hcs.1 hcs.2 g.w.drew rfl rfl ⟨rfl,Au _⟩ rfl
         rw[hv']
         simp only[Des.slice,h6,A6,hcap0,Nat.zero_sub,List.drop_zero,Ao,Ar,Al]
         exact⟨_,g',by rw[a1];exact hrun,a2,a3,a4,a5⟩
        ·rw[hv']
         simp only[Des.slice,h6,Ax,hk,hcp]
         have hck:(o+n)*k≤es.length*k:=Aa _ hon
         have hvl:es.length*k≤vs.size:=by rw[h10];exact Aa _ h8
         have holl:((vs.toList.drop (o*k)).take (n*k)).length=n*k:=by simp;omega
         have hge:=grownCap_ge g.w (n+ns.length) (cp - o) e
         have hcm:=grownCap_le_maxLen g.w (n+ns.length) (cp - o) e (by omega)
         have hrun:=run_append_grow (P:=c.P) g.w t ty e inf zv hu hi1 hi2 ⟨b,o*k,none⟩ n (cp - o) ((vs.toList.drop (o*k)).take (n*k)) (by rw[hi3];exact holl)
          (fun j u' hu'=>by
           rw[A3]at hu'
           split at hu'
           ·simp only[List.getElem?_drop,Ay]at hu'
            simp[jG,World.cell?,h7,hu']
           ·contradiction) a ns.length cap us (by rw[hul,hi3]) hcells (by omega) (by simp only[maxLen]at hmax;omega) (growslice_fits (by omega) (by rw[hi4];exact hbytes))
         have hcs:=n5 (g:=g) (es:=(es.drop o).take n) (vs:=((vs.toList.drop (o*k)).take (n*k)).toArray) (us:=us) (tail:=(Builtin.zeroCells zv.cells (grownCap g.w (n+ns.length) (cp - o) e - (n+ns.length))).toList) hk0
          (fun e he=>hke e (Az (Ak he))) hns (by rw[hdl];simp only[Ad,holl];exact Ae _)
          (fun j h2 hj=>by
           simp only[Ai,Ah,A5,Aj]
           exact h11 _ _ (by rw[hdl]at hj;omega))
          (fun p h1 q h2 h3=>by
           simp only[Ai,Ah,A5,Aj]at h2 h3 ⊢
           have hp:p<n:=by rw[hdl]at h1;exact h1
           have e1:o*k+(p*k+q)=(o+p)*k+q:=by rw[Ac];omega
           have hop:(o+p)*k+q<vs.size:=by
            simp only[Ad,holl]at h3
            omega
           have:=h12 (o+p) (by omega) q h2 hop
           simp only[e1]
           exact this) hul hone hrel
         rw[hdl]at hcs
         have htk:((vs.toList.drop (o*k)).take (n*k)).toArray.toList.take (n*k)=(vs.toList.drop (o*k)).take (n*k):=by
          rw[List.take_of_length_le]
          simp only[holl];exact Ae _
         rw[htk]at hcs
         have hrow:((vs.toList.drop (o*k)).take (n*k)).toArray++us.toArray++Builtin.zeroCells zv.cells (grownCap g.w (n+ns.length) (cp - o) e - (n+ns.length))=((vs.toList.drop (o*k)).take (n*k)++us++(Builtin.zeroCells zv.cells (grownCap g.w (n+ns.length) (cp - o) e - (n+ns.length))).toList).toArray:=by
          apply Aw
          simp
         rw[hrow]at hrun
         have hcl2:((es.drop o).take n++ns).length=n+ns.length:=by rw[Af,hdl]
         obtain⟨g',a1,a2,a3,a4,a5⟩:=pY hg i k (grownCap g.w (n+ns.length) (cp - o) e) hi ((es.drop o).take n++ns) ((vs.toList.drop (o*k)).take (n*k)++us++(Builtin.zeroCells zv.cells (grownCap g.w (n+ns.length) (cp - o) e - (n+ns.length))).toList).toArray e hs0
          (fun x hx=>by
           rcases Aq.1 hx with h|h
           ·exact hke _ (Az (Ak h))
           ·exact hns _ h)
          (by simp only[Ad,Af,holl,hul,An,size_zeroCells,hz2,hzl,← Ac];congr 1;omega) (by rw[hcl2];exact hge) hcm hcs.1 hcs.2 g.w.drew rfl rfl ⟨rfl,Au _⟩ rfl
         rw[hcl2]at a4
         exact⟨_,g',by rw[a1];exact hrun,a2,a3,a4,a5⟩
    ·exact h.elim
   ·obtain⟨hne,hmax,hbytes,h⟩:=h
    refine⟨_,h,fun ob' ho g v u ty hg hr hr2 hi=>?_⟩
    cases hr
    have hh:=pP hnews hns (fun l hl=>ho l hl) hg hr2
    rcases hh with⟨hn,a,cap,rfl⟩|⟨a,cap,us,rfl,hul,hcells,hone,hrel⟩
    ·rw[hn]at hne;simp at hne
    ·have hge:=grownCap_ge g.w ns.length 0 e
     have hcm:=grownCap_le_maxLen g.w ns.length 0 e hmax
     have hrun:=fun ad=>b2p (P:=c.P) g.w t ty e inf zv hu hi1 hi2 ad a ns.length cap us (by rw[hul,hi3]) hcells (by omega) (by simp only[maxLen]at hmax;omega) (by rw[hi4];omega)
     have hcs:=n5 (g:=g) (k:=s) (es:=[]) (vs:=#[]) (tail:=(Builtin.zeroCells zv.cells (grownCap g.w ns.length 0 e - ns.length)).toList) hs0 (fun e he=>by simp at he) hns (by simp) (fun i hi=>by simp at hi) (fun i hi=>by simp at hi) hul hone hrel
     simp only[Ag,As,Ao,Ar]at hcs
     have hrow:us.toArray++Builtin.zeroCells zv.cells (grownCap g.w ns.length 0 e - ns.length)=(us++(Builtin.zeroCells zv.cells (grownCap g.w ns.length 0 e - ns.length)).toList).toArray:=by
      apply Aw
      simp
     simp only[hrow]at hrun
     obtain⟨g',a1,a2,a3,a4,a5⟩:=pY hg i s (grownCap g.w ns.length 0 e) hi ns (us++(Builtin.zeroCells zv.cells (grownCap g.w ns.length 0 e - ns.length)).toList).toArray e hs0 hns
      (by simp only[Ad,Af,hul,An,size_zeroCells,hz2,hzl,← Ac];congr 1;omega) hge hcm hcs.1 hcs.2 g.w.drew rfl rfl ⟨rfl,Au _⟩ rfl
     exact⟨_,g',by rw[a1];exact hrun _,a2,a3,a4,a5⟩
   ·obtain⟨hmax,hbytes,h⟩:=h
    refine⟨_,h,fun ob' ho g v u ty hg hr hr2 hi=>?_⟩
    cases hr
    have hh:=pP hnews hns (fun l hl=>ho l hl) hg hr2
    have nothing:ns=[]→∀ a cap,u=.slice a 0 cap→∃ r g',(Builtin.append_ #[t,t] ty #[.slice none 0 0,u]).run c.P g.w=.ok r g'.w∧Ev g g'∧GOk c g' (upd ob' [(i,.vec s ns)])∧Rel g' (.ref i 0 ns.length ns.length) r∧∀ l,g'.us l→g.us l∨l=i:=by
     rintro rfl a cap rfl
     obtain⟨g',a1,a2,a3,a4,a5⟩:=a0k hg i s e hi hs0
     exact⟨_,g',by rw[a1];exact yC hu hs _ _ _ _ _ (Ae _),a2,a3,a4,a5⟩
    rcases hh with⟨hn,a,cap,rfl⟩|⟨a,cap,us,rfl,hul,hcells,hone,hrel⟩
    ·exact nothing hn a cap rfl
    ·by_cases hn0:ns.length=0
     ·have hnil:ns=[]:=Ap hn0
      exact nothing hnil (some a) cap (by rw[hn0])
     ·have hge:=grownCap_ge g.w ns.length 0 e
      have hcm:=grownCap_le_maxLen g.w ns.length 0 e hmax
      have hrun:=run_append_nil (P:=c.P) g.w t ty e inf zv hu hi1 hi2 a ns.length cap us (by rw[hul,hi3]) hcells (by omega) (by simp only[maxLen]at hmax;omega) (by rw[hi4];omega)
      have hcs:=n5 (g:=g) (k:=s) (es:=[]) (vs:=#[]) (tail:=(Builtin.zeroCells zv.cells (grownCap g.w ns.length 0 e - ns.length)).toList) hs0 (fun e he=>by simp at he) hns (by simp) (fun i hi=>by simp at hi) (fun i hi=>by simp at hi) hul hone hrel
      simp only[Ag,As,Ao,Ar]at hcs
      have hrow:us.toArray++Builtin.zeroCells zv.cells (grownCap g.w ns.length 0 e - ns.length)=(us++(Builtin.zeroCells zv.cells (grownCap g.w ns.length 0 e - ns.length)).toList).toArray:=by
       apply Aw
       simp
      rw[hrow]at hrun
      obtain⟨g',a1,a2,a3,a4,a5⟩:=pY hg i s (grownCap g.w ns.length 0 e) hi ns (us++(Builtin.zeroCells zv.cells (grownCap g.w ns.length 0 e - ns.length)).toList).toArray e hs0 hns
       (by simp only[Ad,Af,hul,An,size_zeroCells,hz2,hzl,← Ac];congr 1;omega) hge hcm hcs.1 hcs.2 g.w.drew rfl rfl ⟨rfl,Au _⟩ rfl
      exact⟨_,g',by rw[a1];exact hrun,a2,a3,a4,a5⟩
   ·exact h.elim
  ·exact h.elim
 ·exact h.elim
end Go.Sx
namespace Go.Sx
set_option linter.unusedVariables false
set_option linter.unusedSimpArgs false
def eK (k:Nat):Nat→List AV→List (List AV)
 | 0,_=>[]
 | n+1,cs=>cs.take k::eK k n (cs.drop k)
theorem a4b (k : Nat) : ∀ (n : Nat) (cs : List AV), n * k ≤ cs.length → (eK k n cs).length = n ∧ (∀ e ∈ eK k n cs, e.length = k) ∧
  ∀ p (h1:p<(eK k n cs).length) q (h2:q<(eK k n cs)[p].length) (h3:p*k+q<cs.length),(eK k n cs)[p][q]=cs[p*k+q]:=by
 intro n
 induction n with
 | zero=>intro cs _;exact⟨rfl,fun e he=>by simp[eK]at he,fun p hp=>by simp[eK]at hp⟩
 | succ n ih =>
  intro cs h
  rw[Ac]at h
  obtain⟨h1,h2,h3⟩:=ih (cs.drop k) (by simp;omega)
  refine⟨by simp[eK,h1],fun e he=>?_,fun p hp q hq hl=>?_⟩
  ·simp only[eK,List.mem_cons]at he
   rcases he with rfl|he
   ·simp;omega
   ·exact h2 e he
  ·cases p with
   | zero=>simp[eK]
   | succ p =>
    have hp':p<(eK k n (cs.drop k)).length:=by simpa [eK]using hp
    have hq':q<(eK k n (cs.drop k))[p].length:=by simpa [eK]using hq
    have e1:(p+1)*k+q=k+(p*k+q):=by rw[Ac];omega
    have:=h3 p hp' q hq' (by simp;omega)
    simp only[eK,List.getElem_cons_succ]
    rw[this]
    simp[e1]
theorem b2f {α:Type} (n:Nat) (z:List α):(At n z).flatten.length=n*z.length:=by
 induction n with
 | zero=>simp
 | succ n ih=>simp[List.replicate_succ,Ac];omega
def rN (P:Program) (t:TypeId) (len:Nat) (ps:List (Nat × AV)) (i:Nat) (E:Eff→Prop):Prop :=
 match slT P t with
 | some (e,s)=>match zeT P e with
  | some z=>0<s∧z.length=s∧len*s≤16777216∧len≤maxLen∧match oU (fun j=>some (j*s,s)) (At len z).flatten ps with
   | some cs=>E ⟨.ref i 0 len len,[(i,.vec s (eK s len cs))],[]⟩
   | none=>False
  | none=>False
 | none=>False
theorem c5t {c : Cx} {t : TypeId} {len : Nat} {ps : List (Nat × AV)} {i : Nat} {E : Eff → Prop} (h : rN c.P t len ps i E) :
  ∃ e,E e∧e.rd=[]∧∀ ob' g (qs:Array (Nat × Value)),GOk c g ob'→uZ g ps qs.toList→¬ g.us i →
   ∃ r g',(Instr.buildSlice t len qs).run c.P g.w=.ok r g'.w∧Ev g g'∧GOk c g' (upd ob' e.ob)∧Rel g' e.val r∧∀ l,g'.us l→g.us l∨l=i:=by
 unfold rN at h
 split at h
 ·rename_i e s hsl
  obtain⟨hu,hs⟩:=kU hsl
  split at h
  ·rename_i z hz
   obtain⟨hs0,hzl,hlen,hmax,h⟩:=h
   split at h
   ·rename_i cs hf
    refine⟨_,h,rfl,fun ob' g qs hg hq hi=>?_⟩
    obtain⟨zv,hz1,hz2,hz3,hz4,hz5⟩:=pV hz
    have hzsz:zv.cells.size=s:=by rw[hz2,hzl]
    let row:=(Array.range (len*s)).map fun j=>zv.cells[j % zv.cells.size]!
    have hrs:row.size=len*s:=by simp[row]
    have hrow:∀ j (hj:j<row.size),∃ h2:j % s<zv.cells.size,row[j]=zv.cells[j % s]:=by
     intro j hj
     have h2:j % s<zv.cells.size:=by rw[hzsz];exact Nat.mod_lt _ hs0
     refine⟨h2,?_⟩
     simp only[row,Array.getElem_map,Array.getElem_range,hzsz]
     simp[h2]
    have hfl:(At len z).flatten.length=len*s:=by rw[b2f,hzl]
    obtain⟨vs',f1,f2,f3,f4,f5⟩:=y6 (g:=g) (pl':=fun j=>some (j*s,s)) (fun i x hx=>hx) ps qs.toList _ cs row hq (by rw[hrs,hfl])
     (fun j h1 h2=>by
      obtain⟨h3,h4⟩:=hrow j h2
      rw[h4]
      obtain⟨hi1,hj1,he⟩:=b4s s hs0 (At len z) (fun x hx=>by rw[List.eq_of_mem_replicate hx,hzl]) j h1
      rw[he]
      simp only[List.getElem_replicate]at hj1 ⊢
      exact hz3 g _ hj1 h3)
     (fun j h2=>by obtain⟨h3,h4⟩:=hrow j h2;rw[h4];exact hz4 _ h3) hf
    have hcl:cs.length=len*s:=by rw[f5,hfl]
    obtain⟨k1,k2,k3⟩:=a4b s len cs (by omega)
    obtain⟨g',a1,a2,a3,a4,a5⟩:=pY hg i s len hi (eK s len cs) vs' e hs0 k2 (by rw[f2,hcl]) (by rw[k1];exact Ae _) hmax (fun j h2 _=>f4 j h2)
     (fun p h1 q h2 h3=>by
      have hlt:p*s+q<cs.length:=by omega
      rw[k3 p h1 q h2 hlt]
      exact f3 _ hlt h3) g.w rfl rfl Tp.rfl rfl
    rw[k1]at a4
    refine⟨_,g',?_,a2,a3,a4,a5⟩
    rw[a1]
    have hn:¬ (len*s>2 ^ 24):=by omega
    simp only[Instr.buildSlice,Sem.run_bind,run_underlying hu,Result.andThen_ok,eB hs,hn,if_false]
    by_cases hz0:len*s=0
    ·have hrow0:row=#[]:=Array.eq_empty_of_size_eq_zero (by omega)
     rw[hrow0]at f1
     simp[hz0,f1,newRow,Array.range_zero']
    ·simp only[hz0,if_false,Sem.run_bind,hz1,Result.andThen_ok,Sem.run_pure]
     simp only[row]at f1
     rw[f1]
     simp[newRow]
   ·exact h.elim
  ·exact h.elim
 ·exact h.elim
def kiT (P:Program) (t:TypeId):Option IntKind:=match P.underlying t with|some (.int k)=>some k|_=>none
theorem zQ {P:Program} {t:TypeId} {k:IntKind} (h:kiT P t=some k):P.underlying t=some (.int k):=by
 unfold kiT at h
 split at h
 ·simp only[A7.injEq]at h;subst h;assumption
 ·contradiction
def rT (b:UInt8):List AV:=[.lit (.int .u8 b.toNat)]
def rH (P:Program) (src dst:TypeId) (x:AV) (ob:Nat→AV) (E:Eff→Prop):Prop :=
 match x with
 | .lit (.int _ n)=>(kiT P src).isSome=true∧match kiT P dst with
  | some k=>E ⟨.lit (.int k (k.wrap n)),[],[]⟩
  | none=>False
 | .lit (.string s)=>bH P src=true∧bH P dst=true∧E ⟨.lit (.string s),[],[]⟩
 | x=>bH P dst=true∧match slT P src with
  | some (e,_)=>kiT P e=some .u8∧match rD x ob with
   | some (es,ls)=>∃ bs:List UInt8,es=bs.map rT∧E ⟨.lit (.string ⟨bs.toArray⟩),[],ls⟩
   | none=>False
  | none=>False
theorem b4x {P : Program} (w : World) (f : Value → ByteArray → Sem (ForInStep ByteArray)) (hf : ∀ n s, f (.int .u8 n) s = pure (.yield (s.push (UInt8.ofNat n.toNat)))) : ∀ (bs : List UInt8) (acc : ByteArray),
  (ForIn.forIn (m:=Sem) (bs.map fun b=>Value.int .u8 b.toNat) acc f).run P w=.ok ⟨acc.data++bs.toArray⟩ w:=by
 intro bs
 induction bs with
 | nil=>intro acc;simp
 | cons b bs ih =>
  intro acc
  simp only[List.map_cons,List.forIn_cons,Sem.run_bind,hf,Sem.run_pure,Result.andThen_ok]
  have:=ih (acc.push b)
  simp only[Int.toNat_natCast,UInt8.ofNat_toNat]at this ⊢
  rw[this]
  congr 2
  simp[ByteArray.push]
theorem c2s {c : Cx} {src dst : TypeId} {x : AV} {ob : Nat → AV} {E : Eff → Prop} (h : rH c.P src dst x ob E) :
  ∃ e,E e∧e.ob=[]∧∀ ob',(∀ l∈e.rd,ob' l=ob l)→∀ g v,GOk c g ob'→Rel g x v→∃ u,(convert src dst v).run c.P g.w=.ok u g.w∧Rel g e.val u:=by
 unfold rH at h
 split at h
 ·rename_i k n
  obtain⟨h1,h⟩:=h
  cases hs:kiT c.P src with
  | none=>simp[hs]at h1
  | some k1 =>
   have hu:=zQ hs
   split at h
   ·rename_i k2 hk2
    have hu2:=zQ hk2
    refine⟨_,h,rfl,fun ob' ho g v hg hr=>?_⟩
    cases hr
    exact⟨_,by simp[convert,Sem.run_bind,run_underlying hu,run_underlying hu2,Conv.intToInt],.lit _⟩
   ·exact h.elim
 ·rename_i s
  obtain⟨h1,h2,h⟩:=h
  refine⟨_,h,rfl,fun ob' ho g v hg hr=>?_⟩
  cases hr
  exact⟨_,by simp[convert,Sem.run_bind,run_underlying (pJ h1),run_underlying (pJ h2)],.lit _⟩
 ·obtain⟨h1,h⟩:=h
  have hu2:=pJ h1
  split at h
  ·rename_i e s hsl
   obtain⟨hke,h⟩:=h
   have hue:=zQ hke
   have hu:=(kU hsl).1
   split at h
   ·rename_i es ls hn
    obtain⟨bs,rfl,h⟩:=h
    refine⟨_,h,rfl,fun ob' ho g v hg hr=>?_⟩
    have hh:=pP (k:=1) hn (fun e he=>by obtain⟨b,_,rfl⟩:=List.mem_map.1 he;rfl) ho hg hr
    refine⟨.string ⟨bs.toArray⟩,?_,.lit _⟩
    have hcv:∀ v',v'=v→(∃ a n cap,v'=.slice a n cap)→(convert src dst v').run c.P g.w=(Conv.bytesToString v').run c.P g.w:=by
     rintro v' rfl ⟨a,n,cap,rfl⟩
     simp[convert,Sem.run_bind,run_underlying hu,run_underlying hu2,run_underlying hue]
    rcases hh with⟨hnil,a,cap,rfl⟩|⟨a,cap,us,rfl,hul,hcells,hone,hrel⟩
    ·have:bs=[]:=by simpa using hnil
     subst this
     rw[hcv _ rfl ⟨_,_,_,rfl⟩]
     cases a<;>simp[Conv.bytesToString,loadCells,loadCellsFrom,ByteArray.empty,ByteArray.emptyWithCapacity]<;>rfl
    ·rw[hcv _ rfl ⟨_,_,_,rfl⟩]
     have hus:us=bs.map fun b=>Value.int .u8 b.toNat:=by
      apply List.ext_getElem
      ·simp[hul]
      ·intro i h1 h2
       have hi:i<bs.length:=by simpa using h2
       have:=hrel i (by simpa using hi) 0 (by simp[rT]) (by omega)
       simp only[Nat.mul_one,A4,List.getElem_map,rT,List.getElem_cons_zero]at this
       generalize hy:us[i]=y at this
       cases this
       simp
     have hl:=run_loadCells_list (P:=c.P) g.w a us (fun j u hu=>hcells j u hu)
     have hlen:us.length=(bs.map rT).length:=by simp[hus]
     rw[hlen]at hl
     simp only[Conv.bytesToString,Sem.run_bind,hl,Result.andThen_ok,hus]
     rw[← Array.forIn_toList]
     simp only[]
     rw[b4x (P:=c.P) g.w _ (fun n s=>rfl) bs ByteArray.empty]
     simp[ByteArray.empty,ByteArray.emptyWithCapacity]
     rfl
   ·exact h.elim
  ·exact h.elim
end Go.Sx
