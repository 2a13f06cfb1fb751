import Derived.Test.YtjlfgmhmalbiiaaGreatDoorW04
set_option linter.all false
open List renaming getElem_mem → Aa, map_congr_left → Ac, mem_flatMap → Ad, map_cons → Ai, mem_cons → Aj, getElem_map → Ak
open Nat renaming le_refl → Ab, mul_le_mul_right → Ae, lt_of_lt_of_le → Af, le_trans → Ag, add_mul → Ah
open Option renaming map_some → Al
namespace Go.Sx
set_option linter.unusedVariables false
set_option linter.unusedSimpArgs false
inductive In (K:Nat→Prop):AV→Prop
 | any:In K .any
 | lit (v:Value):In K (.lit v)
 | agg (cs:List AV) (h:∀ c∈cs,In K c):In K (.agg cs)
 | tup (cs:List AV) (h:∀ c∈cs,In K c):In K (.tup cs)
 | sl (es:List (List AV)) (h:∀ e∈es,∀ c∈e,In K c):In K (.sl es)
 | fp (cs:List AV) (h:∀ c∈cs,In K c):In K (.fp cs)
 | clo (f:Nat) (cs:List AV) (h:∀ c∈cs,In K c):In K (.clo f cs)
 | loc (l o:Nat) (h:K l):In K (.loc l o)
 | ref (l o n m:Nat) (h:K l):In K (.ref l o n m)
 | vp (l i j m:Nat) (h:K l):In K (.vp l i j m)
 | bs (l o k n:Nat) (h:K l):In K (.bs l o k n)
 | zs:In K .zs
 | mp (l:Nat) (h:K l):In K (.mp l)
theorem cY {g g':Gh} {K:Nat→Prop} (hf:∀ b,g.fz b→g'.fz b∧g'.w.heap[b]?=g.w.heap[b]?) (hK:∀ l,K l→g.us l→g'.us l∧g'.blk l=g.blk l∧g'.des l=g.des l∧g'.len l=g.len l) {a:AV} {v:Value} (h:Rel g a v):In K a→Rel g' a v:=by
 induction h with
 | any v=>intro _;exact .any v
 | lit v=>intro _;exact .lit v
 | agg cs vs hs ho _ ih=>intro hi;cases hi with|agg _ hi=>exact .agg cs vs hs ho fun i h1 h2=>ih i h1 h2 (hi _ (Aa h1))
 | tup cs vs hs _ ih=>intro hi;cases hi with|tup _ hi=>exact .tup cs vs hs fun i h1 h2=>ih i h1 h2 (hi _ (Aa h1))
 | slnil=>intro _;exact .slnil
 | sl es b o cap k vs e fr hfz hb hc hk hs ho _ ih =>
  intro hi
  cases hi with
  | sl _ hi=>exact .sl es b o cap k vs e fr (hf b hfz).1 ((hf b hfz).2.trans hb) hc hk hs ho fun i h1 j h2 h3=>ih i h1 j h2 h3 (hi _ (Aa h1) _ (Aa h2))
 | fp cs b o vs e fr hfz hb hs ho _ ih=>intro hi;cases hi with|fp _ hi=>exact .fp cs b o vs e fr (hf b hfz).1 ((hf b hfz).2.trans hb) hs ho fun j h1 h2=>ih j h1 h2 (hi _ (Aa h1))
 | loc l o hu=>intro hi;cases hi with|loc _ _ hk=>obtain⟨h1,h2,_⟩:=hK l hk hu;rw[← h2];exact .loc l o h1
 | ref l o n m v hu hm hc hv=>intro hi;cases hi with|ref _ _ _ _ hk=>obtain⟨h1,h2,h3,h4⟩:=hK l hk hu;exact .ref l o n m v h1 (by omega) hc (fun e=>by rw[h3];exact hv (by omega))
 | vp l i j m v hu hm hc hv=>intro hi;cases hi with|vp _ _ _ _ hk=>obtain⟨h1,h2,h3,h4⟩:=hK l hk hu;exact .vp l i j m v h1 (by omega) hc (fun e=>by rw[h3];exact hv (by omega))
 | clo f caps vs hs _ ih=>intro hi;cases hi with|clo _ _ hi=>exact .clo f caps vs hs fun i h1 h2=>ih i h1 h2 (hi _ (Aa h1))
 | bs l o k n cap hu hc=>intro hi;cases hi with|bs _ _ _ _ hk=>obtain⟨h1,h2,_⟩:=hK l hk hu;rw[← h2];exact .bs l o k n cap h1 hc
 | zs=>intro _;exact .zs
 | mp l hu=>intro hi;cases hi with|mp _ hk=>obtain⟨h1,h2,_⟩:=hK l hk hu;rw[← h2];exact .mp l h1
def aF:Nat→AV:=fun _=>.any
def bG (P:Program) (g:Gh) (ob:Nat→AV):Cx:={ P:=P,w0:=g.w,fz0:=g.fz,W0:=fun b=>∃ l,aE g l (ob l)=some b,K0:=g.us,g0:=g }
def CallOK (P:Program) (f:Nat) (args:List AV) (pre:List (Nat × AV)) (r:AV) (post:List (Nat × AV)):Prop :=
 ∀ (g:Gh) (vals:List Value),(∀ l,g.us l↔l∈pre.map (·.1))→GOk (bG P g (upd aF pre)) g (upd aF pre)→RelL g args vals →
  Calls P f vals.toArray g.w fun e w'=>∃ v g',e=.returned v∧g'.w=w'∧Ev g g'∧(∀ l,g'.us l↔g.us l)∧GOk (bG P g (upd aF pre)) g' (upd aF post)∧Rel g' r v
def fnT (P:Program) (f:Nat):Bool:=match P.funcs[f]? with|some fn=>!(fn.name == "runtime.NumGoroutine")&&fn.body.isSome|none=>false
theorem a2p {P:Program} {f:Nat} (h:fnT P f=true) (args:Array Value) (w:World):(callFunc f args).run P w=.ok (.enter f args) w:=by
 unfold fnT at h
 split at h
 ·rename_i fn hf
  simp only[Bool.and_eq_true,Bool.not_eq_true',beq_eq_false_iff_ne]at h
  obtain⟨h1,h2⟩:=h
  cases hb:fn.body with
  | none=>simp[hb]at h2
  | some b=>simp[callFunc,Sem.run_bind,hf,h1,hb]
 ·contradiction
def bw (ob:Nat→AV):AV→AV
 | .loc l o=>match ob l with
  | .blk cs=>if o≤cs.length then .fp (cs.drop o)else .any
  | _=>.any
 | .vp l i j m=>match ob l with
  | .vec k es=>if m=es.length∧i<es.length∧j≤k then .fp ((es.getD i []).drop j)else .any
  | _=>.any
 | .ref l o n m=>match ob l with
  | .vec k es=>if m=es.length∧o+n≤m∧0<m then .sl ((es.drop o).take n)else if m=es.length∧m=0∧o=0∧n=0 then .sl []else .any
  | _=>.any
 | .bs l o k n=>match ob l with
  | .blk cs=>if o+n*k≤cs.length then .sl (eK k n (cs.drop o))else .any
  | _=>.any
 | a=>a
def gI (g:Gh) (ob:Nat→AV):Gh:={ g with fz:=fun b=>g.fz b∨∃ l,aE g l (ob l)=some b }
theorem vO (g:Gh) (ob:Nat→AV):Ev g (gI g ob):=⟨fun b hb=>⟨.inl hb,rfl⟩,fun l hl=>⟨hl,rfl,Ab _,fun _=>rfl⟩⟩
theorem a2v {g:Gh} {ob:Nat→AV} {b o:Nat} {cs:List AV} (h:Seg g b o cs):Seg (gI g ob) b o cs:=by
 obtain⟨vs,e,fr,h1,h2,h3,h4⟩:=h
 exact⟨vs,e,fr,h1,h2,h3,fun j a1 a2=>(h4 j a1 a2).mono (vO g ob)⟩
theorem yQ {g : Gh} {b o k n cap : Nat} {vs : Array Value} {e : TypeId} {fr : Nat × Nat} {es : List (List AV)} (hn : es.length = n) (hf : g.fz b) (hb : g.w.heap[b]? = some (.cells vs e fr)) (hc : n ≤ cap) (hk : ∀ x ∈ es, x.length = k)
  (hs:o+n*k≤vs.size) (h1:∀ j (h1:o+j<vs.size),j<n*k→vs[o+j].oneCell'=true) (hr:∀ i (h1:i<es.length) j (h2:j<es[i].length) (h3:o+i*k+j<vs.size),Rel g es[i][j] vs[o+i*k+j]) :
  Rel g (.sl es) (.slice (some ⟨b,o,none⟩) n cap):=by
 subst hn
 exact .sl es b o cap k vs e fr hf hb hc (fun i hi=>hk _ (Aa hi)) (fun _=>hs) h1 hr
theorem oO {c:Cx} {g:Gh} {ob:Nat→AV} (hg:GOk c g ob) {a:AV} {v:Value} (h:Rel g a v):Rel (gI g ob) (bw ob a) v:=by
 have hkeep:=h.mono (vO g ob)
 cases a with
 | loc l o =>
  simp only[bw]
  split
  ·rename_i cs hob
   split
   ·cases h with
    | loc _ _ hu =>
     have hseg:=(a3j hg hob).drop o (by assumption)
     simp only[Nat.zero_add]at hseg
     exact sU (.inr ⟨l,by rw[hob];rfl⟩) (a2v hseg)
   ·exact .any _
  ·exact .any _
 | vp l i j m =>
  simp only[bw]
  split
  ·rename_i k es hob
   split
   ·rename_i hc
    obtain⟨hm,hi,hj⟩:=hc
    have hok:=hg.obj l
    rw[hob]at hok
    cases h with
    | vp _ _ _ _ _ hu hm' hc hv =>
     obtain⟨b,hb,rfl⟩:=hv (by rw[hok.2.2.1,hm])
     obtain⟨b',hb',hseg⟩:=a3i hg hob hi
     obtain rfl:b=b':=by simpa [hb]using hb'
     have hlen:es[i].length=k:=hok.2.2.2.2.1 _ (Aa _)
     rw[hok.2.1]
     have hgd:es.getD i []=es[i]:=by simp[List.getD,List.getElem?_eq_getElem hi]
     rw[hgd]
     exact sU (.inr ⟨l,by rw[hob];exact hb⟩) (a2v (hseg.drop j (by omega)))
   ·exact .any _
  ·exact .any _
 | ref l o n m =>
  simp only[bw]
  split
  ·rename_i k es hob
   have hok:=hg.obj l
   rw[hob]at hok
   obtain⟨hus,hk,hln,hk0,hke,h5⟩:=hok
   split
   ·rename_i hc
    obtain⟨hm,hon,hm0⟩:=hc
    cases h with
    | ref _ _ _ _ _ hu hm' hc hv =>
     have hv:=hv (by omega)
     rcases h5 with⟨_,rfl,_⟩|⟨b,vs,h6,h7,h8,h9,h10,h11,h12⟩
     ·simp at hm;omega
     ·simp only[Des.slice,h6,Al,hk]at hv
      subst hv
      have hlen:((es.drop o).take n).length=n:=by simp;omega
      have hcap:es.length*k≤(g.des l).cap*k:=Ae _ h8
      have hon':(o+n)*k≤es.length*k:=Ae _ (by omega)
      rw[Ah]at hon'
      refine yQ (k:=k) hlen (.inr ⟨l,by rw[hob];exact h6⟩) h7 (by omega) (fun x hx=>hke x (List.mem_of_mem_drop (List.mem_of_mem_take hx))) (by omega) (fun j h1 h2=>h11 _ _ (by omega)) (fun i h1 j h2 h3=>?_)
      rw[mD]at h2
      have hx:=h12 (o+i) (by omega) j h2 (by rw[Ah];omega)
      simp only[mD]
      have e3:(o+i)*k+j=o*k+i*k+j:=by rw[Ah]
      simp only[e3]at hx
      exact hx.mono (vO g ob)
   ·split
    ·rename_i hc
     obtain⟨hm,rfl,rfl,rfl⟩:=hc
     cases h with
     | ref _ _ _ _ _ hu hm' hc hv =>
      have hv:=hv (by omega)
      have hnil:es=[]:=List.eq_nil_of_length_eq_zero hm.symm
      rcases h5 with⟨h6,_,h7⟩|⟨b,vs,h6,h7,h8,h9,h10,h11,h12⟩
      ·simp only[Des.slice,h6,Option.map_none,h7,Nat.sub_zero]at hv
       subst hv
       exact .slnil
      ·simp only[Des.slice,h6,Al,hk]at hv
       subst hv
       exact yQ (k:=k) rfl (.inr ⟨l,by rw[hob];exact h6⟩) h7 (by omega) (fun x hx=>by simp at hx) (by omega) (fun j h1 h2=>by simp at h2) (fun i h1=>by simp at h1)
    ·exact .any _
  ·exact .any _
 | bs l o k n =>
  simp only[bw]
  split
  ·rename_i cs hob
   split
   ·rename_i hle
    have hok:=hg.obj l
    rw[hob]at hok
    obtain⟨hus,vs,e,h1,h2,h3,h4⟩:=hok
    cases h with
    | bs _ _ _ _ cap hu hc =>
     obtain⟨k1,k2,k3⟩:=a4b k n (cs.drop o) (by simp;omega)
     refine yQ (k:=k) k1 (.inr ⟨l,by rw[hob];rfl⟩) h1 hc k2 (by omega) (fun j hj _=>h3 _ _) (fun i hi j hj hlt=>?_)
     have hik:i*k+k≤n*k:=by
      have:(i+1)*k≤n*k:=Ae _ (by omega)
      rw[Ah]at this;omega
     have hjk:j<k:=by rw[← k2 _ (Aa hi)];exact hj
     rw[k3 i hi j hj (by simp;omega)]
     simp only[List.getElem_drop]
     have hx:=h4 (o+(i*k+j)) (by omega) (by omega)
     simp only[← Nat.add_assoc]at hx ⊢
     exact hx.mono (vO g ob)
   ·exact .any _
  ·exact .any _
 | _=>exact hkeep
def bwa (ob:Nat→AV):AV→AV
 | .agg cs=>.agg (cs.map (bw ob))
 | .clo f cs=>.clo f (cs.map (bw ob))
 | a=>bw ob a
theorem a0f {c:Cx} {g:Gh} {ob:Nat→AV} (hg:GOk c g ob) {a:AV} {v:Value} (h:Rel g a v):Rel (gI g ob) (bwa ob a) v:=by
 cases a with
 | agg cs =>
  cases h with
  | agg _ vs hs ho hr=>exact .agg _ _ (by simpa using hs) ho fun i h1 h2=>by simp only[Ak];exact oO hg (hr i (by simpa using h1) h2)
 | clo f cs =>
  cases h with
  | clo _ _ vs hs hr=>exact .clo _ _ _ (by simpa using hs) fun i h1 h2=>by simp only[Ak];exact oO hg (hr i (by simpa using h1) h2)
 | _=>exact oO hg h
end Go.Sx
namespace Go.Sx
set_option linter.unusedVariables false
set_option linter.unusedSimpArgs false
def oZ:AV→List Nat
 | .loc l _|.ref l _ _ _|.vp l _ _ _|.bs l _ _ _=>[l]
 | _=>[]
theorem wO {ob ob':Nat→AV} {a:AV} (h:∀ l∈oZ a,ob' l=ob l):bw ob' a=bw ob a:=by
 cases a<;>simp only[bw]<;>(try rfl)<;>rw[h _ (by simp[oZ])]
def idA:AV→List Nat
 | .agg cs=>cs.flatMap oZ
 | .clo _ cs=>cs.flatMap oZ
 | a=>oZ a
theorem zB {ob ob':Nat→AV} {a:AV} (h:∀ l∈idA a,ob' l=ob l):bwa ob' a=bwa ob a:=by
 cases a with
 | agg cs=>simp only[bwa];congr 1;exact Ac fun x hx=>wO fun l hl=>h l (Ad.2 ⟨x,hx,hl⟩)
 | clo f cs=>simp only[bwa];congr 1;exact Ac fun x hx=>wO fun l hl=>h l (Ad.2 ⟨x,hx,hl⟩)
 | _=>simp only[bwa];exact wO fun l hl=>h l (by simpa only[idA]using hl)
def InC (K:Nat→Prop):AV→Prop
 | .blk cs=>∀ c∈cs,In K c
 | .vec _ es=>∀ e∈es,∀ c∈e,In K c
 | .vcp _ es _=>∀ e∈es,∀ c∈e,In K c
 | .ito m _ _=>K m
 | .lpo _ _ _ _ _ _ ts=>∀ c∈ts,In K c
 | _=>True
theorem w6 {K:Nat→Prop} {ts:List AV} (h:∀ c∈ts,In K c) (t:Nat):In K (ts.getD t .any):=by
 rw[List.getD_eq_getElem?_getD]
 cases hq:ts[t]? with
 | none=>exact .any
 | some c=>exact h _ (List.mem_of_getElem? hq)
def XOK (P:Program) (M:List Value→World→(Ending→World→Prop)→Prop) (args:List AV) (pre:List (Nat × AV)) (r:AV) (post:List (Nat × AV)):Prop :=
 ∀ (g:Gh) (vals:List Value),(∀ l,g.us l↔l∈pre.map (·.1))→GOk (bG P g (upd aF pre)) g (upd aF pre)→RelL g args vals →
  M vals g.w fun e w'=>∃ v g',e=.returned v∧g'.w=w'∧Ev g g'∧(∀ l,g'.us l↔g.us l)∧GOk (bG P g (upd aF pre)) g' (upd aF post)∧Rel g' r v
def MY (P:Program) (L:Nat) (vals:List Value) (w:World) (R:Ending→World→Prop):Prop :=
 ∃ f tm asg body,(Instr.yield L vals.toArray).run P w=.ok (.round L f tm asg body) w∧RoundIn Fence.wide 0 P L f tm asg body w R
def callY (P:Program) (L:Nat) (args:List AV) (ob:Nat→AV) (E:Eff→Prop):Prop :=
 ∃ pre r post,XOK P (MY P L) args pre r post∧(∀ p∈pre,ob p.1=p.2)∧(∀ a∈args,In (fun l=>l∈pre.map (·.1)) a)∧(∀ p∈pre,InC (fun l=>l∈pre.map (·.1)) p.2)∧(pre.map (·.1)).Nodup ∧
  In (fun _=>False) r∧(∀ p∈post,p.1∈pre.map (·.1)∧InC (fun l=>l∈pre.map (·.1)) p.2)∧(pre.map (·.1)).all (fun l=>(post.map (·.1)).contains l)=true∧E ⟨r,post,pre.map (·.1)⟩
def b1w (P:Program) (f:Nat) (args:List AV) (ob:Nat→AV) (E:Eff→Prop):Prop :=
 ∃ r,fnT P f=true∧CallOK P f (args.map (bwa ob)) [] r []∧(∀ a∈args.map (bwa ob),In (fun _=>False) a)∧Flat r∧E ⟨r,[],args.flatMap idA⟩
def b1v (P:Program) (f:Nat) (args:List AV) (ob:Nat→AV) (E:Eff→Prop):Prop :=
 ∃ pre r post,fnT P f=true∧CallOK P f args pre r post∧(∀ p∈pre,ob p.1=p.2)∧(∀ a∈args,In (fun l=>l∈pre.map (·.1)) a)∧(∀ p∈pre,InC (fun l=>l∈pre.map (·.1)) p.2)∧(pre.map (·.1)).Nodup ∧
  In (fun _=>False) r∧(∀ p∈post,p.1∈pre.map (·.1)∧InC (fun l=>l∈pre.map (·.1)) p.2)∧(pre.map (·.1)).all (fun l=>(post.map (·.1)).contains l)=true∧E ⟨r,post,pre.map (·.1)⟩
theorem gU {ob:Nat→AV}:∀ {e:List (Nat × AV)} {l:Nat},l∉e.map (·.1)→upd ob e l=ob l:=by
 intro e
 induction e with
 | nil=>intro l _;rfl
 | cons p e ih =>
  intro l h
  obtain⟨i,a⟩:=p
  simp only[Ai,Aj,not_or]at h
  simp only[upd]
  rw[if_neg (fun e=>h.1 e.symm)]
  exact ih h.2
theorem oK {ob:Nat→AV}:∀ {e:List (Nat × AV)} {l:Nat} {a:AV},upd ob e l=a→l∈e.map (·.1)→(l,a)∈e:=by
 intro e
 induction e with
 | nil=>intro l a _ h;simp at h
 | cons p e ih =>
  intro l a h hm
  obtain⟨i,x⟩:=p
  simp only[upd]at h
  by_cases hi:i=l
  ·rw[if_pos hi]at h
   subst hi
   subst h
   simp
  ·rw[if_neg hi]at h
   simp only[Ai,Aj]at hm
   rcases hm with hm|hm
   ·exact absurd hm.symm hi
   ·exact List.mem_cons_of_mem _ (ih h hm)
theorem tN {ob:Nat→AV} {e:List (Nat × AV)} (l:Nat) (h:l∈e.map (·.1)):upd ob e l=upd aF e l:=by
 induction e with
 | nil=>simp at h
 | cons p e ih =>
  obtain⟨i,x⟩:=p
  simp only[upd]
  by_cases hi:i=l
  ·rw[if_pos hi,if_pos hi]
  ·rw[if_neg hi,if_neg hi]
   simp only[Ai,Aj]at h
   rcases h with h|h
   ·exact absurd h.symm hi
   ·exact ih h
theorem b7t {c : Cx} {f : Nat} {args : List AV} {ob : Nat → AV} {E : Eff → Prop} (h : b1w c.P f args ob E) :
  ∃ e,E e∧fnT c.P f=true∧∀ ob',(∀ l∈e.rd,ob' l=ob l)→∀ g vals,GOk c g ob'→RelL g args vals →
   Calls c.P f vals.toArray g.w fun e' w'=>∃ v g',e'=.returned v∧g'.w=w'∧Ev g g'∧GOk c g' (upd ob' e.ob)∧Rel g' e.val v∧∀ l,g'.us l→g.us l:=by
 obtain⟨r,hfn,hok,hin,hflat,hE⟩:=h
 refine⟨_,hE,hfn,fun ob' ho g vals hg hr=>?_⟩
 have hbw:args.map (bwa ob')=args.map (bwa ob):=by
  apply Ac
  intro a ha
  exact zB fun l hl=>ho l (Ad.2 ⟨a,ha,hl⟩)
 let g0:Gh:={ gI g ob' with us:=fun _=>False }
 have hW:∀ b,¬ (bG c.P g0 (upd aF [])).W0 b:=by
  rintro b ⟨l,hl⟩
  simp[upd,aF,aE]at hl
 have hfzx:∀ b,g0.fz b→b<g0.w.heap.size:=by
  rintro b (hb|⟨l,hl⟩)
  ·exact hg.fzx b hb
  ·exact (hg.obj l).lt hl
 have hg0:GOk (bG c.P g0 (upd aF [])) g0 (upd aF []) :=
  ⟨rfl,Tp.rfl,rfl,Ab _,fun _ _ _=>rfl,fun b hb=>hb,fun b hb=>.inl hb,hfzx,fun l=>trivial,fun l b hb=>by simp[upd,aF,aE]at hb,fun l l' b hb=>by simp[upd,aF,aE]at hb⟩
 have hrel:RelL g0 (args.map (bwa ob)) vals:=by
  refine⟨by simp[hr.1],fun i h1 h2=>?_⟩
  have hi:i<args.length:=by simpa using h1
  have h3:=a0f hg (hr.2 i hi h2)
  have e1:bwa ob' args[i]=(args.map (bwa ob))[i]:=by
   have:(args.map (bwa ob'))[i]'(by simpa using hi)=(args.map (bwa ob))[i]:=by simp only[hbw]
   simpa using this
  rw[e1]at h3
  exact cY (g:=gI g ob') (g':=g0) (K:=fun _=>False) (fun b hb=>⟨hb,rfl⟩) (fun l hl=>hl.elim) h3 (hin _ (Aa h1))
 refine (hok g0 vals (fun l=>by simp[g0]) hg0 hrel).mono ?_
 rintro e' w' ⟨v,g',rfl,rfl,he,hus,hg',hrr⟩
 have hev:Ev g { g with w:=g'.w }:=⟨fun b hb=>⟨hb,(he.fz b (.inl hb)).2⟩,fun l hl=>⟨hl,rfl,Ab _,fun _=>rfl⟩⟩
 have hold:∀ b,b<g.w.heap.size→g'.w.heap[b]?=g.w.heap[b]?:=fun b hb=>hg'.old b hb (hW b)
 refine⟨v,{ g with w:=g'.w },rfl,rfl,hev,?_,hrr.flat hflat,fun l hl=>hl⟩
 have hblk:∀ l,aE { g with w:=g'.w } l (ob' l)=aE g l (ob' l):=fun l=>by cases ob' l<;>rfl
 refine⟨hg'.os.trans hg.os,hg'.tape.trans hg.tape,hg'.output.trans hg.output,Ag hg.size hg'.size,fun b hb hw=>?_,hg.fzo,hg.fzn,fun b hb=>Af (hg.fzx b hb) hg'.size,fun l=>?_,fun l b hb=>?_,fun l l' b hb hb'=>?_⟩
 ·show g'.w.heap[b]?=_
  rw[hold b (Af hb hg.size)]
  exact hg.old b hb hw
 ·exact (hg.obj l).keep hev ⟨rfl,rfl⟩ fun b hb=>hold b ((hg.obj l).lt hb)
 ·simp only[upd,hblk]at hb
  exact hg.own l b hb
 ·simp only[upd,hblk]at hb hb'
  exact hg.dis l l' b hb hb'
theorem zH {c : Cx} {M : List Value → World → (Ending → World → Prop) → Prop} (hM : ∀ {vals w} {R R' : Ending → World → Prop}, M vals w R → (∀ e w', R e w' → R' e w') → M vals w R') {args : List AV} {ob : Nat → AV} {pre post : List (Nat × AV)} {r : AV} (hok : XOK c.P M args pre r post)
  (hpre:∀ p∈pre,ob p.1=p.2) (hin:∀ a∈args,In (fun l=>l∈pre.map (·.1)) a) (hinc:∀ p∈pre,InC (fun l=>l∈pre.map (·.1)) p.2) (hnd:(pre.map (·.1)).Nodup)
  (hr0:In (fun _=>False) r) (hpost:∀ p∈post,p.1∈pre.map (·.1)∧InC (fun l=>l∈pre.map (·.1)) p.2) (hall:(pre.map (·.1)).all (fun l=>(post.map (·.1)).contains l)=true) :
  ∀ ob',(∀ l∈pre.map (·.1),ob' l=ob l)→∀ g vals,GOk c g ob'→RelL g args vals→(∀ l∈pre.map (·.1),g.us l) →
   M vals g.w fun e' w'=>∃ v g',e'=.returned v∧g'.w=w'∧Ev g g'∧GOk c g' (upd ob' post)∧Rel g' r v∧∀ l,g'.us l→g.us l:=by
 intro ob' ho g vals hg hr husk
 let K:Nat→Prop:=fun l=>l∈pre.map (·.1)
 let g0:Gh:={ g with us:=K }
 have hobK:∀ l,K l→upd aF pre l=ob' l:=fun l hl=>by
  have hm:=oK (ob:=aF) (e:=pre) (l:=l) rfl hl
  rw[ho l hl]
  exact (hpre _ hm).symm
 have hobN:∀ l,¬ K l→upd aF pre l=.any:=fun l hl=>gU hl
 have hcar:∀ {a v},Rel g a v→In K a→Rel g0 a v:=fun h hi=>cY (g:=g) (g':=g0) (K:=K) (fun b hb=>⟨hb,rfl⟩) (fun l hl hu=>⟨hl,rfl,rfl,rfl⟩) h hi
 have hblk0:∀ l a,aE g0 l a=aE g l a:=fun l a=>by cases a<;>rfl
 have hg0:GOk (bG c.P g0 (upd aF pre)) g0 (upd aF pre):=by
  refine⟨rfl,Tp.rfl,rfl,Ab _,fun _ _ _=>rfl,fun b hb=>hb,fun b hb=>.inl hb,hg.fzx,fun l=>?_,fun l b hb=>⟨.inl ⟨l,hb⟩,?_⟩,fun l l' b hb hb'=>?_⟩
  ·by_cases hl:K l
   ·have hm:=oK (ob:=aF) (e:=pre) (l:=l) rfl hl
    have hi:=hinc _ hm
    have hobl:=hg.obj l
    rw[← hobK l hl]at hobl
    generalize upd aF pre l=a at hobl hi
    cases a with
    | blk cs =>
     obtain⟨hu,vs,e,h1,h2,h3,h4⟩:=hobl
     exact⟨hl,vs,e,h1,h2,h3,fun i a1 a2=>hcar (h4 i a1 a2) (hi _ (Aa a1))⟩
    | vec k es =>
     obtain⟨hu,h1,h2,h3,h4,h5⟩:=hobl
     refine⟨hl,h1,h2,h3,h4,?_⟩
     rcases h5 with h5|⟨b,vs,h6,h7,h8,h9,h10,h11,h12⟩
     ·exact .inl h5
     ·exact .inr ⟨b,vs,h6,h7,h8,h9,h10,h11,fun i a1 j a2 a3=>hcar (h12 i a1 j a2 a3) (hi _ (Aa a1) _ (Aa a2))⟩
    | vcp k es cp =>
     obtain⟨⟨hu,h1,h2,h3,h4,h5⟩,h6⟩:=hobl
     refine⟨⟨hl,h1,h2,h3,h4,?_⟩,h6⟩
     rcases h5 with h5|⟨b,vs,h6,h7,h8,h9,h10,h11,h12⟩
     ·exact .inl h5
     ·exact .inr ⟨b,vs,h6,h7,h8,h9,h10,h11,fun i a1 j a2 a3=>hcar (h12 i a1 j a2 a3) (hi _ (Aa a1) _ (Aa a2))⟩
    | mpo es=>obtain⟨hu,arr,clock,h1,h2⟩:=hobl;exact⟨hl,arr,clock,h1,h2⟩
    | ito m n s=>exact⟨hl,hi,hobl.2.2⟩
    | lpo L fn nt ps asg body ts=>obtain⟨hu,hL,tm,df,h1,h2,h3⟩:=hobl;exact⟨hl,hL,tm,df,h1,h2,fun t=>hcar (h3 t) (w6 hi t)⟩
    | _=>trivial
   ·rw[hobN l hl];trivial
  ·by_cases hl:K l
   ·rw[hobK l hl,hblk0]at hb
    exact (hg.own l b hb).2
   ·rw[hobN l hl]at hb;simp[aE]at hb
  ·by_cases hl:K l
   ·by_cases hl':K l'
    ·rw[hobK l hl,hblk0]at hb
     rw[hobK l' hl',hblk0]at hb'
     exact hg.dis l l' b hb hb'
    ·rw[hobN l' hl']at hb';simp[aE]at hb'
   ·rw[hobN l hl]at hb;simp[aE]at hb
 have hrel:RelL g0 args vals:=⟨hr.1,fun i h1 h2=>hcar (hr.2 i h1 h2) (hin _ (Aa h1))⟩
 refine hM (hok g0 vals (fun l=>Iff.rfl) hg0 hrel) ?_
 rintro e' w' ⟨v,g',rfl,rfl,he,hus,hg',hrr⟩
 let g1:Gh:={ w:=g'.w,fz:=g'.fz,us:=g.us,blk:=g.blk,des:=fun l=>if l∈pre.map (·.1)then g'.des l else g.des l,len:=fun l=>if l∈pre.map (·.1)then g'.len l else g.len l }
 have hd1:∀ l,K l→g1.des l=g'.des l∧g1.len l=g'.len l:=fun l hl=>⟨if_pos hl,if_pos hl⟩
 have hd0:∀ l,¬ K l→g1.des l=g.des l∧g1.len l=g.len l:=fun l hl=>⟨if_neg hl,if_neg hl⟩
 have hev:Ev g g1:=by
  refine⟨fun b hb=>he.fz b hb,fun l hl=>⟨hl,rfl,?_⟩⟩
  by_cases hk:K l
  ·obtain⟨_,_,h3,h4⟩:=he.us l hk
   rw[(hd1 l hk).1,(hd1 l hk).2]
   exact⟨h3,h4⟩
  ·rw[(hd0 l hk).1,(hd0 l hk).2]
   exact⟨Ab _,fun _=>rfl⟩
 have hcar1:∀ {a v},Rel g' a v→In K a→Rel g1 a v:=fun h hi=>cY (g:=g') (g':=g1) (K:=K) (fun b hb=>⟨hb,rfl⟩) (fun l hl hu=>⟨husk l hl,((he.us l hl).2.1).symm,(hd1 l hl).1,(hd1 l hl).2⟩) h hi
 have hcar0:∀ {a v},Rel g' a v→In (fun _=>False) a→Rel g1 a v:=fun h hi=>cY (g:=g') (g':=g1) (K:=fun _=>False) (fun b hb=>⟨hb,rfl⟩) (fun l hl hu=>hl.elim) h hi
 have hpk:∀ l,K l→l∈post.map (·.1):=fun l hl=>by
  have:=List.all_eq_true.1 hall l hl
  simpa using this
 have hobP:∀ l,K l→upd ob' post l=upd aF post l:=fun l hl=>tN l (hpk l hl)
 have hobQ:∀ l,¬ K l→upd ob' post l=ob' l:=fun l hl=>gU fun hm=>by
  obtain⟨p,hp,rfl⟩:=List.mem_map.1 hm
  exact hl (hpost p hp).1
 have hblk1:∀ l,K l→∀ a,aE g1 l a=aE g' l a:=fun l hl a=>by
  cases a<;>simp only[aE]
  ·rw[show g1.blk l=g.blk l from rfl,(he.us l hl).2.1]
  ·rw[(hd1 l hl).1]
  ·rw[show g1.blk l=g.blk l from rfl,(he.us l hl).2.1]
  ·rw[show g1.blk l=g.blk l from rfl,(he.us l hl).2.1]
  ·rw[(hd1 l hl).1]
  ·rw[show g1.blk l=g.blk l from rfl,(he.us l hl).2.1]
 have hblk2:∀ l,¬ K l→∀ a,aE g1 l a=aE g l a:=fun l hl a=>by
  cases a<;>simp only[aE]
  ·rfl
  ·rw[(hd0 l hl).1]
  ·rfl
  ·rfl
  ·rw[(hd0 l hl).1]
  ·rfl
 have hWown:∀ b,(bG c.P g0 (upd aF pre)).W0 b→∃ l,K l∧aE g l (ob' l)=some b:=by
  rintro b ⟨l,hl⟩
  by_cases hk:K l
  ·rw[hobK l hk,hblk0]at hl;exact⟨l,hk,hl⟩
  ·rw[hobN l hk]at hl;simp[aE]at hl
 have hframe:∀ l b,¬ K l→aE g l (ob' l)=some b→g'.w.heap[b]?=g.w.heap[b]?:=fun l b hl hb=>hg'.old b ((hg.obj l).lt hb) fun hw=>by
  obtain⟨l',hk',hb'⟩:=hWown b hw
  exact hl (hg.dis l l' b hb hb'▸hk')
 refine⟨v,g1,rfl,rfl,hev,?_,hcar0 hrr hr0,fun l hl=>hl⟩
 refine⟨hg'.os.trans hg.os,hg'.tape.trans hg.tape,hg'.output.trans hg.output,Ag hg.size hg'.size,fun b hb hw=>?_,fun b hb=>hg'.fzo b (hg.fzo b hb),fun b hb=>?_,hg'.fzx,fun l=>?_,fun l b hb=>?_,fun l l' b hb hb'=>?_⟩
 ·show g'.w.heap[b]?=_
  have hlt:b<g.w.heap.size:=Af hb hg.size
  refine (hg'.old b hlt ?_).trans (hg.old b hb hw)
  intro hw'
  obtain⟨l,hk,hb'⟩:=hWown b hw'
  rcases (hg.own l b hb').1 with h|h
  ·exact hw h
  ·omega
 ·rcases hg'.fzn b hb with h|h|h
  ·exact hg.fzn b h
  ·obtain⟨l,hk,hb'⟩:=hWown b h
   rcases (hg.own l b hb').1 with h|h
   ·exact .inr (.inl h)
   ·exact .inr (.inr h)
  ·exact .inr (.inr (Ag hg.size h))
 ·by_cases hk:K l
  ·rw[show upd ob' _ l=_ from hobP l hk]
   have hm:=oK (ob:=aF) (e:=post) (l:=l) rfl (hpk l hk)
   have hi:=(hpost _ hm).2
   have hobl:=hg'.obj l
   generalize upd aF post l=a at hobl hi
   cases a with
   | blk cs =>
    obtain⟨hu,vs,e,h1,h2,h3,h4⟩:=hobl
    refine⟨husk l hk,vs,e,?_,h2,h3,fun i a1 a2=>hcar1 (h4 i a1 a2) (hi _ (Aa a1))⟩
    show g'.w.heap[g.blk l]?=_
    rw[← show g'.blk l=g.blk l from (he.us l hk).2.1]
    exact h1
   | vec k es =>
    obtain⟨hu,h1,h2,h3,h4,h5⟩:=hobl
    refine⟨husk l hk,by rw[(hd1 l hk).1];exact h1,by rw[(hd1 l hk).2];exact h2,h3,h4,?_⟩
    rw[(hd1 l hk).1]
    rcases h5 with h5|⟨b,vs,h6,h7,h8,h9,h10,h11,h12⟩
    ·exact .inl h5
    ·exact .inr ⟨b,vs,h6,h7,h8,h9,h10,h11,fun i a1 j a2 a3=>hcar1 (h12 i a1 j a2 a3) (hi _ (Aa a1) _ (Aa a2))⟩
   | vcp k es cp =>
    obtain⟨⟨hu,h1,h2,h3,h4,h5⟩,h6⟩:=hobl
    refine⟨⟨husk l hk,by rw[(hd1 l hk).1];exact h1,by rw[(hd1 l hk).2];exact h2,h3,h4,?_⟩,by rw[(hd1 l hk).1];exact h6⟩
    rw[(hd1 l hk).1]
    rcases h5 with h5|⟨b,vs,h6,h7,h8,h9,h10,h11,h12⟩
    ·exact .inl h5
    ·exact .inr ⟨b,vs,h6,h7,h8,h9,h10,h11,fun i a1 j a2 a3=>hcar1 (h12 i a1 j a2 a3) (hi _ (Aa a1) _ (Aa a2))⟩
   | mpo es =>
    obtain⟨hu,arr,clock,h1,h2⟩:=hobl
    refine⟨husk l hk,arr,clock,?_,h2⟩
    show g'.w.heap[g.blk l]?=_
    rw[← show g'.blk l=g.blk l from (he.us l hk).2.1]
    exact h1
   | ito m n s =>
    refine⟨husk l hk,husk m hi,?_⟩
    show g'.w.heap[g.blk l]?=some (.mapIter (some (g.blk m)) n s.toArray n)
    rw[← show g'.blk l=g.blk l from (he.us l hk).2.1,← show g'.blk m=g.blk m from (he.us m hi).2.1]
    exact hobl.2.2
   | lpo L fn nt ps asg body ts=>obtain⟨hu,hL,tm,df,h1,h2,h3⟩:=hobl;exact⟨husk l hk,(he.us l hk).2.1.symm.trans hL,tm,df,h1,h2,fun t=>hcar1 (h3 t) (w6 hi t)⟩
   | _=>trivial
  ·rw[show upd ob' _ l=_ from hobQ l hk]
   exact (hg.obj l).keep hev (hd0 l hk) fun b hb=>hframe l b hk hb
 ·by_cases hk:K l
  ·rw[show upd ob' _ l=_ from hobP l hk,hblk1 l hk]at hb
   obtain⟨h1,h2⟩:=hg'.own l b hb
   refine⟨?_,h2⟩
   rcases h1 with h1|h1
   ·obtain⟨l',hk',hb'⟩:=hWown b h1
    exact (hg.own l' b hb').1
   ·exact .inr (Ag hg.size h1)
  ·rw[show upd ob' _ l=_ from hobQ l hk,hblk2 l hk]at hb
   refine⟨(hg.own l b hb).1,fun hf=>?_⟩
   rcases hg'.fzn b hf with h|h|h
   ·exact (hg.own l b hb).2 h
   ·obtain⟨l',hk',hb'⟩:=hWown b h
    exact hk (hg.dis l l' b hb hb'▸hk')
   ·have h1:=(hg.obj l).lt hb
    have h2:g.w.heap.size≤b:=h
    omega
 ·have far:∀ l l' b,K l→¬ K l'→aE g1 l (upd ob' post l)=some b→aE g1 l' (upd ob' post l')=some b→False:=by
   intro l l' b hk hk' hb hb'
   rw[hobP l hk,hblk1 l hk]at hb
   rw[hobQ l' hk',hblk2 l' hk']at hb'
   rcases (hg'.own l b hb).1 with h|h
   ·obtain⟨l2,hk2,hb2⟩:=hWown b h
    exact hk' (hg.dis l' l2 b hb' hb2▸hk2)
   ·have h1:=(hg.obj l').lt hb'
    have h2:g.w.heap.size≤b:=h
    omega
  by_cases hk:K l
  ·by_cases hk':K l'
   ·rw[show upd ob' _ l=_ from hobP l hk,hblk1 l hk]at hb
    rw[show upd ob' _ l'=_ from hobP l' hk',hblk1 l' hk']at hb'
    exact hg'.dis l l' b hb hb'
   ·exact (far l l' b hk hk' hb hb').elim
  ·by_cases hk':K l'
   ·exact (far l' l b hk' hk hb' hb).elim
   ·rw[show upd ob' _ l=_ from hobQ l hk,hblk2 l hk]at hb
    rw[show upd ob' _ l'=_ from hobQ l' hk',hblk2 l' hk']at hb'
    exact hg.dis l l' b hb hb'
theorem b7s {c : Cx} {f : Nat} {args : List AV} {ob : Nat → AV} {E : Eff → Prop} (h : b1v c.P f args ob E) :
  ∃ e,E e∧fnT c.P f=true∧∀ ob',(∀ l∈e.rd,ob' l=ob l)→∀ g vals,GOk c g ob'→RelL g args vals→(∀ l∈e.rd,g.us l) →
   Calls c.P f vals.toArray g.w fun e' w'=>∃ v g',e'=.returned v∧g'.w=w'∧Ev g g'∧GOk c g' (upd ob' e.ob)∧Rel g' e.val v∧∀ l,g'.us l→g.us l:=by
 obtain⟨pre,r,post,hfn,hok,hpre,hin,hinc,hnd,hr0,hpost,hall,hE⟩:=h
 exact⟨_,hE,hfn,zH (M:=fun vals w R=>Calls c.P f vals.toArray w R) (fun h k=>h.mono k) hok hpre hin hinc hnd hr0 hpost hall⟩
theorem b7o {c : Cx} {L : Nat} {args : List AV} {ob : Nat → AV} {E : Eff → Prop} (h : callY c.P L args ob E) :
  ∃ e,E e∧∀ ob',(∀ l∈e.rd,ob' l=ob l)→∀ g vals,GOk c g ob'→RelL g args vals→(∀ l∈e.rd,g.us l) →
   MY c.P L vals g.w fun e' w'=>∃ v g',e'=.returned v∧g'.w=w'∧Ev g g'∧GOk c g' (upd ob' e.ob)∧Rel g' e.val v∧∀ l,g'.us l→g.us l:=by
 obtain⟨pre,r,post,hok,hpre,hin,hinc,hnd,hr0,hpost,hall,hE⟩:=h
 exact⟨_,hE,zH (M:=MY c.P L) (fun⟨f,tm,asg,body,h1,h2⟩ k=>⟨f,tm,asg,body,h1,h2.mono k⟩) hok hpre hin hinc hnd hr0 hpost hall⟩
end Go.Sx
namespace Go.Sx
set_option linter.unusedVariables false
set_option linter.unusedSimpArgs false
def d1f (h0:Nat) (w:World) (k:Nat) (es:List (List AV)) (v:Value):Prop :=
 0<k∧(∀ e∈es,e.length=k)∧((es=[]∧v=.slice none 0 0) ∨
  ∃ b cap vs ety,v=.slice (some ⟨b,0,none⟩) es.length cap∧h0≤b∧w.heap[b]?=some (.cells vs ety (0,0))∧es.length≤cap∧cap≤maxLen∧vs.size=cap*k ∧
   (∀ i (h2:i<vs.size),i<es.length*k→vs[i].oneCell'=true)∧∀ (g:Gh) i (h1:i<es.length) j (h2:j<es[i].length) (h3:i*k+j<vs.size),Rel g es[i][j] vs[i*k+j])
def CallFr (P:Program) (f:Nat) (args:List AV) (k:Nat) (es:List (List AV)):Prop :=
 ∀ (g:Gh) (vals:List Value),(∀ l,¬ g.us l)→GOk (bG P g (upd aF [])) g (upd aF [])→RelL g args vals →
  Calls P f vals.toArray g.w fun e w'=>∃ v,e=.returned v∧w'.os=g.w.os∧Tp w' g.w∧w'.output=g.w.output∧g.w.heap.size≤w'.heap.size∧(∀ b,b<g.w.heap.size→w'.heap[b]?=g.w.heap[b]?)∧d1f g.w.heap.size w' k es v
def callC (P:Program) (f:Nat) (args:List AV) (i:Nat) (ob:Nat→AV) (E:Eff→Prop):Prop :=
 ∃ k es,fnT P f=true∧CallFr P f (args.map (bwa ob)) k es∧(∀ a∈args.map (bwa ob),In (fun _=>False) a)∧E ⟨.ref i 0 es.length es.length,[(i,.vec k es)],args.flatMap idA⟩
theorem b7r {c : Cx} {f : Nat} {args : List AV} {i : Nat} {ob : Nat → AV} {E : Eff → Prop} (h : callC c.P f args i ob E) :
  ∃ e,E e∧fnT c.P f=true∧∀ ob',(∀ l∈e.rd,ob' l=ob l)→∀ g vals,GOk c g ob'→RelL g args vals→¬ g.us i →
   Calls c.P f vals.toArray g.w fun e' w'=>∃ v g',e'=.returned v∧g'.w=w'∧Ev g g'∧GOk c g' (upd ob' e.ob)∧Rel g' e.val v∧∀ l,g'.us l→g.us l∨l=i:=by
 obtain⟨k,es,hfn,hok,hin,hE⟩:=h
 refine⟨_,hE,hfn,fun ob' ho g vals hg hr hi=>?_⟩
 have hbw:args.map (bwa ob')=args.map (bwa ob):=by
  apply Ac
  intro a ha
  exact zB fun l hl=>ho l (Ad.2 ⟨a,ha,hl⟩)
 let g0:Gh:={ gI g ob' with us:=fun _=>False }
 have hfzx:∀ b,g0.fz b→b<g0.w.heap.size:=by
  rintro b (hb|⟨l,hl⟩)
  ·exact hg.fzx b hb
  ·exact (hg.obj l).lt hl
 have hg0:GOk (bG c.P g0 (upd aF [])) g0 (upd aF []) :=
  ⟨rfl,Tp.rfl,rfl,Ab _,fun _ _ _=>rfl,fun b hb=>hb,fun b hb=>.inl hb,hfzx,fun l=>trivial,fun l b hb=>by simp[upd,aF,aE]at hb,fun l l' b hb=>by simp[upd,aF,aE]at hb⟩
 have hrel:RelL g0 (args.map (bwa ob)) vals:=by
  refine⟨by simp[hr.1],fun i h1 h2=>?_⟩
  have hi:i<args.length:=by simpa using h1
  have h3:=a0f hg (hr.2 i hi h2)
  have e1:bwa ob' args[i]=(args.map (bwa ob))[i]:=by
   have:(args.map (bwa ob'))[i]'(by simpa using hi)=(args.map (bwa ob))[i]:=by simp only[hbw]
   simpa using this
  rw[e1]at h3
  exact cY (g:=gI g ob') (g':=g0) (K:=fun _=>False) (fun b hb=>⟨hb,rfl⟩) (fun l hl=>hl.elim) h3 (hin _ (Aa h1))
 refine (hok g0 vals (fun l=>by simp[g0]) hg0 hrel).mono ?_
 rintro e' w' ⟨v,rfl,hos,htp,hou,hsz,hold,hk0,hke,hv⟩
 have hne:∀ l,g.us l→l≠i:=fun l hl e=>hi (e▸hl)
 rcases hv with⟨rfl,rfl⟩|⟨b,cap,vs,ety,rfl,hb0,hb,hc,hm,hs,h1,h2⟩
 ·let g':Gh:={ g with w:=w',us:=fun l=>g.us l∨l=i,des:=fun l=>if l=i then ⟨none,k,0,0⟩else g.des l,len:=fun l=>if l=i then 0 else g.len l }
  have hdi:g'.des i=⟨none,k,0,0⟩:=if_pos rfl
  have hli:g'.len i=0:=if_pos rfl
  have he:Ev g g':=by
   refine⟨fun b hb=>⟨hb,hold b (hg.fzx b hb)⟩,fun l hl=>⟨.inl hl,rfl,?_,fun _=>if_neg (hne l hl)⟩⟩
   show _≤(if l=i then _ else _)
   rw[if_neg (hne l hl)]
   exact Ab _
  refine⟨_,g',rfl,rfl,he,?_,?_,fun l hl=>hl⟩
  ·refine hg.turn he i (.vec k []) hos htp hou hsz rfl (fun l hl=>⟨rfl,if_neg hl,if_neg hl⟩) (fun b hb _=>hold b hb) ?_ ?_
   ·refine⟨.inr rfl,by rw[hdi],by rw[hli];rfl,hk0,fun e he=>by simp at he,.inl ?_⟩
    rw[hdi];exact⟨rfl,rfl,rfl⟩
   ·intro b hb;simp only[aE,hdi]at hb;contradiction
  ·refine .ref _ _ _ _ _ (.inr rfl) (by rw[hli];exact Ab _) rfl fun _=>?_
   rw[hdi];rfl
 ·let g':Gh:={ g with w:=w',us:=fun l=>g.us l∨l=i,des:=fun l=>if l=i then ⟨some b,k,cap,ety⟩else g.des l,len:=fun l=>if l=i then es.length else g.len l }
  have hdi:g'.des i=⟨some b,k,cap,ety⟩:=if_pos rfl
  have hli:g'.len i=es.length:=if_pos rfl
  have he:Ev g g':=by
   refine⟨fun b hb=>⟨hb,hold b (hg.fzx b hb)⟩,fun l hl=>⟨.inl hl,rfl,?_,fun _=>if_neg (hne l hl)⟩⟩
   show _≤(if l=i then _ else _)
   rw[if_neg (hne l hl)]
   exact Ab _
  refine⟨_,g',rfl,rfl,he,?_,?_,fun l hl=>hl⟩
  ·refine hg.turn he i (.vec k es) hos htp hou hsz rfl (fun l hl=>⟨rfl,if_neg hl,if_neg hl⟩) (fun b hb _=>hold b hb) ?_ ?_
   ·refine⟨.inr rfl,by rw[hdi],by rw[hli],hk0,hke,.inr ⟨b,vs,by rw[hdi],?_,by rw[hdi];exact hc,by rw[hdi];exact hm,by rw[hdi];exact hs,h1,fun i a1 j a2 a3=>h2 _ i a1 j a2 a3⟩⟩
    rw[hdi];exact hb
   ·intro b' hb';simp only[aE,hdi,Option.some.injEq]at hb';subst hb';exact .inr hb0
  ·refine .ref _ _ _ _ _ (.inr rfl) (by rw[hli];exact Ab _) rfl fun _=>?_
   rw[hdi]
   simp[Des.slice]
end Go.Sx
