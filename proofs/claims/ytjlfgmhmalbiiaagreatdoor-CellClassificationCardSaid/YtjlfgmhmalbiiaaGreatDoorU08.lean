import Derived.Test.YtjlfgmhmalbiiaaGreatDoorU07
set_option linter.all false
namespace Go.Sx
set_option linter.unusedVariables false
set_option linter.unusedSimpArgs false
def resV (P:Program) (S:AS):ResultVar→AV→Prop
 | .tmp t,x=>look S.t t=x
 | .cell a t,x=>∃ ag s,agT P t=some ag∧szT P t=some s∧(ag=true∨s=1)∧loadV ag s (look S.t a) (look S.o) fun e=>e.val=x
def resA (P:Program) (S:AS):List ResultVar→AV→Prop
 | [],r=>r=.tup []
 | [x],r=>resV P S x r
 | xs,r=>∃ vs:List AV,r=.tup vs∧xs.length=vs.length∧∀ i (h1:i<xs.length) (h2:i<vs.length),resV P S xs[i] vs[i]
def bwc (ob:Nat→AV):AV→AV
 | .agg cs=>.agg (cs.map (bw ob))
 | a=>bw ob a
def bwr (ob:Nat→AV):AV→AV
 | .tup cs=>.tup (cs.map (bwc ob))
 | a=>bwc ob a
theorem rel_bwc {c:Cx} {g:Gh} {ob:Nat→AV} (hg:GOk c g ob) {a:AV} {v:Value} (h:Rel g a v):Rel (withAll g ob) (bwc ob a) v:=by
 cases a with
 | agg cs =>
  cases h with
  | agg _ vs hs ho hr=>exact .agg _ _ (by simpa using hs) ho fun i h1 h2=>by simp only[List.getElem_map];exact rel_bw hg (hr i (by simpa using h1) h2)
 | _=>exact rel_bw hg h
theorem rel_bwr {c:Cx} {g:Gh} {ob:Nat→AV} (hg:GOk c g ob) {a:AV} {v:Value} (h:Rel g a v):Rel (withAll g ob) (bwr ob a) v:=by
 cases a with
 | tup cs =>
  cases h with
  | tup _ vs hs hr=>exact .tup _ _ (by simpa using hs) fun i h1 h2=>by simp only[List.getElem_map];exact rel_bwc hg (hr i (by simpa using h1) h2)
 | _=>exact rel_bwc hg h
def RetA (P:Program) (rs:List ResultVar) (r:AV) (S:AS):Prop:=∃ x,resA P S rs x∧bwr (look S.o) x=r
def RetB (P:Program) (rs:List ResultVar) (r:AV) (post:List (Nat × AV)) (S:AS):Prop:=resA P S rs r∧∀ p∈post,look S.o p.1=p.2
def resF (a:Act):ResultVar→Sem Value
 | .tmp t=>pure (a.tmps.getD t undef)
 | .cell p t=>do loadVar t (← asAddr (a.tmps.getD p undef))
theorem mapM_res {c : Cx} {g : Gh} {S : AS} {a : Act} (hg : GOk c g (look S.o)) (ht : TOk g (look S.t) a) : ∀ (xs : List ResultVar) (vs : List AV), xs.length = vs.length →
  (∀ i (h1:i<xs.length) (h2:i<vs.length),resV c.P S xs[i] vs[i])→∃ us:List Value,(xs.mapM (resF a)).run c.P g.w=.ok us g.w∧RelL g vs us:=by
 have one:∀ x v,resV c.P S x v→∃ u,(resF a x).run c.P g.w=.ok u g.w∧Rel g v u:=by
  intro x v h
  cases x with
  | tmp t=>simp only[resV]at h;subst h;exact ⟨_,rfl,ht.2 t⟩
  | cell p t =>
   obtain ⟨ag,s,h1,h2,h3,h4⟩:=h
   obtain ⟨e,he,heo,hr⟩:=load_run (c:=c) (g:=g) (v:=undef) h1 h2 h3 h4
   obtain ⟨u,hu1,hu2⟩:=hr (look S.o) (fun _ _=>rfl) g _ hg (ht.2 p)
   subst he
   refine ⟨u,?_,hu2⟩
   simp only[resF]
   generalize a.tmps.getD p undef=q at hu1
   unfold Instr.loadAt Instr.sureAddr at hu1
   cases q with
   | pointer q =>
    cases q with
    | none=>simp[Sem.run_bind]at hu1
    | some q=>simpa [Sem.run_bind,asAddr]using hu1
   | _=>simp[Sem.run_bind]at hu1
 intro xs
 induction xs with
 | nil=>intro vs hl _;obtain rfl:vs=[]:=List.eq_nil_of_length_eq_zero hl.symm;exact ⟨[],rfl,.nil⟩
 | cons x xs ih =>
  intro vs hl h
  cases vs with
  | nil=>simp at hl
  | cons v vs =>
   obtain ⟨u,hu1,hu2⟩:=one x v (h 0 (by simp) (by simp))
   obtain ⟨us,hs1,hs2⟩:=ih vs (by simpa using hl) fun i h1 h2=>h (i+1) (by simpa using h1) (by simpa using h2)
   exact ⟨u::us,by simp[List.mapM_cons,Sem.run_bind,hu1,hs1],.cons hu2 hs2⟩
theorem results_run {c:Cx} {g:Gh} {S:AS} {a:Act} {fn:Func} {r:AV} (h:resA c.P S fn.results.toList r) (hg:GOk c g (look S.o)) (ht:TOk g (look S.t) a):∃ v,(results fn a.tmps).run c.P g.w=.ok v g.w∧Rel g r v:=by
 have key : ∀ vs : List AV, fn.results.toList.length = vs.length → (∀ i (h1 : i < fn.results.toList.length) (h2 : i < vs.length), resV c.P S fn.results.toList[i] vs[i]) →
   ∃ us:List Value,(results fn a.tmps).run c.P g.w=.ok (if h:us.toArray.size=1 then us.toArray[0]else .tuple us.toArray) g.w∧RelL g vs us:=by
  intro vs hl hv
  obtain ⟨us,h1,h2⟩:=mapM_res hg ht fn.results.toList vs hl hv
  refine ⟨us,?_,h2⟩
  have e:results fn a.tmps=(do let vs ← fn.results.mapM (resF a);pure (if h:vs.size=1 then vs[0]else .tuple vs)):=by
   unfold results
   congr 1
  rw[e,Sem.run_bind,Array.mapM_eq_mapM_toList,Sem.run_map,h1]
  rfl
 generalize hxs:fn.results.toList=xs at h key
 cases xs with
 | nil =>
  simp only[resA]at h
  subst h
  obtain ⟨us,h1,h2⟩:=key [] rfl (fun i h=>by simp at h)
  obtain rfl:us=[]:=List.eq_nil_of_length_eq_zero h2.1
  exact ⟨_,h1,by simpa using Rel.tup [] #[] rfl (fun i h=>by simp at h)⟩
 | cons x xs =>
  cases xs with
  | nil =>
   simp only[resA]at h
   obtain ⟨us,h1,h2⟩:=key [r] rfl (fun i h1 h2=>by
    have:i=0:=by simpa using h2
    subst this
    exact h)
   have hl:=h2.1
   match us,hl with
   | [u],_=>exact ⟨u,by simpa using h1,h2.2 0 (by simp) (by simp)⟩
  | cons y ys =>
   simp only[resA]at h
   obtain ⟨vs,rfl,hl,hv⟩:=h
   obtain ⟨us,h1,h2⟩:=key vs hl hv
   have hl2:¬ us.toArray.size=1:=by
    have:=h2.1
    simp only[List.length_cons]at hl
    simp
    omega
   rw[dif_neg hl2]at h1
   exact ⟨_,h1,.tup _ _ (by simpa using h2.1) fun i a1 a2=>by simpa using h2.2 i a1 (by simpa using a2)⟩
def startT:Nat→List AV→List (Nat × AV)
 | _,[]=>[]
 | i,a::r=>(i,a)::startT (i+1) r
theorem look_startT:∀ (args:List AV) (i k:Nat),look (startT i args) k=if i≤k∧k<i+args.length then args.getD (k - i) .any else .any:=by
 intro args
 induction args with
 | nil=>intro i k;simp only[startT,look,List.length_nil];rw[if_neg (by omega)]
 | cons a args ih =>
  intro i k
  simp only[startT,look,ih,List.length_cons]
  by_cases hik:i=k
  ·subst hik
   rw[if_pos rfl,if_pos (by omega)]
   simp
  ·rw[if_neg hik]
   by_cases hc:i+1≤k∧k<i+1+args.length
   ·rw[if_pos hc,if_pos (by omega)]
    have:k - i=(k - (i+1))+1:=by omega
    rw[this]
    simp
   ·rw[if_neg hc,if_neg (by omega)]
theorem upd_look (pre:List (Nat × AV)):look pre=upd anyf pre:=by
 funext l
 induction pre with
 | nil=>rfl
 | cons p pre ih=>obtain ⟨i,a⟩:=p;simp only[look,upd,ih]
theorem start_sim {P : Program} {f : Nat} {fn : Func} {args : List AV} {pre : List (Nat × AV)} {n : Nat} (hn : ∀ p ∈ pre, p.1 < 8) (h8 : 8 ≤ n) (hargs : args.length ≤ fn.ntmps) {g : Gh} {vals : List Value} (hus : ∀ l, g.us l ↔ l ∈ pre.map (·.1)) (hg : GOk (cxOf P g (upd anyf pre)) g (upd anyf pre)) (hr : RelL g args vals) :
  Sim (cxOf P g (upd anyf pre)) fn.ntmps ⟨startT 0 args,pre,n⟩ { tmps:=vals.toArray++Array.replicate (fn.ntmps - vals.toArray.size) undef,defers:=[] } g.w:=by
 have hl:=hr.1
 refine ⟨g,rfl,by show GOk _ g (look pre);rw[upd_look];exact hg,⟨rfl,fun k=>?_⟩,by simp;omega,fun l hl=>?_,fun l hl=>?_,h8⟩
 ·show Rel g (look (startT 0 args) k) _
  rw[look_startT]
  split
  ·rename_i h
   have hk:k<args.length:=by omega
   rw[Array.getD_eq_getD_getElem?,Array.getElem?_append_left (by simp;omega)]
   simp only[Nat.sub_zero,List.getElem?_toArray,List.getD,List.getElem?_eq_getElem hk,Option.getD_some]
   rw[List.getElem?_eq_getElem (by omega)]
   exact hr.2 k hk (by omega)
  ·exact .any _
 ·obtain ⟨p,hp,rfl⟩:=List.mem_map.1 ((hus l).1 hl)
  have:=hn p hp
  simp only
  omega
 ·have hl':g.us l:=hl
  obtain ⟨p,hp,rfl⟩:=List.mem_map.1 ((hus l).1 hl')
  exact ⟨hn p hp,hl',rfl,Nat.le_refl _,fun _=>rfl⟩
theorem body_post {c : Cx} {P : Program} {fn : Func} {R : AS → Prop} {Rr : Ending → World → Prop} (hP : c.P = P) (h : ∀ S g a, R S → GOk c g (look S.o) → TOk g (look S.t) a → a.tmps.size = fn.ntmps → Lnk c g → ∃ v, (results fn a.tmps).run P g.w = .ok v g.w ∧ Rr (.returned v) g.w)
  (e:Exit) (a:Act) (w:World) (hq:liftQ c fn.ntmps (Qof P fn.ntmps R []) e a w):bodyPost P fn Rr e a w:=by
 have fin:∀ S,R S→Sim c fn.ntmps S a w→a.defers=[]∧∃ v,(results fn a.tmps).run P w=.ok v w∧Rr (.returned v) w:=by
  rintro S hS ⟨g,rfl,hg,ht,hsz,hu,hln,_⟩
  exact ⟨ht.1,h S g a hS hg ht hsz hln⟩
 cases e with
 | normal=>obtain ⟨S,h1,h2⟩:=hq;exact fin S h1 h2
 | ret=>obtain ⟨S,h1,h2⟩:=hq;exact fin S h1 h2
 | exit id=>obtain ⟨S,h1,h2⟩:=hq;exact h1.elim
 | goto l=>obtain ⟨S,h1,h2⟩:=hq;exact h1.elim
 | panic ch=>exact hq.elim
 | outgrown=>exact hq.elim
theorem Flat.in {K:Nat→Prop} {a:AV} (h:Flat a):In K a:=by
 induction h with
 | lit v=>exact .lit v
 | agg cs _ ih=>exact .agg cs ih
 | tup cs _ ih=>exact .tup cs ih
theorem CallOK.of {P : Program} {f : Nat} {fn : Func} {code : Code} {args : List AV} {r : AV} (hf : P.funcs[f]? = some fn) (hb : fn.body = some code) (ha : args.length ≤ fn.ntmps) (hin : In (fun _ => False) r)
  (h:AW P fn.ntmps (RetA P fn.results.toList r) [.code code] ⟨startT 0 args,[],8⟩):CallOK P f args [] r []:=by
 intro g vals hus hg hr
 have hsim:=start_sim (P:=P) (f:=f) (fn:=fn) (n:=8) (pre:=[]) (by simp) (Nat.le_refl _) ha hus hg hr
 refine calls_of_wp hf hb (wp_mono (h _ _ _ rfl hsim) (body_post rfl fun S g1 a hS hg1 ht hsz hu=>?_))
 obtain ⟨x,hx,hxr⟩:=hS
 obtain ⟨v,hv,hvr⟩:=results_run (c:=cxOf P g (upd anyf [])) hx hg1 ht
 have hrel:=rel_bwr hg1 hvr
 rw[hxr]at hrel
 let g2:Gh:={ withAll g1 (look S.o)with us:=g.us }
 have hus':∀ l,¬ g.us l:=fun l hl=>by simpa using (hus l).1 hl
 have hnoW:∀ b,¬ (cxOf P g (upd anyf [])).W0 b:=by rintro b ⟨l,hl⟩;simp[upd,anyf,blkOf]at hl
 have hold:∀ b,b<g.w.heap.size→g1.w.heap[b]?=g.w.heap[b]?:=fun b hb=>hg1.old b hb (hnoW b)
 refine ⟨v,hv,v,g2,rfl,rfl,⟨fun b hb=>⟨.inl (hg1.fzo b hb),hold b (hg.fzx b hb)⟩,fun l hl=>(hus' l hl).elim⟩,fun l=>Iff.rfl,?_,?_⟩
 ·refine ⟨hg1.os,hg1.tape,hg1.output,hg1.size,hg1.old,fun b hb=>.inl (hg1.fzo b hb),?_,?_,fun l=>trivial,fun l b hb=>by simp[upd,anyf,blkOf]at hb,fun l l' b hb=>by simp[upd,anyf,blkOf]at hb⟩
  ·rintro b (hb|⟨l,hb⟩)
   ·exact hg1.fzn b hb
   ·rcases (hg1.own l b hb).1 with h|h
    ·exact .inr (.inl h)
    ·exact .inr (.inr h)
  ·rintro b (hb|⟨l,hb⟩)
   ·exact hg1.fzx b hb
   ·exact (hg1.obj l).lt hb
 ·exact Rel.carry (g:=withAll g1 (look S.o)) (g':=g2) (K:=fun _=>False) (fun b hb=>⟨hb,rfl⟩) (fun l hl=>hl.elim) hrel hin
theorem CallOK.ofB {P : Program} {f : Nat} {fn : Func} {code : Code} {args : List AV} {pre post : List (Nat × AV)} {r : AV} (hf : P.funcs[f]? = some fn) (hb : fn.body = some code) (ha : args.length ≤ fn.ntmps) (hn : ∀ p ∈ pre, p.1 < 8) (hin : In (fun _ => False) r)
  (hpost:∀ p∈post,p.1∈pre.map (·.1)∧InC (fun l=>l∈pre.map (·.1)) p.2)
  (h:AW P fn.ntmps (RetB P fn.results.toList r post) [.code code] ⟨startT 0 args,pre,8⟩):CallOK P f args pre r post:=by
 intro g vals hus hg hr
 have hsim:=start_sim (P:=P) (f:=f) (fn:=fn) (n:=8) (pre:=pre) hn (Nat.le_refl _) ha hus hg hr
 refine calls_of_wp hf hb (wp_mono (h _ _ _ rfl hsim) (body_post rfl fun S g1 a hS hg1 ht hsz hln=>?_))
 obtain ⟨hx,hpo⟩:=hS
 obtain ⟨v,hv,hvr⟩:=results_run (c:=cxOf P g (upd anyf pre)) hx hg1 ht
 let g2:Gh:={ g1 with us:=g.us }
 have hfz:∀ b,g.fz b→g1.w.heap[b]?=g.w.heap[b]?:=fun b hb=>hg1.old b (hg.fzx b hb) fun ⟨l,hl⟩=>(hg.own l b hl).2 hb
 have hK:∀ l,l∈pre.map (·.1)→g1.us l→g2.us l∧g2.blk l=g1.blk l∧g2.des l=g1.des l∧g2.len l=g1.len l:=fun l hl hu=>⟨(hus l).2 hl,rfl,rfl,rfl⟩
 have hblk:∀ l x,blkOf g2 l x=blkOf g1 l x:=fun l x=>by cases x<;>rfl
 have hob:∀ l,upd anyf post l=.any∨(l∈post.map (·.1)∧upd anyf post l=look S.o l):=fun l=>by
  by_cases hm:l∈post.map (·.1)
  ·exact .inr ⟨hm,(hpo _ (upd_eq (ob:=anyf) rfl hm)).symm⟩
  ·exact .inl (upd_mem hm)
 have hbl:∀ l b,blkOf g2 l (upd anyf post l)=some b→blkOf g1 l (look S.o l)=some b:=fun l b hb=>by
  rcases hob l with h|⟨_,h⟩
  ·rw[h]at hb;simp[blkOf]at hb
  ·rw[h,hblk]at hb;exact hb
 refine ⟨v,hv,v,g2,rfl,rfl,⟨fun b hb=>⟨hg1.fzo b hb,hfz b hb⟩,fun l hl=>⟨hl,(hln l hl).2.2⟩⟩,fun l=>Iff.rfl,?_,?_⟩
 ·refine ⟨hg1.os,hg1.tape,hg1.output,hg1.size,hg1.old,hg1.fzo,hg1.fzn,hg1.fzx,fun l=>?_,fun l b hb=>hg1.own l b (hbl l b hb),fun l l' b hb hb'=>hg1.dis l l' b (hbl l b hb) (hbl l' b hb')⟩
  rcases hob l with h|⟨hm,h⟩
  ·rw[h];trivial
  ·obtain ⟨p,hp,rfl⟩:=List.mem_map.1 hm
   have hp2:=hpost p hp
   have e:look S.o p.1=p.2:=hpo p hp
   rw[h]
   refine ObjOk.carry (g:=g1) (g':=g2) (K:=fun l=>l∈pre.map (·.1)) rfl (fun b hb=>hb) hK hp2.1 (by rw[e];exact hp2.2) (hg1.obj p.1)
 ·exact Rel.carry (g:=g1) (g':=g2) (K:=fun _=>False) (fun b hb=>⟨hb,rfl⟩) (fun l hl=>hl.elim) hvr hin
def RetF (P:Program) (rs:List ResultVar) (k:Nat) (es:List (List AV)) (S:AS):Prop:=∃ l,resA P S rs (.ref l 0 es.length es.length)∧look S.o l=.vec k es
theorem CallFr.of {P : Program} {f : Nat} {fn : Func} {code : Code} {args : List AV} {k : Nat} {es : List (List AV)} (hf : P.funcs[f]? = some fn) (hb : fn.body = some code) (ha : args.length ≤ fn.ntmps) (hfl : ∀ e ∈ es, ∀ c ∈ e, Flat c)
  (h:AW P fn.ntmps (RetF P fn.results.toList k es) [.code code] ⟨startT 0 args,[],8⟩):CallFr P f args k es:=by
 intro g vals hus hg hr
 have hsim:=start_sim (P:=P) (f:=f) (fn:=fn) (n:=8) (pre:=[]) (by simp) (Nat.le_refl _) ha (fun l=>by simp[hus l]) hg hr
 refine calls_of_wp hf hb (wp_mono (h _ _ _ rfl hsim) (body_post rfl fun S g1 a hS hg1 ht hsz hu=>?_))
 obtain ⟨l,hx,hl⟩:=hS
 obtain ⟨v,hv,hvr⟩:=results_run (c:=cxOf P g (upd anyf [])) hx hg1 ht
 have hnoW:∀ b,¬ (cxOf P g (upd anyf [])).W0 b:=by rintro b ⟨l,hl⟩;simp[upd,anyf,blkOf]at hl
 have hold:∀ b,b<g.w.heap.size→g1.w.heap[b]?=g.w.heap[b]?:=fun b hb=>hg1.old b hb (hnoW b)
 have hok:=hg1.obj l
 have hown:=hg1.own l
 rw[hl]at hok hown
 obtain ⟨hus',hk,hln,hk0,hke,h5⟩:=hok
 refine ⟨v,hv,v,rfl,hg1.os,hg1.tape,hg1.output,hg1.size,hold,hk0,hke,?_⟩
 cases hvr with
 | ref _ _ _ _ _ hu' hm hc hvv =>
  have hvv:=hvv hln.symm
  rcases h5 with ⟨h6,rfl,h7⟩|⟨b,vs,h6,h7,h8,h9,h10,h11,h12⟩
  ·left
   refine ⟨rfl,?_⟩
   rw[hvv]
   simp[Des.slice,h6,h7]
  ·right
   refine ⟨b,(g1.des l).cap,vs,(g1.des l).e,by rw[hvv];simp[Des.slice,h6],?_,h7,h8,h9,h10,h11,fun g i a1 j a2 a3=>(h12 i a1 j a2 a3).flat (hfl _ (List.getElem_mem a1) _ (List.getElem_mem a2))⟩
   rcases (hown b (by simp[blkOf,h6])).1 with h|h
   ·exact absurd h (hnoW b)
   ·exact h
def RetN (P:Program) (rs:List ResultVar) (r:AV) (S:AS):Prop:=∃ x,resA P S rs x∧bwn (look S.o) x=r
theorem CallNw.of {P : Program} {f : Nat} {fn : Func} {code : Code} {args : List AV} {r : AV} (hf : P.funcs[f]? = some fn) (hb : fn.body = some code) (ha : args.length ≤ fn.ntmps) (hfl : FlatS r)
  (h:AW P fn.ntmps (RetN P fn.results.toList r) [.code code] ⟨startT 0 args,[],8⟩):CallNw P f args r:=by
 intro g vals hus hg hr
 have hsim:=start_sim (P:=P) (f:=f) (fn:=fn) (n:=8) (pre:=[]) (by simp) (Nat.le_refl _) ha (fun l=>by simp[hus l]) hg hr
 refine calls_of_wp hf hb (wp_mono (h _ _ _ rfl hsim) (body_post rfl fun S g1 a hS hg1 ht hsz hu=>?_))
 obtain ⟨x,hx,rfl⟩:=hS
 obtain ⟨v,hv,hvr⟩:=results_run (c:=cxOf P g (upd anyf [])) hx hg1 ht
 have hnoW:∀ b,¬ (cxOf P g (upd anyf [])).W0 b:=by rintro b ⟨l,hl⟩;simp[upd,anyf,blkOf]at hl
 have hold:∀ b,b<g.w.heap.size→g1.w.heap[b]?=g.w.heap[b]?:=fun b hb=>hg1.old b hb (hnoW b)
 exact ⟨v,hv,v,rfl,hg1.os,hg1.tape,hg1.output,hg1.size,hold,rel_bwn hg1 hnoW hvr hfl⟩
end Go.Sx
namespace Go.Sx
set_option linter.unusedVariables false
set_option linter.unusedSimpArgs false
def rn (l:Nat):AV→AV
 | .loc 0 o=>.loc l o
 | .ref 0 o n m=>.ref l o n m
 | .vp 0 i j m=>.vp l i j m
 | .bs 0 o k n=>.bs l o k n
 | a=>a
def top0:AV→Prop
 | .loc i _=>i=0
 | .ref i _ _ _=>i=0
 | .vp i _ _ _=>i=0
 | .bs i _ _ _=>i=0
 | a=>In (fun _=>False) a
theorem CallOK.ren {P : Program} {f : Nat} {args : List AV} {a b r : AV} (h : CallOK P f args [(0, a)] r [(0, b)]) (ha : InC (fun _ => False) a) (hb : InC (fun _ => False) b) (hr : In (fun _ => False) r) (hargs : ∀ x ∈ args, top0 x) (l : Nat) :
  CallOK P f (args.map (rn l)) [(l,a)] r [(l,b)]:=by
 intro g vals hus hg hrel
 let g0:Gh:={ w:=g.w,fz:=g.fz,us:=fun i=>i=0,blk:=fun _=>g.blk l,des:=fun _=>g.des l,len:=fun _=>g.len l }
 have hul:g.us l:=(hus l).2 (by simp)
 have hob0:∀ i,i≠0→upd anyf [(0,a)] i=.any:=fun i hi=>by simp[upd,anyf];intro e;exact absurd e.symm hi
 have hobl:∀ i,i≠l→upd anyf [(l,a)] i=.any:=fun i hi=>by simp[upd,anyf];intro e;exact absurd e.symm hi
 have hcl:∀ {G G':Gh} {x:AV} {v:Value},(∀ b,G.fz b→G'.fz b∧G'.w.heap[b]?=G.w.heap[b]?)→Rel G x v→In (fun _=>False) x→Rel G' x v:=fun hf hx hi=>Rel.carry (K:=fun _=>False) hf (fun l hl=>hl.elim) hx hi
 have hobj:∀ (G G':Gh) (i j:Nat) (x:AV),InC (fun _=>False) x→G'.w=G.w→(∀ b,G.fz b→G'.fz b)→G'.us j→G'.blk j=G.blk i→G'.des j=G.des i→G'.len j=G.len i→ObjOk G i x→ObjOk G' j x:=by
  intro G G' i j x hx hw hf hu h1 h2 h3 hok
  cases x with
  | blk cs =>
   obtain ⟨_,vs,e,k1,k2,k3,k4⟩:=hok
   exact ⟨hu,vs,e,by rw[hw,h1];exact k1,k2,k3,fun i a1 a2=>hcl (fun b hb=>⟨hf b hb,by rw[hw]⟩) (k4 i a1 a2) (hx _ (List.getElem_mem a1))⟩
  | vec k es =>
   obtain ⟨_,k1,k2,k3,k4,k5⟩:=hok
   refine ⟨hu,by rw[h2];exact k1,by rw[h3];exact k2,k3,k4,?_⟩
   rw[h2,hw]
   rcases k5 with k5|⟨b,vs,m1,m2,m3,m4,m5,m6,m7⟩
   ·exact .inl k5
   ·exact .inr ⟨b,vs,m1,m2,m3,m4,m5,m6,fun i a1 j a2 a3=>hcl (fun b hb=>⟨hf b hb,by rw[hw]⟩) (m7 i a1 j a2 a3) (hx _ (List.getElem_mem a1) _ (List.getElem_mem a2))⟩
  | mpo es=>obtain ⟨_,arr,clock,k1,k2⟩:=hok;exact ⟨hu,arr,clock,by rw[hw,h1];exact k1,k2⟩
  | ito m n s=>exact hx.elim
  | _=>trivial
 have hblk:∀ (G G':Gh) (i j:Nat) (x:AV),G'.blk j=G.blk i→G'.des j=G.des i→blkOf G' j x=blkOf G i x:=by
  intro G G' i j x h1 h2
  cases x<;>simp[blkOf,h1,h2]
 have hb0:∀ i b',blkOf g0 i (upd anyf [(0,a)] i)=some b'→i=0∧blkOf g l (upd anyf [(l,a)] l)=some b':=by
  intro i b' hb'
  by_cases hi:i=0
  ·subst hi
   refine ⟨rfl,?_⟩
   simp only[upd,if_true]at hb' ⊢
   rw[← hb']
   exact (hblk g g0 l 0 a rfl rfl).symm
  ·rw[hob0 i hi]at hb';simp[blkOf]at hb'
 have hg0:GOk (cxOf P g0 (upd anyf [(0,a)])) g0 (upd anyf [(0,a)]):=by
  refine ⟨rfl,Tp.rfl,rfl,Nat.le_refl _,fun _ _ _=>rfl,fun b hb=>hb,fun b hb=>.inl hb,hg.fzx,fun i=>?_,fun i b' hb'=>⟨.inl ⟨i,hb'⟩,(hg.own l b' (hb0 i b' hb').2).2⟩,fun i i' b' h1 h2=>(hb0 i b' h1).1.trans (hb0 i' b' h2).1.symm⟩
  by_cases hi:i=0
  ·subst hi
   have:=hg.obj l
   simp only[upd,if_true]at this ⊢
   exact hobj g g0 l 0 a ha rfl (fun b hb=>hb) rfl rfl rfl rfl this
  ·rw[hob0 i hi];trivial
 have hrel0:RelL g0 args vals:=by
  refine ⟨by simpa using hrel.1,fun i h1 h2=>?_⟩
  have h3:=hrel.2 i (by simpa using h1) h2
  simp only[List.getElem_map]at h3
  have ht:=hargs _ (List.getElem_mem h1)
  generalize args[i]=x at h3 ht
  generalize vals[i]=v at h3
  cases x with
  | loc j o=>simp only[top0]at ht;subst ht;simp only[rn]at h3;cases h3 with|loc _ _ hu=>exact .loc (g:=g0) 0 o rfl
  | ref j o n m=>simp only[top0]at ht;subst ht;simp only[rn]at h3;cases h3 with|ref _ _ _ _ _ hu hm hc hv=>exact .ref (g:=g0) 0 o n m _ rfl hm hc hv
  | vp j o n m=>simp only[top0]at ht;subst ht;simp only[rn]at h3;cases h3 with|vp _ _ _ _ _ hu hm hc hv=>exact .vp (g:=g0) 0 o n m _ rfl hm hc hv
  | bs j o k n=>simp only[top0]at ht;subst ht;simp only[rn]at h3;cases h3 with|bs _ _ _ _ cap hu hc=>exact .bs (g:=g0) 0 o k n cap rfl hc
  | _=>simp only[rn]at h3;exact hcl (G:=g) (G':=g0) (fun b hb=>⟨hb,rfl⟩) h3 ht
 refine (h g0 vals (fun i=>by simp[g0]) hg0 hrel0).mono ?_
 rintro e w' ⟨v,g',rfl,rfl,he,hus',hg',hrr⟩
 let g1:Gh:={ w:=g'.w,fz:=g'.fz,us:=g.us,blk:=fun _=>g'.blk 0,des:=fun _=>g'.des 0,len:=fun _=>g'.len 0 }
 have hl:∀ i,g.us i→i=l:=fun i hi=>by simpa using (hus i).1 hi
 have h0:g'.us 0:=(hus' 0).2 rfl
 have hW:∀ b',(cxOf P g0 (upd anyf [(0,a)])).W0 b'→(cxOf P g (upd anyf [(l,a)])).W0 b':=by
  rintro b' ⟨i,hi⟩
  exact ⟨l,(hb0 i b' hi).2⟩
 have hb1:∀ i b',blkOf g1 i (upd anyf [(l,b)] i)=some b'→i=l∧blkOf g' 0 (upd anyf [(0,b)] 0)=some b':=by
  intro i b' hb'
  by_cases hi:i=l
  ·subst hi
   refine ⟨rfl,?_⟩
   simp only[upd,if_true]at hb' ⊢
   rw[← hb']
   exact (hblk g' g1 0 i b rfl rfl).symm
  ·have:upd anyf [(l,b)] i=.any:=by simp[upd,anyf];intro e;exact absurd e.symm hi
   rw[this]at hb';simp[blkOf]at hb'
 obtain ⟨e1,e2,e3,e4⟩:=he.us 0 rfl
 refine ⟨v,g1,rfl,rfl,⟨he.fz,fun i hi=>?_⟩,fun i=>Iff.rfl,?_,?_⟩
 ·obtain rfl:=hl i hi
  exact ⟨hi,e2,e3,e4⟩
 ·refine ⟨hg'.os,hg'.tape,hg'.output,hg'.size,fun b' hb' hw=>hg'.old b' hb' (fun hw'=>hw (hW b' hw')),hg'.fzo,fun b' hb'=>?_,hg'.fzx,fun i=>?_,fun i b' hb'=>?_,fun i i' b' h1 h2=>(hb1 i b' h1).1.trans (hb1 i' b' h2).1.symm⟩
  ·rcases hg'.fzn b' hb' with h|h|h
   ·exact .inl h
   ·exact .inr (.inl (hW b' h))
   ·exact .inr (.inr h)
  ·by_cases hi:i=l
   ·subst hi
    have:=hg'.obj 0
    simp only[upd,if_true]at this ⊢
    exact hobj g' g1 0 i b hb rfl (fun b hb=>hb) hul rfl rfl rfl this
   ·have:upd anyf [(l,b)] i=.any:=by simp[upd,anyf];intro e;exact absurd e.symm hi
    show ObjOk g1 i _
    rw[this];trivial
  ·obtain ⟨k1,k2⟩:=hg'.own 0 b' (hb1 i b' hb').2
   refine ⟨?_,k2⟩
   rcases k1 with h|h
   ·exact .inl (hW b' h)
   ·exact .inr h
 ·exact hcl (G:=g') (G':=g1) (fun b hb=>⟨hb,rfl⟩) hrr hr
theorem CallFr.ok {P:Program} {f:Nat} {args:List AV} {k:Nat} {es:List (List AV)} (h:CallFr P f args k es):CallOK P f args [] (.sl es) []:=by
 intro g vals hus hg hr
 have hno:∀ l,¬ g.us l:=fun l hl=>by simpa using (hus l).1 hl
 refine (h g vals hno hg hr).mono ?_
 rintro e w' ⟨v,rfl,hos,htp,hou,hsz,hold,hk0,hke,hv⟩
 have hany:∀ l,upd anyf [] l=.any:=fun l=>rfl
 rcases hv with ⟨rfl,rfl⟩|⟨b,cap,vs,ety,rfl,hb0,hb,hc,hm,hs,h1,h2⟩
 ·refine ⟨_,{ g with w:=w' },rfl,rfl,⟨fun b hb=>⟨hb,hold b (hg.fzx b hb)⟩,fun l hl=>(hno l hl).elim⟩,fun l=>Iff.rfl,?_,.slnil⟩
  exact ⟨hos.trans hg.os,htp.trans hg.tape,hou.trans hg.output,hsz,fun b hb _=>hold b hb,hg.fzo,hg.fzn,fun b hb=>Nat.lt_of_lt_of_le (hg.fzx b hb) hsz,fun l=>trivial,fun l b hb=>by simp[hany,blkOf]at hb,fun l l' b hb=>by simp[hany,blkOf]at hb⟩
 ·let g1:Gh:={ g with w:=w',fz:=fun x=>g.fz x∨x=b }
  have hlt:b<w'.heap.size:=Array.getElem?_eq_some_iff.1 hb |>.1
  refine ⟨_,g1,rfl,rfl,⟨fun b hb=>⟨.inl hb,hold b (hg.fzx b hb)⟩,fun l hl=>(hno l hl).elim⟩,fun l=>Iff.rfl,?_,?_⟩
  ·refine ⟨hos.trans hg.os,htp.trans hg.tape,hou.trans hg.output,hsz,fun b hb _=>hold b hb,fun b hb=>.inl (hg.fzo b hb),?_,?_,fun l=>trivial,fun l b hb=>by simp[hany,blkOf]at hb,fun l l' b hb=>by simp[hany,blkOf]at hb⟩
   ·rintro x (hx|rfl)
    ·exact hg.fzn x hx
    ·exact .inr (.inr hb0)
   ·rintro x (hx|rfl)
    ·exact Nat.lt_of_lt_of_le (hg.fzx x hx) hsz
    ·exact hlt
  ·refine .sl (g:=g1) es b 0 cap k vs ety (0,0) (.inr rfl) hb hc (fun i hi=>hke _ (List.getElem_mem hi)) (fun _=>?_) (fun j hj hjk=>?_) (fun i a1 j a2 a3=>?_)
   ·rw[hs,Nat.zero_add];exact Nat.mul_le_mul_right _ hc
   ·simp only[Nat.zero_add]at hj ⊢
    exact h1 j hj hjk
   ·simp only[Nat.zero_add]at a3 ⊢
    exact h2 g1 i a1 j a2 a3
end Go.Sx
namespace Go.Sx
set_option linter.unusedVariables false
def res1 (P:Program) (S:AS) (x:ResultVar) (E:AV→Prop):Prop :=
 match x with
 | .tmp t=>E (look S.t t)
 | .cell a t=>match agT P t,szT P t with
  | some ag,some s=>(ag=true∨s=1)∧loadV ag s (look S.t a) (look S.o) fun e=>E e.val
  | _,_=>False
def resL (P:Program) (S:AS):List ResultVar→(List AV→Prop)→Prop
 | [],E=>E []
 | x::xs,E=>res1 P S x fun v=>resL P S xs fun vs=>E (v::vs)
def resE (P:Program) (S:AS) (xs:List ResultVar) (E:AV→Prop):Prop :=
 match xs with
 | []=>E (.tup [])
 | [x]=>res1 P S x E
 | xs=>resL P S xs fun vs=>E (.tup vs)
theorem loadV_ex {ag:Bool} {s:Nat} {a:AV} {ob:Nat→AV} {E:Eff→Prop} (h:loadV ag s a ob E):∃ e,E e∧loadV ag s a ob fun e'=>e'.val=e.val:=by
 unfold loadV at h ⊢
 split at h
 ·exact ⟨_,h.2,h.1,rfl⟩
 ·split at h
  ·rename_i h1
   exact ⟨_,h.2,h.1,rfl⟩
  ·exact h.elim
 ·split at h
  ·rename_i h1
   exact ⟨_,h.2.2.2,h.1,h.2.1,h.2.2.1,rfl⟩
  ·exact h.elim
 ·exact h.elim
theorem res1_spec {P:Program} {S:AS} {x:ResultVar} {E:AV→Prop} (h:res1 P S x E):∃ v,resV P S x v∧E v:=by
 cases x with
 | tmp t=>exact ⟨_,rfl,h⟩
 | cell a t =>
  simp only[res1]at h
  split at h
  ·rename_i ag s h1 h2
   obtain ⟨e,he,hl⟩:=loadV_ex h.2
   exact ⟨e.val,⟨ag,s,h1,h2,h.1,hl⟩,he⟩
  ·exact h.elim
theorem resL_spec {P:Program} {S:AS}:∀ {xs:List ResultVar} {E:List AV→Prop},resL P S xs E→∃ vs:List AV,xs.length=vs.length∧(∀ i (h1:i<xs.length) (h2:i<vs.length),resV P S xs[i] vs[i])∧E vs:=by
 intro xs
 induction xs with
 | nil=>intro E h;exact ⟨[],rfl,fun i h1=>by simp at h1,h⟩
 | cons x xs ih =>
  intro E h
  simp only[resL]at h
  obtain ⟨v,h1,h2⟩:=res1_spec h
  obtain ⟨vs,h3,h4,h5⟩:=ih h2
  refine ⟨v::vs,by simp[h3],fun i a1 a2=>?_,h5⟩
  cases i with
  | zero=>exact h1
  | succ i=>exact h4 i (by simpa using a1) (by simpa using a2)
theorem resE_spec {P:Program} {S:AS} {xs:List ResultVar} {E:AV→Prop} (h:resE P S xs E):∃ v,resA P S xs v∧E v:=by
 unfold resE at h
 split at h
 ·exact ⟨_,rfl,h⟩
 ·obtain ⟨v,h1,h2⟩:=res1_spec h;exact ⟨v,h1,h2⟩
 ·rename_i h0 h1
  obtain ⟨vs,a1,a2,a3⟩:=resL_spec h
  refine ⟨_,?_,a3⟩
  match xs,h0,h1 with
  | x::y::r,_,_=>exact ⟨vs,rfl,a1,a2⟩
  | [x],_,h1=>exact absurd rfl (h1 x)
  | [],h0,_=>exact absurd rfl h0
theorem RetA.of {P:Program} {rs:List ResultVar} {r:AV} {S:AS} (h:resE P S rs fun x=>bwr (look S.o) x=r):RetA P rs r S:=resE_spec h
theorem RetB.of {P:Program} {rs:List ResultVar} {r:AV} {post:List (Nat × AV)} {S:AS} (h:resE P S rs fun x=>x=r) (hp:∀ p∈post,look S.o p.1=p.2):RetB P rs r post S:=by
 obtain ⟨v,h1,rfl⟩:=resE_spec h
 exact ⟨h1,hp⟩
theorem gcase_tt (X Y:Prop):gcase true true X Y=X:=by simp[gcase]
theorem gcase_ff (X Y:Prop):gcase false false X Y=X:=by simp[gcase]
theorem gcase_tf (X Y:Prop):gcase true false X Y=Y:=by simp[gcase]
theorem gcase_ft (X Y:Prop):gcase false true X Y=Y:=by simp[gcase]
theorem gcase.split {b want:Bool} {X Y:Prop} (h1:b=want→X) (h2:b≠want→Y):gcase b want X Y:=⟨h1,h2⟩
def flatB:AV→Bool
 | .lit _=>true
 | .agg cs=>flatBs cs
 | .tup cs=>flatBs cs
 | _=>false
where flatBs:List AV→Bool
 | []=>true
 | c::cs=>flatB c&&flatBs cs
mutual
theorem flatB_spec:∀ {a:AV},flatB a=true→Flat a
 | .lit v,_=>.lit v
 | .agg cs,h=>.agg cs (flatBs_spec (by simpa only[flatB]using h))
 | .tup cs,h=>.tup cs (flatBs_spec (by simpa only[flatB]using h))
 | .any,h=>by simp[flatB]at h
 | .sl _,h=>by simp[flatB]at h
 | .fp _,h=>by simp[flatB]at h
 | .loc ..,h=>by simp[flatB]at h
 | .ref ..,h=>by simp[flatB]at h
 | .vp ..,h=>by simp[flatB]at h
 | .clo ..,h=>by simp[flatB]at h
 | .bs ..,h=>by simp[flatB]at h
 | .mp ..,h=>by simp[flatB]at h
 | .mpo ..,h=>by simp[flatB]at h
 | .blk _,h=>by simp[flatB]at h
 | .vec ..,h=>by simp[flatB]at h
theorem flatBs_spec:∀ {cs:List AV},flatB.flatBs cs=true→∀ c∈cs,Flat c
 | [],_,c,hc=>by simp at hc
 | x::xs,h,c,hc=>by
  simp only[flatB.flatBs,Bool.and_eq_true]at h
  rcases List.mem_cons.1 hc with e|hc
  ·rw[e];exact flatB_spec h.1
  ·exact flatBs_spec h.2 c hc
end
theorem callV.lend {P : Program} {f : Nat} {args : List AV} {i : Nat} {ob : Nat → AV} {E : Eff → Prop} (r : AV) (hf : fnT P f = true) (hc : CallOK P f (args.map (bwa ob)) [] r []) (hin : ∀ a ∈ args.map (bwa ob), In (fun _ => False) a) (hr : Flat r)
  (h:E ⟨r,[],args.flatMap idA⟩):callV P f args i ob E:=.inl ⟨r,hf,hc,hin,hr,h⟩
theorem callV.plain {P : Program} {f : Nat} {args : List AV} {i : Nat} {ob : Nat → AV} {E : Eff → Prop} (r : AV) (hf : fnT P f = true) (hc : CallOK P f args [] r []) (hin : ∀ a ∈ args, In (fun _ => False) a) (hr : In (fun _ => False) r)
  (h:E ⟨r,[],[]⟩):callV P f args i ob E :=
 .inr <| .inl ⟨[],r,[],hf,hc,fun p hp=>by simp at hp,fun a ha=>by
  have:=hin a ha
  have key:∀ {K K':Nat→Prop} {a:AV},In K a→(∀ l,K l→K' l)→In K' a:=by
   intro K K' a h hk
   induction h with
   | any=>exact .any
   | lit v=>exact .lit v
   | agg cs _ ih=>exact .agg cs ih
   | tup cs _ ih=>exact .tup cs ih
   | sl es _ ih=>exact .sl es ih
   | fp cs _ ih=>exact .fp cs ih
   | clo f cs _ ih=>exact .clo f cs ih
   | loc l o h=>exact .loc l o (hk l h)
   | ref l o n m h=>exact .ref l o n m (hk l h)
   | vp l i j m h=>exact .vp l i j m (hk l h)
   | bs l o k n h=>exact .bs l o k n (hk l h)
   | mp l h=>exact .mp l (hk l h)
  exact key this fun l h=>h.elim,fun p hp=>by simp at hp,by simp,hr,fun p hp=>by simp at hp,rfl,fun l hl=>by simp at hl,h⟩
theorem callV.flat {P:Program} {f:Nat} {args:List AV} {i:Nat} {ob:Nat→AV} {E:Eff→Prop} (r:AV) (hf:fnT P f=true) (hc:CallOK P f args [] r []) (ha:flatB.flatBs args=true) (hr:flatB r=true) (h:E ⟨r,[],[]⟩):callV P f args i ob E :=
 callV.plain r hf hc (fun a h=>(flatBs_spec ha a h).in) (flatB_spec hr).in h
theorem callV.fresh {P : Program} {f : Nat} {args : List AV} {i : Nat} {ob : Nat → AV} {E : Eff → Prop} (k : Nat) (es : List (List AV)) (hf : fnT P f = true) (hc : CallFr P f (args.map (bwa ob)) k es) (hin : ∀ a ∈ args.map (bwa ob), In (fun _ => False) a)
  (h:E ⟨.ref i 0 es.length es.length,[(i,.vec k es)],args.flatMap idA⟩):callV P f args i ob E:=.inr <| .inr <| .inl ⟨k,es,hf,hc,hin,h⟩
theorem RetF.of {P:Program} {rs:List ResultVar} {k:Nat} {es:List (List AV)} {S:AS} (h:resE P S rs fun x=>∃ l,x=.ref l 0 es.length es.length∧look S.o l=.vec k es):RetF P rs k es S:=by
 obtain ⟨v,h1,l,rfl,h2⟩:=resE_spec h
 exact ⟨l,h1,h2⟩
theorem CallOK.flat {P : Program} {f : Nat} {fn : Func} {code : Code} {args : List AV} {r : AV} (hf : P.funcs[f]? = some fn) (hb : fn.body = some code) (nt : Nat) (hnt : fn.ntmps = nt) (ha : decide (args.length ≤ nt) = true) (hr : flatB r = true) (rs : List ResultVar) (hrs : fn.results.toList = rs)
  (h:AW P nt (RetA P rs r) [.code code] ⟨startT 0 args,[],8⟩):CallOK P f args [] r []:=by
 subst hnt
 subst hrs
 exact CallOK.of hf hb (by simpa using ha) (flatB_spec hr).in h
theorem CallFr.flat {P : Program} {f : Nat} {fn : Func} {code : Code} {args : List AV} {k : Nat} {es : List (List AV)} (hf : P.funcs[f]? = some fn) (hb : fn.body = some code) (nt : Nat) (hnt : fn.ntmps = nt) (ha : decide (args.length ≤ nt) = true) (hfl : ∀ e ∈ es, ∀ c ∈ e, Flat c) (rs : List ResultVar) (hrs : fn.results.toList = rs)
  (h:AW P nt (RetF P rs k es) [.code code] ⟨startT 0 args,[],8⟩):CallFr P f args k es:=by
 subst hnt
 subst hrs
 exact CallFr.of hf hb (by simpa using ha) hfl h
theorem callV.new {P : Program} {f : Nat} {args : List AV} {i : Nat} {ob : Nat → AV} {E : Eff → Prop} (r : AV) (hf : fnT P f = true) (hc : CallNw P f (args.map (bwa ob)) r) (hin : ∀ a ∈ args.map (bwa ob), In (fun _ => False) a) (hr : In (fun _ => False) r)
  (h:E ⟨r,[],args.flatMap idA⟩):callV P f args i ob E:=.inr <| .inr <| .inr ⟨r,hf,hc,hin,hr,h⟩
theorem RetN.of {P:Program} {rs:List ResultVar} {r:AV} {S:AS} (h:resE P S rs fun x=>bwn (look S.o) x=r):RetN P rs r S:=resE_spec h
theorem CallNw.flat {P : Program} {f : Nat} {fn : Func} {code : Code} {args : List AV} {r : AV} (hf : P.funcs[f]? = some fn) (hb : fn.body = some code) (nt : Nat) (hnt : fn.ntmps = nt) (ha : decide (args.length ≤ nt) = true) (hfl : FlatS r) (rs : List ResultVar) (hrs : fn.results.toList = rs)
  (h:AW P nt (RetN P rs r) [.code code] ⟨startT 0 args,[],8⟩):CallNw P f args r:=by
 subst hnt
 subst hrs
 exact CallNw.of hf hb (by simpa using ha) hfl h
theorem CallOK.closed {P : Program} {f : Nat} {fn : Func} {code : Code} {args : List AV} {r : AV} (hf : P.funcs[f]? = some fn) (hb : fn.body = some code) (nt : Nat) (hnt : fn.ntmps = nt) (ha : decide (args.length ≤ nt) = true) (hr : In (fun _ => False) r) (rs : List ResultVar) (hrs : fn.results.toList = rs)
  (h:AW P nt (RetA P rs r) [.code code] ⟨startT 0 args,[],8⟩):CallOK P f args [] r []:=by
 subst hnt
 subst hrs
 exact CallOK.of hf hb (by simpa using ha) hr h
theorem CallOK.inout {P : Program} {f : Nat} {fn : Func} {code : Code} {args : List AV} {pre post : List (Nat × AV)} {r : AV} (hf : P.funcs[f]? = some fn) (hb : fn.body = some code) (nt : Nat) (hnt : fn.ntmps = nt) (ha : decide (args.length ≤ nt) = true) (hn : ∀ p ∈ pre, p.1 < 8) (hin : In (fun _ => False) r)
  (hpost:∀ p∈post,p.1∈pre.map (·.1)∧InC (fun l=>l∈pre.map (·.1)) p.2) (rs:List ResultVar) (hrs:fn.results.toList=rs)
  (h:AW P nt (RetB P rs r post) [.code code] ⟨startT 0 args,pre,8⟩):CallOK P f args pre r post:=by
 subst hnt
 subst hrs
 exact CallOK.ofB hf hb (by simpa using ha) hn hin hpost h
theorem AW_congr {P:Program} {nt:Nat} {R:AS→Prop} {k:List Itm} {S S':AS} (h:S=S'):AW P nt R k S=AW P nt R k S':=by rw[h]
def subL:List (Nat × AV)→List (Nat × AV)→Prop
 | [],_=>True
 | (i,a)::l,s=>look s i=a∧subL l s
theorem subL_spec:∀ {l s:List (Nat × AV)},subL l s→∀ p∈l,look s p.1=p.2:=by
 intro l
 induction l with
 | nil=>intro s _ p hp;simp at hp
 | cons q l ih =>
  intro s h p hp
  obtain ⟨i,a⟩:=q
  rcases List.mem_cons.1 hp with rfl|hp
  ·exact h.1
  ·exact ih h.2 p hp
def inT (n:Nat):List (Nat × AV)→Prop
 | []=>True
 | (_,a)::l=>In (fun k=>k<n) a∧inT n l
def inO (n:Nat):List (Nat × AV)→Prop
 | []=>True
 | (i,a)::l=>(i<n∧InC (fun k=>k<n) a)∧inO n l
theorem inT_spec {n:Nat}:∀ {l:List (Nat × AV)},inT n l→∀ p∈l,In (fun k=>k<n) p.2:=by
 intro l
 induction l with
 | nil=>intro _ p hp;simp at hp
 | cons q l ih =>
  intro h p hp
  obtain ⟨i,a⟩:=q
  rcases List.mem_cons.1 hp with rfl|hp
  ·exact h.1
  ·exact ih h.2 p hp
theorem inO_spec {n:Nat}:∀ {l:List (Nat × AV)},inO n l→∀ p∈l,p.1<n∧InC (fun k=>k<n) p.2:=by
 intro l
 induction l with
 | nil=>intro _ p hp;simp at hp
 | cons q l ih =>
  intro h p hp
  obtain ⟨i,a⟩:=q
  rcases List.mem_cons.1 hp with rfl|hp
  ·exact h.1
  ·exact ih h.2 p hp
theorem Weak.to {S:AS} {t o:List (Nat × AV)} {n:Nat} (ht:subL t S.t) (ho:subL o S.o) (h8:8≤n) (hi:inT n t) (hj:inO n o):Weak S ⟨t,o,n⟩:=by
 by_cases h:S.nx≤n
 ·exact Weak.facts (subL_spec ht) (subL_spec ho) h
 ·refine Weak.trans (Weak.facts (nx:=S.nx) (subL_spec ht) (subL_spec ho) (Nat.le_refl _)) ?_
  exact Weak.names (S:=⟨t,o,S.nx⟩) h8 ⟨inT_spec hi,inO_spec hj⟩
theorem Weak.t4 {S:AS} {t o:List (Nat × AV)} {n:Nat} (h:subL t S.t∧subL o S.o∧inT n t∧inO n o) (h8:8≤n:=by decide):Weak S ⟨t,o,n⟩ :=
 Weak.to h.1 h.2.1 h8 h.2.2.1 h.2.2.2
theorem In_lit {K:Nat→Prop} (v:Value):In K (.lit v)=True:=eq_true (.lit v)
theorem In_any {K:Nat→Prop}:In K .any=True:=eq_true .any
theorem In_agg {K:Nat→Prop} (cs:List AV):In K (.agg cs)=∀ c∈cs,In K c:=propext ⟨fun h=>by cases h;assumption,.agg cs⟩
theorem In_tup {K:Nat→Prop} (cs:List AV):In K (.tup cs)=∀ c∈cs,In K c:=propext ⟨fun h=>by cases h;assumption,.tup cs⟩
theorem In_sl {K:Nat→Prop} (es:List (List AV)):In K (.sl es)=∀ e∈es,∀ c∈e,In K c:=propext ⟨fun h=>by cases h;assumption,.sl es⟩
theorem In_fp {K:Nat→Prop} (cs:List AV):In K (.fp cs)=∀ c∈cs,In K c:=propext ⟨fun h=>by cases h;assumption,.fp cs⟩
theorem In_clo {K:Nat→Prop} (f:Nat) (cs:List AV):In K (.clo f cs)=∀ c∈cs,In K c:=propext ⟨fun h=>by cases h;assumption,.clo f cs⟩
theorem In_loc {K:Nat→Prop} (l o:Nat):In K (.loc l o)=K l:=propext ⟨fun h=>by cases h;assumption,.loc l o⟩
theorem In_ref {K:Nat→Prop} (l o n m:Nat):In K (.ref l o n m)=K l:=propext ⟨fun h=>by cases h;assumption,.ref l o n m⟩
theorem In_vp {K:Nat→Prop} (l o n m:Nat):In K (.vp l o n m)=K l:=propext ⟨fun h=>by cases h;assumption,.vp l o n m⟩
theorem In_mp {K:Nat→Prop} (l:Nat):In K (.mp l)=K l:=propext ⟨fun h=>by cases h;assumption,.mp l⟩
theorem In_bs {K:Nat→Prop} (l o n m:Nat):In K (.bs l o n m)=K l:=propext ⟨fun h=>by cases h;assumption,.bs l o n m⟩
end Go.Sx
