import Derived.WideKeyMaps
import Derived.DeepKeys5
import Derived.Test.YtjlfgmhmalbiiaaGreatDoorU03
set_option linter.all false
namespace Go.Sx
set_option linter.unusedVariables false
set_option linter.unusedSimpArgs false
def idOf:AV→List Nat
 | .loc l _|.ref l _ _ _|.vp l _ _ _|.bs l _ _ _=>[l]
 | _=>[]
theorem bw_agree {ob ob':Nat→AV} {a:AV} (h:∀ l∈idOf a,ob' l=ob l):bw ob' a=bw ob a:=by
 cases a<;>simp only[bw]<;>(try rfl)<;>rw[h _ (by simp[idOf])]
def idA:AV→List Nat
 | .agg cs=>cs.flatMap idOf
 | .clo _ cs=>cs.flatMap idOf
 | a=>idOf a
theorem bwa_agree {ob ob':Nat→AV} {a:AV} (h:∀ l∈idA a,ob' l=ob l):bwa ob' a=bwa ob a:=by
 cases a with
 | agg cs=>simp only[bwa];congr 1;exact List.map_congr_left fun x hx=>bw_agree fun l hl=>h l (List.mem_flatMap.2 ⟨x,hx,hl⟩)
 | clo f cs=>simp only[bwa];congr 1;exact List.map_congr_left fun x hx=>bw_agree fun l hl=>h l (List.mem_flatMap.2 ⟨x,hx,hl⟩)
 | _=>simp only[bwa];exact bw_agree fun l hl=>h l (by simpa only[idA]using hl)
def InC (K:Nat→Prop):AV→Prop
 | .blk cs=>∀ c∈cs,In K c
 | .vec _ es=>∀ e∈es,∀ c∈e,In K c
 | .ito m _ _=>K m
 | _=>True
def callA (P:Program) (f:Nat) (args:List AV) (ob:Nat→AV) (E:Eff→Prop):Prop :=
 ∃ r,fnT P f=true∧CallOK P f (args.map (bwa ob)) [] r []∧(∀ a∈args.map (bwa ob),In (fun _=>False) a)∧Flat r∧E ⟨r,[],args.flatMap idA⟩
def callB (P:Program) (f:Nat) (args:List AV) (ob:Nat→AV) (E:Eff→Prop):Prop :=
 ∃ pre r post,fnT P f=true∧CallOK P f args pre r post∧(∀ p∈pre,ob p.1=p.2)∧(∀ a∈args,In (fun l=>l∈pre.map (·.1)) a)∧(∀ p∈pre,InC (fun l=>l∈pre.map (·.1)) p.2)∧(pre.map (·.1)).Nodup ∧
  In (fun _=>False) r∧(∀ p∈post,p.1∈pre.map (·.1)∧InC (fun l=>l∈pre.map (·.1)) p.2)∧(pre.map (·.1)).all (fun l=>(post.map (·.1)).contains l)=true∧E ⟨r,post,pre.map (·.1)⟩
theorem upd_mem {ob:Nat→AV}:∀ {e:List (Nat × AV)} {l:Nat},l∉e.map (·.1)→upd ob e l=ob l:=by
 intro e
 induction e with
 | nil=>intro l _;rfl
 | cons p e ih =>
  intro l h
  obtain ⟨i,a⟩:=p
  simp only[List.map_cons,List.mem_cons,not_or]at h
  simp only[upd]
  rw[if_neg (fun e=>h.1 e.symm)]
  exact ih h.2
theorem upd_eq {ob:Nat→AV}:∀ {e:List (Nat × AV)} {l:Nat} {a:AV},upd ob e l=a→l∈e.map (·.1)→(l,a)∈e:=by
 intro e
 induction e with
 | nil=>intro l a _ h;simp at h
 | cons p e ih =>
  intro l a h hm
  obtain ⟨i,x⟩:=p
  simp only[upd]at h
  by_cases hi:i=l
  ·rw[if_pos hi]at h
   subst hi
   subst h
   simp
  ·rw[if_neg hi]at h
   simp only[List.map_cons,List.mem_cons]at hm
   rcases hm with hm|hm
   ·exact absurd hm.symm hi
   ·exact List.mem_cons_of_mem _ (ih h hm)
theorem upd_any {ob:Nat→AV} {e:List (Nat × AV)} (l:Nat) (h:l∈e.map (·.1)):upd ob e l=upd anyf e l:=by
 induction e with
 | nil=>simp at h
 | cons p e ih =>
  obtain ⟨i,x⟩:=p
  simp only[upd]
  by_cases hi:i=l
  ·rw[if_pos hi,if_pos hi]
  ·rw[if_neg hi,if_neg hi]
   simp only[List.map_cons,List.mem_cons]at h
   rcases h with h|h
   ·exact absurd h.symm hi
   ·exact ih h
theorem callA_run {c : Cx} {f : Nat} {args : List AV} {ob : Nat → AV} {E : Eff → Prop} (h : callA c.P f args ob E) :
  ∃ e,E e∧fnT c.P f=true∧∀ ob',(∀ l∈e.rd,ob' l=ob l)→∀ g vals,GOk c g ob'→RelL g args vals →
   Calls c.P f vals.toArray g.w fun e' w'=>∃ v g',e'=.returned v∧g'.w=w'∧Ev g g'∧GOk c g' (upd ob' e.ob)∧Rel g' e.val v∧∀ l,g'.us l→g.us l:=by
 obtain ⟨r,hfn,hok,hin,hflat,hE⟩:=h
 refine ⟨_,hE,hfn,fun ob' ho g vals hg hr=>?_⟩
 have hbw:args.map (bwa ob')=args.map (bwa ob):=by
  apply List.map_congr_left
  intro a ha
  exact bwa_agree fun l hl=>ho l (List.mem_flatMap.2 ⟨a,ha,hl⟩)
 let g0:Gh:={ withAll g ob' with us:=fun _=>False }
 have hW:∀ b,¬ (cxOf c.P g0 (upd anyf [])).W0 b:=by
  rintro b ⟨l,hl⟩
  simp[upd,anyf,blkOf]at hl
 have hfzx:∀ b,g0.fz b→b<g0.w.heap.size:=by
  rintro b (hb|⟨l,hl⟩)
  ·exact hg.fzx b hb
  ·exact (hg.obj l).lt hl
 have hg0:GOk (cxOf c.P g0 (upd anyf [])) g0 (upd anyf []) :=
  ⟨rfl,Tp.rfl,rfl,Nat.le_refl _,fun _ _ _=>rfl,fun b hb=>hb,fun b hb=>.inl hb,hfzx,fun l=>trivial,fun l b hb=>by simp[upd,anyf,blkOf]at hb,fun l l' b hb=>by simp[upd,anyf,blkOf]at hb⟩
 have hrel:RelL g0 (args.map (bwa ob)) vals:=by
  refine ⟨by simp[hr.1],fun i h1 h2=>?_⟩
  have hi:i<args.length:=by simpa using h1
  have h3:=rel_bwa hg (hr.2 i hi h2)
  have e1:bwa ob' args[i]=(args.map (bwa ob))[i]:=by
   have:(args.map (bwa ob'))[i]'(by simpa using hi)=(args.map (bwa ob))[i]:=by simp only[hbw]
   simpa using this
  rw[e1]at h3
  exact Rel.carry (g:=withAll g ob') (g':=g0) (K:=fun _=>False) (fun b hb=>⟨hb,rfl⟩) (fun l hl=>hl.elim) h3 (hin _ (List.getElem_mem h1))
 refine (hok g0 vals (fun l=>by simp[g0]) hg0 hrel).mono ?_
 rintro e' w' ⟨v,g',rfl,rfl,he,hus,hg',hrr⟩
 have hev:Ev g { g with w:=g'.w }:=⟨fun b hb=>⟨hb,(he.fz b (.inl hb)).2⟩,fun l hl=>⟨hl,rfl,Nat.le_refl _,fun _=>rfl⟩⟩
 have hold:∀ b,b<g.w.heap.size→g'.w.heap[b]?=g.w.heap[b]?:=fun b hb=>hg'.old b hb (hW b)
 refine ⟨v,{ g with w:=g'.w },rfl,rfl,hev,?_,hrr.flat hflat,fun l hl=>hl⟩
 have hblk:∀ l,blkOf { g with w:=g'.w } l (ob' l)=blkOf g l (ob' l):=fun l=>by cases ob' l<;>rfl
 refine ⟨hg'.os.trans hg.os,hg'.tape.trans hg.tape,hg'.output.trans hg.output,Nat.le_trans hg.size hg'.size,fun b hb hw=>?_,hg.fzo,hg.fzn,fun b hb=>Nat.lt_of_lt_of_le (hg.fzx b hb) hg'.size,fun l=>?_,fun l b hb=>?_,fun l l' b hb hb'=>?_⟩
 ·show g'.w.heap[b]?=_
  rw[hold b (Nat.lt_of_lt_of_le hb hg.size)]
  exact hg.old b hb hw
 ·exact (hg.obj l).keep hev ⟨rfl,rfl⟩ fun b hb=>hold b ((hg.obj l).lt hb)
 ·simp only[upd,hblk]at hb
  exact hg.own l b hb
 ·simp only[upd,hblk]at hb hb'
  exact hg.dis l l' b hb hb'
theorem callB_run {c : Cx} {f : Nat} {args : List AV} {ob : Nat → AV} {E : Eff → Prop} (h : callB c.P f args ob E) :
  ∃ e,E e∧fnT c.P f=true∧∀ ob',(∀ l∈e.rd,ob' l=ob l)→∀ g vals,GOk c g ob'→RelL g args vals→(∀ l∈e.rd,g.us l) →
   Calls c.P f vals.toArray g.w fun e' w'=>∃ v g',e'=.returned v∧g'.w=w'∧Ev g g'∧GOk c g' (upd ob' e.ob)∧Rel g' e.val v∧∀ l,g'.us l→g.us l:=by
 obtain ⟨pre,r,post,hfn,hok,hpre,hin,hinc,hnd,hr0,hpost,hall,hE⟩:=h
 refine ⟨_,hE,hfn,fun ob' ho g vals hg hr husk=>?_⟩
 let K:Nat→Prop:=fun l=>l∈pre.map (·.1)
 let g0:Gh:={ g with us:=K }
 have hobK:∀ l,K l→upd anyf pre l=ob' l:=fun l hl=>by
  have hm:=upd_eq (ob:=anyf) (e:=pre) (l:=l) rfl hl
  rw[ho l hl]
  exact (hpre _ hm).symm
 have hobN:∀ l,¬ K l→upd anyf pre l=.any:=fun l hl=>upd_mem hl
 have hcar:∀ {a v},Rel g a v→In K a→Rel g0 a v:=fun h hi=>Rel.carry (g:=g) (g':=g0) (K:=K) (fun b hb=>⟨hb,rfl⟩) (fun l hl hu=>⟨hl,rfl,rfl,rfl⟩) h hi
 have hblk0:∀ l a,blkOf g0 l a=blkOf g l a:=fun l a=>by cases a<;>rfl
 have hg0:GOk (cxOf c.P g0 (upd anyf pre)) g0 (upd anyf pre):=by
  refine ⟨rfl,Tp.rfl,rfl,Nat.le_refl _,fun _ _ _=>rfl,fun b hb=>hb,fun b hb=>.inl hb,hg.fzx,fun l=>?_,fun l b hb=>⟨.inl ⟨l,hb⟩,?_⟩,fun l l' b hb hb'=>?_⟩
  ·by_cases hl:K l
   ·have hm:=upd_eq (ob:=anyf) (e:=pre) (l:=l) rfl hl
    have hi:=hinc _ hm
    have hobl:=hg.obj l
    rw[← hobK l hl]at hobl
    generalize upd anyf pre l=a at hobl hi
    cases a with
    | blk cs =>
     obtain ⟨hu,vs,e,h1,h2,h3,h4⟩:=hobl
     exact ⟨hl,vs,e,h1,h2,h3,fun i a1 a2=>hcar (h4 i a1 a2) (hi _ (List.getElem_mem a1))⟩
    | vec k es =>
     obtain ⟨hu,h1,h2,h3,h4,h5⟩:=hobl
     refine ⟨hl,h1,h2,h3,h4,?_⟩
     rcases h5 with h5|⟨b,vs,h6,h7,h8,h9,h10,h11,h12⟩
     ·exact .inl h5
     ·exact .inr ⟨b,vs,h6,h7,h8,h9,h10,h11,fun i a1 j a2 a3=>hcar (h12 i a1 j a2 a3) (hi _ (List.getElem_mem a1) _ (List.getElem_mem a2))⟩
    | mpo es=>obtain ⟨hu,arr,clock,h1,h2⟩:=hobl;exact ⟨hl,arr,clock,h1,h2⟩
    | ito m n s=>exact ⟨hl,hi,hobl.2.2⟩
    | _=>trivial
   ·rw[hobN l hl];trivial
  ·by_cases hl:K l
   ·rw[hobK l hl,hblk0]at hb
    exact (hg.own l b hb).2
   ·rw[hobN l hl]at hb;simp[blkOf]at hb
  ·by_cases hl:K l
   ·by_cases hl':K l'
    ·rw[hobK l hl,hblk0]at hb
     rw[hobK l' hl',hblk0]at hb'
     exact hg.dis l l' b hb hb'
    ·rw[hobN l' hl']at hb';simp[blkOf]at hb'
   ·rw[hobN l hl]at hb;simp[blkOf]at hb
 have hrel:RelL g0 args vals:=⟨hr.1,fun i h1 h2=>hcar (hr.2 i h1 h2) (hin _ (List.getElem_mem h1))⟩
 refine (hok g0 vals (fun l=>Iff.rfl) hg0 hrel).mono ?_
 rintro e' w' ⟨v,g',rfl,rfl,he,hus,hg',hrr⟩
 let g1:Gh:={ w:=g'.w,fz:=g'.fz,us:=g.us,blk:=g.blk,des:=fun l=>if l∈pre.map (·.1)then g'.des l else g.des l,len:=fun l=>if l∈pre.map (·.1)then g'.len l else g.len l }
 have hd1:∀ l,K l→g1.des l=g'.des l∧g1.len l=g'.len l:=fun l hl=>⟨if_pos hl,if_pos hl⟩
 have hd0:∀ l,¬ K l→g1.des l=g.des l∧g1.len l=g.len l:=fun l hl=>⟨if_neg hl,if_neg hl⟩
 have hev:Ev g g1:=by
  refine ⟨fun b hb=>he.fz b hb,fun l hl=>⟨hl,rfl,?_⟩⟩
  by_cases hk:K l
  ·obtain ⟨_,_,h3,h4⟩:=he.us l hk
   rw[(hd1 l hk).1,(hd1 l hk).2]
   exact ⟨h3,h4⟩
  ·rw[(hd0 l hk).1,(hd0 l hk).2]
   exact ⟨Nat.le_refl _,fun _=>rfl⟩
 have hcar1:∀ {a v},Rel g' a v→In K a→Rel g1 a v:=fun h hi=>Rel.carry (g:=g') (g':=g1) (K:=K) (fun b hb=>⟨hb,rfl⟩) (fun l hl hu=>⟨husk l hl,((he.us l hl).2.1).symm,(hd1 l hl).1,(hd1 l hl).2⟩) h hi
 have hcar0:∀ {a v},Rel g' a v→In (fun _=>False) a→Rel g1 a v:=fun h hi=>Rel.carry (g:=g') (g':=g1) (K:=fun _=>False) (fun b hb=>⟨hb,rfl⟩) (fun l hl hu=>hl.elim) h hi
 have hpk:∀ l,K l→l∈post.map (·.1):=fun l hl=>by
  have:=List.all_eq_true.1 hall l hl
  simpa using this
 have hobP:∀ l,K l→upd ob' post l=upd anyf post l:=fun l hl=>upd_any l (hpk l hl)
 have hobQ:∀ l,¬ K l→upd ob' post l=ob' l:=fun l hl=>upd_mem fun hm=>by
  obtain ⟨p,hp,rfl⟩:=List.mem_map.1 hm
  exact hl (hpost p hp).1
 have hblk1:∀ l,K l→∀ a,blkOf g1 l a=blkOf g' l a:=fun l hl a=>by
  cases a<;>simp only[blkOf]
  ·rw[show g1.blk l=g.blk l from rfl,(he.us l hl).2.1]
  ·rw[(hd1 l hl).1]
  ·rw[show g1.blk l=g.blk l from rfl,(he.us l hl).2.1]
  ·rw[show g1.blk l=g.blk l from rfl,(he.us l hl).2.1]
 have hblk2:∀ l,¬ K l→∀ a,blkOf g1 l a=blkOf g l a:=fun l hl a=>by
  cases a<;>simp only[blkOf]
  ·rfl
  ·rw[(hd0 l hl).1]
  ·rfl
  ·rfl
 have hWown:∀ b,(cxOf c.P g0 (upd anyf pre)).W0 b→∃ l,K l∧blkOf g l (ob' l)=some b:=by
  rintro b ⟨l,hl⟩
  by_cases hk:K l
  ·rw[hobK l hk,hblk0]at hl;exact ⟨l,hk,hl⟩
  ·rw[hobN l hk]at hl;simp[blkOf]at hl
 have hframe:∀ l b,¬ K l→blkOf g l (ob' l)=some b→g'.w.heap[b]?=g.w.heap[b]?:=fun l b hl hb=>hg'.old b ((hg.obj l).lt hb) fun hw=>by
  obtain ⟨l',hk',hb'⟩:=hWown b hw
  exact hl (hg.dis l l' b hb hb'▸hk')
 refine ⟨v,g1,rfl,rfl,hev,?_,hcar0 hrr hr0,fun l hl=>hl⟩
 refine ⟨hg'.os.trans hg.os,hg'.tape.trans hg.tape,hg'.output.trans hg.output,Nat.le_trans hg.size hg'.size,fun b hb hw=>?_,fun b hb=>hg'.fzo b (hg.fzo b hb),fun b hb=>?_,hg'.fzx,fun l=>?_,fun l b hb=>?_,fun l l' b hb hb'=>?_⟩
 ·show g'.w.heap[b]?=_
  have hlt:b<g.w.heap.size:=Nat.lt_of_lt_of_le hb hg.size
  refine (hg'.old b hlt ?_).trans (hg.old b hb hw)
  intro hw'
  obtain ⟨l,hk,hb'⟩:=hWown b hw'
  rcases (hg.own l b hb').1 with h|h
  ·exact hw h
  ·omega
 ·rcases hg'.fzn b hb with h|h|h
  ·exact hg.fzn b h
  ·obtain ⟨l,hk,hb'⟩:=hWown b h
   rcases (hg.own l b hb').1 with h|h
   ·exact .inr (.inl h)
   ·exact .inr (.inr h)
  ·exact .inr (.inr (Nat.le_trans hg.size h))
 ·by_cases hk:K l
  ·rw[show upd ob' _ l=_ from hobP l hk]
   have hm:=upd_eq (ob:=anyf) (e:=post) (l:=l) rfl (hpk l hk)
   have hi:=(hpost _ hm).2
   have hobl:=hg'.obj l
   generalize upd anyf post l=a at hobl hi
   cases a with
   | blk cs =>
    obtain ⟨hu,vs,e,h1,h2,h3,h4⟩:=hobl
    refine ⟨husk l hk,vs,e,?_,h2,h3,fun i a1 a2=>hcar1 (h4 i a1 a2) (hi _ (List.getElem_mem a1))⟩
    show g'.w.heap[g.blk l]?=_
    rw[← show g'.blk l=g.blk l from (he.us l hk).2.1]
    exact h1
   | vec k es =>
    obtain ⟨hu,h1,h2,h3,h4,h5⟩:=hobl
    refine ⟨husk l hk,by rw[(hd1 l hk).1];exact h1,by rw[(hd1 l hk).2];exact h2,h3,h4,?_⟩
    rw[(hd1 l hk).1]
    rcases h5 with h5|⟨b,vs,h6,h7,h8,h9,h10,h11,h12⟩
    ·exact .inl h5
    ·exact .inr ⟨b,vs,h6,h7,h8,h9,h10,h11,fun i a1 j a2 a3=>hcar1 (h12 i a1 j a2 a3) (hi _ (List.getElem_mem a1) _ (List.getElem_mem a2))⟩
   | mpo es =>
    obtain ⟨hu,arr,clock,h1,h2⟩:=hobl
    refine ⟨husk l hk,arr,clock,?_,h2⟩
    show g'.w.heap[g.blk l]?=_
    rw[← show g'.blk l=g.blk l from (he.us l hk).2.1]
    exact h1
   | ito m n s =>
    refine ⟨husk l hk,husk m hi,?_⟩
    show g'.w.heap[g.blk l]?=some (.mapIter (some (g.blk m)) n s.toArray n)
    rw[← show g'.blk l=g.blk l from (he.us l hk).2.1,← show g'.blk m=g.blk m from (he.us m hi).2.1]
    exact hobl.2.2
   | _=>trivial
  ·rw[show upd ob' _ l=_ from hobQ l hk]
   exact (hg.obj l).keep hev (hd0 l hk) fun b hb=>hframe l b hk hb
 ·by_cases hk:K l
  ·rw[show upd ob' _ l=_ from hobP l hk,hblk1 l hk]at hb
   obtain ⟨h1,h2⟩:=hg'.own l b hb
   refine ⟨?_,h2⟩
   rcases h1 with h1|h1
   ·obtain ⟨l',hk',hb'⟩:=hWown b h1
    exact (hg.own l' b hb').1
   ·exact .inr (Nat.le_trans hg.size h1)
  ·rw[show upd ob' _ l=_ from hobQ l hk,hblk2 l hk]at hb
   refine ⟨(hg.own l b hb).1,fun hf=>?_⟩
   rcases hg'.fzn b hf with h|h|h
   ·exact (hg.own l b hb).2 h
   ·obtain ⟨l',hk',hb'⟩:=hWown b h
    exact hk (hg.dis l l' b hb hb'▸hk')
   ·have h1:=(hg.obj l).lt hb
    have h2:g.w.heap.size≤b:=h
    omega
 ·have far:∀ l l' b,K l→¬ K l'→blkOf g1 l (upd ob' post l)=some b→blkOf g1 l' (upd ob' post l')=some b→False:=by
   intro l l' b hk hk' hb hb'
   rw[hobP l hk,hblk1 l hk]at hb
   rw[hobQ l' hk',hblk2 l' hk']at hb'
   rcases (hg'.own l b hb).1 with h|h
   ·obtain ⟨l2,hk2,hb2⟩:=hWown b h
    exact hk' (hg.dis l' l2 b hb' hb2▸hk2)
   ·have h1:=(hg.obj l').lt hb'
    have h2:g.w.heap.size≤b:=h
    omega
  by_cases hk:K l
  ·by_cases hk':K l'
   ·rw[show upd ob' _ l=_ from hobP l hk,hblk1 l hk]at hb
    rw[show upd ob' _ l'=_ from hobP l' hk',hblk1 l' hk']at hb'
    exact hg'.dis l l' b hb hb'
   ·exact (far l l' b hk hk' hb hb').elim
  ·by_cases hk':K l'
   ·exact (far l' l b hk' hk hb' hb).elim
   ·rw[show upd ob' _ l=_ from hobQ l hk,hblk2 l hk]at hb
    rw[show upd ob' _ l'=_ from hobQ l' hk',hblk2 l' hk']at hb'
    exact hg.dis l l' b hb hb'
end Go.Sx
namespace Go.Sx
set_option linter.unusedVariables false
set_option linter.unusedSimpArgs false
def FreshV (h0:Nat) (w:World) (k:Nat) (es:List (List AV)) (v:Value):Prop :=
 0<k∧(∀ e∈es,e.length=k)∧((es=[]∧v=.slice none 0 0) ∨
  ∃ b cap vs ety,v=.slice (some ⟨b,0,none⟩) es.length cap∧h0≤b∧w.heap[b]?=some (.cells vs ety (0,0))∧es.length≤cap∧cap≤maxLen∧vs.size=cap*k ∧
   (∀ i (h2:i<vs.size),i<es.length*k→vs[i].oneCell'=true)∧∀ (g:Gh) i (h1:i<es.length) j (h2:j<es[i].length) (h3:i*k+j<vs.size),Rel g es[i][j] vs[i*k+j])
def CallFr (P:Program) (f:Nat) (args:List AV) (k:Nat) (es:List (List AV)):Prop :=
 ∀ (g:Gh) (vals:List Value),(∀ l,¬ g.us l)→GOk (cxOf P g (upd anyf [])) g (upd anyf [])→RelL g args vals →
  Calls P f vals.toArray g.w fun e w'=>∃ v,e=.returned v∧w'.os=g.w.os∧Tp w' g.w∧w'.output=g.w.output∧g.w.heap.size≤w'.heap.size∧(∀ b,b<g.w.heap.size→w'.heap[b]?=g.w.heap[b]?)∧FreshV g.w.heap.size w' k es v
def callC (P:Program) (f:Nat) (args:List AV) (i:Nat) (ob:Nat→AV) (E:Eff→Prop):Prop :=
 ∃ k es,fnT P f=true∧CallFr P f (args.map (bwa ob)) k es∧(∀ a∈args.map (bwa ob),In (fun _=>False) a)∧E ⟨.ref i 0 es.length es.length,[(i,.vec k es)],args.flatMap idA⟩
theorem callC_run {c : Cx} {f : Nat} {args : List AV} {i : Nat} {ob : Nat → AV} {E : Eff → Prop} (h : callC c.P f args i ob E) :
  ∃ e,E e∧fnT c.P f=true∧∀ ob',(∀ l∈e.rd,ob' l=ob l)→∀ g vals,GOk c g ob'→RelL g args vals→¬ g.us i →
   Calls c.P f vals.toArray g.w fun e' w'=>∃ v g',e'=.returned v∧g'.w=w'∧Ev g g'∧GOk c g' (upd ob' e.ob)∧Rel g' e.val v∧∀ l,g'.us l→g.us l∨l=i:=by
 obtain ⟨k,es,hfn,hok,hin,hE⟩:=h
 refine ⟨_,hE,hfn,fun ob' ho g vals hg hr hi=>?_⟩
 have hbw:args.map (bwa ob')=args.map (bwa ob):=by
  apply List.map_congr_left
  intro a ha
  exact bwa_agree fun l hl=>ho l (List.mem_flatMap.2 ⟨a,ha,hl⟩)
 let g0:Gh:={ withAll g ob' with us:=fun _=>False }
 have hfzx:∀ b,g0.fz b→b<g0.w.heap.size:=by
  rintro b (hb|⟨l,hl⟩)
  ·exact hg.fzx b hb
  ·exact (hg.obj l).lt hl
 have hg0:GOk (cxOf c.P g0 (upd anyf [])) g0 (upd anyf []) :=
  ⟨rfl,Tp.rfl,rfl,Nat.le_refl _,fun _ _ _=>rfl,fun b hb=>hb,fun b hb=>.inl hb,hfzx,fun l=>trivial,fun l b hb=>by simp[upd,anyf,blkOf]at hb,fun l l' b hb=>by simp[upd,anyf,blkOf]at hb⟩
 have hrel:RelL g0 (args.map (bwa ob)) vals:=by
  refine ⟨by simp[hr.1],fun i h1 h2=>?_⟩
  have hi:i<args.length:=by simpa using h1
  have h3:=rel_bwa hg (hr.2 i hi h2)
  have e1:bwa ob' args[i]=(args.map (bwa ob))[i]:=by
   have:(args.map (bwa ob'))[i]'(by simpa using hi)=(args.map (bwa ob))[i]:=by simp only[hbw]
   simpa using this
  rw[e1]at h3
  exact Rel.carry (g:=withAll g ob') (g':=g0) (K:=fun _=>False) (fun b hb=>⟨hb,rfl⟩) (fun l hl=>hl.elim) h3 (hin _ (List.getElem_mem h1))
 refine (hok g0 vals (fun l=>by simp[g0]) hg0 hrel).mono ?_
 rintro e' w' ⟨v,rfl,hos,htp,hou,hsz,hold,hk0,hke,hv⟩
 have hne:∀ l,g.us l→l≠i:=fun l hl e=>hi (e▸hl)
 rcases hv with ⟨rfl,rfl⟩|⟨b,cap,vs,ety,rfl,hb0,hb,hc,hm,hs,h1,h2⟩
 ·let g':Gh:={ g with w:=w',us:=fun l=>g.us l∨l=i,des:=fun l=>if l=i then ⟨none,k,0,0⟩else g.des l,len:=fun l=>if l=i then 0 else g.len l }
  have hdi:g'.des i=⟨none,k,0,0⟩:=if_pos rfl
  have hli:g'.len i=0:=if_pos rfl
  have he:Ev g g':=by
   refine ⟨fun b hb=>⟨hb,hold b (hg.fzx b hb)⟩,fun l hl=>⟨.inl hl,rfl,?_,fun _=>if_neg (hne l hl)⟩⟩
   show _≤(if l=i then _ else _)
   rw[if_neg (hne l hl)]
   exact Nat.le_refl _
  refine ⟨_,g',rfl,rfl,he,?_,?_,fun l hl=>hl⟩
  ·refine hg.turn he i (.vec k []) hos htp hou hsz rfl (fun l hl=>⟨rfl,if_neg hl,if_neg hl⟩) (fun b hb _=>hold b hb) ?_ ?_
   ·refine ⟨.inr rfl,by rw[hdi],by rw[hli];rfl,hk0,fun e he=>by simp at he,.inl ?_⟩
    rw[hdi];exact ⟨rfl,rfl,rfl⟩
   ·intro b hb;simp only[blkOf,hdi]at hb;contradiction
  ·refine .ref _ _ _ _ _ (.inr rfl) (by rw[hli];exact Nat.le_refl _) rfl fun _=>?_
   rw[hdi];rfl
 ·let g':Gh:={ g with w:=w',us:=fun l=>g.us l∨l=i,des:=fun l=>if l=i then ⟨some b,k,cap,ety⟩else g.des l,len:=fun l=>if l=i then es.length else g.len l }
  have hdi:g'.des i=⟨some b,k,cap,ety⟩:=if_pos rfl
  have hli:g'.len i=es.length:=if_pos rfl
  have he:Ev g g':=by
   refine ⟨fun b hb=>⟨hb,hold b (hg.fzx b hb)⟩,fun l hl=>⟨.inl hl,rfl,?_,fun _=>if_neg (hne l hl)⟩⟩
   show _≤(if l=i then _ else _)
   rw[if_neg (hne l hl)]
   exact Nat.le_refl _
  refine ⟨_,g',rfl,rfl,he,?_,?_,fun l hl=>hl⟩
  ·refine hg.turn he i (.vec k es) hos htp hou hsz rfl (fun l hl=>⟨rfl,if_neg hl,if_neg hl⟩) (fun b hb _=>hold b hb) ?_ ?_
   ·refine ⟨.inr rfl,by rw[hdi],by rw[hli],hk0,hke,.inr ⟨b,vs,by rw[hdi],?_,by rw[hdi];exact hc,by rw[hdi];exact hm,by rw[hdi];exact hs,h1,fun i a1 j a2 a3=>h2 _ i a1 j a2 a3⟩⟩
    rw[hdi];exact hb
   ·intro b' hb';simp only[blkOf,hdi,Option.some.injEq]at hb';subst hb';exact .inr hb0
  ·refine .ref _ _ _ _ _ (.inr rfl) (by rw[hli];exact Nat.le_refl _) rfl fun _=>?_
   rw[hdi]
   simp[Des.slice]
end Go.Sx
namespace Go.Sx
open Go.MapKept
set_option linter.unusedVariables false
set_option linter.unusedSimpArgs false
def litsOf:List AV→Option (List Value)
 | []=>some []
 | .lit v::cs=>(litsOf cs).map (v::·)
 | _=>none
def valOf:AV→Option Value
 | .agg cs=>(litsOf cs).map fun vs=>.agg vs.toArray
 | .lit (.agg _)|.lit (.tuple _)=>none
 | .lit v=>some v
 | _=>none
def avOf:Value→AV
 | .agg vs=>.agg (vs.toList.map .lit)
 | v=>.lit v
theorem litsOf_spec:∀ {cs:List AV} {vs:List Value},litsOf cs=some vs→cs=vs.map .lit:=by
 intro cs
 induction cs with
 | nil=>intro vs h;simp[litsOf]at h;subst h;rfl
 | cons c cs ih =>
  intro vs h
  cases c<;>simp only[litsOf]at h<;>try contradiction
  rename_i v
  cases hq:litsOf cs with
  | none=>simp[hq]at h
  | some us =>
   simp only[hq,Option.map_some,Option.some.injEq]at h
   subst h
   simp[ih hq]
theorem valOf_rel {g:Gh} {a:AV} {v u:Value} (h:valOf a=some u) (hr:Rel g a v):v=u∧∀ i (hi:i<u.cells.size),u.cells[i].oneCell'=true:=by
 have hsol:a.solid=true:=by
  cases a<;>simp only[valOf]at h<;>try contradiction
  ·rename_i w;cases w<;>simp only[valOf]at h<;>first|contradiction|rfl
  ·rfl
 have h3:=(hr.cells hsol).2.2
 have:v=u:=by
  cases hr with
  | lit v=>cases v<;>simp only[valOf,Option.some.injEq]at h<;>first|contradiction|exact h
  | agg cs vs hs ho hh =>
   simp only[valOf]at h
   cases hq:litsOf cs with
   | none=>simp[hq]at h
   | some us =>
    simp only[hq,Option.map_some,Option.some.injEq]at h
    subst h
    have hcs:=litsOf_spec hq
    subst hcs
    congr 1
    apply Array.ext
    ·simpa using hs
    ·intro i h1 h2
     have:=hh i (by simpa using h2) h1
     simp only[List.getElem_map]at this
     generalize hv:vs[i]=x at this
     cases this
     simp
  | _=>simp[valOf]at h
 subst this
 exact ⟨rfl,h3⟩
theorem avOf_rel {g:Gh} {v:Value} (h:∀ i (hi:i<v.cells.size),v.cells[i].oneCell'=true):Rel g (avOf v) v:=by
 cases v<;>try exact .lit _
 rename_i vs
 exact .agg _ vs (by simp) (fun i hi=>h i hi) fun i h1 h2=>by
  simp only[List.getElem_map,Array.getElem_toList]
  exact .lit _
def zvT (P:Program) (t:TypeId):Option Value:=((P.info? t).bind (·.zero)).bind fun v=>if v.cells.all (·.oneCell')then some v else none
theorem zvT_run {P:Program} {t:TypeId} {z:Value} (h:zvT P t=some z):(∀ w,(zeroValue t).run P w=.ok z w)∧∀ i (hi:i<z.cells.size),z.cells[i].oneCell'=true:=by
 unfold zvT at h
 cases hi:P.info? t with
 | none=>simp[hi]at h
 | some i =>
  cases hz:i.zero with
  | none=>simp[hi,hz]at h
  | some v =>
   simp only[hi,Option.bind_some,hz]at h
   split at h
   ·rename_i ha
    simp only[Option.some.injEq]at h
    subst h
    exact ⟨fun w=>by simp[zeroValue,typeInfo,hi,hz],fun i h2=>by simpa using Array.all_eq_true.1 ha i h2⟩
   ·contradiction
open Classical in
noncomputable def mfind (es:List (Value × Value)) (k:Value):Option Value:=(es.find? fun e=>decide (e.1=k)).map (·.2)
open Classical in
noncomputable def mput (es:List (Value × Value)) (k v:Value):List (Value × Value) :=
 if k∈es.map (·.1)then es.map (fun e=>if e.1=k then (k,v)else e)else es++[(k,v)]
def KeysOk (P:Program) (k:TypeId) (es:List (Value × Value)):Prop:=(∀ e∈es,(keyOf P k e.1).isSome=true)∧(es.map (·.1)).Nodup
def lookupV (P:Program) (t:TypeId) (x ix:AV) (ok:Bool) (ob:Nat→AV) (E:Eff→Prop):Prop :=
 match x with
 | .mp l=>match ob l,mpT P t,valOf ix with
  | .mpo es,some (k,e),some kv=>WideMaps.KeyLaw P k∧(keyOf P k kv).isSome=true∧KeysOk P k es∧match zvT P e with
   | some z=>match ok with
    | true=>E ⟨.tup [avOf ((mfind es kv).getD z),.lit (.bool (mfind es kv).isSome)],[],[l]⟩
    | false=>E ⟨avOf ((mfind es kv).getD z),[],[l]⟩
   | none=>False
  | _,_,_=>False
 | _=>False
def mupdV (P:Program) (t:TypeId) (x ix y:AV) (ob:Nat→AV) (E:Eff→Prop):Prop :=
 match x with
 | .mp l=>match ob l,mpT P t,valOf ix,valOf y with
  | .mpo es,some (k,_),some kv,some yv=>WideMaps.KeyLaw P k∧(keyOf P k kv).isSome=true∧KeysOk P k es∧E ⟨.any,[(l,.mpo (mput es kv yv))],[l]⟩
  | _,_,_,_=>False
 | _=>False
theorem find_run {P : Program} {k : TypeId} (K : WideMaps.KeyLaw P k) {arr : Array MapEntry} {clock : Nat} {es : List (Value × Value)} (hm : MapOk arr clock es) (hk : KeysOk P k es) {kv : Value} (hkv : (keyOf P k kv).isSome = true) (w : World) :
  ((Instr.findKey k kv arr.toList).run P w=.ok none w∧mfind es kv=none∧kv∉es.map (·.1)) ∨
  ∃ (j:Nat) (e:MapEntry),(Instr.findKey k kv arr.toList).run P w=.ok (some (j,e.val)) w∧arr.toList[j]?=some e∧e.key=kv∧mfind es kv=some e.val∧kv∈es.map (·.1):=by
 obtain ⟨lx,hlx⟩:=Option.isSome_iff_exists.1 hkv
 have hall:∀ e∈arr.toList,∃ l,keyOf P k e.key=some l:=fun e he=>by
  have:(e.key,e.val)∈es:=by rw[← hm.ents];exact List.mem_map.2 ⟨e,he,rfl⟩
  exact Option.isSome_iff_exists.1 (hk.1 _ this)
 have hkeys:es.map (·.1)=arr.toList.map (·.key):=by rw[← hm.ents,List.map_map];rfl
 rcases K.find w hlx arr.toList hall with ⟨h1,h2⟩|⟨j,e,h1,h2,h3⟩
 ·left
  have hn:kv∉es.map (·.1):=by
   rw[hkeys]
   intro h
   obtain ⟨e,he,h⟩:=List.mem_map.1 h
   exact h2 e he h
  refine ⟨h1,?_,hn⟩
  unfold mfind
  rw[List.find?_eq_none.2 (fun e he=>by
   simp only[decide_eq_true_eq]
   intro h
   exact hn (List.mem_map.2 ⟨e,he,h⟩))]
  rfl
 ·right
  have he:e∈arr.toList:=List.mem_of_getElem? h2
  have hmem:(e.key,e.val)∈es:=by rw[← hm.ents];exact List.mem_map.2 ⟨e,he,rfl⟩
  refine ⟨j,e,h1,h2,h3,?_,List.mem_map.2 ⟨_,hmem,h3⟩⟩
  unfold mfind
  cases hq:es.find? (fun e=>@decide (e.1=kv) (Classical.propDecidable _))with
  | none =>
   have:=List.find?_eq_none.1 hq _ hmem
   simp[h3]at this
  | some q =>
   have hqm:=List.mem_of_find?_eq_some hq
   have hqk:q.1=kv:=by simpa using List.find?_some hq
   have key:∀ (l:List (Value × Value)),(l.map (·.1)).Nodup→∀ a∈l,∀ b∈l,a.1=b.1→a=b:=by
    intro l
    induction l with
    | nil=>intro _ a ha;simp at ha
    | cons x l ih =>
     intro hn a ha b hb hab
     simp only[List.map_cons,List.nodup_cons,List.mem_map,not_exists,not_and]at hn
     rcases List.mem_cons.1 ha with ea|ma<;>rcases List.mem_cons.1 hb with eb|mb
     ·rw[ea,eb]
     ·exact absurd (by rw[← hab,ea]) (hn.1 b mb)
     ·exact absurd (by rw[hab,eb]) (hn.1 a ma)
     ·exact ih hn.2 a ma b mb hab
   have:=key es hk.2 q hqm _ hmem (by simp only;rw[hqk,h3])
   rw[this];rfl
theorem lookup_run {c : Cx} {t : TypeId} {x ix : AV} {ok : Bool} {ob : Nat → AV} {E : Eff → Prop} (h : lookupV c.P t x ix ok ob E) :
  ∃ e,E e∧e.ob=[]∧∀ ob',(∀ l∈e.rd,ob' l=ob l)→∀ g v vi,GOk c g ob'→Rel g x v→Rel g ix vi →
   ∃ u,(Instr.lookup t v vi ok).run c.P g.w=.ok u g.w∧Rel g e.val u:=by
 unfold lookupV at h
 split at h
 ·rename_i l
  split at h
  ·rename_i es k e kv hob hmp hkv
   obtain ⟨K,hk1,hk2,h⟩:=h
   have hu:=mpT_spec hmp
   split at h
   ·rename_i z hz
    obtain ⟨z1,z2⟩:=zvT_run hz
    have main:∀ ob',(∀ l'∈[l],ob' l'=ob l')→∀ g v vi,GOk c g ob'→Rel g (.mp l) v→Rel g ix vi→∃ arr clock,MapOk arr clock es∧v=.map (some (g.blk l))∧g.w.heap[g.blk l]?=some (.map arr clock)∧vi=kv:=by
     intro ob' ho g v vi hg hr hri
     have hok:=hg.obj l
     rw[ho l (by simp),hob]at hok
     obtain ⟨_,arr,clock,hb,hm⟩:=hok
     cases hr
     exact ⟨arr,clock,hm,rfl,hb,(valOf_rel hkv hri).1⟩
    have res:∀ ob',(∀ l'∈[l],ob' l'=ob l')→∀ g v vi,GOk c g ob'→Rel g (.mp l) v→Rel g ix vi→∃ r:Value,(Instr.lookup t v vi false).run c.P g.w=.ok r g.w∧(Instr.lookup t v vi true).run c.P g.w=.ok (.tuple #[r,.bool (mfind es kv).isSome]) g.w∧Rel g (avOf ((mfind es kv).getD z)) r:=by
     intro ob' ho g v vi hg hr hri
     obtain ⟨arr,clock,hm,rfl,hb,rfl⟩:=main ob' ho g v vi hg hr hri
     obtain ⟨lx,hlx⟩:=Option.isSome_iff_exists.1 hk1
     have hck:=K.check g.w arr.isEmpty hlx
     rcases find_run K hm hk2 hk1 g.w with ⟨f1,f2,_⟩|⟨j,e',f1,f2,f3,f4,f5⟩
     ·refine ⟨z,?_,?_,?_⟩
      ·simp[Instr.lookup,Sem.run_bind,run_underlying hu,MapKept.run_getObj_map hb,hck,f1,z1]
      ·simp[Instr.lookup,Sem.run_bind,run_underlying hu,MapKept.run_getObj_map hb,hck,f1,z1,f2]
      ·rw[f2];exact avOf_rel z2
     ·refine ⟨e'.val,?_,?_,?_⟩
      ·simp[Instr.lookup,Sem.run_bind,run_underlying hu,MapKept.run_getObj_map hb,hck,f1]
      ·simp[Instr.lookup,Sem.run_bind,run_underlying hu,MapKept.run_getObj_map hb,hck,f1,f4]
      ·rw[f4]
       refine avOf_rel (hm.cell (e'.key,e'.val) ?_)
       rw[← hm.ents]
       exact List.mem_map.2 ⟨e',List.mem_of_getElem? f2,rfl⟩
    split at h
    ·refine ⟨_,h,rfl,fun ob' ho g v vi hg hr hri=>?_⟩
     obtain ⟨r,r1,r2,r3⟩:=res ob' ho g v vi hg hr hri
     refine ⟨_,r2,.tup _ _ rfl fun i h1 h2=>?_⟩
     match i,h1 with
     | 0,_=>exact r3
     | 1,_=>exact .lit _
    ·refine ⟨_,h,rfl,fun ob' ho g v vi hg hr hri=>?_⟩
     obtain ⟨r,r1,r2,r3⟩:=res ob' ho g v vi hg hr hri
     exact ⟨r,r1,r3⟩
   ·exact h.elim
  ·exact h.elim
 ·exact h.elim
end Go.Sx
namespace Go.Sx
open Go.MapKept
set_option linter.unusedVariables false
set_option linter.unusedSimpArgs false
theorem turn_map {c : Cx} {g : Gh} {ob : Nat → AV} (hg : GOk c g ob) {l : Nat} {es es' : List (Value × Value)} (hob : ob l = .mpo es) {arr arr' : Array MapEntry} {clock clock' : Nat} (hb : g.w.heap[g.blk l]? = some (.map arr clock)) (hm : MapOk arr' clock' es') :
  ∃ g':Gh,g'.w={ g.w with heap:=g.w.heap.setIfInBounds (g.blk l) (.map arr' clock') }∧Ev g g'∧GOk c g' (upd ob [(l,.mpo es')])∧∀ l,g'.us l→g.us l:=by
 have hok:=hg.obj l
 rw[hob]at hok
 have hus:=hok.1
 have hown:=hg.own l (g.blk l) (by rw[hob];rfl)
 have hlt:g.blk l<g.w.heap.size:=(Array.getElem?_eq_some_iff.1 hb).1
 have hold:∀ b,b≠g.blk l→(g.w.heap.setIfInBounds (g.blk l) (.map arr' clock'))[b]?=g.w.heap[b]?:=fun b hb=>by
  rw[Array.getElem?_setIfInBounds];simp[Ne.symm hb]
 have he:Ev g { g with w:={ g.w with heap:=g.w.heap.setIfInBounds (g.blk l) (.map arr' clock') } } :=
  ⟨fun b hb=>⟨hb,hold b (fun e=>hown.2 (e▸hb))⟩,fun l hl=>⟨hl,rfl,Nat.le_refl _,fun _=>rfl⟩⟩
 refine ⟨_,rfl,he,?_,fun l hl=>hl⟩
 refine hg.turn he l (.mpo es') rfl Tp.rfl rfl (by simp) rfl (fun l hl=>⟨rfl,rfl,rfl⟩) (fun b hb hne=>?_) ?_ ?_
 ·refine hold b fun e=>hne ?_
  rw[hob,e];rfl
 ·refine ⟨hus,arr',clock',?_,hm⟩
  show (g.w.heap.setIfInBounds (g.blk l) _)[g.blk l]?=_
  rw[Array.getElem?_setIfInBounds];simp[hlt]
 ·intro b hb
  left
  rw[hob];exact hb
open Classical in
theorem mupd_run {c : Cx} {t : TypeId} {x ix y : AV} {ob : Nat → AV} {E : Eff → Prop} (h : mupdV c.P t x ix y ob E) :
  ∃ e,E e∧e.val=.any∧∀ ob',(∀ l∈e.rd,ob' l=ob l)→∀ g v vi vy,GOk c g ob'→Rel g x v→Rel g ix vi→Rel g y vy →
   ∃ g':Gh,(Instr.mapUpdate t v vi vy).run c.P g.w=.ok () g'.w∧Ev g g'∧GOk c g' (upd ob' e.ob)∧∀ l,g'.us l→g.us l:=by
 unfold mupdV at h
 split at h
 ·rename_i l
  split at h
  ·rename_i es k e kv yv hob hmp hkv hyv
   obtain ⟨K,hk1,hk2,h⟩:=h
   have hu:=mpT_spec hmp
   refine ⟨_,h,rfl,fun ob' ho g v vi vy hg hr hri hry=>?_⟩
   have hobl:ob' l=.mpo es:=by rw[ho l (by simp)];exact hob
   have hok:=hg.obj l
   rw[hobl]at hok
   obtain ⟨hus,arr,clock,hb,hm⟩:=hok
   cases hr
   obtain ⟨e1,hkcell⟩:=valOf_rel hkv hri
   obtain ⟨e2,hcell⟩:=valOf_rel hyv hry
   subst e1
   subst e2
   obtain ⟨lx,hlx⟩:=Option.isSome_iff_exists.1 hk1
   have hck:=K.check g.w false hlx
   rcases find_run K hm hk2 hk1 g.w with ⟨f1,f2,f3⟩|⟨j,e',f1,f2,f3,f4,f5⟩
   ·have hput:mput es vi vy=es++[(vi,vy)]:=by unfold mput;rw[if_neg f3]
    obtain ⟨g',a1,a2,a3,a4⟩:=turn_map hg hobl hb (arr':=arr.push ⟨vi,vy,clock⟩) (clock':=clock+1) (es':=mput es vi vy) (by
     refine ⟨?_,?_,?_,?_,?_⟩
     ·rw[hput];simp[hm.ents]
     ·intro i e hi
      simp only[Array.toList_push,List.getElem?_append]at hi
      split at hi
      ·exact hm.born i e hi
      ·rename_i hlt
       have h0:i - arr.toList.length=0:=by
        rcases Nat.eq_zero_or_pos (i - arr.toList.length)with h|h
        ·exact h
        ·rw[List.getElem?_eq_none (by simp only[List.length_singleton];omega)]at hi;contradiction
       rw[h0]at hi
       simp only[List.getElem?_cons_zero,Option.some.injEq]at hi
       subst hi
       have:=hm.clk
       simp only[Array.length_toList]at h0 hlt
       simp only
       omega
     ·rw[hm.clk];simp
     ·intro e he
      rw[hput]at he
      rcases List.mem_append.1 he with he|he
      ·exact hm.cell e he
      ·simp at he;subst he;exact hcell
     ·intro e he
      rw[hput]at he
      rcases List.mem_append.1 he with he|he
      ·exact hm.kcell e he
      ·simp at he;subst he;exact hkcell)
    refine ⟨g',?_,a2,a3,a4⟩
    rw[a1]
    simp[Instr.mapUpdate,Sem.run_bind,run_underlying hu,MapKept.run_getObj_map hb,hck,f1,MapKept.run_setObj_map _ hb,Result.andThen]
   ·have hput:mput es vi vy=es.map (fun e=>if e.1=vi then (vi,vy)else e):=by unfold mput;rw[if_pos f5]
    have hst:=K.stays g.w hlx
    have hj:arr[j]?=some e':=by simpa using f2
    obtain ⟨g',a1,a2,a3,a4⟩:=turn_map hg hobl hb (arr':=arr.modify j (fun q=>{ q with key:=vi,val:=vy })) (clock':=clock) (es':=mput es vi vy) (by
     have hkeys:arr.toList.map (·.key)=es.map (·.1):=by rw[← hm.ents,List.map_map];rfl
     have hnd:(arr.toList.map (·.key)).Nodup:=by rw[hkeys];exact hk2.2
     have hmod:(arr.modify j (fun q=>{ q with key:=vi,val:=vy })).toList=arr.toList.modify j (fun q=>{ q with key:=vi,val:=vy }):=by simp
     have huniq:∀ i e,arr.toList[i]?=some e→e.key=vi→i=j:=by
      intro i e hi hk
      have h1:(arr.toList.map (·.key))[i]?=some vi:=by simp only[List.getElem?_map,hi,Option.map_some,hk]
      have h2:(arr.toList.map (·.key))[j]?=some vi:=by simp only[List.getElem?_map,f2,Option.map_some,f3]
      have hil:i<(arr.toList.map (·.key)).length:=(List.getElem?_eq_some_iff.1 h1).1
      exact (List.getElem?_inj hil hnd).1 (h1.trans h2.symm)
     refine ⟨?_,?_,?_,?_,?_⟩
     ·rw[hput,hmod,← hm.ents]
      apply List.ext_getElem?
      intro i
      simp only[List.getElem?_map,List.getElem?_modify]
      cases hq:arr.toList[i]? with
      | none=>simp
      | some q =>
       simp only[Option.map_some,Option.map_map]
       by_cases hij:j=i
       ·subst hij
        rw[f2]at hq
        simp only[Option.some.injEq]at hq
        subst hq
        simp[f3]
       ·have:q.key≠vi:=fun h=>hij (huniq i q hq h).symm
        simp[hij,this]
     ·intro i e hi
      rw[hmod,List.getElem?_modify]at hi
      cases hq:arr.toList[i]? with
      | none=>simp[hq]at hi
      | some q =>
       have hb:=hm.born i q hq
       rw[hq]at hi;simp only[Option.map_eq_map,Option.map_some]at hi
       split at hi<;>simp only[Option.some.injEq]at hi<;>subst hi<;>exact hb
     ·rw[hm.clk];simp
     ·intro e he
      rw[hput]at he
      obtain ⟨q,hq,rfl⟩:=List.mem_map.1 he
      split
      ·exact hcell
      ·exact hm.cell q hq
     ·intro e he
      rw[hput]at he
      obtain ⟨q,hq,rfl⟩:=List.mem_map.1 he
      split
      ·exact hkcell
      ·exact hm.kcell q hq)
    refine ⟨g',?_,a2,a3,a4⟩
    rw[a1]
    simp[Instr.mapUpdate,Sem.run_bind,run_underlying hu,MapKept.run_getObj_map hb,hck,f1,hj,f3,hst,MapKept.run_setObj_map _ hb,Result.andThen]
  ·exact h.elim
 ·exact h.elim
theorem new_map {c : Cx} {g : Gh} {ob : Nat → AV} (h : GOk c g ob) (i : Nat) (hi : ¬ g.us i) (w : World) (hw : w.heap = g.w.heap) (ho : w.os = g.w.os) (ht : Tp w g.w) (hu : w.output = g.w.output) :
  ∃ g':Gh,g'.w=w.alloc (.map #[] 0)∧Ev g g'∧GOk c g' (upd ob [(i,.mpo [])])∧Rel g' (.mp i) (.map (some w.heap.size))∧∀ l,g'.us l→g.us l∨l=i:=by
 have hold:∀ b,b<g.w.heap.size→(w.alloc (.map #[] 0)).heap[b]?=g.w.heap[b]?:=fun b hb=>by rw[Go.RowKit.Below.heap_alloc _ _ _ (by rw[hw];exact hb),hw]
 have he:Ev g { g with w:=w.alloc (.map #[] 0),us:=fun l=>g.us l∨l=i,blk:=fun l=>if l=i then w.heap.size else g.blk l }:=by
  refine ⟨fun b hb=>⟨hb,hold b (h.fzx b hb)⟩,fun l hl=>⟨.inl hl,?_,Nat.le_refl _,fun _=>rfl⟩⟩
  show (if l=i then _ else _)=_
  rw[if_neg (by rintro rfl;exact hi hl)]
 refine ⟨_,rfl,he,?_,?_,fun l hl=>hl⟩
 ·refine h.turn he i (.mpo []) ho ht hu (by simp[hw]) rfl (fun l hl=>⟨if_neg hl,rfl,rfl⟩) (fun b hb _=>hold b hb) ?_ ?_
  ·refine ⟨.inr rfl,#[],0,?_,⟨rfl,by simp,by simp,by simp,by simp⟩⟩
   show (w.alloc _).heap[if i=i then _ else _]?=_
   rw[if_pos rfl]
   exact heap_alloc_new w _
  ·intro b hb
   right
   have:w.heap.size=b:=by simpa [blkOf]using hb
   rw[← this,hw]
   exact Nat.le_refl _
 ·have:=Rel.mp (g:={ g with w:=w.alloc (.map #[] 0),us:=fun l=>g.us l∨l=i,blk:=fun l=>if l=i then w.heap.size else g.blk l }) i (.inr rfl)
  simpa using this
end Go.Sx
