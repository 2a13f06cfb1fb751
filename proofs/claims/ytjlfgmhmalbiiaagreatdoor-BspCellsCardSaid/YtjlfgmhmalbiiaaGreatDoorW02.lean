import Derived.WideKeyMaps
import Derived.DeepKeys5
import Derived.Test.YtjlfgmhmalbiiaaGreatDoorW01
set_option linter.all false
open List renaming getElem?_eq_getElem → Af, getD → Ah
open Nat renaming add_mul → Ab, mul_le_mul_right → Ac, add_assoc → Ae
open Option renaming some → Aa, map_some → Ad, bind_some → Ag
namespace Go.Sx
set_option linter.unusedVariables false
def fdT (P:Program) (t:TypeId) (i:Nat):Option (Nat × Nat × Bool) :=
 match P.underlying t with
 | some (.struct fs)=>(fs[i]?).bind fun f=>(szT P f.type).bind fun s=>(agT P f.type).map fun b=>(f.offset,s,b)
 | _=>none
def arT (P:Program) (t:TypeId):Option (Nat × Nat × Bool) :=
 match P.underlying t with
 | some (.array n e)=>(szT P e).bind fun s=>(agT P e).map fun b=>(n,s,b)
 | _=>none
def slT (P:Program) (t:TypeId):Option (TypeId × Nat) :=
 match P.underlying t with
 | some (.slice e)=>(szT P e).map fun s=>(e,s)
 | _=>none
def bH (P:Program) (t:TypeId):Bool:=match P.underlying t with|some .string=>true|_=>false
theorem a6h {P : Program} {t : TypeId} {i o s : Nat} {b : Bool} (h : fdT P t i = some (o, s, b)) :
  ∃ fs f,P.underlying t=some (.struct fs)∧fs[i]?=some f∧f.offset=o∧szT P f.type=some s∧agT P f.type=some b:=by
 unfold fdT at h
 split at h
 ·rename_i fs hu
  cases hf:fs[i]? with
  | none=>simp[hf]at h
  | some f =>
   cases hs:szT P f.type with
   | none=>simp[hf,hs]at h
   | some s' =>
    cases hb:agT P f.type with
    | none=>simp[hf,hs,hb]at h
    | some b' =>
     simp only[hf,Ag,hs,hb,Ad,Aa.injEq,Prod.mk.injEq]at h
     obtain⟨rfl,rfl,rfl⟩:=h
     exact⟨fs,f,hu,hf,rfl,hs,hb⟩
 ·contradiction
theorem zV {P:Program} {t:TypeId} {n s:Nat} {b:Bool} (h:arT P t=some (n,s,b)):∃ e,P.underlying t=some (.array n e)∧szT P e=some s∧agT P e=some b:=by
 unfold arT at h
 split at h
 ·rename_i m e hu
  cases hs:szT P e with
  | none=>simp[hs]at h
  | some s' =>
   cases hb:agT P e with
   | none=>simp[hs,hb]at h
   | some b' =>
    simp only[hs,Ag,hb,Ad,Aa.injEq,Prod.mk.injEq]at h
    obtain⟨rfl,rfl,rfl⟩:=h
    exact⟨e,hu,hs,hb⟩
 ·contradiction
theorem kU {P:Program} {t e:TypeId} {s:Nat} (h:slT P t=some (e,s)):P.underlying t=some (.slice e)∧szT P e=some s:=by
 unfold slT at h
 split at h
 ·rename_i e' hu
  cases hs:szT P e' with
  | none=>simp[hs]at h
  | some s' =>
   simp only[hs,Ad,Aa.injEq,Prod.mk.injEq]at h
   obtain⟨rfl,rfl⟩:=h
   exact⟨hu,hs⟩
 ·contradiction
theorem pJ {P:Program} {t:TypeId} (h:bH P t=true):P.underlying t=some .string:=by
 unfold bH at h
 split at h
 ·assumption
 ·contradiction
def nW (fo:Nat) (x:AV) (E:AV→Prop):Prop :=
 match x with
 | .fp cs=>fo≤cs.length∧E (.fp (cs.drop fo))
 | .loc l o=>E (.loc l (o+fo))
 | .vp l i j m=>E (.vp l i (j+fo) m)
 | _=>False
theorem a2j {P : Program} {t : TypeId} {i o s : Nat} {b : Bool} {x : AV} {E : AV → Prop} (hf : fdT P t i = some (o, s, b)) (hs : 0 < s) (h : nW o x E) :
  ∃ y,E y∧∀ g v,Rel g x v→(∀ l p q m,x=.vp l p q m→m=g.len l)→∃ u,(Instr.fieldAt t v i).run P g.w=.ok u g.w∧Rel g y u:=by
 obtain⟨fs,f,hu,hfi,rfl,hfs,hfb⟩:=a6h hf
 have hrun:∀ w b p,(Instr.fieldAt t (.pointer (some ⟨b,p,none⟩)) i).run P w=.ok (.pointer (some ⟨b,p+f.offset,none⟩)) w:=by
  intro w b p
  have hn:¬ s=0:=by omega
  simp[Instr.fieldAt,Sem.run_bind,run_underlying hu,hfi,Instr.sureAddr,fieldPlace,eB hfs,hn,jG]
 unfold nW at h
 split at h
 ·rename_i cs
  refine⟨_,h.2,fun g v hr _=>?_⟩
  obtain⟨b,p,rfl,hfz,hseg⟩:=vQ hr
  exact⟨_,hrun _ _ _,sU hfz (hseg.drop _ h.1)⟩
 ·rename_i l p
  refine⟨_,h,fun g v hr _=>?_⟩
  cases hr with
  | loc _ _ hu=>exact⟨_,hrun _ _ _,.loc l _ hu⟩
 ·rename_i l p q m
  refine⟨_,h,fun g v hr hm=>?_⟩
  cases hr with
  | vp _ _ _ _ _ hu hm' hc hv =>
   obtain⟨b,hb,rfl⟩:=hv (hm l p q m rfl)
   refine⟨_,hrun _ _ _,.vp l p (q+f.offset) m _ hu hm' rfl (fun e=>⟨b,hb,by rw[Ae]⟩)⟩
 ·exact h.elim
def nT:AV→Option (List (List AV))
 | .sl es=>some es
 | .lit (.slice none 0 0)=>some []
 | .zs=>some []
 | _=>none
theorem v8 {g:Gh} {x:AV} {es:List (List AV)} {v:Value} (h:nT x=some es) (hr:Rel g x v):Rel g (.sl es) v:=by
 unfold nT at h
 split at h
 ·simp only[Aa.injEq]at h;subst h;exact hr
 ·simp only[Aa.injEq]at h
  subst h
  cases hr with
  | lit v=>exact .slnil
 ·simp only[Aa.injEq]at h
  subst h
  cases hr with
  | zs=>exact .slnil
 ·contradiction
theorem b5x {g : Gh} {es : List (List AV)} {v : Value} (h : Rel g (.sl es) v) {i : Nat} (hi : i < es.length) :
  ∃ b o cap,v=.slice (some ⟨b,o,none⟩) es.length cap∧es.length≤cap∧g.fz b∧Seg g b (o+i*es[i].length) es[i]∧∀ j (hj:j<es.length),es[j].length=es[i].length:=by
 cases h with
 | slnil=>simp at hi
 | sl _ b o cap k vs e fr hf hb hc hk hs ho h =>
  have hk0:=hk i hi
  have hik:i*k+k≤es.length*k:=by
   have:(i+1)*k≤es.length*k:=Ac _ hi
   rw[Ab]at this;omega
  have hs':=hs (by omega)
  refine⟨b,o,cap,rfl,hc,hf,⟨vs,e,fr,hb,by rw[hk0];omega,fun j hj hjl=>?_,fun j hj hj2=>?_⟩,fun j hj=>by rw[hk j hj,hk0]⟩
  ·have:=ho (i*k+j) (by rw[hk0]at hj;omega) (by rw[hk0]at hjl;omega)
   simpa only[hk0,Ae]using this
  ·have:=h i hi j hj (by rw[hk0]at hj2;omega)
   simpa only[hk0]using this
def pF (P:Program) (t:TypeId) (x ix:AV) (ob:Nat→AV) (E:Eff→Prop):Prop :=
 match ix with
 | .lit (.int _ z) =>
  match arT P t with
  | some (n,s,_)=>0≤z∧z<(n:Int) ∧
   match x with
   | .fp cs=>z.toNat*s≤cs.length∧E ⟨.fp (cs.drop (z.toNat*s)),[],[]⟩
   | .loc l o=>E ⟨.loc l (o+z.toNat*s),[],[]⟩
   | .vp l i j m=>(match ob l with|.vec _ es=>m=es.length|_=>False)∧E ⟨.vp l i (j+z.toNat*s) m,[],[l]⟩
   | _=>False
  | none=>match slT P t with
   | some (_,s)=>match x with
    | .ref l o n m=>match ob l with
     | .vec k es=>k=s∧m=es.length∧o+n≤m∧0≤z∧z<(n:Int)∧E ⟨.vp l (o+z.toNat) 0 m,[],[l]⟩
     | _=>False
    | .bs l o k n=>k=s∧0≤z∧z<(n:Int)∧E ⟨.loc l (o+z.toNat*s),[],[]⟩
    | x=>match nT x with
     | some es=>0≤z∧z<(es.length:Int)∧(es.getD z.toNat []).length=s∧E ⟨.fp (es.getD z.toNat []),[],[]⟩
     | none=>False
   | none=>False
 | _=>False
theorem b2r {c : Cx} {t : TypeId} {x ix : AV} {ob : Nat → AV} {E : Eff → Prop} (h : pF c.P t x ix ob E) :
  ∃ e,E e∧e.ob=[]∧∀ ob',(∀ l∈e.rd,ob' l=ob l)→∀ g v u,GOk c g ob'→Rel g x v→Rel g ix u→∃ r,(Instr.indexAt t v u).run c.P g.w=.ok r g.w∧Rel g e.val r:=by
 unfold pF at h
 split at h
 ·rename_i kk z
  split at h
  ·rename_i n s b har
   obtain⟨e,hu,hs,hb⟩:=zV har
   obtain⟨h0,hz,h⟩:=h
   have hrun:∀ w b p,(Instr.indexAt t (.pointer (some ⟨b,p,none⟩)) (.int kk z)).run c.P w=.ok (.pointer (some ⟨b,p+z.toNat*s,none⟩)) w:=by
    intro w b p
    simp[Instr.indexAt,Sem.run_bind,asIntOf,run_underlying hu,Instr.sureAddr,h0,hz,eB hs,jG]
   split at h
   ·rename_i cs
    refine⟨_,h.2,rfl,fun ob' ho g v u hg hr hr2=>?_⟩
    cases hr2
    obtain⟨b,p,rfl,hfz,hseg⟩:=vQ hr
    exact⟨_,hrun _ _ _,sU hfz (hseg.drop _ h.1)⟩
   ·rename_i l o
    refine⟨_,h,rfl,fun ob' ho g v u hg hr hr2=>?_⟩
    cases hr2
    cases hr with
    | loc _ _ hu=>exact⟨_,hrun _ _ _,.loc l _ hu⟩
   ·rename_i l i j m
    obtain⟨hm,h⟩:=h
    refine⟨_,h,rfl,fun ob' ho g v u hg hr hr2=>?_⟩
    cases hr2
    have hm':m=g.len l:=by
     have hok:=hg.obj l
     rw[ho l (by simp)]at hok
     split at hm
     ·rename_i k es hob
      rw[hob]at hok
      rw[hok.2.2.1,hm]
     ·exact hm.elim
    cases hr with
    | vp _ _ _ _ _ hu hm2 hc hv =>
     obtain⟨b,hb,rfl⟩:=hv hm'
     refine⟨_,hrun _ _ _,.vp l i _ m _ hu hm2 rfl (fun e=>⟨b,hb,by rw[Ae]⟩)⟩
   ·exact h.elim
  ·split at h
   ·rename_i e s hsl
    obtain⟨hu,hs⟩:=kU hsl
    have hrun:∀ w b p n cap,0≤z→z<((n:Nat):Int)→(Instr.indexAt t (.slice (some ⟨b,p,none⟩) n cap) (.int kk z)).run c.P w=.ok (.pointer (some ⟨b,p+z.toNat*s,none⟩)) w:=by
     intro w b p n cap h0 hz
     simp[Instr.indexAt,Sem.run_bind,asIntOf,run_underlying hu,h0,hz,eB hs,jG]
    split at h
    ·rename_i l o n m
     split at h
     ·rename_i k es hob
      obtain⟨rfl,hm,hon,h0,hz,h⟩:=h
      refine⟨_,h,rfl,fun ob' ho g v u hg hr hr2=>?_⟩
      cases hr2
      have hok:=hg.obj l
      rw[ho l (by simp),hob]at hok
      obtain⟨hus,hk,hln,hk0,hke,h5|⟨b,vs,h6,h7,h8,h9,h10,h11,h12⟩⟩:=hok
      ·obtain⟨_,rfl,_⟩:=h5
       simp at hm
       omega
      ·cases hr with
       | ref _ _ _ _ _ hu' hm2 hc hv =>
        have hv:=hv (by omega)
        simp only[Des.slice,h6,Ad]at hv
        subst hv
        refine⟨_,hrun _ _ _ _ _ h0 hz,.vp l _ 0 m _ hus hm2 rfl (fun e=>⟨b,h6,by rw[hk,Ab];simp⟩)⟩
     ·exact h.elim
    ·rename_i l o k n
     obtain⟨rfl,h0,hz,h⟩:=h
     refine⟨_,h,rfl,fun ob' ho g v u hg hr hr2=>?_⟩
     cases hr2
     cases hr with
     | bs _ _ _ _ cap hu' hc=>exact⟨_,hrun _ _ _ _ _ h0 hz,.loc l _ hu'⟩
    ·split at h
     ·rename_i es hes
      obtain⟨h0,hz,hlen,h⟩:=h
      refine⟨_,h,rfl,fun ob' ho g v u hg hr hr2=>?_⟩
      cases hr2
      have hi:z.toNat<es.length:=by omega
      have hgd:es.getD z.toNat []=es[z.toNat]:=by simp[Ah,Af hi]
      rw[hgd]at hlen ⊢
      obtain⟨b,o,cap,rfl,hcap,hfz,hseg,_⟩:=b5x (v8 hes hr) hi
      refine⟨_,hrun _ _ _ _ _ h0 hz,sU hfz ?_⟩
      rw[hlen]at hseg
      exact hseg
     ·exact h.elim
   ·exact h.elim
 ·exact h.elim
end Go.Sx
namespace Go.Sx
set_option linter.unusedVariables false
theorem a5o {P : Program} {t : TypeId} {s : Nat} {b : Bool} (hs : szT P t = some s) (hb : agT P t = some b) (h1 : b = true ∨ s = 1) {g : Gh} {cs : List AV} {vs : Array Value} (hr : Rel g (.agg cs) (.agg vs)) (off : Nat) (hl : off + s ≤ cs.length) :
  ∃ u,(part t vs off).run P g.w=.ok u g.w∧Rel g (mk b s (cs.drop off)) u:=by
 cases hr with
 | agg _ _ hsz ho h =>
  cases b with
  | true =>
   refine⟨.agg (vs.extract off (off+s)),by simp[part,Sem.run_bind,pK hb,eB hs],?_⟩
   simp only[mk,if_true]
   refine .agg _ _ (by simp;omega) (fun i hi=>?_) (fun i hi hi2=>?_)
   ·simp;exact ho _ _
   ·simp
    exact h _ _ _
  | false =>
   obtain rfl:s=1:=by simpa using h1
   have hlt:off<vs.size:=by omega
   refine⟨vs[off],by simp[part,Sem.run_bind,pK hb,hlt],?_⟩
   simp only[mk,Bool.false_eq_true,if_false]
   have hlt2:off<cs.length:=by omega
   rw[List.drop_eq_getElem_cons hlt2]
   exact h off hlt2 hlt
def qS (P:Program) (t:TypeId) (i:Nat) (x:AV) (E:Eff→Prop):Prop :=
 match fdT P t i,x with
 | some (o,s,b),.agg cs=>(b=true∨s=1)∧o+s≤cs.length∧E ⟨mk b s (cs.drop o),[],[]⟩
 | _,_=>False
theorem b7l {P : Program} {t : TypeId} {i : Nat} {x : AV} {E : Eff → Prop} (h : qS P t i x E) :
  ∃ y,E ⟨y,[],[]⟩∧∀ g v,Rel g x v→∃ u,(Instr.field t v i).run P g.w=.ok u g.w∧Rel g y u:=by
 unfold qS at h
 split at h
 ·rename_i o s b cs hf
  obtain⟨h1,hl,h⟩:=h
  obtain⟨fs,f,hu,hfi,rfl,hfs,hfb⟩:=a6h hf
  refine⟨_,h,fun g v hr=>?_⟩
  cases hr with
  | agg _ vs hsz ho hh =>
   obtain⟨u,hu1,hu2⟩:=a5o hfs hfb h1 (.agg cs vs hsz ho hh) f.offset hl
   exact⟨u,by simp[Instr.field,Sem.run_bind,run_underlying hu,hfi,asAgg,hu1],hu2⟩
 ·exact h.elim
def bt (s:ByteArray) (n:Nat):Int:=((s.data.getD n 0).toNat:Int)
def qQ (P:Program) (t:TypeId) (x ix:AV) (E:Eff→Prop):Prop :=
 match x,ix with
 | .agg cs,.lit (.int _ z)=>match arT P t with
  | some (n,s,b)=>(b=true∨s=1)∧0≤z∧z<(n:Int)∧z.toNat*s+s≤cs.length∧E ⟨mk b s (cs.drop (z.toNat*s)),[],[]⟩
  | none=>False
 | .lit (.string str),.lit (.int _ z)=>bH P t=true∧0≤z∧z<(str.size:Int)∧E ⟨.lit (.int .u8 (bt str z.toNat)),[],[]⟩
 | _,_=>False
theorem b7b {P : Program} {t : TypeId} {x ix : AV} {E : Eff → Prop} (h : qQ P t x ix E) :
  ∃ y,E ⟨y,[],[]⟩∧∀ g v u,Rel g x v→Rel g ix u→∃ r,(Instr.index t v u).run P g.w=.ok r g.w∧Rel g y r:=by
 unfold qQ at h
 split at h
 ·rename_i cs k z
  split at h
  ·rename_i n s b har
   obtain⟨h1,h0,hz,hl,h⟩:=h
   obtain⟨e,hu,hs,hb⟩:=zV har
   refine⟨_,h,fun g v u hr hr2=>?_⟩
   cases hr2
   cases hr with
   | agg _ vs hsz ho hh =>
    obtain⟨r,r1,r2⟩:=a5o hs hb h1 (.agg cs vs hsz ho hh) (z.toNat*s) hl
    exact⟨r,by simp[Instr.index,Sem.run_bind,asIntOf,run_underlying hu,h0,hz,eB hs,r1],r2⟩
  ·exact h.elim
 ·rename_i str k z
  obtain⟨hst,h0,hz,h⟩:=h
  have hu:=pJ hst
  refine⟨_,h,fun g v u hr hr2=>?_⟩
  cases hr2
  cases hr
  have hlt:z.toNat<str.size:=by omega
  have hget:str[z.toNat]?=some (str.data[z.toNat]):=by
   simp only[getElem?_pos,hlt]
   rfl
  refine⟨_,?_,.lit _⟩
  simp[Instr.index,Sem.run_bind,asIntOf,run_underlying hu,h0,bt,Array.getD,hlt]
  rfl
 ·exact h.elim
def n8 (i:Nat) (x:AV) (E:Eff→Prop):Prop :=
 match x with
 | .tup cs=>i<cs.length∧E ⟨cs.getD i .any,[],[]⟩
 | _=>False
theorem b3l {P:Program} {i:Nat} {x:AV} {E:Eff→Prop} (h:n8 i x E):∃ y,E ⟨y,[],[]⟩∧∀ g v,Rel g x v→∃ u,(Instr.extract v i).run P g.w=.ok u g.w∧Rel g y u:=by
 unfold n8 at h
 split at h
 ·rename_i cs
  refine⟨_,h.2,fun g v hr=>?_⟩
  cases hr with
  | tup _ vs hs hh =>
   have hlt:i<vs.size:=by omega
   refine⟨vs[i],by simp[Instr.extract,hlt],?_⟩
   have:=hh i h.1 hlt
   simpa [Ah,Af h.1]using this
 ·exact h.elim
def rB (ob:Nat→AV) (l m:Nat):Prop:=match ob l with|.vec _ es=>m=es.length|_=>False
theorem yY {c:Cx} {g:Gh} {ob ob':Nat→AV} (hg:GOk c g ob') {l m:Nat} (h:rB ob l m) (he:ob' l=ob l):m=g.len l:=by
 have hok:=hg.obj l
 unfold rB at h
 rw[he]at hok
 split at h
 ·rename_i k es hob
  rw[hob]at hok
  rw[hok.2.2.1,h]
 ·exact h.elim
def mpT (P:Program) (t:TypeId):Option (TypeId × TypeId):=match P.underlying t with|some (.map k e)=>some (k,e)|_=>none
theorem tJ {P:Program} {t k e:TypeId} (h:mpT P t=some (k,e)):P.underlying t=some (.map k e):=by
 unfold mpT at h
 split at h
 ·rename_i k' e' hu;simp only[Aa.injEq,Prod.mk.injEq]at h;rw[← h.1,← h.2];exact hu
 ·contradiction
def rO (P:Program) (t:TypeId) (x:AV) (ob:Nat→AV) (E:Eff→Prop):Prop :=
 match x with
 | .lit (.string s)=>bH P t=true∧E ⟨.lit (.int .i64 s.size),[],[]⟩
 | .ref l o n m=>(slT P t).isSome=true∧rB ob l m∧E ⟨.lit (.int .i64 n),[],[l]⟩
 | .bs l o k n=>(slT P t).isSome=true∧E ⟨.lit (.int .i64 n),[],[]⟩
 | .mp l=>match ob l with
  | .mpo es=>(mpT P t).isSome=true∧E ⟨.lit (.int .i64 es.length),[],[l]⟩
  | _=>False
 | x=>match nT x with
  | some es=>(slT P t).isSome=true∧E ⟨.lit (.int .i64 es.length),[],[]⟩
  | none=>False
theorem c8p {g:Gh} {es:List (List AV)} {v:Value} (h:Rel g (.sl es) v):∃ a cap,v=.slice a es.length cap:=by
 cases h with
 | slnil=>exact⟨_,0,rfl⟩
 | sl _ b o cap k vs e fr hf hb hc hk hs ho h=>exact⟨_,cap,rfl⟩
theorem zG {P:Program} {t:TypeId} (h:(slT P t).isSome=true):∃ e s,P.underlying t=some (.slice e)∧szT P e=some s:=by
 cases hs:slT P t with
 | none=>simp[hs]at h
 | some p=>obtain⟨e,s⟩:=p;exact⟨e,s,kU hs⟩
theorem c5u {c : Cx} {t : TypeId} {x : AV} {ob : Nat → AV} {E : Eff → Prop} (h : rO c.P t x ob E) :
  ∃ e,E e∧e.ob=[]∧∀ ob',(∀ l∈e.rd,ob' l=ob l)→∀ g v ty,GOk c g ob'→Rel g x v→∃ u,(Builtin.len_ #[t] ty #[v]).run c.P g.w=.ok u g.w∧Rel g e.val u:=by
 have hrun:∀ (e:TypeId),c.P.underlying t=some (.slice e)→∀ w a n cap ty,(Builtin.len_ #[t] ty #[.slice a n cap]).run c.P w=.ok (.int .i64 n) w:=by
  intro e hu w a n cap ty
  simp[Builtin.len_,Sem.run_bind,run_underlying hu,goInt]
 unfold rO at h
 split at h
 ·rename_i s
  have hu:=pJ h.1
  refine⟨_,h.2,rfl,fun ob' ho g v ty hg hr=>?_⟩
  cases hr
  exact⟨_,by simp[Builtin.len_,Sem.run_bind,run_underlying hu,goInt],.lit _⟩
 ·rename_i l o n m
  obtain⟨h1,h2,h⟩:=h
  obtain⟨e,s,hu,_⟩:=zG h1
  refine⟨_,h,rfl,fun ob' ho g v ty hg hr=>?_⟩
  have hm:=yY hg h2 (ho l (by simp))
  cases hr with
  | ref _ _ _ _ _ hu' hm2 hc hv =>
   rw[hv hm]
   exact⟨_,hrun e hu _ _ _ _ _,.lit _⟩
 ·rename_i l o k n
  obtain⟨e,s,hu,_⟩:=zG h.1
  refine⟨_,h.2,rfl,fun ob' ho g v ty hg hr=>?_⟩
  cases hr with
  | bs _ _ _ _ cap hu' hc=>exact⟨_,hrun e hu _ _ _ _ _,.lit _⟩
 ·rename_i l
  split at h
  ·rename_i es hob
   obtain⟨⟨k,e⟩,hmp⟩:=Option.isSome_iff_exists.1 h.1
   have hu:=tJ hmp
   refine⟨_,h.2,rfl,fun ob' ho g v ty hg hr=>?_⟩
   have hok:=hg.obj l
   rw[ho l (by simp),hob]at hok
   obtain⟨_,arr,clock,hb,hm⟩:=hok
   cases hr
   have hz:arr.size=es.length:=by rw[← hm.ents];simp
   exact⟨_,by simp[Builtin.len_,Sem.run_bind,run_underlying hu,MapKept.run_getObj_map hb,goInt,hz],.lit _⟩
  ·exact h.elim
 ·split at h
  ·rename_i es hes
   obtain⟨e,s,hu,_⟩:=zG h.1
   refine⟨_,h.2,rfl,fun ob' ho g v ty hg hr=>?_⟩
   obtain⟨a,cap,rfl⟩:=c8p (v8 hes hr)
   exact⟨_,hrun e hu _ _ _ _ _,.lit _⟩
  ·exact h.elim
def bnd (d:Int):Option AV→Option Int
 | none=>some d
 | some (.lit (.int _ z))=>some z
 | _=>none
def oN (P:Program) (t:TypeId) (x:AV) (lo hi:Option AV) (ob:Nat→AV) (E:Eff→Prop):Prop :=
 match x with
 | .lit (.string s)=>bH P t=true∧match bnd 0 lo,bnd s.size hi with
  | some a,some b=>0≤a∧a≤b∧b≤s.size∧E ⟨.lit (.string (s.extract a.toNat b.toNat)),[],[]⟩
  | _,_=>False
 | .ref l o n m=>match slT P t,bnd 0 lo,bnd n hi with
  | some (_,s),some a,some b=>match ob l with
   | .vcp k es cp=>(k=s∧m=es.length∧o+n≤m)∧0≤a∧a≤b∧b≤n∧(o+a.toNat<cp→E ⟨.ref l (o+a.toNat) (b.toNat - a.toNat) m,[],[l]⟩)∧(cp≤o+a.toNat→E ⟨.zs,[],[l]⟩)
   | y=>(match y with|.vec k es=>k=s∧m=es.length∧o+n≤m|_=>False)∧0≤a∧a≤b∧b≤n∧(a=0∨a<b)∧E ⟨.ref l (o+a.toNat) (b.toNat - a.toNat) m,[],[l]⟩
  | _,_,_=>False
 | .loc l o=>match arT P t with
  | some (n,s,_)=>lo=none∧0<n∧match hi with
   | none=>E ⟨.bs l o s n,[],[]⟩
   | some (.lit (.int _ z))=>0≤z∧z≤n∧E ⟨.bs l o s z.toNat,[],[]⟩
   | _=>False
  | none=>False
 | x=>match nT x with
  | some es=>match slT P t,bnd 0 lo,bnd es.length hi with
   | some (_,s),some a,some b=>0≤a∧a≤b∧b≤es.length∧(∀ e∈es,e.length=s)∧E ⟨.sl ((es.drop a.toNat).take (b.toNat - a.toNat)),[],[]⟩
   | _,_,_=>False
  | none=>False
theorem iW {P : Program} {g : Gh} {lo : Option AV} {v : Option Value} {d a : Int} (h : bnd d lo = some a) (hr : (lo = none ∧ v = none) ∨ ∃ x u, lo = some x ∧ v = some u ∧ Rel g x u) :
  (v=none∧a=d)∨∃ k,v=some (.int k a):=by
 rcases hr with⟨rfl,rfl⟩|⟨x,u,rfl,rfl,hr⟩
 ·simp only[bnd,Aa.injEq]at h;exact .inl ⟨rfl,h.symm⟩
 ·right
  cases x<;>simp only[bnd]at h<;>try contradiction
  rename_i v
  cases v<;>simp only[bnd]at h<;>try contradiction
  simp only[Aa.injEq]at h
  subst h
  cases hr
  exact⟨_,rfl⟩
theorem mF {P : Program} {w : World} {sl : Bool} {len cap : Nat} {lo hi : Option Value} {a b : Int} (h0 : 0 ≤ a) (hab : a ≤ b) (hb : b ≤ cap)
  (hlo:(lo=none∧a=0)∨∃ k,lo=some (.int k a)) (hhi:(hi=none∧b=len)∨∃ k,hi=some (.int k b)) :
  (Instr.sliceBounds sl len cap lo hi none).run P w=.ok (a.toNat,b.toNat,cap) w:=by
 rcases hlo with⟨rfl,rfl⟩|⟨k,rfl⟩<;>rcases hhi with⟨rfl,rfl⟩|⟨k',rfl⟩ <;>
  simp[Instr.sliceBounds,Instr.sliceBound,Sem.run_bind,asIntOf,h0,hab,hb,Int.le_trans h0 hab]<;>omega
end Go.Sx
namespace Go.Sx
set_option linter.unusedVariables false
set_option linter.unusedSimpArgs false
def RelO (g:Gh) (x:Option AV) (v:Option Value):Prop:=(x=none∧v=none)∨∃ y u,x=some y∧v=some u∧Rel g y u
theorem mD {α:Type} (es:List α) (a n i:Nat) (h:i<((es.drop a).take n).length):((es.drop a).take n)[i]=es[a+i]'(by simp at h;omega):=by simp
theorem b5t {c : Cx} {t : TypeId} {x : AV} {lo hi : Option AV} {ob : Nat → AV} {E : Eff → Prop} (h : oN c.P t x lo hi ob E) :
  ∃ e,E e∧e.ob=[]∧∀ ob',(∀ l∈e.rd,ob' l=ob l)→∀ g v vlo vhi,GOk c g ob'→Rel g x v→RelO g lo vlo→RelO g hi vhi →
   ∃ u,(Instr.sliceAt t v vlo vhi none).run c.P g.w=.ok u g.w∧Rel g e.val u:=by
 unfold oN at h
 split at h
 ·rename_i s
  obtain⟨hst,h⟩:=h
  have hu:=pJ hst
  split at h
  ·rename_i a b ha hb
   obtain⟨h0,hab,hbs,h⟩:=h
   refine⟨_,h,rfl,fun ob' ho g v vlo vhi hg hr hl hh=>?_⟩
   cases hr
   have hrun:=mF (P:=c.P) (w:=g.w) (sl:=false) (len:=s.size) h0 hab hbs (iW (P:=c.P) ha hl) (iW (P:=c.P) hb hh)
   exact⟨_,by simp[Instr.sliceAt,Instr.slice,Sem.run_bind,run_underlying hu,hrun],.lit _⟩
  ·exact h.elim
 ·rename_i l o n m
  split at h
  ·rename_i e s a b hsl ha hb
   obtain⟨hu,hs⟩:=kU hsl
   split at h
   ·rename_i k es cp hobl
    obtain⟨⟨rfl,hm,hon⟩,h0,hab,hbn,h1,h2⟩:=h
    by_cases hcp:o+a.toNat<cp
    ·refine⟨_,h1 hcp,rfl,fun ob' ho g v vlo vhi hg hr hl hh=>?_⟩
     have hok:=hg.obj l
     rw[ho l (by simp),hobl]at hok
     obtain⟨⟨hus,hk,hln,hk0,hke,hrest⟩,hcpe⟩:=hok
     cases hr with
     | ref _ _ _ _ _ hu' hm2 hc hv =>
      have hv':=hv (by omega)
      subst hv'
      have hcap:n≤(g.des l).cap - o:=by
       rcases hrest with⟨_,rfl,_⟩|⟨b',vs,h6,h7,h8,_⟩
       ·simp at hm;omega
       ·omega
      have hrun:=mF (P:=c.P) (w:=g.w) (sl:=true) (len:=n) (cap:=(g.des l).cap - o) h0 hab (by omega) (iW (P:=c.P) ha hl) (iW (P:=c.P) hb hh)
      refine⟨_,by simp[Instr.sliceAt,Instr.slice,Des.slice,Sem.run_bind,run_underlying hu,hrun,eB hs];rfl,?_⟩
      refine .ref l _ _ m _ hus hm2 rfl (fun _=>?_)
      simp only[Des.slice,hk]
      rw[if_neg (by omega)]
      cases hd:(g.des l).b with
      | none=>simp;omega
      | some b'=>simp[jG,Ab];omega
    ·refine⟨_,h2 (by omega),rfl,fun ob' ho g v vlo vhi hg hr hl hh=>?_⟩
     have hok:=hg.obj l
     rw[ho l (by simp),hobl]at hok
     obtain⟨⟨hus,hk,hln,hk0,hke,hrest⟩,hcpe⟩:=hok
     cases hr with
     | ref _ _ _ _ _ hu' hm2 hc hv =>
      have hv':=hv (by omega)
      subst hv'
      have hcap:n≤(g.des l).cap - o:=by
       rcases hrest with⟨_,rfl,_⟩|⟨b',vs,h6,h7,h8,_⟩
       ·simp at hm;omega
       ·omega
      have hrun:=mF (P:=c.P) (w:=g.w) (sl:=true) (len:=n) (cap:=(g.des l).cap - o) h0 hab (by omega) (iW (P:=c.P) ha hl) (iW (P:=c.P) hb hh)
      refine⟨_,by simp[Instr.sliceAt,Instr.slice,Des.slice,Sem.run_bind,run_underlying hu,hrun,eB hs];rfl,?_⟩
      have e1:b.toNat - a.toNat=0:=by omega
      have e2:(g.des l).cap - o - a.toNat=0:=by omega
      rw[e1,e2]
      exact .zs
   obtain⟨hob,h0,hab,hbn,hnz,h⟩:=h
   refine⟨_,h,rfl,fun ob' ho g v vlo vhi hg hr hl hh=>?_⟩
   have hok:=hg.obj l
   rw[ho l (by simp)]at hok
   split at hob
   ·rename_i k es hobl
    obtain⟨rfl,hm,hon⟩:=hob
    rw[hobl]at hok
    obtain⟨hus,hk,hln,hk0,hke,hrest⟩:=hok
    cases hr with
    | ref _ _ _ _ _ hu' hm2 hc hv =>
     have hv':=hv (by omega)
     subst hv'
     have hcap:n≤(g.des l).cap - o:=by
      rcases hrest with⟨_,rfl,_⟩|⟨b',vs,h6,h7,h8,_⟩
      ·simp at hm;omega
      ·omega
     have hrun:=mF (P:=c.P) (w:=g.w) (sl:=true) (len:=n) (cap:=(g.des l).cap - o) h0 hab (by omega) (iW (P:=c.P) ha hl) (iW (P:=c.P) hb hh)
     refine⟨_,by simp[Instr.sliceAt,Instr.slice,Des.slice,Sem.run_bind,run_underlying hu,hrun,eB hs];rfl,?_⟩
     refine .ref l _ _ m _ hus hm2 rfl (fun _=>?_)
     simp only[Des.slice,hk]
     rcases hnz with rfl|hlt
     ·cases hd:(g.des l).b with
      | none=>simp
      | some b'=>simp[jG]
     ·rw[if_neg (by omega)]
      cases hd:(g.des l).b with
      | none=>simp;omega
      | some b'=>simp[jG,Ab];omega
   ·exact hob.elim
  ·exact h.elim
 ·rename_i l o
  split at h
  ·rename_i n s b har
   obtain⟨rfl,hn,h⟩:=h
   obtain⟨e,hu,hs,_⟩:=zV har
   have hn0:¬ n=0:=by omega
   split at h
   ·refine⟨_,h,rfl,fun ob' ho g v vlo vhi hg hr hl hh=>?_⟩
    obtain rfl:vlo=none:=by rcases hl with⟨_,h⟩|⟨y,u,h,_⟩<;>first|exact h|contradiction
    obtain rfl:vhi=none:=by rcases hh with⟨_,h⟩|⟨y,u,h,_⟩<;>first|exact h|contradiction
    cases hr with
    | loc _ _ hu' =>
     have hrun:=mF (P:=c.P) (w:=g.w) (sl:=false) (len:=n) (cap:=n) (lo:=none) (hi:=none) (a:=0) (b:=n) (by omega) (by omega) (by omega) (.inl ⟨rfl,rfl⟩) (.inl ⟨rfl,rfl⟩)
     refine⟨_,by simp[Instr.sliceAt,Sem.run_bind,run_underlying hu,Instr.sureAddr,hrun,eB hs,hn0,Addr.add],.bs l o s n n hu' (Nat.le_refl _)⟩
   ·rename_i kz z
    obtain⟨hz0,hzn,h⟩:=h
    refine⟨_,h,rfl,fun ob' ho g v vlo vhi hg hr hl hh=>?_⟩
    obtain rfl:vlo=none:=by rcases hl with⟨_,h⟩|⟨y,u,h,_⟩<;>first|exact h|contradiction
    obtain rfl:vhi=some (.int kz z):=by
     rcases hh with⟨h,_⟩|⟨y,u,h,h2,h3⟩
     ·contradiction
     ·simp only[Aa.injEq]at h
      subst h
      cases h3
      exact h2
    cases hr with
    | loc _ _ hu' =>
     have hrun:=mF (P:=c.P) (w:=g.w) (sl:=false) (len:=n) (cap:=n) (lo:=none) (hi:=some (.int kz z)) (a:=0) (b:=z) (by omega) hz0 hzn (.inl ⟨rfl,rfl⟩) (.inr ⟨kz,rfl⟩)
     refine⟨_,by simp[Instr.sliceAt,Sem.run_bind,run_underlying hu,Instr.sureAddr,hrun,eB hs,hn0,Addr.add],.bs l o s z.toNat n hu' (by omega)⟩
   ·exact h.elim
  ·exact h.elim
 ·split at h
  ·rename_i es hes
   split at h
   ·rename_i e s a b hsl ha hb
    obtain⟨h0,hab,hbn,hel,h⟩:=h
    obtain⟨hu,hs⟩:=kU hsl
    refine⟨_,h,rfl,fun ob' ho g v vlo vhi hg hr hl hh=>?_⟩
    have hr:=v8 hes hr
    cases hr with
    | @slnil ad =>
     simp only[List.length_nil]at hbn hb
     have ea:a=0:=by omega
     have eb:b=0:=by omega
     subst ea
     subst eb
     have hrun:=mF (P:=c.P) (w:=g.w) (sl:=true) (len:=0) (cap:=0) (a:=0) (b:=0) (by omega) (by omega) (by omega) (iW (P:=c.P) ha hl) (iW (P:=c.P) hb hh)
     refine⟨.slice ad 0 0,?_,by simpa using Rel.slnil⟩
     simp only[Int.toNat_zero]at hrun
     cases ad with
     | none=>simp[Instr.sliceAt,Instr.slice,Sem.run_bind,run_underlying hu,hrun,eB hs]
     | some ad=>simp[Instr.sliceAt,Instr.slice,Sem.run_bind,run_underlying hu,hrun,eB hs]
    | sl _ b' o cap k vs e' fr hf hb' hc hk hs' hoc hrel =>
     have hrun:=mF (P:=c.P) (w:=g.w) (sl:=true) (len:=es.length) (cap:=cap) h0 hab (by omega) (iW (P:=c.P) ha hl) (iW (P:=c.P) hb hh)
     have hlen:((es.drop a.toNat).take (b.toNat - a.toNat)).length=b.toNat - a.toNat:=by simp;omega
     have hks:0<es.length→k=s:=fun hp=>by rw[← hk 0 hp];exact hel _ (List.getElem_mem _)
     refine⟨.slice (some (if cap=a.toNat then ⟨b',o,none⟩else ⟨b',o+a.toNat*s,none⟩)) (b.toNat - a.toNat) (cap - a.toNat),?_,?_⟩
     ·simp[Instr.sliceAt,Instr.slice,Sem.run_bind,run_underlying hu,hrun,eB hs,jG]
      split<;>rfl
     ·suffices key:Rel g (.sl ((es.drop a.toNat).take (b.toNat - a.toNat))) (.slice (some (if cap=a.toNat then ⟨b',o,none⟩else ⟨b',o+a.toNat*s,none⟩)) ((es.drop a.toNat).take (b.toNat - a.toNat)).length (cap - a.toNat)) by
       rw[hlen]at key;exact key
      by_cases hz:b.toNat - a.toNat=0
      ·have hnil:(es.drop a.toNat).take (b.toNat - a.toNat)=[]:=List.eq_nil_of_length_eq_zero (by omega)
       rw[hnil]
       have:∀ o',Rel g (.sl []) (.slice (some ⟨b',o',none⟩) ([]:List (List AV)).length (cap - a.toNat)):=fun o' =>
        .sl [] b' o' (cap - a.toNat) k vs e' fr hf hb' (by simp) (fun i hi=>by simp at hi) (fun h=>by simp at h) (fun j h1 h2=>by simp at h2) (fun i hi=>by simp at hi)
       split<;>exact this _
      ·have hne:¬ cap=a.toNat:=by omega
       rw[if_neg hne]
       have hpos:0<es.length:=by omega
       have hk':=hks hpos
       subst hk'
       have hs2:=hs' hpos
       have hbound:∀ i,i<b.toNat - a.toNat→a.toNat*k+i*k+k≤es.length*k:=fun i hi=>by
        have:(a.toNat+i+1)*k≤es.length*k:=Ac _ (by omega)
        rw[Ab,Ab]at this;omega
       refine .sl _ b' _ _ k vs e' fr hf hb' (by omega) (fun i hi=>?_) (fun _=>?_) (fun j h1 h2=>?_) (fun i hi j hj h3=>?_)
       ·rw[mD];exact hk _ _
       ·rw[hlen]
        have h1:(b.toNat - a.toNat)*k=(b.toNat - a.toNat - 1)*k+k:=by
         have:b.toNat - a.toNat=(b.toNat - a.toNat - 1)+1:=by omega
         rw[this,Ab];simp
        have:=hbound (b.toNat - a.toNat - 1) (by omega)
        omega
       ·rw[hlen]at h2
        have hx:=hoc (a.toNat*k+j) (by omega) (by
         have:(a.toNat+(b.toNat - a.toNat))*k≤es.length*k:=Ac _ (by omega)
         rw[Ab]at this;omega)
        simpa only[Ae]using hx
       ·have hi':i<b.toNat - a.toNat:=by omega
        rw[mD]at hj
        have hx:=hrel (a.toNat+i) (by omega) j hj (by rw[Ab];omega)
        simp only[mD]
        have e3:o+(a.toNat+i)*k+j=o+a.toNat*k+i*k+j:=by rw[Ab];omega
        simp only[e3]at hx
        exact hx
   ·exact h.elim
  ·exact h.elim
end Go.Sx
