import Derived.KernelRfl
import Derived.Test.YtjlfgmhmalbiiaaGreatDoorW10
set_option linter.all false
open Array renaming length_toList → Aa, getD_eq_getD_getElem? → Ai, getElem?_eq_getElem → Al, getElem_toList → As
open Bool renaming false_eq_true → Aw, false_and → A9
open Int renaming fdiv_eq_ediv_of_nonneg → Aj, toNat_natCast → Am, eq_ofNat_of_zero_le → Ap
open List renaming replicate → Ab, length_cons → Ac, eq_nil_of_length_eq_zero → Af, mem_singleton → Ak, mem_cons → An, getLast_eq_getElem → Ao, map_cons → Au, getLast_cons → Ax, map_nil → Ay, mem_map → Az, cons_append → A3, ext_getElem → A5, length_nil → A8, getD → Be
open Nat renaming mod_eq_of_lt → Ad, mul_le_mul_right → Ae, pow_le_pow_right → Ag, pow_succ → Ah, mul_comm → Aq, div_lt_iff_lt_mul → Ar, add_mul_div_left → At, mul_assoc → Av, div_eq_of_lt → A6, pow_pos → A7, le_refl → Ba, pow_add → Bb, add_mul → Bc
open Option renaming getD_some → A4
namespace Go.Sx
set_option linter.unusedVariables false
def oW (P:Program) (S:AS) (x:ResultVar) (E:AV→Prop):Prop :=
 match x with
 | .tmp t=>E (look S.t t)
 | .cell a t=>match agT P t,szT P t with
  | some ag,some s=>(ag=true∨s=1)∧jM ag s (look S.t a) (look S.o) fun e=>E e.val
  | _,_=>False
def oV (P:Program) (S:AS):List ResultVar→(List AV→Prop)→Prop
 | [],E=>E []
 | x::xs,E=>oW P S x fun v=>oV P S xs fun vs=>E (v::vs)
def lZ (P:Program) (S:AS) (xs:List ResultVar) (E:AV→Prop):Prop :=
 match xs with
 | []=>E (.tup [])
 | [x]=>oW P S x E
 | xs=>oV P S xs fun vs=>E (.tup vs)
theorem c1b {ag:Bool} {s:Nat} {a:AV} {ob:Nat→AV} {E:Eff→Prop} (h:jM ag s a ob E):∃ e,E e∧jM ag s a ob fun e'=>e'.val=e.val:=by
 unfold jM at h ⊢
 split at h
 ·exact⟨_,h.2,h.1,rfl⟩
 ·split at h
  ·rename_i h1
   exact⟨_,h.2,h.1,rfl⟩
  ·exact h.elim
 ·split at h
  ·rename_i h1
   exact⟨_,h.2.2.2,h.1,h.2.1,h.2.2.1,rfl⟩
  ·exact h.elim
 ·exact h.elim
theorem a4k {P:Program} {S:AS} {x:ResultVar} {E:AV→Prop} (h:oW P S x E):∃ v,nK P S x v∧E v:=by
 cases x with
 | tmp t=>exact⟨_,rfl,h⟩
 | cell a t =>
  simp only[oW]at h
  split at h
  ·rename_i ag s h1 h2
   obtain⟨e,he,hl⟩:=c1b h.2
   exact⟨e.val,⟨ag,s,h1,h2,h.1,hl⟩,he⟩
  ·exact h.elim
theorem b6b {P:Program} {S:AS}:∀ {xs:List ResultVar} {E:List AV→Prop},oV P S xs E→∃ vs:List AV,xs.length=vs.length∧(∀ i (h1:i<xs.length) (h2:i<vs.length),nK P S xs[i] vs[i])∧E vs:=by
 intro xs
 induction xs with
 | nil=>intro E h;exact⟨[],rfl,fun i h1=>by simp at h1,h⟩
 | cons x xs ih =>
  intro E h
  simp only[oV]at h
  obtain⟨v,h1,h2⟩:=a4k h
  obtain⟨vs,h3,h4,h5⟩:=ih h2
  refine⟨v::vs,by simp[h3],fun i a1 a2=>?_,h5⟩
  cases i with
  | zero=>exact h1
  | succ i=>exact h4 i (by simpa using a1) (by simpa using a2)
theorem vR {P:Program} {S:AS} {xs:List ResultVar} {E:AV→Prop} (h:lZ P S xs E):∃ v,l4 P S xs v∧E v:=by
 unfold lZ at h
 split at h
 ·exact⟨_,rfl,h⟩
 ·obtain⟨v,h1,h2⟩:=a4k h;exact⟨v,h1,h2⟩
 ·rename_i h0 h1
  obtain⟨vs,a1,a2,a3⟩:=b6b h
  refine⟨_,?_,a3⟩
  match xs,h0,h1 with
  | x::y::r,_,_=>exact⟨vs,rfl,a1,a2⟩
  | [x],_,h1=>exact absurd rfl (h1 x)
  | [],h0,_=>exact absurd rfl h0
theorem a0v {P:Program} {rs:List ResultVar} {r:AV} {S:AS} (h:lZ P S rs fun x=>bwr (look S.o) x=r):RetA P rs r S:=vR h
theorem bW {P:Program} {rs:List ResultVar} {r:AV} {post:List (Nat × AV)} {S:AS} (h:lZ P S rs fun x=>x=r) (hp:∀ p∈post,look S.o p.1=p.2):RetB P rs r post S:=by
 obtain⟨v,h1,rfl⟩:=vR h
 exact⟨h1,hp⟩
theorem a6c (X Y:Prop):iY true true X Y=X:=by simp[iY]
theorem a6f (X Y:Prop):iY false false X Y=X:=by simp[iY]
theorem a6d (X Y:Prop):iY true false X Y=Y:=by simp[iY]
theorem a6e (X Y:Prop):iY false true X Y=Y:=by simp[iY]
def cV:AV→Bool
 | .lit _=>true
 | .agg cs=>flatBs cs
 | .tup cs=>flatBs cs
 | _=>false
where flatBs:List AV→Bool
 | []=>true
 | c::cs=>cV c&&flatBs cs
mutual
theorem yU:∀ {a:AV},cV a=true→Flat a
 | .lit v,_=>.lit v
 | .agg cs,h=>.agg cs (vF (by simpa only[cV]using h))
 | .tup cs,h=>.tup cs (vF (by simpa only[cV]using h))
 | .any,h=>by simp[cV]at h
 | .sl _,h=>by simp[cV]at h
 | .fp _,h=>by simp[cV]at h
 | .loc ..,h=>by simp[cV]at h
 | .ref ..,h=>by simp[cV]at h
 | .vp ..,h=>by simp[cV]at h
 | .clo ..,h=>by simp[cV]at h
 | .bs ..,h=>by simp[cV]at h
 | .zs,h=>by simp[cV]at h
 | .mp ..,h=>by simp[cV]at h
 | .mpo ..,h=>by simp[cV]at h
 | .blk _,h=>by simp[cV]at h
 | .vec ..,h=>by simp[cV]at h
theorem vF:∀ {cs:List AV},cV.flatBs cs=true→∀ c∈cs,Flat c
 | [],_,c,hc=>by simp at hc
 | x::xs,h,c,hc=>by
  simp only[cV.flatBs,Bool.and_eq_true]at h
  rcases An.1 hc with e|hc
  ·rw[e];exact yU h.1
  ·exact vF h.2 c hc
end
theorem bU {P : Program} {f : Nat} {args : List AV} {i : Nat} {ob : Nat → AV} {E : Eff → Prop} (r : AV) (hf : fnT P f = true) (hc : CallOK P f (args.map (bwa ob)) [] r []) (hin : ∀ a ∈ args.map (bwa ob), In (fun _ => False) a) (hr : Flat r)
  (h:E ⟨r,[],args.flatMap idA⟩):callV P f args i ob E:=.inl ⟨r,hf,hc,hin,hr,h⟩
theorem cX {P : Program} {f : Nat} {args : List AV} {i : Nat} {ob : Nat → AV} {E : Eff → Prop} (r : AV) (hf : fnT P f = true) (hc : CallOK P f args [] r []) (hin : ∀ a ∈ args, In (fun _ => False) a) (hr : In (fun _ => False) r)
  (h:E ⟨r,[],[]⟩):callV P f args i ob E :=
 .inr <| .inl ⟨[],r,[],hf,hc,fun p hp=>by simp at hp,fun a ha=>by
  have:=hin a ha
  have key:∀ {K K':Nat→Prop} {a:AV},In K a→(∀ l,K l→K' l)→In K' a:=by
   intro K K' a h hk
   induction h with
   | any=>exact .any
   | lit v=>exact .lit v
   | agg cs _ ih=>exact .agg cs ih
   | tup cs _ ih=>exact .tup cs ih
   | sl es _ ih=>exact .sl es ih
   | fp cs _ ih=>exact .fp cs ih
   | clo f cs _ ih=>exact .clo f cs ih
   | loc l o h=>exact .loc l o (hk l h)
   | ref l o n m h=>exact .ref l o n m (hk l h)
   | vp l i j m h=>exact .vp l i j m (hk l h)
   | bs l o k n h=>exact .bs l o k n (hk l h)
   | zs=>exact .zs
   | mp l h=>exact .mp l (hk l h)
  exact key this fun l h=>h.elim,fun p hp=>by simp at hp,by simp,hr,fun p hp=>by simp at hp,rfl,fun l hl=>by simp at hl,h⟩
theorem callV.flat {P:Program} {f:Nat} {args:List AV} {i:Nat} {ob:Nat→AV} {E:Eff→Prop} (r:AV) (hf:fnT P f=true) (hc:CallOK P f args [] r []) (ha:cV.flatBs args=true) (hr:cV r=true) (h:E ⟨r,[],[]⟩):callV P f args i ob E :=
 cX r hf hc (fun a h=>(vF ha a h).in) (yU hr).in h
theorem a3f {P : Program} {f : Nat} {args : List AV} {i : Nat} {ob : Nat → AV} {E : Eff → Prop} (k : Nat) (es : List (List AV)) (hf : fnT P f = true) (hc : CallFr P f (args.map (bwa ob)) k es) (hin : ∀ a ∈ args.map (bwa ob), In (fun _ => False) a)
  (h:E ⟨.ref i 0 es.length es.length,[(i,.vec k es)],args.flatMap idA⟩):callV P f args i ob E:=.inr <| .inr <| .inl <| .inl ⟨k,es,hf,hc,hin,h⟩
theorem qF {P:Program} {rs:List ResultVar} {k:Nat} {es:List (List AV)} {S:AS} (h:lZ P S rs fun x=>∃ l,x=.ref l 0 es.length es.length∧look S.o l=.vec k es):RetF P rs k es S:=by
 obtain⟨v,h1,l,rfl,h2⟩:=vR h
 exact⟨l,h1,h2⟩
theorem CallOK.flat {P : Program} {f : Nat} {fn : Func} {code : Code} {args : List AV} {r : AV} (hf : P.funcs[f]? = some fn) (hb : fn.body = some code) (nt : Nat) (hnt : fn.ntmps = nt) (ha : decide (args.length ≤ nt) = true) (hr : cV r = true) (rs : List ResultVar) (hrs : fn.results.toList = rs)
  (h:AW P nt (RetA P rs r) [.code code] ⟨aD 0 args,[],8⟩):CallOK P f args [] r []:=by
 subst hnt
 subst hrs
 exact a5d hf hb (by simpa using ha) (yU hr).in h
theorem CallFr.flat {P : Program} {f : Nat} {fn : Func} {code : Code} {args : List AV} {k : Nat} {es : List (List AV)} (hf : P.funcs[f]? = some fn) (hb : fn.body = some code) (nt : Nat) (hnt : fn.ntmps = nt) (ha : decide (args.length ≤ nt) = true) (hfl : ∀ e ∈ es, ∀ c ∈ e, Flat c) (rs : List ResultVar) (hrs : fn.results.toList = rs)
  (h:AW P nt (RetF P rs k es) [.code code] ⟨aD 0 args,[],8⟩):CallFr P f args k es:=by
 subst hnt
 subst hrs
 exact b8e hf hb (by simpa using ha) hfl h
theorem CallVc.flat {P : Program} {f : Nat} {fn : Func} {code : Code} {args : List AV} {k : Nat} {es : List (List AV)} (hf : P.funcs[f]? = some fn) (hb : fn.body = some code) (nt : Nat) (hnt : fn.ntmps = nt) (ha : decide (args.length ≤ nt) = true) (hin : ∀ e ∈ es, ∀ c ∈ e, In (fun _ => False) c) (rs : List ResultVar) (hrs : fn.results.toList = rs)
  (h:AW P nt (RetF P rs k es) [.code code] ⟨aD 0 args,[],8⟩):CallVc P f args k es:=by
 subst hnt
 subst hrs
 exact b8c hf hb (by simpa using ha) hin h
theorem fY {P : Program} {f : Nat} {args : List AV} {i : Nat} {ob : Nat → AV} {E : Eff → Prop} (r : AV) (hf : fnT P f = true) (hc : CallNw P f (args.map (bwa ob)) r) (hin : ∀ a ∈ args.map (bwa ob), In (fun _ => False) a) (hr : In (fun _ => False) r)
  (h:E ⟨r,[],args.flatMap idA⟩):callV P f args i ob E:=.inr <| .inr <| .inr ⟨r,hf,hc,hin,hr,h⟩
theorem c7c {P:Program} {rs:List ResultVar} {r:AV} {S:AS} (h:lZ P S rs fun x=>bwn (look S.o) x=r):RetN P rs r S:=vR h
theorem CallNw.flat {P : Program} {f : Nat} {fn : Func} {code : Code} {args : List AV} {r : AV} (hf : P.funcs[f]? = some fn) (hb : fn.body = some code) (nt : Nat) (hnt : fn.ntmps = nt) (ha : decide (args.length ≤ nt) = true) (hfl : FlatS r) (rs : List ResultVar) (hrs : fn.results.toList = rs)
  (h:AW P nt (RetN P rs r) [.code code] ⟨aD 0 args,[],8⟩):CallNw P f args r:=by
 subst hnt
 subst hrs
 exact b8d hf hb (by simpa using ha) hfl h
theorem fV {P : Program} {f : Nat} {fn : Func} {code : Code} {args : List AV} {r : AV} (hf : P.funcs[f]? = some fn) (hb : fn.body = some code) (nt : Nat) (hnt : fn.ntmps = nt) (ha : decide (args.length ≤ nt) = true) (hr : In (fun _ => False) r) (rs : List ResultVar) (hrs : fn.results.toList = rs)
  (h:AW P nt (RetA P rs r) [.code code] ⟨aD 0 args,[],8⟩):CallOK P f args [] r []:=by
 subst hnt
 subst hrs
 exact a5d hf hb (by simpa using ha) hr h
theorem fC {P : Program} {f : Nat} {fn : Func} {code : Code} {args : List AV} {pre post : List (Nat × AV)} {r : AV} (hf : P.funcs[f]? = some fn) (hb : fn.body = some code) (nt : Nat) (hnt : fn.ntmps = nt) (ha : decide (args.length ≤ nt) = true) (hn : ∀ p ∈ pre, p.1 < 8) (hin : In (fun _ => False) r)
  (hpost:∀ p∈post,p.1∈pre.map (·.1)∧InC (fun l=>l∈pre.map (·.1)) p.2) (rs:List ResultVar) (hrs:fn.results.toList=rs)
  (h:AW P nt (RetB P rs r post) [.code code] ⟨aD 0 args,pre,8⟩):CallOK P f args pre r post:=by
 subst hnt
 subst hrs
 exact b5c hf hb (by simpa using ha) hn hin hpost h
theorem c3g {P:Program} {nt:Nat} {R:AS→Prop} {k:List Itm} {S S':AS} (h:S=S'):AW P nt R k S=AW P nt R k S':=by rw[h]
def fR:List (Nat × AV)→List (Nat × AV)→Prop
 | [],_=>True
 | (i,a)::l,s=>look s i=a∧fR l s
theorem mM:∀ {l s:List (Nat × AV)},fR l s→∀ p∈l,look s p.1=p.2:=by
 intro l
 induction l with
 | nil=>intro s _ p hp;simp at hp
 | cons q l ih =>
  intro s h p hp
  obtain⟨i,a⟩:=q
  rcases An.1 hp with rfl|hp
  ·exact h.1
  ·exact ih h.2 p hp
def inT (n:Nat):List (Nat × AV)→Prop
 | []=>True
 | (_,a)::l=>In (fun k=>k<n) a∧inT n l
def inO (n:Nat):List (Nat × AV)→Prop
 | []=>True
 | (i,a)::l=>(i<n∧InC (fun k=>k<n) a)∧inO n l
theorem c1n {n:Nat}:∀ {l:List (Nat × AV)},inT n l→∀ p∈l,In (fun k=>k<n) p.2:=by
 intro l
 induction l with
 | nil=>intro _ p hp;simp at hp
 | cons q l ih =>
  intro h p hp
  obtain⟨i,a⟩:=q
  rcases An.1 hp with rfl|hp
  ·exact h.1
  ·exact ih h.2 p hp
theorem c1o {n:Nat}:∀ {l:List (Nat × AV)},inO n l→∀ p∈l,p.1<n∧InC (fun k=>k<n) p.2:=by
 intro l
 induction l with
 | nil=>intro _ p hp;simp at hp
 | cons q l ih =>
  intro h p hp
  obtain⟨i,a⟩:=q
  rcases An.1 hp with rfl|hp
  ·exact h.1
  ·exact ih h.2 p hp
theorem mZ {S:AS} {t o:List (Nat × AV)} {n:Nat} (ht:fR t S.t) (ho:fR o S.o) (h8:8≤n) (hi:inT n t) (hj:inO n o):Weak S ⟨t,o,n⟩:=by
 by_cases h:S.nx≤n
 ·exact a4c (mM ht) (mM ho) h
 ·refine Weak.trans (a4c (nx:=S.nx) (mM ht) (mM ho) (Ba _)) ?_
  exact b5a (S:=⟨t,o,S.nx⟩) h8 ⟨c1n hi,c1o hj⟩
theorem aQ {S:AS} {t o:List (Nat × AV)} {n:Nat} (h:fR t S.t∧fR o S.o∧inT n t∧inO n o) (h8:8≤n:=by decide):Weak S ⟨t,o,n⟩ :=
 mZ h.1 h.2.1 h8 h.2.2.1 h.2.2.2
theorem q9 {K:Nat→Prop} (v:Value):In K (.lit v)=True:=eq_true (.lit v)
theorem d1d {K:Nat→Prop}:In K .any=True:=eq_true .any
theorem d1e {K:Nat→Prop} (cs:List AV):In K (.agg cs)=∀ c∈cs,In K c:=propext ⟨fun h=>by cases h;assumption,.agg cs⟩
theorem d1a {K:Nat→Prop} (cs:List AV):In K (.tup cs)=∀ c∈cs,In K c:=propext ⟨fun h=>by cases h;assumption,.tup cs⟩
theorem kB {K:Nat→Prop} (es:List (List AV)):In K (.sl es)=∀ e∈es,∀ c∈e,In K c:=propext ⟨fun h=>by cases h;assumption,.sl es⟩
theorem In_fp {K:Nat→Prop} (cs:List AV):In K (.fp cs)=∀ c∈cs,In K c:=propext ⟨fun h=>by cases h;assumption,.fp cs⟩
theorem d1c {K:Nat→Prop} (f:Nat) (cs:List AV):In K (.clo f cs)=∀ c∈cs,In K c:=propext ⟨fun h=>by cases h;assumption,.clo f cs⟩
theorem d1b {K:Nat→Prop} (l o:Nat):In K (.loc l o)=K l:=propext ⟨fun h=>by cases h;assumption,.loc l o⟩
theorem xT {K:Nat→Prop} (l o n m:Nat):In K (.ref l o n m)=K l:=propext ⟨fun h=>by cases h;assumption,.ref l o n m⟩
theorem In_vp {K:Nat→Prop} (l o n m:Nat):In K (.vp l o n m)=K l:=propext ⟨fun h=>by cases h;assumption,.vp l o n m⟩
theorem In_mp {K:Nat→Prop} (l:Nat):In K (.mp l)=K l:=propext ⟨fun h=>by cases h;assumption,.mp l⟩
theorem x9 {K:Nat→Prop} (l o n m:Nat):In K (.bs l o n m)=K l:=propext ⟨fun h=>by cases h;assumption,.bs l o n m⟩
end Go.Sx
namespace Go.Sx
set_option linter.unusedVariables false
def nvL:List UInt8→Nat
 | []=>0
 | b::l=>b.toNat+256*nvL l
def nbL (n:Nat):List UInt8:=if h:n=0 then []else UInt8.ofNat (n % 256)::nbL (n / 256)
termination_by n
decreasing_by omega
def nv (m:ByteArray):Nat:=nvL m.data.toList
def nb (n:Nat):ByteArray:=⟨(nbL n).toArray⟩
theorem kV:nbL 0=[]:=by unfold nbL;simp
theorem p5 {n:Nat} (h:n≠0):nbL n=UInt8.ofNat (n % 256)::nbL (n / 256):=by rw[nbL];simp[h]
theorem c5f (n:Nat):nvL (nbL n)=n:=by
 induction n using Nat.strongRecOn with
 | _ n ih =>
  by_cases h:n=0
  ·subst h;rw[kV];rfl
  ·rw[p5 h]
   simp only[nvL]
   rw[ih (n / 256) (by omega)]
   have:(UInt8.ofNat (n % 256)).toNat=n % 256:=by simp
   rw[this]
   omega
@[simp] theorem aU (n:Nat):nv (nb n)=n:=by simp[nv,nb,c5f]
theorem qO {a b:Nat} (h:nb a=nb b):a=b:=by rw[← aU a,h,aU]
theorem dJ:nb 0=⟨#[]⟩:=by simp[nb,kV]
theorem fW (n:Nat):(nb n=⟨#[]⟩)↔n=0:=by
 constructor
 ·intro h;rw[← dJ]at h;exact qO h
 ·rintro rfl;exact dJ
theorem b4j (n k:Nat):(nbL n).length≤k↔n<256 ^ k:=by
 induction k generalizing n with
 | zero =>
  by_cases h:n=0
  ·subst h;simp[kV]
  ·rw[p5 h];simp;omega
 | succ k ih =>
  by_cases h:n=0
  ·subst h;simp[kV];exact A7 (by decide)
  ·rw[p5 h]
   simp only[Ac,Nat.add_le_add_iff_right,ih]
   rw[Ah,Ar (by decide)]
theorem b9 (n k:Nat):(nb n).size≤k↔n<256 ^ k:=by
 have:(nb n).size=(nbL n).length:=by simp[nb,ByteArray.size]
 rw[this,b4j]
theorem xJ (l:List UInt8):nvL l<256 ^ l.length:=by
 induction l with
 | nil=>simp[nvL]
 | cons b l ih =>
  simp only[nvL,Ac,Ah]
  have:=b.toNat_lt
  have h2:nvL l+1≤256 ^ l.length:=ih
  have h3:(nvL l+1)*256≤256 ^ l.length*256:=Ae _ h2
  omega
theorem eW (m:ByteArray):nv m<256 ^ m.size:=by
 have e:m.size=m.data.toList.length:=by rw[Aa];rfl
 rw[e]
 exact xJ _
def iv (n:Bool) (m:ByteArray):Int:=if n then -(nv m:Int)else nv m
def Zn (z:Int):Bool:=decide (z<0)
def Zm (z:Int):ByteArray:=nb z.natAbs
abbrev eI (n:Bool) (m:ByteArray):List AV:=[.lit (.bool n),.lit (.string m)]
abbrev eZ (z:Int):List AV:=[.lit (.bool (Zn z)),.lit (.string (Zm z))]
@[simp] theorem bA (z:Int):iv (Zn z) (Zm z)=z:=by
 unfold iv Zn Zm
 rw[aU]
 by_cases h:z<0
 ·simp[h];omega
 ·simp[h];omega
@[simp] theorem aR (z:Int):nv (Zm z)=z.natAbs:=by simp[Zm]
theorem cO (z:Int) (k:Nat):(Zm z).size≤k↔z.natAbs<256 ^ k:=b9 _ _
theorem of_nb (n:Bool) (k:Nat):(n&&!decide (nb k=⟨#[]⟩))=Zn (iv n (nb k))∧nb k=Zm (iv n (nb k)):=by
 unfold iv Zn Zm
 rw[aU]
 cases n
 ·refine⟨?_,?_⟩
  ·have:¬ ((k:Int)<0):=by omega
   simp[this]
  ·simp
 ·refine⟨?_,?_⟩
  ·by_cases h:k=0
   ·subst h;simp[dJ]
   ·have h1:¬ nb k=⟨#[]⟩:=fun e=>h ((fW k).1 e)
    have h2:(-(k:Int))<0:=by omega
    simp[h1];omega
  ·simp
theorem vK (a b:List UInt8):nvL (a++b)=nvL a+256 ^ a.length*nvL b:=by
 induction a with
 | nil=>simp[nvL]
 | cons x a ih =>
  simp only[A3,nvL,ih,Ac,Ah]
  grind
theorem c5k:∀ {l:List UInt8},(∀ h:l≠[],l.getLast h≠0)→nbL (nvL l)=l:=by
 intro l
 induction l with
 | nil=>intro _;simp[nvL,kV]
 | cons b l ih =>
  intro h
  have hne:nvL (b::l)≠0:=by
   intro e
   simp only[nvL]at e
   by_cases hl:l=[]
   ·subst hl
    have:=h (by simp)
    simp only[List.getLast_singleton]at this
    apply this
    simp only[nvL]at e
    have:b.toNat=0:=by omega
    exact UInt8.toNat_inj.1 this
   ·have h2:=ih (fun h'=>by have:=h (by simp);rwa [Ax hl]at this)
    have h3:nvL l=0:=by omega
    rw[h3,kV]at h2
    exact hl h2.symm
  rw[p5 hne]
  simp only[nvL]
  have hb:=b.toNat_lt
  have e1:(b.toNat+256*nvL l) % 256=b.toNat:=by omega
  have e2:(b.toNat+256*nvL l) / 256=nvL l:=by omega
  rw[e1,e2]
  congr 1
  ·simp
  ·by_cases hl:l=[]
   ·subst hl;simp[nvL,kV]
   ·exact ih (fun h'=>by have:=h (by simp);rwa [Ax hl]at this)
theorem d0s {a b:ByteArray} (h:a.data.toList=b.data.toList):a=b:=by
 cases a;cases b;simp only at h;congr;exact Array.toList_inj.1 h
theorem qE (m:ByteArray):m.size=m.data.toList.length:=by rw[Aa];rfl
theorem a2a {m:ByteArray} (h:m.size=0∨bt m (m.size - 1)≠0):nb (nv m)=m:=by
 apply d0s
 unfold nb nv
 simp only
 apply c5k
 intro hne
 have hs:=qE m
 have hl:m.data.toList.length≠0:=fun e=>hne (Af e)
 rcases h with h|h
 ·omega
 ·intro e
  apply h
  unfold bt
  rw[Ao]at e
  rw[As]at e
  have:m.size - 1<m.data.size:=by rw[hs,Aa];rw[Aa]at hl;omega
  have e2:m.data.getD (m.size - 1) 0=0:=by
   simp only[Ai,Al this,A4]
   simp only[hs]
   exact e
  rw[e2];rfl
theorem jI (m:ByteArray) (i:Nat):0≤bt m i∧bt m i<256:=by
 unfold bt;have:=(m.data.getD i 0).toNat_lt;omega
theorem a7p {m:ByteArray} (h0:0<m.size) (h:bt m (m.size - 1)=0):nv (m.extract 0 (m.size - 1))=nv m:=by
 have hs:=qE m
 unfold nv
 have hd:(m.extract 0 (m.size - 1)).data.toList=m.data.toList.take (m.data.toList.length - 1):=by
  rw[ByteArray.data_extract,Array.toList_extract,hs]
  simp
 rw[hd]
 generalize hl:m.data.toList=l at *
 have hne:l≠[]:=by intro e;subst e;simp only[A8]at hs;omega
 have hlast:l.getLast hne=0:=by
  unfold bt at h
  have hlt:m.size - 1<m.data.size:=by rw[← Aa,hl,hs];rw[hs]at h0;omega
  simp only[Ai,Al hlt,A4]at h
  rw[Ao]
  have e1:l[l.length - 1]'(by rw[hs]at h0;omega)=m.data[m.size - 1]:=by
   subst hl
   simp only[As,hs]
  rw[e1]
  have:m.data[m.size - 1].toNat=0:=by omega
  exact UInt8.toNat_inj.1 this
 have:=List.dropLast_concat_getLast hne
 rw[← List.dropLast_eq_take]
 conv=>rhs;rw[← this]
 rw[vK,hlast]
 simp[nvL]
end Go.Sx
namespace Go.Sx
@[congr] theorem loadV_cg (ag:Bool) (s:Nat) (a:AV) (ob:Nat→AV) (E:Eff→Prop) (a':AV) (h_a:a=a'):jM ag s a ob E=jM ag s a' ob E:=by subst h_a;rfl
@[congr] theorem d1l (s:Nat) (a x:AV) (ob:Nat→AV) (E:Eff→Prop) (a':AV) (x':AV) (h_a:a=a') (h_x:x=x'):qJ s a x ob E=qJ s a' x' ob E:=by subst h_a h_x;rfl
@[congr] theorem binV_cg (P:Program) (op:BinOp) (t:TypeId) (x y:AV) (E:Eff→Prop) (x':AV) (y':AV) (h_x:x=x') (h_y:y=y'):r8 P op t x y E=r8 P op t x' y' E:=by subst h_x h_y;rfl
@[congr] theorem binI_cg (op:BinOp) (k:IntKind) (x y:Int) (E:Value→Prop)   : r9 op k x y E=r9 op k x y E:=by rfl
@[congr] theorem binS_cg (P:Program) (op:BinOp) (t:TypeId) (x y:Value) (E:Value→Prop)   : pA P op t x y E=pA P op t x y E:=by rfl
@[congr] theorem binG_cg (P:Program) (op:BinOp) (t:TypeId) (x y:List AV) (E:Eff→Prop)   : uW P op t x y E=uW P op t x y E:=by rfl
@[congr] theorem d1p (P:Program) (t:TypeId) (x:List (Nat × AV)) (E:Eff→Prop) (x':List (Nat × AV)) (h_x:x=x'):qV P t x E=qV P t x' E:=by subst h_x;rfl
@[congr] theorem litV_cg (P:Program) (t:TypeId) (n:Nat) (x:List (Nat × AV)) (i:Nat) (E:Eff→Prop) (x':List (Nat × AV)) (i':Nat) (h_x:x=x') (h_i:i=i'):rN P t n x i E=rN P t n x' i' E:=by subst h_x h_i;rfl
@[congr] theorem d1i (o:Nat) (x:AV) (E:AV→Prop) (x':AV) (h_x:x=x'):nW o x E=nW o x' E:=by subst h_x;rfl
@[congr] theorem faV_cg (P:Program) (t:TypeId) (n:Nat) (x:AV) (ob:Nat→AV) (E:Eff→Prop) (x':AV) (h_x:x=x'):faV P t n x ob E=faV P t n x' ob E:=by subst h_x;rfl
@[congr] theorem d1o (P:Program) (t:TypeId) (n:Nat) (x:AV) (E:Eff→Prop) (x':AV) (h_x:x=x'):qS P t n x E=qS P t n x' E:=by subst h_x;rfl
@[congr] theorem d1h (P:Program) (t:TypeId) (x y:AV) (ob:Nat→AV) (E:Eff→Prop) (x':AV) (y':AV) (h_x:x=x') (h_y:y=y'):pF P t x y ob E=pF P t x' y' ob E:=by subst h_x h_y;rfl
@[congr] theorem d1n (P:Program) (t:TypeId) (x y:AV) (E:Eff→Prop) (x':AV) (y':AV) (h_x:x=x') (h_y:y=y'):qQ P t x y E=qQ P t x' y' E:=by subst h_x h_y;rfl
@[congr] theorem d1j (n:Nat) (x:AV) (E:Eff→Prop) (x':AV) (h_x:x=x'):n8 n x E=n8 n x' E:=by subst h_x;rfl
@[congr] theorem convV_cg (P:Program) (t u:TypeId) (x:AV) (ob:Nat→AV) (E:Eff→Prop) (x':AV) (h_x:x=x'):rH P t u x ob E=rH P t u x' ob E:=by subst h_x;rfl
@[congr] theorem makeV_cg (P:Program) (t:TypeId) (x y:AV) (i:Nat) (E:Eff→Prop) (x':AV) (y':AV) (i':Nat) (h_x:x=x') (h_y:y=y') (h_i:i=i'):oS P t x y i E=oS P t x' y' i' E:=by subst h_x h_y h_i;rfl
@[congr] theorem appV_cg (P:Program) (t:TypeId) (x y:AV) (ob:Nat→AV) (i:Nat) (E:Eff→Prop) (x':AV) (y':AV) (i':Nat) (h_x:x=x') (h_y:y=y') (h_i:i=i'):sA P t x y ob i E=sA P t x' y' ob i' E:=by subst h_x h_y h_i;rfl
@[congr] theorem d1m (P:Program) (t:TypeId) (x:AV) (y z:Option AV) (ob:Nat→AV) (E:Eff→Prop) (x':AV) (y':Option AV) (z':Option AV) (h_x:x=x') (h_y:y=y') (h_z:z=z'):oN P t x y z ob E=oN P t x' y' z' ob E:=by subst h_x h_y h_z;rfl
@[congr] theorem lenV_cg (P:Program) (t:TypeId) (x:AV) (ob:Nat→AV) (E:Eff→Prop) (x':AV) (h_x:x=x'):rO P t x ob E=rO P t x' ob E:=by subst h_x;rfl
@[congr] theorem unV_cg (op:UnOp) (x:AV) (E:Eff→Prop) (x':AV) (h_x:x=x'):unV op x E=unV op x' E:=by subst h_x;rfl
@[congr] theorem nilV_cg (x:AV) (ob:Nat→AV) (E:Eff→Prop) (x':AV) (h_x:x=x'):uR x ob E=uR x' ob E:=by subst h_x;rfl
@[congr] theorem callV_cg (P:Program) (f:Nat) (x:List AV) (i:Nat) (ob:Nat→AV) (E:Eff→Prop) (x':List AV) (i':Nat) (h_x:x=x') (h_i:i=i'):callV P f x i ob E=callV P f x' i' ob E:=by subst h_x h_i;rfl
@[congr] theorem d1k (P:Program) (t:TypeId) (x y:AV) (ok:Bool) (ob:Nat→AV) (E:Eff→Prop) (x':AV) (y':AV) (h_x:x=x') (h_y:y=y'):p7 P t x y ok ob E=p7 P t x' y' ok ob E:=by subst h_x h_y;rfl
@[congr] theorem mupdV_cg (P:Program) (t:TypeId) (x y z:AV) (ob:Nat→AV) (E:Eff→Prop) (x':AV) (y':AV) (z':AV) (h_x:x=x') (h_y:y=y') (h_z:z=z'):rE P t x y z ob E=rE P t x' y' z' ob E:=by subst h_x h_y h_z;rfl
@[congr] theorem mentV_cg (P:Program) (t:TypeId) (x y:AV) (ob:Nat→AV) (E:Eff→Prop) (x':AV) (y':AV) (h_x:x=x') (h_y:y=y'):rF P t x y ob E=rF P t x' y' ob E:=by subst h_x h_y;rfl
@[congr] theorem estV_cg (x s y:AV) (ob:Nat→AV) (E:Eff→Prop) (x' s' y':AV) (h_x:x=x') (h_s:s=s') (h_y:y=y'):rR x s y ob E=rR x' s' y' ob E:=by subst h_x h_s h_y;rfl
@[congr] theorem rngV_cg (P:Program) (t:TypeId) (x:AV) (i:Nat) (ob:Nat→AV) (E:Eff→Prop) (x':AV) (h_x:x=x'):rL P t x i ob E=rL P t x' i ob E:=by subst h_x;rfl
@[congr] theorem clrV_cg (P:Program) (t:TypeId) (x:AV) (ob:Nat→AV) (E:Eff→Prop) (x':AV) (h_x:x=x'):rV P t x ob E=rV P t x' ob E:=by subst h_x;rfl
@[congr] theorem entV_cg (x:AV) (ob:Nat→AV) (E:Eff→Prop) (x':AV) (h_x:x=x'):rS x ob E=rS x' ob E:=by subst h_x;rfl
@[congr] theorem effV_cg (P:Program) (op:Op) (i:Nat) (ρ:Operand→AV) (ob:Nat→AV) (E:Eff→Prop) (op':Op) (h_op:op=op'):aI P op i ρ ob E=aI P op' i ρ ob E:=by subst h_op;rfl
@[congr] theorem gcase_cg (b w:Bool) (X Y:Prop) (b':Bool) (w':Bool) (h_b:b=b') (h_w:w=w'):iY b w X Y=iY b' w' X Y:=by subst h_b h_w;rfl
@[congr] theorem res1_cg (P:Program) (S:AS) (x:ResultVar) (E:AV→Prop)   : oW P S x E=oW P S x E:=by rfl
@[congr] theorem resL_cg (P:Program) (S:AS) (x:List ResultVar) (E:List AV→Prop)   : oV P S x E=oV P S x E:=by rfl
theorem c2g (k nt:Nat):(∀ d∈(some k).toList,d<nt)=(k<nt):=by simp
theorem c2h (nt:Nat):(∀ d∈(none:Option Nat).toList,d<nt)=True:=by simp
theorem c6z {α:Type} (p:α→Prop):(∀ x∈([]:List α),p x)=True:=by simp
attribute [go_sem ↓] c2g c2h c6z
structure Pk (α:Type) where
 run:α→Prop
def Tg {α:Type} (_:α):Type:=Unit
def tg {α:Type} (x:α):Tg x:=()
def hid {α:Type} (E:α→Prop) (_:Tg E):Pk α:=⟨E⟩
theorem c5z (E:Eff→Prop) (u:Tg E) (a:AV) (b:List (Nat × AV)) (c:List Nat):(hid E u).run ⟨a,b,c⟩=E ⟨a,b,c⟩:=rfl
def gcaseP (b want:Bool) (X Y:Prop) (_:Tg (X,Y)):Prop:=iY b want X Y
theorem b7e (X Y:Prop) (u:Tg (X,Y)):gcaseP true true X Y u=X:=a6c X Y
theorem b7h (X Y:Prop) (u:Tg (X,Y)):gcaseP false false X Y u=X:=a6f X Y
theorem b7f (X Y:Prop) (u:Tg (X,Y)):gcaseP true false X Y u=Y:=a6d X Y
theorem b7g (X Y:Prop) (u:Tg (X,Y)):gcaseP false true X Y u=Y:=a6e X Y
theorem a2i {b want:Bool} {X Y:Prop} {u:Tg (X,Y)} (h1:b=want→X) (h2:b=!want→Y):gcaseP b want X Y u:=⟨h1,fun h=>h2 (by cases b<;>cases want<;>simp_all)⟩
def aH (P:Program) (nt:Nat) (ops:List Oper) (o:Oper) (i:Nat) (S:AS) (K:AS→Eff→Prop) (_:Tg (ops,o,K)):Prop:=aK P nt ops o i S K
def aL (P:Program) (nt:Nat) (ops l:List Oper) (i:Nat) (S:AS) (fs:List Foot) (K:AS→List Foot→Prop) (_:Tg (ops,l,fs,K)):Prop:=aJ P nt ops l i S fs K
def a1e (ops:List Oper) (j:Nat):Option Nat:=(ops[j]?).bind (·.dst)
theorem b5z (P : Program) (nt : Nat) (ops : List Oper) (o : Oper) (l : List Oper) (i : Nat) (S : AS) (fs : List Foot) (K : AS → List Foot → Prop) (u : Tg (ops, o :: l, fs, K)) :
  aL P nt ops (o::l) i S fs K u=aH P nt ops o (S.nx+i) S (fun S' e=>aL P nt ops l (i+1) S' (fs++[eF ops o (S.nx+i) e]) K (tg _)) (tg _):=rfl
theorem b9u (P : Program) (nt : Nat) (ops : List Oper) (i : Nat) (S : AS) (fs : List Foot) (K : AS → List Foot → Prop) (u : Tg (ops, [], fs, K)) :
  aL P nt ops [] i S fs K u=K S fs:=rfl
theorem b6n (P : Program) (nt : Nat) (ops : List Oper) (dst : Option Nat) (op : Op) (ty : TypeId) (pos : String) (af : Array Edge) (i : Nat) (S : AS) (K : AS → Eff → Prop) (u : Tg (ops, (⟨dst, op, ty, pos, af, none⟩ : Oper), K)) :
  aH P nt ops ⟨dst,op,ty,pos,af,none⟩ i S K u=((∀ d∈dst.toList,d<nt)∧aI P op i (rdO (look S.t)) (look S.o) (hid (fun e=>K (S.step dst e) e) (tg _)).run):=rfl
theorem b6m (P : Program) (nt : Nat) (ops : List Oper) (dst : Option Nat) (op : Op) (ty : TypeId) (pos : String) (af : Array Edge) (j : Nat) (want : Bool) (i : Nat) (S : AS) (K : AS → Eff → Prop) (u : Tg (ops, (⟨dst, op, ty, pos, af, some (j, want)⟩ : Oper), K)) :
  aH P nt ops ⟨dst,op,ty,pos,af,some (j,want)⟩ i S K u=((∀ d∈dst.toList,d<nt)∧match a1e ops j with
   | some d=>match look S.t d with
    | .lit (.bool b)=>gcaseP b want (aI P op i (rdO (look S.t)) (look S.o) (hid (fun e=>K (S.step dst e) e) (tg _)).run) (K (S.step dst ⟨.tup [],[],[]⟩) ⟨.tup [],[],[]⟩) (tg _)
    | .tup _=>K (S.step dst ⟨.tup [],[],[]⟩) ⟨.tup [],[],[]⟩
    | _=>False
   | none=>False):=by
 unfold aH aK rG a1e
 simp only
 cases (ops[j]?).bind (·.dst)<;>rfl
theorem iB {P:Program} {nt:Nat} {R:AS→Prop} {k:List Itm} {S:AS} {id:Nat} {l:List Oper} (h:aL P nt l l 0 S [] (fun S' _=>AW P nt R k { S' with nx:=S.nx+l.length }) (tg _)):AW P nt R (.code (.region id l.toArray false)::k) S:=AW.region h
theorem wS {P:Program} {nt:Nat} {R:AS→Prop} {k:List Itm} {S:AS} {id:Nat} {l:List Oper} (hm:P.follows .mixedOrders=true) (h:aL P nt l l 0 S [] (fun S' fs=>mX l.toArray fs=true∧AW P nt R k { S' with nx:=S.nx+l.length }) (tg _)):AW P nt R (.code (.region id l.toArray true)::k) S:=c7f hm h
theorem c5b {ops:Array Oper} {fs:List Foot} {X:Prop} (h:mX ops fs=true) (hx:X):mX ops fs=true∧X:=⟨h,hx⟩
attribute [go_sem ↓] b6n b6m c5z r9 pA nW aI
attribute [go_sem] b5z b9u b7e b7h b7f b7g a1e
attribute [go_sem] a6c a6e a6d a6f rO oS sA oN rD rV
attribute [congr] c3g
theorem c4x (ρ:Nat→AV) (t:Nat):rdO ρ (.tmp t)=ρ t:=rfl
theorem b6d (ρ:Nat→AV) (v:Value):rdO ρ (.const v)=tO v:=rfl
theorem b9x (ρ:Nat→AV) (f:Nat):rdO ρ (.func f)=.clo f []:=rfl
theorem b6r (i l:Nat) (a:AV) (r:List (Nat × AV)):look ((i,a)::r) l=if i=l then a else look r l:=rfl
theorem c1a (l:Nat):look [] l=.any:=rfl
attribute [go_sem ↓] c4x b6d b9x
attribute [go_sem] b6r c1a tO AS.step rG uO AV.solid AV.cells mk LK.fits nT uW r8 bnd qV bw bwa idA oZ bwc bwr bwn kK ceq eK rH i9 n8 faV qS oU nD pF qQ rN jM oS rD uR rB oW lZ oV oN qJ unV mmV p7 rE rF rR rL rS nA valOf nS
attribute [go_sem] false_implies implies_true A3 List.nil_append List.append_assoc true_and and_true false_and and_false List.size_toArray Ac A8 List.length_append List.getElem?_cons_zero List.getElem?_cons_succ Option.bind_some Option.bind_none Au Ay List.take List.drop List.headD_cons not_true_eq_false not_false_eq_true ne_eq true_or or_true false_or or_false Aw decide_true decide_false Bool.and_self Bool.and_true Bool.true_and Bool.and_false A9 Bool.or_true Bool.true_or Bool.or_false Bool.false_or Bool.not_true Bool.not_false beq_self_eq_true eq_self_iff_true List.getD_cons_zero List.getD_cons_succ List.set_cons_zero List.set_cons_succ List.flatMap_cons List.flatMap_nil List.flatten_cons List.flatten_nil Option.isSome_some Option.isNone_none Option.map_none Option.map_some
attribute [go_sem] fR inT inO q9 d1d d1e d1a kB In_fp d1c d1b xT In_vp x9 In_mp InC List.forall_mem_cons
theorem c4f {a b:Int} (h:0≤a):a.tdiv b=a / b:=Int.tdiv_eq_ediv_of_nonneg h
theorem c4e {a b:Int} (h:0≤a):a.tmod b=a % b:=Int.tmod_eq_emod_of_nonneg h
theorem a8i {a b:Int} (h:0≤b):a.fdiv b=a / b:=Aj a h
theorem wrap64 {n:Int} (h:-9223372036854775808≤n) (h2:n<9223372036854775808):IntKind.i64.wrap n=n:=by rw[IntKind.wrap_i64];omega
theorem j2 {n:Int} (h:0≤n) (h2:n<256):IntKind.u8.wrap n=n:=by simp[IntKind.wrap,IntKind.bits,IntKind.signed];omega
theorem a0c {n:Int} (h:0≤n) (h2:n<4294967296):IntKind.u32.wrap n=n:=by simp[IntKind.wrap,IntKind.bits,IntKind.signed];omega
theorem wY {n:Int} (h:0≤n) (h2:n<18446744073709551616):IntKind.u64.wrap n=n:=by simp[IntKind.wrap,IntKind.bits,IntKind.signed];omega
end Go.Sx
namespace Go.Sx
set_option linter.unusedVariables false
abbrev encI (k:IntKind) (z:Int):List AV:=[.lit (.int k z)]
def aG (k:IntKind) (xs:List Int):List (List AV):=xs.map (encI k)
theorem bT (k:IntKind) (xs:List Int):(aG k xs).length=xs.length:=by simp[aG]
theorem y5 (k:IntKind) (xs:List Int) (i:Nat) (h:i<xs.length):(aG k xs).getD i []=[.lit (.int k (xs.getD i 0))]:=by
 simp[aG,encI,Be,List.getElem?_eq_getElem h]
theorem ints_set (k:IntKind) (xs:List Int) (i:Nat) (z:Int):(aG k xs).set i [.lit (.int k z)]=aG k (xs.set i z):=by
 simp[aG,encI,List.map_set]
theorem a5z (k:IntKind) (n:Nat) (z:Int):Ab n [AV.lit (.int k z)]=aG k (Ab n z):=by simp[aG,encI]
theorem gH (k:IntKind) (xs:List Int) (z:Int):aG k xs++[[AV.lit (.int k z)]]=aG k (xs++[z]):=by simp[aG,encI]
theorem a4u (k:IntKind) (xs:List Int) (n:Nat):(aG k xs).take n=aG k (xs.take n):=by simp[aG,List.map_take]
theorem b7a (k:IntKind) (xs:List Int) (n:Nat):(aG k xs).drop n=aG k (xs.drop n):=by simp[aG,List.map_drop]
theorem jH {K:Nat→Prop} (k:IntKind) (xs:List Int):(∀ e∈aG k xs,∀ c∈e,In K c)=True:=by
 apply eq_true
 intro e he c hc
 simp only[aG,Az]at he
 obtain⟨z,_,rfl⟩:=he
 simp only[Ak]at hc
 subst hc
 exact .lit _
theorem a4v (k:IntKind) (xs:List Int):∀ e∈aG k xs,∀ c∈e,Flat c:=by
 intro e he c hc
 simp only[aG,Az]at he
 obtain⟨z,_,rfl⟩:=he
 simp only[Ak]at hc
 subst hc
 exact .lit _
theorem b6z (k:IntKind) (xs:List Int):(∀ e∈aG k xs,e.length=1)=True:=by
 apply eq_true
 intro e he
 simp only[aG,Az]at he
 obtain⟨z,_,rfl⟩:=he
 rfl
theorem c4b (k:IntKind) (n:Nat) (z:Int):AV.vec 1 (Ab n [AV.lit (.int k z)])=AV.vec 1 (aG k (Ab n z)):=by rw[a5z]
attribute [go_sem ↓] c4b
attribute [go_sem] List.take_length bT y5 ints_set gH a4u b7a jH b6z List.length_set List.length_replicate
theorem b5k (m:ByteArray) (i:Nat):IntKind.u8.wrap (bt m i)=bt m i:=by have:=jI m i;exact j2 (by omega) (by omega)
theorem b3v (m:ByteArray) (i:Nat):IntKind.u32.wrap (bt m i)=bt m i:=by have:=jI m i;exact a0c (by omega) (by omega)
theorem b3u (m:ByteArray) (i:Nat):IntKind.u64.wrap (bt m i)=bt m i:=by have:=jI m i;exact wY (by omega) (by omega)
theorem a4d (m:ByteArray) (i:Nat):IntKind.i64.wrap (bt m i)=bt m i:=by have:=jI m i;exact wrap64 (by omega) (by omega)
attribute [go_sem] b5k b3v b3u a4d Am Nat.zero_add Nat.add_zero Ba and_self Int.ofNat_zero
theorem b6q:maxLen=9223372036854775807:=rfl
theorem b5u (n:Int):n.fdiv (2 ^ min 32 64)=n / 4294967296:=by
 have e:(2:Int) ^ min 32 64=4294967296:=by decide
 rw[e,Aj _ (by decide)]
theorem b5w (n:Int):n*2 ^ min 32 64=n*4294967296:=by
 have e:(2:Int) ^ min 32 64=4294967296:=by decide
 rw[e]
theorem b6o:min 31 32=31:=rfl
theorem c8s:IntKind.u32.signed=false:=rfl
theorem c8r:IntKind.u64.signed=false:=rfl
attribute [go_sem] b6q b5u b5w b6o c8s c8r
theorem tU {ob:Nat→AV} {l L k:Nat} {es:List (List AV)} (h:ob l=.vec k es) (hL:es.length=L):bw ob (.ref l 0 L L)=.sl es:=by
 subst hL
 simp only[bw,h]
 by_cases h0:es=[]
 ·subst h0;simp
 ·have:0<es.length:=by cases es<;>simp_all
  simp[this]
theorem iA {P : Program} {f l L k : Nat} {es : List (List AV)} {i : Nat} {ob : Nat → AV} {E : Eff → Prop} (r : AV) (hf : fnT P f = true) (hc : CallOK P f [.sl es] [] r []) (hob : ob l = .vec k es) (hL : es.length = L) (hin : ∀ e ∈ es, ∀ c ∈ e, In (fun _ => False) c) (hr : Flat r)
  (h:E ⟨r,[],[l]⟩):callV P f [.ref l 0 L L] i ob E:=by
 refine bU r hf ?_ ?_ hr h
 ·simp only[Au,Ay,bwa,tU hob hL];exact hc
 ·simp only[Au,Ay,bwa,tU hob hL,Ak,forall_eq];exact .sl es hin
theorem oG {k:IntKind} {xs:List Int} {L:Nat} (h:xs.length=L):(if 0<L then AV.sl (aG k (xs.take L))else if L=0 then AV.sl []else AV.any)=AV.sl (aG k xs):=by
 split
 ·rw[List.take_of_length_le (by omega)]
 ·have:L=0:=by omega
  subst this
  have:xs=[]:=Af h
  subst this
  rfl
abbrev B32:Nat:=4294967296
def dgp (L x:Nat):List Int:=(List.range L).map fun j=>((x / B32 ^ j % B32:Nat):Int)
theorem fX (L x:Nat):(dgp L x).length=L:=by simp[dgp]
theorem c2m {L x j:Nat} (h:j<L):(dgp L x).getD j 0=((x / B32 ^ j % B32:Nat):Int):=by
 simp[dgp,Be,h]
theorem nV {L x j:Nat} (h:j<(dgp L x).length):(dgp L x)[j]=((x / B32 ^ j % B32:Nat):Int):=by simp[dgp]
theorem c2j (L:Nat):dgp L 0=Ab L 0:=by
 apply A5
 ·simp[fX]
 ·intro i h1 h2;rw[nV];simp
attribute [go_sem] fX
theorem tZ (j:Nat):B32 ^ j=256 ^ (4*j):=by
 rw[Nat.pow_mul]
theorem a2h (l:List UInt8) (k:Nat) (h:k<l.length):nvL (l.take (k+1))=nvL (l.take k)+l[k].toNat*256 ^ k:=by
 rw[List.take_succ_eq_append_getElem h,vK]
 have hl:(l.take k).length=k:=by simp;omega
 rw[hl]
 simp only[nvL]
 grind
theorem c2l {L x b i : Nat} (hx : x < 256 ^ i) (hb : b < 256) (hi : i / 4 < L) :
  dgp L (x+b*256 ^ i)=(dgp L x).set (i / 4) ((x / B32 ^ (i / 4) % B32:Nat)+((b*256 ^ (i % 4):Nat):Int)):=by
 apply A5
 ·simp[fX]
 ·intro j h1 h2
  rw[nV,List.getElem_set]
  have hi4:i=4*(i / 4)+i % 4:=by omega
  generalize i / 4=q at *
  generalize hr:i % 4=r at *
  have hr4:r<4:=by omega
  subst hi4
  have hB:256 ^ (4*q+r)=B32 ^ q*256 ^ r:=by rw[tZ,Bb]
  have hBq:0<B32 ^ q:=A7 (by decide)
  split
  ·rename_i e
   subst e
   have e1:(x+b*256 ^ (4*q+r)) / B32 ^ q=x / B32 ^ q+b*256 ^ r:=by
    rw[hB,← Av,Aq b,Av,At _ _ hBq]
   have hxq:x / B32 ^ q<256 ^ r:=by rw[Ar hBq,Aq,← hB];exact hx
   have h3:256 ^ (r+1)≤256 ^ 4:=Ag (by decide) (by omega)
   have h4:256 ^ r≤256 ^ 4:=Ag (by decide) (by omega)
   have h5:b*256 ^ r+256 ^ r≤256 ^ (r+1):=by
    rw[Ah,Aq (256 ^ r) 256]
    have:(b+1)*256 ^ r≤256*256 ^ r:=Ae _ (by omega)
    rw[Bc]at this;omega
   have hB0:B32=4294967296:=rfl
   rw[e1,Ad (a:=x / B32 ^ q+b*256 ^ r) (by omega),Ad (a:=x / B32 ^ q) (by omega)]
   simp
  ·rename_i hne
   rw[nV]
   congr 1
   by_cases hj:j<q
   ·have e1:256 ^ (4*q+r)=B32 ^ j*(B32*(B32 ^ (q - j - 1)*256 ^ r)):=by
     rw[hB]
     have:B32 ^ q=B32 ^ j*(B32*B32 ^ (q - j - 1)):=by
      rw[← Nat.pow_succ',← Bb];congr 1;omega
     rw[this];simp only[Av]
    rw[e1]
    have e2:b*(B32 ^ j*(B32*(B32 ^ (q - j - 1)*256 ^ r)))=B32 ^ j*(B32*(b*(B32 ^ (q - j - 1)*256 ^ r))):=by grind
    rw[e2,At _ _ (A7 (by decide)),Nat.add_mul_mod_self_left]
   ·have hlt:x+b*256 ^ (4*q+r)<B32 ^ j:=by
     have h3:256 ^ (4*q+r+1)≤256 ^ (4*j):=Ag (by decide) (by omega)
     rw[← tZ,Ah]at h3
     have:(b+1)*256 ^ (4*q+r)≤256*256 ^ (4*q+r):=Ae _ (by omega)
     rw[Bc]at this
     rw[Aq]at h3
     omega
    rw[A6 hlt,A6 (by omega)]
theorem uA {k : IntKind} {a b : Int} {j : Nat} (ha : 0 ≤ a) (haj : a < 2 ^ j) (hb : 0 ≤ b) (hbj : b % 2 ^ j = 0) (hab : a + b < 2 ^ k.bits) (hk : k.signed = false) :
  k.wrap ((BitVec.ofInt k.bits a ||| BitVec.ofInt k.bits b).toNat:Int)=a+b:=by
 have h1:a<2 ^ k.bits:=by omega
 have h2:b<2 ^ k.bits:=by omega
 obtain⟨a,rfl⟩:=Ap ha
 obtain⟨b,rfl⟩:=Ap hb
 have c1:a<2 ^ k.bits:=by exact_mod_cast h1
 have c2:b<2 ^ k.bits:=by exact_mod_cast h2
 have c3:a<2 ^ j:=by exact_mod_cast haj
 have c4:b % 2 ^ j=0:=by exact_mod_cast hbj
 have c5:a+b<2 ^ k.bits:=by exact_mod_cast hab
 have e1:(BitVec.ofInt k.bits (a:Int) ||| BitVec.ofInt k.bits (b:Int)).toNat=a ||| b:=by
  rw[BitVec.toNat_or,BitVec.toNat_ofInt,BitVec.toNat_ofInt]
  congr 1
  ·have:((a:Int) % ((2 ^ k.bits:Nat):Int))=((a % 2 ^ k.bits:Nat):Int):=by norm_cast
   rw[this,Am,Ad c1]
  ·have:((b:Int) % ((2 ^ k.bits:Nat):Int))=((b % 2 ^ k.bits:Nat):Int):=by norm_cast
   rw[this,Am,Ad c2]
 have e2:a ||| b=a+b:=by
  have hb2:b=2 ^ j*(b / 2 ^ j):=by have:=Nat.div_add_mod b (2 ^ j);omega
  rw[hb2,Nat.or_comm,← Nat.two_pow_add_eq_or_of_lt c3,Nat.add_comm]
 rw[e1,e2]
 unfold IntKind.wrap
 simp only[hk,A9,Aw,↓reduceIte]
 have:((a+b:Nat):Int) % 2 ^ k.bits=((a+b:Nat):Int):=by
  apply Int.emod_eq_of_lt
  ·omega
  ·exact_mod_cast c5
 rw[this]
 simp
attribute [go_sem] jH
end Go.Sx
