import Derived.KernelRfl
import Derived.Test.YtjlfgmhmalbiiaaGreatDoorX10
set_option linter.all false
open Array renaming length_toList → Aa, getD_eq_getD_getElem? → Ac, getElem?_eq_getElem → Ad, getElem_toList → Ag
open List renaming length_cons → Ab, mem_cons → Ae, getLast_eq_getElem → Af, getLast_cons → Ai, cons_append → Aj, length_nil → Al
open Nat renaming pow_succ → Ah
open Option renaming getD_some → Ak
namespace Go.Sx
set_option linter.unusedVariables false
def o8 (P:Program) (S:AS) (x:ResultVar) (E:AV→Prop):Prop :=
 match x with
 | .tmp t=>E (look S.t t)
 | .cell a t=>match agT P t,szT P t with
  | some ag,some s=>(ag=true∨s=1)∧jY ag s (look S.t a) (look S.o) fun e=>E e.val
  | _,_=>False
def o7 (P:Program) (S:AS):List ResultVar→(List AV→Prop)→Prop
 | [],E=>E []
 | x::xs,E=>o8 P S x fun v=>o7 P S xs fun vs=>E (v::vs)
def mH (P:Program) (S:AS) (xs:List ResultVar) (E:AV→Prop):Prop :=
 match xs with
 | []=>E (.tup [])
 | [x]=>o8 P S x E
 | xs=>o7 P S xs fun vs=>E (.tup vs)
theorem c2o {ag:Bool} {s:Nat} {a:AV} {ob:Nat→AV} {E:Eff→Prop} (h:jY ag s a ob E):∃ e,E e∧jY ag s a ob fun e'=>e'.val=e.val:=by
 unfold jY at h ⊢
 split at h
 ·exact⟨_,h.2,h.1,rfl⟩
 ·split at h
  ·rename_i h1
   exact⟨_,h.2,h.1,rfl⟩
  ·exact h.elim
 ·split at h
  ·rename_i h1
   exact⟨_,h.2.2.2,h.1,h.2.1,h.2.2.1,rfl⟩
  ·exact h.elim
 ·exact h.elim
theorem a5t {P:Program} {S:AS} {x:ResultVar} {E:AV→Prop} (h:o8 P S x E):∃ v,nR P S x v∧E v:=by
 cases x with
 | tmp t=>exact⟨_,rfl,h⟩
 | cell a t =>
  simp only[o8]at h
  split at h
  ·rename_i ag s h1 h2
   obtain⟨e,he,hl⟩:=c2o h.2
   exact⟨e.val,⟨ag,s,h1,h2,h.1,hl⟩,he⟩
  ·exact h.elim
theorem b7h {P:Program} {S:AS}:∀ {xs:List ResultVar} {E:List AV→Prop},o7 P S xs E→∃ vs:List AV,xs.length=vs.length∧(∀ i (h1:i<xs.length) (h2:i<vs.length),nR P S xs[i] vs[i])∧E vs:=by
 intro xs
 induction xs with
 | nil=>intro E h;exact⟨[],rfl,fun i h1=>by simp at h1,h⟩
 | cons x xs ih =>
  intro E h
  simp only[o7]at h
  obtain⟨v,h1,h2⟩:=a5t h
  obtain⟨vs,h3,h4,h5⟩:=ih h2
  refine⟨v::vs,by simp[h3],fun i a1 a2=>?_,h5⟩
  cases i with
  | zero=>exact h1
  | succ i=>exact h4 i (by simpa using a1) (by simpa using a2)
theorem wH {P:Program} {S:AS} {xs:List ResultVar} {E:AV→Prop} (h:mH P S xs E):∃ v,mI P S xs v∧E v:=by
 unfold mH at h
 split at h
 ·exact⟨_,rfl,h⟩
 ·obtain⟨v,h1,h2⟩:=a5t h;exact⟨v,h1,h2⟩
 ·rename_i h0 h1
  obtain⟨vs,a1,a2,a3⟩:=b7h h
  refine⟨_,?_,a3⟩
  match xs,h0,h1 with
  | x::y::r,_,_=>exact⟨vs,rfl,a1,a2⟩
  | [x],_,h1=>exact absurd rfl (h1 x)
  | [],h0,_=>exact absurd rfl h0
theorem uL {P:Program} {rs:List ResultVar} {r:AV} {S:AS} (h:mH P S rs fun x=>bwr (look S.o) x=r):RetA P rs r S:=wH h
theorem b9 {P:Program} {rs:List ResultVar} {r:AV} {post:List (Nat × AV)} {S:AS} (h:mH P S rs fun x=>x=r) (hp:∀ p∈post,look S.o p.1=p.2):RetB P rs r post S:=by
 obtain⟨v,h1,rfl⟩:=wH h
 exact⟨h1,hp⟩
theorem a7s (X Y:Prop):jF true true X Y=X:=by simp[jF]
theorem a7v (X Y:Prop):jF false false X Y=X:=by simp[jF]
theorem a7t (X Y:Prop):jF true false X Y=Y:=by simp[jF]
theorem a7u (X Y:Prop):jF false true X Y=Y:=by simp[jF]
def c8:AV→Bool
 | .lit _=>true
 | .agg cs=>flatBs cs
 | .tup cs=>flatBs cs
 | _=>false
where flatBs:List AV→Bool
 | []=>true
 | c::cs=>c8 c&&flatBs cs
mutual
theorem zI:∀ {a:AV},c8 a=true→Flat a
 | .lit v,_=>.lit v
 | .agg cs,h=>.agg cs (vT (by simpa only[c8]using h))
 | .tup cs,h=>.tup cs (vT (by simpa only[c8]using h))
 | .any,h=>by simp[c8]at h
 | .sl _,h=>by simp[c8]at h
 | .fp _,h=>by simp[c8]at h
 | .loc ..,h=>by simp[c8]at h
 | .ref ..,h=>by simp[c8]at h
 | .vp ..,h=>by simp[c8]at h
 | .clo ..,h=>by simp[c8]at h
 | .bs ..,h=>by simp[c8]at h
 | .zs,h=>by simp[c8]at h
 | .mp ..,h=>by simp[c8]at h
 | .mpo ..,h=>by simp[c8]at h
 | .blk _,h=>by simp[c8]at h
 | .vec ..,h=>by simp[c8]at h
theorem vT:∀ {cs:List AV},c8.flatBs cs=true→∀ c∈cs,Flat c
 | [],_,c,hc=>by simp at hc
 | x::xs,h,c,hc=>by
  simp only[c8.flatBs,Bool.and_eq_true]at h
  rcases Ae.1 hc with e|hc
  ·rw[e];exact zI h.1
  ·exact vT h.2 c hc
end
theorem dY {P : Program} {f : Nat} {args : List AV} {i : Nat} {ob : Nat → AV} {E : Eff → Prop} (r : AV) (hf : fnT P f = true) (hc : CallOK P f (args.map (bwa ob)) [] r []) (hin : ∀ a ∈ args.map (bwa ob), In (fun _ => False) a) (hr : Flat r)
  (h:E ⟨r,[],args.flatMap idA⟩):callV P f args i ob E:=.inl ⟨r,hf,hc,hin,hr,h⟩
theorem dT {P : Program} {f : Nat} {args : List AV} {i : Nat} {ob : Nat → AV} {E : Eff → Prop} (r : AV) (hf : fnT P f = true) (hc : CallOK P f args [] r []) (hin : ∀ a ∈ args, In (fun _ => False) a) (hr : In (fun _ => False) r)
  (h:E ⟨r,[],[]⟩):callV P f args i ob E :=
 .inr <| .inl ⟨[],r,[],hf,hc,fun p hp=>by simp at hp,fun a ha=>by
  have:=hin a ha
  have key:∀ {K K':Nat→Prop} {a:AV},In K a→(∀ l,K l→K' l)→In K' a:=by
   intro K K' a h hk
   induction h with
   | any=>exact .any
   | lit v=>exact .lit v
   | agg cs _ ih=>exact .agg cs ih
   | tup cs _ ih=>exact .tup cs ih
   | sl es _ ih=>exact .sl es ih
   | fp cs _ ih=>exact .fp cs ih
   | clo f cs _ ih=>exact .clo f cs ih
   | loc l o h=>exact .loc l o (hk l h)
   | ref l o n m h=>exact .ref l o n m (hk l h)
   | vp l i j m h=>exact .vp l i j m (hk l h)
   | bs l o k n h=>exact .bs l o k n (hk l h)
   | zs=>exact .zs
   | mp l h=>exact .mp l (hk l h)
  exact key this fun l h=>h.elim,fun p hp=>by simp at hp,by simp,hr,fun p hp=>by simp at hp,rfl,fun l hl=>by simp at hl,h⟩
theorem callV.flat {P:Program} {f:Nat} {args:List AV} {i:Nat} {ob:Nat→AV} {E:Eff→Prop} (r:AV) (hf:fnT P f=true) (hc:CallOK P f args [] r []) (ha:c8.flatBs args=true) (hr:c8 r=true) (h:E ⟨r,[],[]⟩):callV P f args i ob E :=
 dT r hf hc (fun a h=>(vT ha a h).in) (zI hr).in h
theorem a4h {P : Program} {f : Nat} {args : List AV} {i : Nat} {ob : Nat → AV} {E : Eff → Prop} (k : Nat) (es : List (List AV)) (hf : fnT P f = true) (hc : CallFr P f (args.map (bwa ob)) k es) (hin : ∀ a ∈ args.map (bwa ob), In (fun _ => False) a)
  (h:E ⟨.ref i 0 es.length es.length,[(i,.vec k es)],args.flatMap idA⟩):callV P f args i ob E:=.inr <| .inr <| .inl <| .inl ⟨k,es,hf,hc,hin,h⟩
theorem b4e {P : Program} {f : Nat} {args : List AV} {i : Nat} {ob : Nat → AV} {E : Eff → Prop} (k : Nat) (es : List (List AV)) (hf : fnT P f = true) (hc : CallVc P f args k es) (hin : ∀ a ∈ args, In (fun _ => False) a) (hes : ∀ e ∈ es, ∀ c ∈ e, In (fun _ => False) c)
  (h:E ⟨.ref i 0 es.length es.length,[(i,.vec k es)],[]⟩):callV P f args i ob E:=.inr <| .inr <| .inl <| .inr ⟨k,es,hf,hc,hin,hes,h⟩
theorem qY {P:Program} {rs:List ResultVar} {k:Nat} {es:List (List AV)} {S:AS} (h:mH P S rs fun x=>∃ l,x=.ref l 0 es.length es.length∧look S.o l=.vec k es):RetF P rs k es S:=by
 obtain⟨v,h1,l,rfl,h2⟩:=wH h
 exact⟨l,h1,h2⟩
theorem CallOK.flat {P : Program} {f : Nat} {fn : Func} {code : Code} {args : List AV} {r : AV} (hf : P.funcs[f]? = some fn) (hb : fn.body = some code) (nt : Nat) (hnt : fn.ntmps = nt) (ha : decide (args.length ≤ nt) = true) (hr : c8 r = true) (rs : List ResultVar) (hrs : fn.results.toList = rs)
  (h:AW P nt (RetA P rs r) [.code code] ⟨aD 0 args,[],8⟩):CallOK P f args [] r []:=by
 subst hnt
 subst hrs
 exact a6l hf hb (by simpa using ha) (zI hr).in h
theorem CallFr.flat {P : Program} {f : Nat} {fn : Func} {code : Code} {args : List AV} {k : Nat} {es : List (List AV)} (hf : P.funcs[f]? = some fn) (hb : fn.body = some code) (nt : Nat) (hnt : fn.ntmps = nt) (ha : decide (args.length ≤ nt) = true) (hfl : ∀ e ∈ es, ∀ c ∈ e, Flat c) (rs : List ResultVar) (hrs : fn.results.toList = rs)
  (h:AW P nt (RetF P rs k es) [.code code] ⟨aD 0 args,[],8⟩):CallFr P f args k es:=by
 subst hnt
 subst hrs
 exact b9q hf hb (by simpa using ha) hfl h
theorem CallVc.flat {P : Program} {f : Nat} {fn : Func} {code : Code} {args : List AV} {k : Nat} {es : List (List AV)} (hf : P.funcs[f]? = some fn) (hb : fn.body = some code) (nt : Nat) (hnt : fn.ntmps = nt) (ha : decide (args.length ≤ nt) = true) (hin : ∀ e ∈ es, ∀ c ∈ e, In (fun _ => False) c) (rs : List ResultVar) (hrs : fn.results.toList = rs)
  (h:AW P nt (RetF P rs k es) [.code code] ⟨aD 0 args,[],8⟩):CallVc P f args k es:=by
 subst hnt
 subst hrs
 exact b9o hf hb (by simpa using ha) hin h
theorem gM {P : Program} {f : Nat} {args : List AV} {i : Nat} {ob : Nat → AV} {E : Eff → Prop} (r : AV) (hf : fnT P f = true) (hc : CallNw P f (args.map (bwa ob)) r) (hin : ∀ a ∈ args.map (bwa ob), In (fun _ => False) a) (hr : In (fun _ => False) r)
  (h:E ⟨r,[],args.flatMap idA⟩):callV P f args i ob E:=.inr <| .inr <| .inr ⟨r,hf,hc,hin,hr,h⟩
theorem c8z {P:Program} {rs:List ResultVar} {r:AV} {S:AS} (h:mH P S rs fun x=>bwn (look S.o) x=r):RetN P rs r S:=wH h
theorem CallNw.flat {P : Program} {f : Nat} {fn : Func} {code : Code} {args : List AV} {r : AV} (hf : P.funcs[f]? = some fn) (hb : fn.body = some code) (nt : Nat) (hnt : fn.ntmps = nt) (ha : decide (args.length ≤ nt) = true) (hfl : FlatS r) (rs : List ResultVar) (hrs : fn.results.toList = rs)
  (h:AW P nt (RetN P rs r) [.code code] ⟨aD 0 args,[],8⟩):CallNw P f args r:=by
 subst hnt
 subst hrs
 exact b9p hf hb (by simpa using ha) hfl h
theorem fF {P : Program} {f : Nat} {fn : Func} {code : Code} {args : List AV} {r : AV} (hf : P.funcs[f]? = some fn) (hb : fn.body = some code) (nt : Nat) (hnt : fn.ntmps = nt) (ha : decide (args.length ≤ nt) = true) (hr : In (fun _ => False) r) (rs : List ResultVar) (hrs : fn.results.toList = rs)
  (h:AW P nt (RetA P rs r) [.code code] ⟨aD 0 args,[],8⟩):CallOK P f args [] r []:=by
 subst hnt
 subst hrs
 exact a6l hf hb (by simpa using ha) hr h
theorem fL {P : Program} {f : Nat} {fn : Func} {code : Code} {args : List AV} {pre post : List (Nat × AV)} {r : AV} (hf : P.funcs[f]? = some fn) (hb : fn.body = some code) (nt : Nat) (hnt : fn.ntmps = nt) (ha : decide (args.length ≤ nt) = true) (hn : ∀ p ∈ pre, p.1 < 8) (hin : In (fun _ => False) r)
  (hpost:∀ p∈post,p.1∈pre.map (·.1)∧InC (fun l=>l∈pre.map (·.1)) p.2) (rs:List ResultVar) (hrs:fn.results.toList=rs)
  (h:AW P nt (RetB P rs r post) [.code code] ⟨aD 0 args,pre,8⟩):CallOK P f args pre r post:=by
 subst hnt
 subst hrs
 exact b6f hf hb (by simpa using ha) hn hin hpost h
theorem c4u {P:Program} {nt:Nat} {R:AS→Prop} {k:List Itm} {S S':AS} (h:S=S'):AW P nt R k S=AW P nt R k S':=by rw[h]
def gH:List (Nat × AV)→List (Nat × AV)→Prop
 | [],_=>True
 | (i,a)::l,s=>look s i=a∧gH l s
theorem mY:∀ {l s:List (Nat × AV)},gH l s→∀ p∈l,look s p.1=p.2:=by
 intro l
 induction l with
 | nil=>intro s _ p hp;simp at hp
 | cons q l ih =>
  intro s h p hp
  obtain⟨i,a⟩:=q
  rcases Ae.1 hp with rfl|hp
  ·exact h.1
  ·exact ih h.2 p hp
def inT (n:Nat):List (Nat × AV)→Prop
 | []=>True
 | (_,a)::l=>In (fun k=>k<n) a∧inT n l
def inO (n:Nat):List (Nat × AV)→Prop
 | []=>True
 | (i,a)::l=>(i<n∧InC (fun k=>k<n) a)∧inO n l
theorem c3d {n:Nat}:∀ {l:List (Nat × AV)},inT n l→∀ p∈l,In (fun k=>k<n) p.2:=by
 intro l
 induction l with
 | nil=>intro _ p hp;simp at hp
 | cons q l ih =>
  intro h p hp
  obtain⟨i,a⟩:=q
  rcases Ae.1 hp with rfl|hp
  ·exact h.1
  ·exact ih h.2 p hp
theorem c3e {n:Nat}:∀ {l:List (Nat × AV)},inO n l→∀ p∈l,p.1<n∧InC (fun k=>k<n) p.2:=by
 intro l
 induction l with
 | nil=>intro _ p hp;simp at hp
 | cons q l ih =>
  intro h p hp
  obtain⟨i,a⟩:=q
  rcases Ae.1 hp with rfl|hp
  ·exact h.1
  ·exact ih h.2 p hp
theorem nF {S:AS} {t o:List (Nat × AV)} {n:Nat} (ht:gH t S.t) (ho:gH o S.o) (h8:8≤n) (hi:inT n t) (hj:inO n o):Weak S ⟨t,o,n⟩:=by
 by_cases h:S.nx≤n
 ·exact a5j (mY ht) (mY ho) h
 ·refine Weak.trans (a5j (nx:=S.nx) (mY ht) (mY ho) (Nat.le_refl _)) ?_
  exact b6d (S:=⟨t,o,S.nx⟩) h8 ⟨c3d hi,c3e hj⟩
theorem aR {S:AS} {t o:List (Nat × AV)} {n:Nat} (h:gH t S.t∧gH o S.o∧inT n t∧inO n o) (h8:8≤n:=by decide):Weak S ⟨t,o,n⟩ :=
 nF h.1 h.2.1 h8 h.2.2.1 h.2.2.2
theorem rR {K:Nat→Prop} (v:Value):In K (.lit v)=True:=eq_true (.lit v)
theorem d3a {K:Nat→Prop}:In K .any=True:=eq_true .any
theorem d3b {K:Nat→Prop} (cs:List AV):In K (.agg cs)=∀ c∈cs,In K c:=propext ⟨fun h=>by cases h;assumption,.agg cs⟩
theorem d2x {K:Nat→Prop} (cs:List AV):In K (.tup cs)=∀ c∈cs,In K c:=propext ⟨fun h=>by cases h;assumption,.tup cs⟩
theorem iI {K:Nat→Prop} (es:List (List AV)):In K (.sl es)=∀ e∈es,∀ c∈e,In K c:=propext ⟨fun h=>by cases h;assumption,.sl es⟩
theorem In_fp {K:Nat→Prop} (cs:List AV):In K (.fp cs)=∀ c∈cs,In K c:=propext ⟨fun h=>by cases h;assumption,.fp cs⟩
theorem d2z {K:Nat→Prop} (f:Nat) (cs:List AV):In K (.clo f cs)=∀ c∈cs,In K c:=propext ⟨fun h=>by cases h;assumption,.clo f cs⟩
theorem d2y {K:Nat→Prop} (l o:Nat):In K (.loc l o)=K l:=propext ⟨fun h=>by cases h;assumption,.loc l o⟩
theorem rQ {K:Nat→Prop} (l o n m:Nat):In K (.ref l o n m)=K l:=propext ⟨fun h=>by cases h;assumption,.ref l o n m⟩
theorem In_vp {K:Nat→Prop} (l o n m:Nat):In K (.vp l o n m)=K l:=propext ⟨fun h=>by cases h;assumption,.vp l o n m⟩
theorem In_mp {K:Nat→Prop} (l:Nat):In K (.mp l)=K l:=propext ⟨fun h=>by cases h;assumption,.mp l⟩
theorem yQ {K:Nat→Prop} (l o n m:Nat):In K (.bs l o n m)=K l:=propext ⟨fun h=>by cases h;assumption,.bs l o n m⟩
end Go.Sx
namespace Go.Sx
set_option linter.unusedVariables false
def nvL:List UInt8→Nat
 | []=>0
 | b::l=>b.toNat+256*nvL l
def nbL (n:Nat):List UInt8:=if h:n=0 then []else UInt8.ofNat (n % 256)::nbL (n / 256)
termination_by n
decreasing_by omega
def nv (m:ByteArray):Nat:=nvL m.data.toList
def nb (n:Nat):ByteArray:=⟨(nbL n).toArray⟩
theorem lQ:nbL 0=[]:=by unfold nbL;simp
theorem qO {n:Nat} (h:n≠0):nbL n=UInt8.ofNat (n % 256)::nbL (n / 256):=by rw[nbL];simp[h]
theorem c6y (n:Nat):nvL (nbL n)=n:=by
 induction n using Nat.strongRecOn with
 | _ n ih =>
  by_cases h:n=0
  ·subst h;rw[lQ];rfl
  ·rw[qO h]
   simp only[nvL]
   rw[ih (n / 256) (by omega)]
   have:(UInt8.ofNat (n % 256)).toNat=n % 256:=by simp
   rw[this]
   omega
@[simp] theorem aV (n:Nat):nv (nb n)=n:=by simp[nv,nb,c6y]
theorem rC {a b:Nat} (h:nb a=nb b):a=b:=by rw[← aV a,h,aV]
theorem eB:nb 0=⟨#[]⟩:=by simp[nb,lQ]
theorem gK (n:Nat):(nb n=⟨#[]⟩)↔n=0:=by
 constructor
 ·intro h;rw[← eB]at h;exact rC h
 ·rintro rfl;exact eB
theorem b5n (n k:Nat):(nbL n).length≤k↔n<256 ^ k:=by
 induction k generalizing n with
 | zero =>
  by_cases h:n=0
  ·subst h;simp[lQ]
  ·rw[qO h];simp;omega
 | succ k ih =>
  by_cases h:n=0
  ·subst h;simp[lQ];exact Nat.pow_pos (by decide)
  ·rw[qO h]
   simp only[Ab,Nat.add_le_add_iff_right,ih]
   rw[Ah,Nat.div_lt_iff_lt_mul (by decide)]
theorem cG (n k:Nat):(nb n).size≤k↔n<256 ^ k:=by
 have:(nb n).size=(nbL n).length:=by simp[nb,ByteArray.size]
 rw[this,b5n]
theorem x5 (l:List UInt8):nvL l<256 ^ l.length:=by
 induction l with
 | nil=>simp[nvL]
 | cons b l ih =>
  simp only[nvL,Ab,Ah]
  have:=b.toNat_lt
  have h2:nvL l+1≤256 ^ l.length:=ih
  have h3:(nvL l+1)*256≤256 ^ l.length*256:=Nat.mul_le_mul_right _ h2
  omega
theorem fH (m:ByteArray):nv m<256 ^ m.size:=by
 have e:m.size=m.data.toList.length:=by rw[Aa];rfl
 rw[e]
 exact x5 _
def iv (n:Bool) (m:ByteArray):Int:=if n then -(nv m:Int)else nv m
def Zn (z:Int):Bool:=decide (z<0)
def Zm (z:Int):ByteArray:=nb z.natAbs
abbrev eI (n:Bool) (m:ByteArray):List AV:=[.lit (.bool n),.lit (.string m)]
abbrev eZ (z:Int):List AV:=[.lit (.bool (Zn z)),.lit (.string (Zm z))]
@[simp] theorem bB (z:Int):iv (Zn z) (Zm z)=z:=by
 unfold iv Zn Zm
 rw[aV]
 by_cases h:z<0
 ·simp[h];omega
 ·simp[h];omega
@[simp] theorem aS (z:Int):nv (Zm z)=z.natAbs:=by simp[Zm]
theorem bX (z:Int) (k:Nat):(Zm z).size≤k↔z.natAbs<256 ^ k:=cG _ _
theorem of_nb (n:Bool) (k:Nat):(n&&!decide (nb k=⟨#[]⟩))=Zn (iv n (nb k))∧nb k=Zm (iv n (nb k)):=by
 unfold iv Zn Zm
 rw[aV]
 cases n
 ·refine⟨?_,?_⟩
  ·have:¬ ((k:Int)<0):=by omega
   simp[this]
  ·simp
 ·refine⟨?_,?_⟩
  ·by_cases h:k=0
   ·subst h;simp[eB]
   ·have h1:¬ nb k=⟨#[]⟩:=fun e=>h ((gK k).1 e)
    have h2:(-(k:Int))<0:=by omega
    simp[h1];omega
  ·simp
theorem vX (a b:List UInt8):nvL (a++b)=nvL a+256 ^ a.length*nvL b:=by
 induction a with
 | nil=>simp[nvL]
 | cons x a ih =>
  simp only[Aj,nvL,ih,Ab,Ah]
  grind
theorem c7c:∀ {l:List UInt8},(∀ h:l≠[],l.getLast h≠0)→nbL (nvL l)=l:=by
 intro l
 induction l with
 | nil=>intro _;simp[nvL,lQ]
 | cons b l ih =>
  intro h
  have hne:nvL (b::l)≠0:=by
   intro e
   simp only[nvL]at e
   by_cases hl:l=[]
   ·subst hl
    have:=h (by simp)
    simp only[List.getLast_singleton]at this
    apply this
    simp only[nvL]at e
    have:b.toNat=0:=by omega
    exact UInt8.toNat_inj.1 this
   ·have h2:=ih (fun h'=>by have:=h (by simp);rwa [Ai hl]at this)
    have h3:nvL l=0:=by omega
    rw[h3,lQ]at h2
    exact hl h2.symm
  rw[qO hne]
  simp only[nvL]
  have hb:=b.toNat_lt
  have e1:(b.toNat+256*nvL l) % 256=b.toNat:=by omega
  have e2:(b.toNat+256*nvL l) / 256=nvL l:=by omega
  rw[e1,e2]
  congr 1
  ·simp
  ·by_cases hl:l=[]
   ·subst hl;simp[nvL,lQ]
   ·exact ih (fun h'=>by have:=h (by simp);rwa [Ai hl]at this)
theorem d2p {a b:ByteArray} (h:a.data.toList=b.data.toList):a=b:=by
 cases a;cases b;simp only at h;congr;exact Array.toList_inj.1 h
theorem qX (m:ByteArray):m.size=m.data.toList.length:=by rw[Aa];rfl
theorem a2y {m:ByteArray} (h:m.size=0∨bt m (m.size - 1)≠0):nb (nv m)=m:=by
 apply d2p
 unfold nb nv
 simp only
 apply c7c
 intro hne
 have hs:=qX m
 have hl:m.data.toList.length≠0:=fun e=>hne (List.eq_nil_of_length_eq_zero e)
 rcases h with h|h
 ·omega
 ·intro e
  apply h
  unfold bt
  rw[Af]at e
  rw[Ag]at e
  have:m.size - 1<m.data.size:=by rw[hs,Aa];rw[Aa]at hl;omega
  have e2:m.data.getD (m.size - 1) 0=0:=by
   simp only[Ac,Ad this,Ak]
   simp only[hs]
   exact e
  rw[e2];rfl
theorem jV (m:ByteArray) (i:Nat):0≤bt m i∧bt m i<256:=by
 unfold bt;have:=(m.data.getD i 0).toNat_lt;omega
theorem a9i {m:ByteArray} (h0:0<m.size) (h:bt m (m.size - 1)=0):nv (m.extract 0 (m.size - 1))=nv m:=by
 have hs:=qX m
 unfold nv
 have hd:(m.extract 0 (m.size - 1)).data.toList=m.data.toList.take (m.data.toList.length - 1):=by
  rw[ByteArray.data_extract,Array.toList_extract,hs]
  simp
 rw[hd]
 generalize hl:m.data.toList=l at *
 have hne:l≠[]:=by intro e;subst e;simp only[Al]at hs;omega
 have hlast:l.getLast hne=0:=by
  unfold bt at h
  have hlt:m.size - 1<m.data.size:=by rw[← Aa,hl,hs];rw[hs]at h0;omega
  simp only[Ac,Ad hlt,Ak]at h
  rw[Af]
  have e1:l[l.length - 1]'(by rw[hs]at h0;omega)=m.data[m.size - 1]:=by
   subst hl
   simp only[Ag,hs]
  rw[e1]
  have:m.data[m.size - 1].toNat=0:=by omega
  exact UInt8.toNat_inj.1 this
 have:=List.dropLast_concat_getLast hne
 rw[← List.dropLast_eq_take]
 conv=>rhs;rw[← this]
 rw[vX,hlast]
 simp[nvL]
end Go.Sx
namespace Go.Sx
@[congr] theorem loadV_cg (ag:Bool) (s:Nat) (a:AV) (ob:Nat→AV) (E:Eff→Prop) (a':AV) (h_a:a=a'):jY ag s a ob E=jY ag s a' ob E:=by subst h_a;rfl
@[congr] theorem d3j (s:Nat) (a x:AV) (ob:Nat→AV) (E:Eff→Prop) (a':AV) (x':AV) (h_a:a=a') (h_x:x=x'):qZ s a x ob E=qZ s a' x' ob E:=by subst h_a h_x;rfl
@[congr] theorem binV_cg (P:Program) (op:BinOp) (t:TypeId) (x y:AV) (E:Eff→Prop) (x':AV) (y':AV) (h_x:x=x') (h_y:y=y'):sS P op t x y E=sS P op t x' y' E:=by subst h_x h_y;rfl
@[congr] theorem binI_cg (op:BinOp) (k:IntKind) (x y:Int) (E:Value→Prop)   : sT op k x y E=sT op k x y E:=by rfl
@[congr] theorem binS_cg (P:Program) (op:BinOp) (t:TypeId) (x y:Value) (E:Value→Prop)   : pI P op t x y E=pI P op t x y E:=by rfl
@[congr] theorem binG_cg (P:Program) (op:BinOp) (t:TypeId) (x y:List AV) (E:Eff→Prop)   : vJ P op t x y E=vJ P op t x y E:=by rfl
@[congr] theorem d3n (P:Program) (t:TypeId) (x:List (Nat × AV)) (E:Eff→Prop) (x':List (Nat × AV)) (h_x:x=x'):rK P t x E=rK P t x' E:=by subst h_x;rfl
@[congr] theorem litV_cg (P:Program) (t:TypeId) (n:Nat) (x:List (Nat × AV)) (i:Nat) (E:Eff→Prop) (x':List (Nat × AV)) (i':Nat) (h_x:x=x') (h_i:i=i'):sC P t n x i E=sC P t n x' i' E:=by subst h_x h_i;rfl
@[congr] theorem d3f (o:Nat) (x:AV) (E:AV→Prop) (x':AV) (h_x:x=x'):n5 o x E=n5 o x' E:=by subst h_x;rfl
@[congr] theorem faV_cg (P:Program) (t:TypeId) (n:Nat) (x:AV) (ob:Nat→AV) (E:Eff→Prop) (x':AV) (h_x:x=x'):faV P t n x ob E=faV P t n x' ob E:=by subst h_x;rfl
@[congr] theorem d3m (P:Program) (t:TypeId) (n:Nat) (x:AV) (E:Eff→Prop) (x':AV) (h_x:x=x'):rF P t n x E=rF P t n x' E:=by subst h_x;rfl
@[congr] theorem d3e (P:Program) (t:TypeId) (x y:AV) (ob:Nat→AV) (E:Eff→Prop) (x':AV) (y':AV) (h_x:x=x') (h_y:y=y'):pP P t x y ob E=pP P t x' y' ob E:=by subst h_x h_y;rfl
@[congr] theorem d3l (P:Program) (t:TypeId) (x y:AV) (E:Eff→Prop) (x':AV) (y':AV) (h_x:x=x') (h_y:y=y'):rD P t x y E=rD P t x' y' E:=by subst h_x h_y;rfl
@[congr] theorem d3g (n:Nat) (x:AV) (E:Eff→Prop) (x':AV) (h_x:x=x'):qC n x E=qC n x' E:=by subst h_x;rfl
@[congr] theorem convV_cg (P:Program) (t u:TypeId) (x:AV) (ob:Nat→AV) (E:Eff→Prop) (x':AV) (h_x:x=x'):r6 P t u x ob E=r6 P t u x' ob E:=by subst h_x;rfl
@[congr] theorem makeV_cg (P:Program) (t:TypeId) (x y:AV) (i:Nat) (E:Eff→Prop) (x':AV) (y':AV) (i':Nat) (h_x:x=x') (h_y:y=y') (h_i:i=i'):oW P t x y i E=oW P t x' y' i' E:=by subst h_x h_y h_i;rfl
@[congr] theorem appV_cg (P:Program) (t:TypeId) (x y:AV) (ob:Nat→AV) (i:Nat) (E:Eff→Prop) (x':AV) (y':AV) (i':Nat) (h_x:x=x') (h_y:y=y') (h_i:i=i'):sU P t x y ob i E=sU P t x' y' ob i' E:=by subst h_x h_y h_i;rfl
@[congr] theorem d3k (P:Program) (t:TypeId) (x:AV) (y z:Option AV) (ob:Nat→AV) (E:Eff→Prop) (x':AV) (y':Option AV) (z':Option AV) (h_x:x=x') (h_y:y=y') (h_z:z=z'):oS P t x y z ob E=oS P t x' y' z' ob E:=by subst h_x h_y h_z;rfl
@[congr] theorem lenV_cg (P:Program) (t:TypeId) (x:AV) (ob:Nat→AV) (E:Eff→Prop) (x':AV) (h_x:x=x'):sD P t x ob E=sD P t x' ob E:=by subst h_x;rfl
@[congr] theorem unV_cg (op:UnOp) (x:AV) (E:Eff→Prop) (x':AV) (h_x:x=x'):unV op x E=unV op x' E:=by subst h_x;rfl
@[congr] theorem nilV_cg (x:AV) (ob:Nat→AV) (E:Eff→Prop) (x':AV) (h_x:x=x'):vE x ob E=vE x' ob E:=by subst h_x;rfl
@[congr] theorem callV_cg (P:Program) (f:Nat) (x:List AV) (i:Nat) (ob:Nat→AV) (E:Eff→Prop) (x':List AV) (i':Nat) (h_x:x=x') (h_i:i=i'):callV P f x i ob E=callV P f x' i' ob E:=by subst h_x h_i;rfl
@[congr] theorem d3h (P:Program) (t:TypeId) (x y:AV) (ok:Bool) (ob:Nat→AV) (E:Eff→Prop) (x':AV) (y':AV) (h_x:x=x') (h_y:y=y'):qR P t x y ok ob E=qR P t x' y' ok ob E:=by subst h_x h_y;rfl
@[congr] theorem mupdV_cg (P:Program) (t:TypeId) (x y z:AV) (ob:Nat→AV) (E:Eff→Prop) (x':AV) (y':AV) (z':AV) (h_x:x=x') (h_y:y=y') (h_z:z=z'):rW P t x y z ob E=rW P t x' y' z' ob E:=by subst h_x h_y h_z;rfl
@[congr] theorem mentV_cg (P:Program) (t:TypeId) (x y:AV) (ob:Nat→AV) (E:Eff→Prop) (x':AV) (y':AV) (h_x:x=x') (h_y:y=y'):rX P t x y ob E=rX P t x' y' ob E:=by subst h_x h_y;rfl
@[congr] theorem estV_cg (x s y:AV) (ob:Nat→AV) (E:Eff→Prop) (x' s' y':AV) (h_x:x=x') (h_s:s=s') (h_y:y=y'):sF x s y ob E=sF x' s' y' ob E:=by subst h_x h_s h_y;rfl
@[congr] theorem rngV_cg (P:Program) (t:TypeId) (x:AV) (i:Nat) (ob:Nat→AV) (E:Eff→Prop) (x':AV) (h_x:x=x'):sA P t x i ob E=sA P t x' i ob E:=by subst h_x;rfl
@[congr] theorem clrV_cg (P:Program) (t:TypeId) (x:AV) (ob:Nat→AV) (E:Eff→Prop) (x':AV) (h_x:x=x'):sJ P t x ob E=sJ P t x' ob E:=by subst h_x;rfl
@[congr] theorem entV_cg (x:AV) (ob:Nat→AV) (E:Eff→Prop) (x':AV) (h_x:x=x'):sG x ob E=sG x' ob E:=by subst h_x;rfl
@[congr] theorem effV_cg (P:Program) (op:Op) (i:Nat) (ρ:Operand→AV) (ob:Nat→AV) (E:Eff→Prop) (op':Op) (h_op:op=op'):aK P op i ρ ob E=aK P op' i ρ ob E:=by subst h_op;rfl
@[congr] theorem gcase_cg (b w:Bool) (X Y:Prop) (b':Bool) (w':Bool) (h_b:b=b') (h_w:w=w'):jF b w X Y=jF b' w' X Y:=by subst h_b h_w;rfl
@[congr] theorem res1_cg (P:Program) (S:AS) (x:ResultVar) (E:AV→Prop)   : o8 P S x E=o8 P S x E:=by rfl
@[congr] theorem resL_cg (P:Program) (S:AS) (x:List ResultVar) (E:List AV→Prop)   : o7 P S x E=o7 P S x E:=by rfl
theorem c3w (k nt:Nat):(∀ d∈(some k).toList,d<nt)=(k<nt):=by simp
theorem c3x (nt:Nat):(∀ d∈(none:Option Nat).toList,d<nt)=True:=by simp
theorem c8w {α:Type} (p:α→Prop):(∀ x∈([]:List α),p x)=True:=by simp
attribute [go_sem ↓] c3w c3x c8w
structure Pk (α:Type) where
 run:α→Prop
def Tg {α:Type} (_:α):Type:=Unit
def tg {α:Type} (x:α):Tg x:=()
def hid {α:Type} (E:α→Prop) (_:Tg E):Pk α:=⟨E⟩
theorem c7u (E:Eff→Prop) (u:Tg E) (a:AV) (b:List (Nat × AV)) (c:List Nat):(hid E u).run ⟨a,b,c⟩=E ⟨a,b,c⟩:=rfl
def gcaseP (b want:Bool) (X Y:Prop) (_:Tg (X,Y)):Prop:=jF b want X Y
theorem b8o (X Y:Prop) (u:Tg (X,Y)):gcaseP true true X Y u=X:=a7s X Y
theorem b8r (X Y:Prop) (u:Tg (X,Y)):gcaseP false false X Y u=X:=a7v X Y
theorem b8p (X Y:Prop) (u:Tg (X,Y)):gcaseP true false X Y u=Y:=a7t X Y
theorem b8q (X Y:Prop) (u:Tg (X,Y)):gcaseP false true X Y u=Y:=a7u X Y
theorem a3h {b want:Bool} {X Y:Prop} {u:Tg (X,Y)} (h1:b=want→X) (h2:b=!want→Y):gcaseP b want X Y u:=⟨h1,fun h=>h2 (by cases b<;>cases want<;>simp_all)⟩
def aI (P:Program) (nt:Nat) (ops:List Oper) (o:Oper) (i:Nat) (S:AS) (K:AS→Eff→Prop) (_:Tg (ops,o,K)):Prop:=aM P nt ops o i S K
def aL (P:Program) (nt:Nat) (ops l:List Oper) (i:Nat) (S:AS) (fs:List Foot) (K:AS→List Foot→Prop) (_:Tg (ops,l,fs,K)):Prop:=aJ P nt ops l i S fs K
def a1y (ops:List Oper) (j:Nat):Option Nat:=(ops[j]?).bind (·.dst)
theorem b7f (P : Program) (nt : Nat) (ops : List Oper) (o : Oper) (l : List Oper) (i : Nat) (S : AS) (fs : List Foot) (K : AS → List Foot → Prop) (u : Tg (ops, o :: l, fs, K)) :
  aL P nt ops (o::l) i S fs K u=aI P nt ops o (S.nx+i) S (fun S' e=>aL P nt ops l (i+1) S' (fs++[e9 ops o (S.nx+i) e]) K (tg _)) (tg _):=rfl
theorem c1l (P : Program) (nt : Nat) (ops : List Oper) (i : Nat) (S : AS) (fs : List Foot) (K : AS → List Foot → Prop) (u : Tg (ops, [], fs, K)) :
  aL P nt ops [] i S fs K u=K S fs:=rfl
theorem b7v (P : Program) (nt : Nat) (ops : List Oper) (dst : Option Nat) (op : Op) (ty : TypeId) (pos : String) (af : Array Edge) (i : Nat) (S : AS) (K : AS → Eff → Prop) (u : Tg (ops, (⟨dst, op, ty, pos, af, none⟩ : Oper), K)) :
  aI P nt ops ⟨dst,op,ty,pos,af,none⟩ i S K u=((∀ d∈dst.toList,d<nt)∧aK P op i (rdO (look S.t)) (look S.o) (hid (fun e=>K (S.step dst e) e) (tg _)).run):=rfl
theorem b7u (P : Program) (nt : Nat) (ops : List Oper) (dst : Option Nat) (op : Op) (ty : TypeId) (pos : String) (af : Array Edge) (j : Nat) (want : Bool) (i : Nat) (S : AS) (K : AS → Eff → Prop) (u : Tg (ops, (⟨dst, op, ty, pos, af, some (j, want)⟩ : Oper), K)) :
  aI P nt ops ⟨dst,op,ty,pos,af,some (j,want)⟩ i S K u=((∀ d∈dst.toList,d<nt)∧match a1y ops j with
   | some d=>match look S.t d with
    | .lit (.bool b)=>gcaseP b want (aK P op i (rdO (look S.t)) (look S.o) (hid (fun e=>K (S.step dst e) e) (tg _)).run) (K (S.step dst ⟨.tup [],[],[]⟩) ⟨.tup [],[],[]⟩) (tg _)
    | .tup _=>K (S.step dst ⟨.tup [],[],[]⟩) ⟨.tup [],[],[]⟩
    | _=>False
   | none=>False):=by
 unfold aI aM rY a1y
 simp only
 cases (ops[j]?).bind (·.dst)<;>rfl
theorem iM {P:Program} {nt:Nat} {R:AS→Prop} {k:List Itm} {S:AS} {id:Nat} {l:List Oper} (h:aL P nt l l 0 S [] (fun S' _=>AW P nt R k { S' with nx:=S.nx+l.length }) (tg _)):AW P nt R (.code (.region id l.toArray false)::k) S:=AW.region h
theorem xD {P:Program} {nt:Nat} {R:AS→Prop} {k:List Itm} {S:AS} {id:Nat} {l:List Oper} (hm:P.follows .mixedOrders=true) (h:aL P nt l l 0 S [] (fun S' fs=>nD l.toArray fs=true∧AW P nt R k { S' with nx:=S.nx+l.length }) (tg _)):AW P nt R (.code (.region id l.toArray true)::k) S:=c9c hm h
theorem c6s {ops:Array Oper} {fs:List Foot} {X:Prop} (h:nD ops fs=true) (hx:X):nD ops fs=true∧X:=⟨h,hx⟩
attribute [go_sem ↓] b7v b7u c7u sT pI n5 aK
attribute [go_sem] b7f c1l b8o b8r b8p b8q a1y
attribute [go_sem] a7s a7u a7t a7v sD oW sU oS rV sJ
attribute [congr] c4u
theorem c6p (ρ:Nat→AV) (t:Nat):rdO ρ (.tmp t)=ρ t:=rfl
theorem b7j (ρ:Nat→AV) (v:Value):rdO ρ (.const v)=uF v:=rfl
theorem c1p (ρ:Nat→AV) (f:Nat):rdO ρ (.func f)=.clo f []:=rfl
theorem b7z (i l:Nat) (a:AV) (r:List (Nat × AV)):look ((i,a)::r) l=if i=l then a else look r l:=rfl
theorem c2n (l:Nat):look [] l=.any:=rfl
attribute [go_sem ↓] c6p b7j c1p
attribute [go_sem] b7z c2n uF AS.step rY vA AV.solid AV.cells mk LK.fits nW vJ sS bnd rK bw bwa idA pD bwc bwr bwn lF ceq fC r6 jN qC faV rF oX nJ pP rD sC jY oW rV vE rT o8 mH o7 oS qZ unV mmV qR rW rX sF sA sG nH valOf nV
attribute [go_sem] false_implies implies_true Aj List.nil_append List.append_assoc true_and and_true false_and and_false List.size_toArray Ab Al List.length_append List.getElem?_cons_zero List.getElem?_cons_succ Option.bind_some Option.bind_none List.map_cons List.map_nil List.take List.drop List.headD_cons not_true_eq_false not_false_eq_true ne_eq true_or or_true false_or or_false Bool.false_eq_true decide_true decide_false Bool.and_self Bool.and_true Bool.true_and Bool.and_false Bool.false_and Bool.or_true Bool.true_or Bool.or_false Bool.false_or Bool.not_true Bool.not_false beq_self_eq_true eq_self_iff_true List.getD_cons_zero List.getD_cons_succ List.set_cons_zero List.set_cons_succ List.flatMap_cons List.flatMap_nil List.flatten_cons List.flatten_nil Option.isSome_some Option.isNone_none Option.map_none Option.map_some
attribute [go_sem] gH inT inO rR d3a d3b d2x iI In_fp d2z d2y rQ In_vp yQ In_mp InC List.forall_mem_cons
theorem c6a {a b:Int} (h:0≤a):a.tdiv b=a / b:=Int.tdiv_eq_ediv_of_nonneg h
theorem c5z {a b:Int} (h:0≤a):a.tmod b=a % b:=Int.tmod_eq_emod_of_nonneg h
theorem a9z {a b:Int} (h:0≤b):a.fdiv b=a / b:=Int.fdiv_eq_ediv_of_nonneg a h
theorem wrap64 {n:Int} (h:-9223372036854775808≤n) (h2:n<9223372036854775808):IntKind.i64.wrap n=n:=by rw[IntKind.wrap_i64];omega
theorem kG {n:Int} (h:0≤n) (h2:n<256):IntKind.u8.wrap n=n:=by simp[IntKind.wrap,IntKind.bits,IntKind.signed];omega
theorem a0z {n:Int} (h:0≤n) (h2:n<4294967296):IntKind.u32.wrap n=n:=by simp[IntKind.wrap,IntKind.bits,IntKind.signed];omega
theorem xG {n:Int} (h:0≤n) (h2:n<18446744073709551616):IntKind.u64.wrap n=n:=by simp[IntKind.wrap,IntKind.bits,IntKind.signed];omega
end Go.Sx
