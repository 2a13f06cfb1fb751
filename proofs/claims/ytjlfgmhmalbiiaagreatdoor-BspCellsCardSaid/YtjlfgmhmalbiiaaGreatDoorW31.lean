import Derived.Test.YtjlfgmhmalbiiaaGreatDoorW29
set_option linter.all false
set_option maxHeartbeats 16000000
open Array renaming getElem?_setIfInBounds → Ad, mem_toList_iff → Ah, mem_filter → Ak
open Int renaming neg_ediv_of_dvd → Ab, dvd_neg → Ai
open List renaming getElem?_eq_getElem → Ae, take_of_length_le → Af, mem_iff_getElem → Ag
open Nat renaming le_trans → Aa, reduceAdd → Ac, lt_of_le_of_lt → Aj, le_refl → Al
namespace Go.Sx
open Go.MapKept Go.ChangeMaps
set_option linter.unusedVariables false
set_option linter.unusedSimpArgs false
theorem b5m {c : Cx} {g : Gh} {ob : Nat → AV} (hg : GOk c g ob) {r l n : Nat} {seen seen' : List Nat} (hob : ob r = .ito l n seen) :
  ∃ g':Gh,g'.w=setBlock g.w (g.blk r) (.mapIter (some (g.blk l)) n seen'.toArray n)∧Ev g g'∧GOk c g' (upd ob [(r,.ito l n seen')])∧∀ l,g'.us l→g.us l:=by
 have hok:=hg.obj r
 rw[hob]at hok
 obtain⟨hus,hul,hb⟩:=hok
 have hown:=hg.own r (g.blk r) (by rw[hob];rfl)
 have hlt:g.blk r<g.w.heap.size:=(Array.getElem?_eq_some_iff.1 hb).1
 let o:Obj:=.mapIter (some (g.blk l)) n seen'.toArray n
 have hold:∀ b,b≠g.blk r→(g.w.heap.setIfInBounds (g.blk r) o)[b]?=g.w.heap[b]?:=fun b hb=>by
  rw[Ad];simp[Ne.symm hb]
 have he:Ev g { g with w:=setBlock g.w (g.blk r) o } :=
  ⟨fun b hb=>⟨hb,hold b (fun e=>hown.2 (e▸hb))⟩,fun l hl=>⟨hl,rfl,Al _,fun _=>rfl⟩⟩
 refine⟨_,rfl,he,?_,fun l hl=>hl⟩
 refine hg.turn he r (.ito l n seen') rfl Tp.rfl rfl (by simp[setBlock]) rfl (fun l hl=>⟨rfl,rfl,rfl⟩) (fun b hb hne=>?_) ?_ ?_
 ·refine hold b fun e=>hne ?_
  rw[hob,e];rfl
 ·refine⟨hus,hul,?_⟩
  show (g.w.heap.setIfInBounds (g.blk r) _)[g.blk r]?=_
  rw[Ad];simp only[hlt,if_true];rfl
 ·intro b hb
  left
  rw[hob];exact hb
theorem AW.next {P : Program} {nt : Nat} {R : AS → Prop} {k : List Itm} {S : AS} {id it d0 d1 r l n : Nat} {seen : List Nat} {es : List (Value × Value)} {t0 t1 : TypeId} {p0 p1 : String} {a1 : Array Edge}
  (h0:d0<nt) (h1:d1<nt) (hit:look S.t it=.loc r 0) (hr:look S.o r=.ito l n seen) (hl:look S.o l=.mpo es) (hn:es.length=n)
  (hmore:∀ j,j<n→j∉seen→AW P nt R k { t:=(d1,.lit (.bool true))::(d0,.tup [.lit (.bool true),.any,.any])::S.t,o:=(r,.ito l n (seen++[j]))::S.o,nx:=S.nx+2 })
  (hover:(∀ j,j<n→j∈seen)→AW P nt R k { t:=(d1,.lit (.bool false))::(d0,.tup [.lit (.bool false)])::S.t,o:=S.o,nx:=S.nx+2 }) :
  AW P nt R (.code (.region id #[⟨some d0,.next (.tmp it) false,t0,p0,#[],none⟩,⟨some d1,.extract (.tmp d0) 0,t1,p1,a1,none⟩] false)::k) S:=by
 intro c a w hP hs
 subst hP
 refine wpIn_region ?_
 have hran:List.range (#[(⟨some d0,.next (.tmp it) false,t0,p0,#[],none⟩:Oper),⟨some d1,.extract (.tmp d0) 0,t1,p1,a1,none⟩]:Array Oper).size=[0,1]:=rfl
 rw[hran,wpOpsIn_cons]
 obtain⟨g,rfl,hg,ht,hsz,hu,hln,h8⟩:=hs
 have hitv:=ht.2 it
 rw[hit]at hitv
 have hob:=hg.obj r
 rw[hr]at hob
 obtain⟨hur,hul,hbr⟩:=hob
 have hobl:=hg.obj l
 rw[hl]at hobl
 obtain⟨_,arr,clock,hbl,hm⟩:=hobl
 have hcl:clock=n:=by rw[hm.clock,hn]
 subst hcl
 have hev:a.eval (.tmp it)=.pointer (some ⟨g.blk r,0,none⟩):=by
  show a.tmps.getD it undef=_
  generalize a.tmps.getD it undef=v at hitv
  cases hitv
  rfl
 have fin : ∀ (b : Bool) (vs : Array Value) (xs : List AV) (o' : List (Nat × AV)) (g' : Gh), Ev g g' → GOk c g' (upd (look S.o) o') → (∀ l, g'.us l → g.us l) → Rel g' (.tup (.lit (.bool b) :: xs)) (.tuple vs) →
   AW c.P nt R k { t:=(d1,.lit (.bool b))::(d0,.tup (.lit (.bool b)::xs))::S.t,o:=o'++S.o,nx:=S.nx+2 } →
   wpOpsIn (Fw c.ro) 0 c.P #[⟨some d0,.next (.tmp it) false,t0,p0,#[],none⟩,⟨some d1,.extract (.tmp d0) 0,t1,p1,a1,none⟩] (iH c nt (Qof c.P nt R k)) [1] (a.put (some d0) (.tuple vs)) g'.w:=by
  intro b vs xs o' g' he hg' hus hrel hk
  rw[wpOpsIn_cons]
  have hone:aK c.P nt [⟨some d0,.next (.tmp it) false,t0,p0,#[],none⟩,⟨some d1,.extract (.tmp d0) 0,t1,p1,a1,none⟩] ⟨some d1,.extract (.tmp d0) 0,t1,p1,a1,none⟩ (S.nx+1) { t:=(d0,.tup (.lit (.bool b)::xs))::S.t,o:=o'++S.o,nx:=S.nx } fun S' e=>e=⟨.lit (.bool b),[],[]⟩:=by
   refine⟨by simpa using h1,?_⟩
   simp[aI,rdO,look,n8]
  obtain⟨e,rfl,hd,hst⟩:=a0j (ops:=#[⟨some d0,.next (.tmp it) false,t0,p0,#[],none⟩,⟨some d1,.extract (.tmp d0) 0,t1,p1,a1,none⟩]) hone
  have htk:TOk g' (look ((d0,.tup (.lit (.bool b)::xs))::S.t)) (a.put (some d0) (.tuple vs)):=by
   have:=(ht.mono he).put (dst:=some d0) (v:=.tuple vs) (x:=.tup (.lit (.bool b)::xs)) (by rintro d ⟨⟩;rw[hsz.1];exact h0) hrel
   have e:(fun t=>if some d0=some t then AV.tup (.lit (.bool b)::xs)else look S.t t)=look ((d0,.tup (.lit (.bool b)::xs))::S.t):=by
    funext t;simp[look]
   rw[e]at this
   exact this
  refine wpOp_step (o:=⟨some d1,.extract (.tmp d0) 0,t1,p1,a1,none⟩) (U:=fun l=>l<S.nx+1) rfl hst (fun _ _=>rfl) (fun _ _=>rfl) hd (by omega)
   ⟨g',rfl,by rw[sI];exact hg',htk,hsz.put _ _,fun l hl=>by have:=hu l (hus l hl);omega,hln.mono he⟩ fun a2 w2 hsim=>?_
  refine⟨c,_,.refl c,hk,?_⟩
  obtain⟨g2,rfl,hg2,ht2,hsz2,hu2,hln2⟩:=hsim
  refine⟨g2,rfl,?_,?_,hsz2,fun l hl=>?_,hln2,by simp only;omega⟩
  ·rw[sI]at hg2 ⊢;exact hg2
  ·have e:(fun t=>if some d1=some t then AV.lit (.bool b)else look ((d0,.tup (.lit (.bool b)::xs))::S.t) t)=look ((d1,.lit (.bool b))::(d0,.tup (.lit (.bool b)::xs))::S.t):=by
    funext t;simp[look]
   rw[← e];exact ht2
  ·rcases hu2 l hl with h|h<;>simp only<;>omega
 have hw:Region.wanted ⟨some d0,.next (.tmp it) false,t0,p0,#[],none⟩ (yielded #[⟨some d0,.next (.tmp it) false,t0,p0,#[],none⟩,⟨some d1,.extract (.tmp d0) 0,t1,p1,a1,none⟩] a.tmps)=true:=by simp[Region.wanted]
 unfold wpOpIn
 simp only[show (#[(⟨some d0,.next (.tmp it) false,t0,p0,#[],none⟩:Oper),⟨some d1,.extract (.tmp d0) 0,t1,p1,a1,none⟩]:Array Oper)[0]?=some ⟨some d0,.next (.tmp it) false,t0,p0,#[],none⟩from rfl]
 rw[if_pos hw]
 have hold:∀ x∈arr.toList,x.born<clock:=fun x hx=>by
  obtain⟨i,hi,rfl⟩:=Ag.1 hx
  rw[hm.born i _ (Ae hi),hm.clk]
  simpa using hi
 rcases run_next_at (P:=c.P) g.w t0 (g.blk r) (g.blk l) clock clock seen.toArray arr clock hbr hbl hold (Al _)with⟨hz,hrun⟩|⟨e,he,w1,hw1,hrun⟩
 ·have:(execOp a.eval ⟨some d0,.next (.tmp it) false,t0,p0,#[],none⟩).run c.P g.w=.ok (.value (.tuple #[.bool false])) g.w:=by
   simp only[execOp,hev,Sem.run_bind,hrun,Result.andThen]
   rfl
  refine yO (fun cl=>by simp) this ?_
  refine fin false #[.bool false] [] [] g (Ev.refl g) hg (fun l hl=>hl) (.tup _ _ rfl fun i h1 h2=>?_) ?_
  ·match i,h1 with
   | 0,_=>exact .lit _
  ·refine hover fun j hj=>?_
   have hja:j<arr.size:=by rw[← hm.clk];exact hj
   have hbj:arr[j].born=j:=hm.born j arr[j] (by simp[hja])
   have hmem:¬ (arr[j]∈leftOf arr seen.toArray):=by
    intro h
    have:=Array.size_pos_of_mem h
    omega
   unfold leftOf at hmem
   rw[Ak]at hmem
   simp only[hbj,Array.getElem_mem,true_and]at hmem
   simpa using hmem
 ·have hmem:e∈arr.toList∧e.born∉seen:=by
   unfold leftOf at he
   have:=Ak.1 (Ah.1 he)
   exact⟨Ah.2 this.1,by simpa using this.2⟩
  obtain⟨i,hi,hie⟩:=Ag.1 hmem.1
  have hib:e.born=i:=by rw[← hie];exact hm.born i _ (Ae hi)
  have hin:i<clock:=by rw[hm.clk];simpa using hi
  have hw1h:w1.heap=g.w.heap:=by rcases hw1 with rfl|rfl<;>rfl
  obtain⟨he1,hg1⟩:Ev g { g with w:=w1 }∧GOk c { g with w:=w1 } (look S.o):=by
   rcases hw1 with rfl|rfl
   ·exact⟨Ev.refl g,hg⟩
   ·exact hg.same g.w.drew rfl rfl ⟨rfl,Nat.le_succ _⟩ rfl
  obtain⟨g',b1,b2,b3,b4⟩:=b5m hg1 (seen':=seen++[i]) hr
  have:(execOp a.eval ⟨some d0,.next (.tmp it) false,t0,p0,#[],none⟩).run c.P g.w=.ok (.value (.tuple #[.bool true,e.key,e.val])) g'.w:=by
   rw[b1]
   simp only[execOp,hev,Sem.run_bind,hrun,Result.andThen,hib]
   simp
  refine yO (fun cl=>by simp) this ?_
  refine fin true #[.bool true,e.key,e.val] [.any,.any] [(r,.ito l clock (seen++[i]))] g' (he1.trans b2) b3 (fun l hl=>b4 l hl) (.tup _ _ rfl fun q h1 h2=>?_) (hmore i hin (hib▸hmem.2))
  match q,h1 with
  | 0,_=>exact .lit _
  | 1,_=>exact .any _
  | 2,_=>exact .any _
end Go.Sx
namespace Go.Proofs.Vx
open Go Go.Sx Go.Proofs Tryz
attribute [local irreducible] fnT CallOK CallFr AW aI callV aL aJ aH aK gcaseP hid
theorem c0o {n m:Nat} {X:List Int} (h:ofI X++nbL m=nbL n) (hm:m≠0):ofI (X++[((m % 256:Nat):Int)])++nbL (m / 256)=nbL n:=by
 rw[p5 hm]at h
 rw[← h]
 unfold ofI
 rw[List.map_append,List.append_assoc]
 rfl
theorem c5l {n:Nat} (h:n<18446744073709551616):(nbL n).length≤8:=by
 have:=(cO (n:Int) 8).2 (by simpa using h)
 exact this
theorem c154 (n:Nat) (hn:n<18446744073709551616):CallOK prog 154 [.lit (.int .u64 n)] [] (.lit (.string (nb n))) []:=by
 refine zs func154 17 [.tmp 2] results154 ?_
 simp only[aD,Ac]
 have hml:maxLen=9223372036854775807:=rfl
 have hi0:aG .u8 []=[]:=rfl
 repeat'(first|refine zk ?_|(refine zu ?_ ?_<;>intro hc)|(refine zv ?_ ?_<;>intro hg)|omega|simp -dsimp (disch:=try exact zo)only[go_sem]|contradiction|rfl)
 refine AW.loop (fun z:{p:Nat × List Int // gG p.2∧p.1<18446744073709551616∧ofI p.2++nbL p.1=nbL n}=>⟨[(0,.lit (.int .u64 z.1.1)),(3,.ref 9 0 z.1.2.length z.1.2.length)],[(9,.vec 1 (aG .u8 z.1.2))],40⟩) (fun z=>z.1.1) ⟨(n,[]),fun x hx=>by simp at hx,hn,rfl⟩ zw ?_
 rintro⟨⟨m,X⟩,dX,hm,hX⟩
 dsimp only at dX hm hX ⊢
 have hXs:X.length+(nbL m).length=(nbL n).length:=by rw[← hX,List.length_append];simp[ofI]
 have hl8:=c5l hn
 by_cases h0:0<m
 ·have hm1:(m:Int) % 256=((m % 256:Nat):Int):=by omega
  have hm2:(m:Int) / 256=((m / 256:Nat):Int):=by omega
  have hlt:m % 256<256:=Nat.mod_lt _ (by decide)
  have dX1:=pS dX (d:=((m % 256:Nat):Int)) (by omega)
  have hst:=c0o hX (by omega)
  have hXl:(X++[((m % 256:Nat):Int)]).length=X.length+1:=by simp
  have hdl:m / 256<m:=Nat.div_lt_self h0 (by decide)
  clear hX
  repeat'(first|refine zk ?_|(refine zu ?_ ?_<;>intro hc)|(refine zv ?_ ?_<;>intro hg)|omega|simp -dsimp (disch:=try exact zo)only[go_sem,hm1,hm2,bT,gH]|contradiction|rfl)
  all_goals exact AW.stop ⟨⟨(m / 256,X++[((m % 256:Nat):Int)]),dX1,by dsimp only;omega,hst⟩,(aQ (by refine⟨?_,?_,?_,?_⟩<;>first|(simp -dsimp (disch:=try exact zo)only[go_sem,ZC,hXl,gH,hm1,hm2];done)|(simp -dsimp (disch:=try exact zo)only[go_sem,ZC];done))),by dsimp only;omega⟩
 ·obtain rfl:m=0:=by omega
  have hfin:(⟨(ofI X).toArray⟩:ByteArray)=nb n:=by
   unfold nb
   rw[kV,List.append_nil]at hX
   rw[hX]
  clear hX
  repeat'(first|refine zk ?_|(refine zu ?_ ?_<;>intro hc)|(refine zv ?_ ?_<;>intro hg)|omega|simp -dsimp (disch:=try exact zo)only[go_sem,bT]|contradiction|rfl)
  all_goals
   refine⟨ofI X,by first|exact iC _ dX|(rw[Af (by first|omega|(rw[bT];omega))];exact iC _ dX),?_⟩
   repeat'(first|refine zk ?_|(refine zu ?_ ?_<;>intro hc)|(refine zv ?_ ?_<;>intro hg)|omega|simp -dsimp (disch:=try exact zo)only[go_sem,hfin]|contradiction|rfl)
theorem c9v (n:Bool) (m:ByteArray):iv (!n) m=-iv n m:=by cases n<;>simp[iv]
theorem c85 (n:Bool) (m:ByteArray) (hm:m.size<4611686018427387904):CallOK prog 85 [.agg [.lit (.bool n),.lit (.string m)]] [] (.agg (eZ (iv n m))) []:=by
 refine zs func85 8 [.cell 2 24] results85 ?_
 simp only[aD,Ac]
 have co:=nR n m hm
 generalize iv n m=z at *
 exact z1
theorem c89 (n:Bool) (m:ByteArray) (hm:m.size<4611686018427387904):CallOK prog 89 [.agg [.lit (.bool n),.lit (.string m)]] [] (.agg (eZ (-iv n m))) []:=by
 refine zs func89 9 [.cell 2 24] results89 ?_
 simp only[aD,Ac]
 have co:=nR (!n) m hm
 rw[c9v]at co
 generalize -iv n m=z at *
 exact z1
theorem b1m (b:Bool) (k:Nat):iv b (nb k)=if b then -(k:Int)else k:=by unfold iv;rw[aU]
theorem c87 (z:Int) (h1:-9223372036854775808≤z) (h2:z<9223372036854775808):CallOK prog 87 [.lit (.int .i64 z)] [] (.agg (eZ z)) []:=by
 refine zs func87 16 [.cell 2 24] results87 ?_
 simp only[aD,Ac]
 by_cases h0:z<0
 ·have c4:=c154 (-z).toNat (by omega)
  have co:=nR true (nb (-z).toNat) (Aj ((b9 _ 8).2 (by omega)) (by decide))
  have e:iv true (nb (-z).toNat)=z:=by rw[b1m];simp only[if_true];omega
  rw[e]at co
  have hk:((-z).toNat:Int)=0 - (z+1)+1:=by omega
  rw[hk]at c4
  generalize nb (-z).toNat=s at *
  clear e hk
  exact z1
 ·have c4:=c154 z.toNat (by omega)
  have co:=nR false (nb z.toNat) (Aj ((b9 _ 8).2 (by omega)) (by decide))
  have e:iv false (nb z.toNat)=z:=by rw[b1m];simp only[Bool.false_eq_true,if_false];omega
  rw[e]at co
  have hk:(z.toNat:Int)=z:=by omega
  rw[hk]at c4
  generalize nb z.toNat=s at *
  clear e hk
  exact z1
def gR (r:RP):Bool:=decide (6<r.m1.size)||decide (6<r.m2.size)||decide (6<r.m3.size)||decide (6<r.m4.size)
theorem a6s {r:RP} (h:gR r=false):r.m1.size≤6∧r.m2.size≤6∧r.m3.size≤6∧r.m4.size≤6:=by
 unfold gR at h
 simp only[Bool.or_eq_false_iff,decide_eq_false_iff_not,Nat.not_lt]at h
 omega
end Go.Proofs.Vx
namespace Go.Proofs.Vx
open Go Go.Sx Go.Proofs Tryz
attribute [local irreducible] fnT CallOK CallFr AW aI callV aL aJ aH aK gcaseP hid
theorem c86z (z:Int) (h:(Zm z).size≤268435456):CallOK prog 86 [.agg (eZ z)] [] (.lit (.int .i64 (sg z))) []:=by
 have:=c86 (Zn z) (Zm z) (by omega)
 rw[bA]at this
 exact this
theorem c89z (z:Int) (h:(Zm z).size≤268435456):CallOK prog 89 [.agg (eZ z)] [] (.agg (eZ (-z))) []:=by
 have:=c89 (Zn z) (Zm z) (by omega)
 rw[bA]at this
 exact this
theorem iQ (z:Int) (g:Nat) (hg:0<g) (hd:(g:Int)∣z) (h:(Zm z).size≤268435456) (hgs:(nb g).size≤268435456):CallOK prog 90 [.agg (eZ z),.agg [.lit (.bool false),.lit (.string (nb g))]] [] (.tup [.agg (eZ (z / (g:Int))),.agg (eZ 0),.lit (.bool true)]) []:=by
 have:=c90 (Zn z) (Zm z) g hg (by rw[aR];exact Int.ofNat_dvd_left.1 hd) h hgs
 rw[bA]at this
 exact this
theorem c88z (x y z w : Int) (h1 : (Zm x).size ≤ 268435456) (h2 : (Zm y).size ≤ 268435456) (h3 : (Zm z).size ≤ 268435456) (h4 : (Zm w).size ≤ 268435456) :
  CallOK prog 88 [.sl [eZ x,eZ y,eZ z,eZ w]] [] (.agg [.lit (.bool false),.lit (.string (nb (g4 x y z w)))]) []:=by
 have:=c88x (Zn x) (Zn y) (Zn z) (Zn w) (Zm x) (Zm y) (Zm z) (Zm w) h1 h2 h3 h4
 simp only[bA]at this
 exact this
theorem c6c {x y z w:Int} {k:Nat} (hx:(Zm x).size≤k) (hy:(Zm y).size≤k) (hz:(Zm z).size≤k) (hw:(Zm w).size≤k):(nb (g4 x y z w)).size≤k:=by
 unfold g4
 rw[← aR x,← aR y,← aR z,← aR w]
 exact n7 (n7 (n7 (Aa (dH _) hx) (Aa (dH _) hy)) (Aa (dH _) hz)) (Aa (dH _) hw)
theorem nC {n:Bool} {m:ByteArray} {k:Nat} (h:m.size≤k):(Zm (iv n m)).size≤k:=Aa (eA n m) h
set_option maxRecDepth 20000 in
theorem c29 (n1 n2 n3 n4:Bool) (m1 m2 m3 m4:ByteArray) (h1:m1.size≤268435456) (h2:m2.size≤268435456) (h3:m3.size≤268435456) (h4:m4.size≤268435456):CallOK prog 29 [.agg [.lit (.bool n1),.lit (.string m1),.lit (.bool n2),.lit (.string m2),.lit (.bool n3),.lit (.string m3),.lit (.bool n4),.lit (.string m4)]] [] (.agg (eP (nrm (iv n1 m1) (iv n2 m2) (iv n3 m3) (iv n4 m4)))) []:=by
 refine zs func29 76 [.cell 2 51] results29 ?_
 simp only[aD,Ac]
 have hml:maxLen=9223372036854775807:=rfl
 have N1:=c85 n1 m1 (by omega)
 have N2:=c85 n2 m2 (by omega)
 have N3:=c85 n3 m3 (by omega)
 have N4:=c85 n4 m4 (by omega)
 have zx:=nC (n:=n1) h1
 have zy:=nC (n:=n2) h2
 have zz:=nC (n:=n3) h3
 have zw:=nC (n:=n4) h4
 generalize iv n1 m1=x at *
 generalize iv n2 m2=y at *
 generalize iv n3 m3=z at *
 generalize iv n4 m4=w at *
 have s0:=c86z w zw
 have zW:(Zm (nz w)).size≤268435456:=a1t zw (by decide)
 have sW:=c86z (nz w) zW
 have cg:=c88z x y z (nz w) zx zy zz zW
 obtain⟨e1,e2,e3,e4'⟩:=j4 x y z (nz w)
 have hG:=uD (x:=x) (y:=y) (z:=z) (rC w)
 have hGs:=c6c zx zy zz zW
 unfold nrm
 unfold turn
 by_cases hw0:w=0
 ·have hz:nz w=1:=if_pos hw0
  have k0:(sg w=0)=True:=eq_true (fZ.2 hw0)
  have c1:=c87 1 (by decide) (by decide)
  simp only[hz]at s0 zW sW cg e1 e2 e3 e4' hG hGs ⊢
  have kW:(sg 1<0)=False:=eq_false (by decide)
  have hn:¬ (1:Int)<0:=by decide
  simp only[if_neg hn]
  have t1:True:=trivial
  have d1:=iQ x _ hG e1 zx hGs
  have t2:True:=trivial
  have d2:=iQ y _ hG e2 zy hGs
  have t3:True:=trivial
  have d3:=iQ z _ hG e3 zz hGs
  have t4:True:=trivial
  have d4:=iQ 1 _ hG e4' zW hGs
  clear e1 e2 e3 e4' hG hGs zx zy zz zw zW hz
  generalize g4 x y z 1=G at *
  clear hw0
  repeat'(first|refine zg ?_|refine dG 6 ?_|(refine zc ?_ ?_<;>intro hc<;>first|simp only[NM]at hc|omega|skip)|refine zr ?_|(first|refine zf N1 ?_|refine zf N2 ?_|refine zf N3 ?_|refine zf N4 ?_)|(first|refine zf sW ?_|refine zf s0 ?_)|(refine zf c1 ?_)|(refine iA _ j1 cg rfl rfl (by simp -dsimp (disch:=try exact zo)only[go_sem,eZ]) (.agg _ (by intro c hc;simp only[zM,or_false]at hc;rcases hc with rfl|rfl<;>exact .lit _)) ?_)|(first|refine zf t1 ?_|refine zf t2 ?_|refine zf t3 ?_|refine zf t4 ?_)|(first|refine zf d1 ?_|refine zf d2 ?_|refine zf d3 ?_|refine zf d4 ?_)|refine⟨by omega,?_⟩|(refine zb ?_ ?_<;>intro hg<;>(try rw[hg])<;>try simp only[NM]at hg)|omega|simp -dsimp (disch:=try exact zo)only[go_sem,k0,kW]|contradiction|rfl)
 ·have hz:nz w=w:=if_neg hw0
  have k0:(sg w=0)=False:=eq_false fun h=>hw0 (fZ.1 h)
  have c1:True:=trivial
  simp only[hz]at s0 zW sW cg e1 e2 e3 e4' hG hGs ⊢
  by_cases hn:w<0
  ·have kW:(sg w<0)=True:=eq_true (lM.2 hn)
   simp only[if_pos hn]
   have t1:=c89z x zx
   have d1:=iQ (-x) _ hG (Ai.2 e1) (Aa (iG (by simp)) zx) hGs
   rw[Ab e1]at d1
   have t2:=c89z y zy
   have d2:=iQ (-y) _ hG (Ai.2 e2) (Aa (iG (by simp)) zy) hGs
   rw[Ab e2]at d2
   have t3:=c89z z zz
   have d3:=iQ (-z) _ hG (Ai.2 e3) (Aa (iG (by simp)) zz) hGs
   rw[Ab e3]at d3
   have t4:=c89z w zW
   have d4:=iQ (-w) _ hG (Ai.2 e4') (Aa (iG (by simp)) zW) hGs
   rw[Ab e4']at d4
   clear e1 e2 e3 e4' hG hGs zx zy zz zw zW hz
   generalize g4 x y z w=G at *
   clear hw0 hn
   repeat'(first|refine zg ?_|refine dG 6 ?_|(refine zc ?_ ?_<;>intro hc<;>first|simp only[NM]at hc|omega|skip)|refine zr ?_|(first|refine zf N1 ?_|refine zf N2 ?_|refine zf N3 ?_|refine zf N4 ?_)|(first|refine zf sW ?_|refine zf s0 ?_)|(refine zf c1 ?_)|(refine iA _ j1 cg rfl rfl (by simp -dsimp (disch:=try exact zo)only[go_sem,eZ]) (.agg _ (by intro c hc;simp only[zM,or_false]at hc;rcases hc with rfl|rfl<;>exact .lit _)) ?_)|(first|refine zf t1 ?_|refine zf t2 ?_|refine zf t3 ?_|refine zf t4 ?_)|(first|refine zf d1 ?_|refine zf d2 ?_|refine zf d3 ?_|refine zf d4 ?_)|refine⟨by omega,?_⟩|(refine zb ?_ ?_<;>intro hg<;>(try rw[hg])<;>try simp only[NM]at hg)|omega|simp -dsimp (disch:=try exact zo)only[go_sem,k0,kW]|contradiction|rfl)
  ·have kW:(sg w<0)=False:=eq_false fun h=>hn (lM.1 h)
   simp only[if_neg hn]
   have t1:True:=trivial
   have d1:=iQ x _ hG e1 zx hGs
   have t2:True:=trivial
   have d2:=iQ y _ hG e2 zy hGs
   have t3:True:=trivial
   have d3:=iQ z _ hG e3 zz hGs
   have t4:True:=trivial
   have d4:=iQ w _ hG e4' zW hGs
   clear e1 e2 e3 e4' hG hGs zx zy zz zw zW hz
   generalize g4 x y z w=G at *
   clear hw0 hn
   repeat'(first|refine zg ?_|refine dG 6 ?_|(refine zc ?_ ?_<;>intro hc<;>first|simp only[NM]at hc|omega|skip)|refine zr ?_|(first|refine zf N1 ?_|refine zf N2 ?_|refine zf N3 ?_|refine zf N4 ?_)|(first|refine zf sW ?_|refine zf s0 ?_)|(refine zf c1 ?_)|(refine iA _ j1 cg rfl rfl (by simp -dsimp (disch:=try exact zo)only[go_sem,eZ]) (.agg _ (by intro c hc;simp only[zM,or_false]at hc;rcases hc with rfl|rfl<;>exact .lit _)) ?_)|(first|refine zf t1 ?_|refine zf t2 ?_|refine zf t3 ?_|refine zf t4 ?_)|(first|refine zf d1 ?_|refine zf d2 ?_|refine zf d3 ?_|refine zf d4 ?_)|refine⟨by omega,?_⟩|(refine zb ?_ ?_<;>intro hg<;>(try rw[hg])<;>try simp only[NM]at hg)|omega|simp -dsimp (disch:=try exact zo)only[go_sem,k0,kW]|contradiction|rfl)
end Go.Proofs.Vx
namespace Go.Proofs.Vx
open Go Go.Sx Go.Proofs Tryz
attribute [local irreducible] fnT CallOK CallFr AW aI callV aL aJ aH aK gcaseP hid
theorem c174 (a b:ByteArray) (ha:a.size<1099511627776) (hb:b.size<1099511627776):CallOK prog 174 [.lit (.string a),.lit (.string b)] [] (.lit (.string (nb (nv a+nv b)))) []:=by
 refine zs func174 45 [.tmp 4] results174 ?_
 simp only[aD,Ac]
 have hml:maxLen=9223372036854775807:=rfl
 have hi0:aG .u8 []=[]:=rfl
 obtain⟨M,h1,h2,h3⟩:∃ M,a.size≤M∧b.size≤M∧M<1099511627776:=⟨max a.size b.size,by omega,by omega,by omega⟩
 repeat'(first|refine zk ?_|(refine zu ?_ ?_<;>intro hc)|(refine zv ?_ ?_<;>intro hg)|omega|simp -dsimp (disch:=try exact zo)only[go_sem]|contradiction|rfl)
 refine AW.loop (fun z:{p:Nat × List Int × Int // p.1≤M+1∧gG p.2.1∧p.2.1.length=p.1∧(0≤p.2.2∧p.2.2≤1)∧w8 p.2.1+p.2.2*256 ^ p.1=bM a p.1+bM b p.1∧(p.1=M+1→p.2.2=0)}=>⟨[(7,.lit (.int .i64 z.1.1)),(6,.lit (.int .i64 z.1.2.2)),(5,.ref 9 0 z.1.1 z.1.1),(0,.lit (.string a)),(1,.lit (.string b))],[(9,.vec 1 (aG .u8 z.1.2.1))],40⟩) (fun z=>M+2 - z.1.1) ⟨(0,[],0),Nat.zero_le _,fun x hx=>by simp at hx,rfl,by dsimp only;omega,by simp[w8,vV],fun _=>rfl⟩ zw ?_
 rintro⟨⟨i,X,c⟩,hi,dX,hX,hc1,hv,hM⟩
 dsimp only at hi dX hX hc1 hv hM ⊢
 have b1:=jI a i
 have b2:=jI b i
 by_cases hgo:(i<a.size∨i<b.size)∨0<c
 ·have hiM:i≤M:=by
   apply Classical.byContradiction
   intro hn
   have:=hM (by omega)
   omega
  have z1:a.size≤i→bt a i=0:=fun h=>a1s h
  have z2:b.size≤i→bt b i=0:=fun h=>a1s h
  have hM2:i=M→(c+(bt a i+bt b i)) / 256=0:=fun h=>by have:=z1 (by omega);have:=z2 (by omega);omega
  clear z1 z2 hM
  have hXl:(X++[0]).length=i+1:=by simp[hX]
  have gw:Hid (w8 (X++[(c+(bt a i+bt b i)) % 256])+(c+(bt a i+bt b i)) / 256*256 ^ (i+1)=bM a (i+1)+bM b (i+1)):=Hid.mk (by
   have e1:=pM a i
   have e2:=pM b i
   rw[a4e,hX,e1,e2,nZ]
   simp only[w8]
   have:(c+(bt a i+bt b i)) % 256=(c+(bt a i+bt b i)) - 256*((c+(bt a i+bt b i)) / 256):=by omega
   rw[this]
   generalize (c+(bt a i+bt b i)) / 256=q at *
   grind)
  clear hv
  by_cases q1:i<a.size
  ·have k1:((i:Int)<(a.size:Int))=True:=eq_true (by omega)
   have k2:True:=trivial
   have k3:True:=trivial
   have hd:0≤(c+(bt a i+bt b i)) % 256∧(c+(bt a i+bt b i)) % 256<256:=by omega
   have wd:IntKind.u8.wrap ((c+(bt a i+bt b i)) % 256)=(c+(bt a i+bt b i)) % 256:=j2 hd.1 hd.2
   have dX1:=pS dX hd
   repeat'(first|refine zk ?_|(refine zu ?_ ?_<;>intro hc)|(first|refine zf (jA a i (by omega)) ?_|refine zf (jA b i (by omega)) ?_)|(refine zv ?_ ?_<;>intro hg)|omega|simp -dsimp (disch:=try exact zo)only[go_sem,k1,k2,k3,wd,ZT,bT,gH,hX]|contradiction|rfl)
   all_goals exact AW.stop ⟨⟨(i+1,X++[(c+(bt a i+bt b i)) % 256],(c+(bt a i+bt b i)) / 256),by dsimp only;omega,dX1,by simp[hX],by dsimp only;omega,gw.out,by dsimp only;omega⟩,(aQ (by refine⟨?_,?_,?_,?_⟩<;>first|(simp -dsimp (disch:=try exact zo)only[go_sem,ZC,hXl,gH];done)|(simp -dsimp (disch:=try exact zo)only[go_sem,ZC];done))),by dsimp only;omega⟩
  ·have k1:((i:Int)<(a.size:Int))=False:=eq_false (by omega)
   by_cases q2:i<b.size
   ·have k2:((i:Int)<(b.size:Int))=True:=eq_true (by omega)
    have k3:True:=trivial
    have hd:0≤(c+(bt a i+bt b i)) % 256∧(c+(bt a i+bt b i)) % 256<256:=by omega
    have wd:IntKind.u8.wrap ((c+(bt a i+bt b i)) % 256)=(c+(bt a i+bt b i)) % 256:=j2 hd.1 hd.2
    have dX1:=pS dX hd
    repeat'(first|refine zk ?_|(refine zu ?_ ?_<;>intro hc)|(first|refine zf (jA a i (by omega)) ?_|refine zf (jA b i (by omega)) ?_)|(refine zv ?_ ?_<;>intro hg)|omega|simp -dsimp (disch:=try exact zo)only[go_sem,k1,k2,k3,wd,ZT,bT,gH,hX]|contradiction|rfl)
    all_goals exact AW.stop ⟨⟨(i+1,X++[(c+(bt a i+bt b i)) % 256],(c+(bt a i+bt b i)) / 256),by dsimp only;omega,dX1,by simp[hX],by dsimp only;omega,gw.out,by dsimp only;omega⟩,(aQ (by refine⟨?_,?_,?_,?_⟩<;>first|(simp -dsimp (disch:=try exact zo)only[go_sem,ZC,hXl,gH];done)|(simp -dsimp (disch:=try exact zo)only[go_sem,ZC];done))),by dsimp only;omega⟩
   ·have k2:((i:Int)<(b.size:Int))=False:=eq_false (by omega)
    have k3:(0<c)=True:=eq_true (by omega)
    have hd:0≤(c+(bt a i+bt b i)) % 256∧(c+(bt a i+bt b i)) % 256<256:=by omega
    have wd:IntKind.u8.wrap ((c+(bt a i+bt b i)) % 256)=(c+(bt a i+bt b i)) % 256:=j2 hd.1 hd.2
    have dX1:=pS dX hd
    repeat'(first|refine zk ?_|(refine zu ?_ ?_<;>intro hc)|(first|refine zf (jA a i (by omega)) ?_|refine zf (jA b i (by omega)) ?_)|(refine zv ?_ ?_<;>intro hg)|omega|simp -dsimp (disch:=try exact zo)only[go_sem,k1,k2,k3,wd,ZT,bT,gH,hX]|contradiction|rfl)
    all_goals exact AW.stop ⟨⟨(i+1,X++[(c+(bt a i+bt b i)) % 256],(c+(bt a i+bt b i)) / 256),by dsimp only;omega,dX1,by simp[hX],by dsimp only;omega,gw.out,by dsimp only;omega⟩,(aQ (by refine⟨?_,?_,?_,?_⟩<;>first|(simp -dsimp (disch:=try exact zo)only[go_sem,ZC,hXl,gH];done)|(simp -dsimp (disch:=try exact zo)only[go_sem,ZC];done))),by dsimp only;omega⟩
 ·have k1:((i:Int)<(a.size:Int))=False:=eq_false (by omega)
  have k2:((i:Int)<(b.size:Int))=False:=eq_false (by omega)
  have k3:(0<c)=False:=eq_false (by omega)
  have hfin:nb (nv ⟨(ofI X).toArray⟩)=nb (nv a+nv b):=by
   congr 1
   have e1:=tY X dX
   have e2:=pQ (m:=a) (i:=i) (by omega)
   have e3:=pQ (m:=b) (i:=i) (by omega)
   have e4:c=0:=by omega
   rw[e2,e3,e4]at hv
   omega
  clear hv hM
  repeat'(first|refine zk ?_|(refine zu ?_ ?_<;>intro hc)|(refine zv ?_ ?_<;>intro hg)|omega|simp -dsimp (disch:=try exact zo)only[go_sem,hX,bT,k1,k2,k3]|contradiction|rfl)
  all_goals
   refine⟨ofI X,by first|exact iC _ dX|(rw[Af (by first|omega|(rw[bT];omega))];exact iC _ dX),?_⟩
   repeat'(first|refine zk ?_|(refine zu ?_ ?_<;>intro hc)|(refine zf (gQ _ (by rw[tB];omega)) ?_)|(refine zv ?_ ?_<;>intro hg)|omega|simp -dsimp (disch:=try exact zo)only[go_sem,hfin]|contradiction|rfl)
end Go.Proofs.Vx
