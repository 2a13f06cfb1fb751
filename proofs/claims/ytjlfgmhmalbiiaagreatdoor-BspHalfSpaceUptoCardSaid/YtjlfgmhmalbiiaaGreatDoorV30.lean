import Derived.Test.YtjlfgmhmalbiiaaGreatDoorV29
set_option linter.all false
set_option maxHeartbeats 16000000
namespace Go.Proofs.Vx
open Go Go.Sx Go.Proofs Tryz
attribute [local irreducible] fnT CallOK CallFr AW aJ callV aL aI aH aM gcaseP hid
theorem tL:fnT prog 92=true:=by kernel_rfl
theorem c6o:fnT prog 93=true:=by kernel_rfl
theorem c2v:fnT prog 158=true:=by kernel_rfl
theorem c158 (p:Pl) (vs:List Pt) (x:Pt) (hp:BPl 1073741824 p) (hx:BPt 1073741824 x):CallOK prog 158 [.agg (eG p vs),.fp (eP x)] [] (.lit (.bool (decide (0<aB p x)))) []:=by
 refine zs func158 9 [.tmp 3] results158 ?_
 simp only[aC,Nat.reduceAdd]
 simp only[eG]
 try have zh0:=(c34 p x hp hx)
 have zh1:=@eH
 have zh2:=@e4
 exact z1
theorem c93 (p:Pl) (vs:List Pt) (x:Pt) (hp:BPl 1073741824 p) (hx:BPt 1073741824 x):CallOK prog 93 [.agg (eG p vs),.fp (eP x)] [] (.lit (.bool (decide (aB p x=0)))) []:=by
 refine zs func93 9 [.tmp 3] results93 ?_
 simp only[aC,Nat.reduceAdd]
 simp only[eG]
 try have zh0:=(c34 p x hp hx)
 have zh1:=@eH
 have zh2:=@e4
 exact z1
theorem xH {K:Nat→Prop} (x:Pt):(∀ c∈eP x,In K c)=True:=eq_true fun c hc=>(n7 [x] (eP x) (by simp) c hc).inn
def i6 (t:Pl × List Pt→Bool) (l:aD):Int:=if l.any t then (l.findIdx t:Int)else -1
theorem c4y {t:Pl × List Pt→Bool} {l:aD} {i:Nat} (h:i<l.length) (hb:∀ j (hj:j<i),t (l[j]'(by omega))=false) (hi:t l[i]=true):i6 t l=i:=by
 unfold i6
 rw[if_pos (List.any_eq_true.2 ⟨l[i],List.getElem_mem h,hi⟩)]
 have:l.findIdx t=i:=(List.findIdx_eq h).2 ⟨hi,fun j hj=>hb j hj⟩
 rw[this]
theorem c4x {t:Pl × List Pt→Bool} {l:aD} (hb:∀ j (hj:j<l.length),t l[j]=false):i6 t l=-1:=by
 unfold i6
 rw[if_neg]
 rw[Bool.not_eq_true,List.any_eq_false]
 intro s hs
 obtain⟨j,hj,rfl⟩:=List.mem_iff_getElem.1 hs
 rw[hb j hj];decide
theorem b2o (t:Pl × List Pt→Bool) (l:aD):(decide (0≤i6 t l))=l.any t:=by
 unfold i6
 by_cases h:l.any t=true
 ·rw[if_pos h,h];simp
 ·rw[if_neg h];simp only[Bool.not_eq_true]at h;rw[h];decide
theorem c159 (l:aD) (k:Nat) (x:Pt) (t:Pl × List Pt→Bool) (hn:l.length≤1048576) (hk:fnT prog k=true) (ck:∀ s∈l,CallOK prog k [.agg (eG s.1 s.2),.fp (eP x)] [] (.lit (.bool (t s))) []):CallOK prog 159 [.sl (eS l),.clo k [.fp (eP x)]] [] (.lit (.int .i64 (i6 t l))) []:=by
 refine zs func159 19 [.tmp 4] results159 ?_
 simp only[aC,Nat.reduceAdd]
 have hml:maxLen=9223372036854775807:=rfl
 have hl:(eS l).length=l.length:=List.length_map _
 repeat'(first|refine zk ?_|(refine zu ?_ ?_<;>intro hc)|(refine zv ?_ ?_<;>intro hg)|omega|simp -dsimp (disch:=try exact zo)only[go_sem,hl]|contradiction|rfl)
 refine AW.loop (fun z:{i:Nat // i≤l.length∧∀ j (hj:j<i) (h:j<l.length),t l[j]=false}=>⟨[(8,.lit (.int .i64 z.1)),(7,.lit (.int .i64 l.length)),(0,.sl (eS l)),(1,.clo k [.fp (eP x)])],[],60⟩) (fun z=>l.length - z.1) ⟨0,Nat.zero_le _,fun j hj=>by omega⟩ (aR (by refine⟨?_,?_,?_,?_⟩<;>simp -dsimp (disch:=try exact zo)only[go_sem,xH,ZC])) ?_
 rintro⟨i,hi,hb⟩
 dsimp only
 by_cases hlt:i<l.length
 ·have es1:=p6 l i hlt
  have cq:=ck l[i] (List.getElem_mem hlt)
  by_cases q:t l[i]=true
  ·rw[c4y hlt (fun j hj=>hb j hj (by omega)) q]
   rw[q]at cq
   clear hb ck
   generalize l[i]=s at *
   obtain⟨sp,svs⟩:=s
   simp only[eG]at es1 cq
   repeat'(first|refine zk ?_|(refine zu ?_ ?_<;>intro hc)|(refine cY _ hk cq (by simp -dsimp (disch:=try exact zo)only[go_sem,xH]) (.lit _) ?_)|(refine zv ?_ ?_<;>intro hg)|omega|simp -dsimp (disch:=try exact zo)only[go_sem,hl,es1,ZT]|contradiction|rfl)
  ·have hb':∀ j (hj:j<i+1) (h:j<l.length),t l[j]=false:=fun j hj h=>by
    by_cases e:j=i
    ·subst e;simpa using q
    ·exact hb j (by omega) h
   simp only[Bool.not_eq_true]at q
   rw[q]at cq
   clear hb ck q
   generalize l[i]=s at *
   obtain⟨sp,svs⟩:=s
   simp only[eG]at es1 cq
   generalize hQ:i6 t l=Q
   replace hb':=Hid.mk hb'
   repeat'(first|refine zk ?_|(refine zu ?_ ?_<;>intro hc)|(refine cY _ hk cq (by simp -dsimp (disch:=try exact zo)only[go_sem,xH]) (.lit _) ?_)|(refine zv ?_ ?_<;>intro hg)|omega|simp -dsimp (disch:=try exact zo)only[go_sem,hl,es1,ZT]|contradiction|rfl)
   all_goals exact AW.stop ⟨⟨i+1,by omega,hb'.out⟩,(aR (by refine⟨?_,?_,?_,?_⟩<;>simp -dsimp (disch:=try exact zo)only[go_sem,xH,ZC])),by dsimp only;omega⟩
 ·have hil:i=l.length:=by omega
  rw[c4x (fun j hj=>hb j (by omega) hj)]
  clear hb ck
  subst hil
  exact z1
theorem c92 (l:aD) (k:Nat) (x:Pt) (t:Pl × List Pt→Bool) (hn:l.length≤1048576) (hk:fnT prog k=true) (ck:∀ s∈l,CallOK prog k [.agg (eG s.1 s.2),.fp (eP x)] [] (.lit (.bool (t s))) []):CallOK prog 92 [.sl (eS l),.clo k [.fp (eP x)]] [] (.lit (.bool (l.any t))) []:=by
 refine zs func92 9 [.tmp 4] results92 ?_
 simp only[aC,Nat.reduceAdd]
 have cq:=c159 l k x t hn hk ck
 rw[← b2o]
 have hr:i6 t l<2147483648∧-2<i6 t l:=by
  unfold i6
  split
  ·have:=List.findIdx_le_length (xs:=l) (p:=t)
   omega
  ·omega
 generalize i6 t l=r at *
 clear ck
 exact z1
def uF (l:aD) (x:Pt):Bool:=l.any fun s=>decide (0<aB s.1 x)
def onP (l:aD) (x:Pt):Bool:=l.any fun s=>decide (aB s.1 x=0)
def xI (l:aD) (x:Pt):Int:=if l=[]then -1 else if uF l x then -1 else if onP l x then 0 else 1
theorem c91 (l:aD) (x:Pt) (hn:l.length≤1048576) (hp:∀ s∈l,BPl 1073741824 s.1) (hx:BPt 1073741824 x):CallOK prog 91 [.agg [.sl (eS l)],.agg (eP x)] [] (.lit (.bool (uF l x))) []:=by
 refine zs func91 9 [.tmp 4] results91 ?_
 simp only[aC,Nat.reduceAdd]
 have cq:=c92 l 158 x (fun s=>decide (0<aB s.1 x)) hn c2v fun s hs=>c158 s.1 s.2 x (hp s hs) hx
 unfold uF
 generalize (l.any fun s=>decide (0<aB s.1 x))=r at *
 clear hp
 simp only[eP,e4]at cq
 simp only[eP,e4]
 repeat'(first|refine zk ?_|(refine zu ?_ ?_<;>intro hc)|(refine b9 _ tL (by simp -dsimp (disch:=try exact zo)only[go_sem];exact cq) (by simp -dsimp (disch:=try exact zo)only[go_sem]) (.lit _) ?_)|(refine zv ?_ ?_<;>intro hg)|omega|simp -dsimp (disch:=try exact zo)only[go_sem]|contradiction|rfl)
theorem c30 (l:aD) (x:Pt) (hn:l.length≤1048576) (hp:∀ s∈l,BPl 1073741824 s.1) (hx:BPt 1073741824 x):CallOK prog 30 [.agg [.sl (eS l)],.agg (eP x)] [] (.lit (.int .i64 (xI l x))) []:=by
 refine zs func30 18 [.tmp 4] results30 ?_
 simp only[aC,Nat.reduceAdd]
 have co:=c91 l x hn hp hx
 have cq:=c92 l 93 x (fun s=>decide (aB s.1 x=0)) hn c6o fun s hs=>c93 s.1 s.2 x (hp s hs) hx
 have hl:(eS l).length=l.length:=List.length_map _
 have hl0:(l=[])=((l.length:Int)=0):=by
  cases l with
  | nil=>simp
  | cons a l=>simp;omega
 unfold xI
 simp only[hl0]
 change CallOK _ _ _ _ (.lit (.bool (onP l x))) _ at cq
 generalize uF l x=o at *
 generalize onP l x=r at *
 clear hp hl0
 simp only[eP,e4]at cq co
 simp only[eP,e4]
 by_cases h0:(l.length:Int)=0
 ·simp only[h0,if_true]
  have hd:True:=trivial
  repeat'(first|refine zk ?_|(refine zu ?_ ?_<;>intro hc)|(refine b9 _ tL (by simp -dsimp (disch:=try exact zo)only[go_sem];exact cq) (by simp -dsimp (disch:=try exact zo)only[go_sem]) (.lit _) ?_)|(refine zq co ?_)|(refine zv ?_ ?_<;>intro hg)|omega|simp -dsimp (disch:=try exact zo)only[go_sem,hl,h0]|contradiction|rfl)
 ·simp only[h0,if_false]
  have hd:decide ((l.length:Int)=0)=false:=decide_eq_false h0
  cases o
  ·cases r
   ·simp only[Bool.false_eq_true,if_false]
    repeat'(first|refine zk ?_|(refine zu ?_ ?_<;>intro hc)|(refine b9 _ tL (by simp -dsimp (disch:=try exact zo)only[go_sem];exact cq) (by simp -dsimp (disch:=try exact zo)only[go_sem]) (.lit _) ?_)|(refine zq co ?_)|(refine zv ?_ ?_<;>intro hg)|omega|simp -dsimp (disch:=try exact zo)only[go_sem,hl,h0,hd]|contradiction|rfl)
   ·simp only[Bool.false_eq_true,if_false,if_true]
    repeat'(first|refine zk ?_|(refine zu ?_ ?_<;>intro hc)|(refine b9 _ tL (by simp -dsimp (disch:=try exact zo)only[go_sem];exact cq) (by simp -dsimp (disch:=try exact zo)only[go_sem]) (.lit _) ?_)|(refine zq co ?_)|(refine zv ?_ ?_<;>intro hg)|omega|simp -dsimp (disch:=try exact zo)only[go_sem,hl,h0,hd]|contradiction|rfl)
  ·simp only[if_true]
   repeat'(first|refine zk ?_|(refine zu ?_ ?_<;>intro hc)|(refine b9 _ tL (by simp -dsimp (disch:=try exact zo)only[go_sem];exact cq) (by simp -dsimp (disch:=try exact zo)only[go_sem]) (.lit _) ?_)|(refine zq co ?_)|(refine zv ?_ ?_<;>intro hg)|omega|simp -dsimp (disch:=try exact zo)only[go_sem,hl,h0,hd]|contradiction|rfl)
end Go.Proofs.Vx
namespace Go.Proofs.Vx
open Go Go.Sx Go.Proofs Tryz
attribute [local irreducible] fnT CallOK CallFr AW aJ callV aL aI aH aM gcaseP hid
theorem b6r (l:aD) (x:Pt):xI l x=eY l x:=by
 unfold xI eY
 by_cases h:l=[]
 ·rw[if_pos h,if_pos (.inl h)]
 ·rw[if_neg h]
  by_cases ho:uF l x=true
  ·have:kE l x=true:=ho
   rw[if_pos ho,if_pos (.inr this)]
  ·have h2:¬ (l=[]∨kE l x=true):=by rintro (e|e)<;>first|exact h e|exact ho e
   rw[if_neg ho,if_neg h2]
   rfl
end Go.Proofs.Vx
namespace Go.Proofs.Vx
open Go Go.Sx Go.Proofs Tryz
attribute [local irreducible] fnT CallOK CallFr AW aJ callV aL aI aH aM gcaseP hid
theorem b9o {n m:Nat} {X:List Int} (h:ofI X++nbL m=nbL n) (hm:m≠0):ofI (X++[((m % 256:Nat):Int)])++nbL (m / 256)=nbL n:=by
 rw[pW hm]at h
 rw[← h]
 unfold ofI
 rw[List.map_append,List.append_assoc]
 rfl
theorem c4k {n:Nat} (h:n<18446744073709551616):(nbL n).length≤8:=by
 have:=(cJ (n:Int) 8).2 (by simpa using h)
 exact this
theorem c154 (n:Nat) (hn:n<18446744073709551616):CallOK prog 154 [.lit (.int .u64 n)] [] (.lit (.string (nb n))) []:=by
 refine zs func154 17 [.tmp 2] results154 ?_
 simp only[aC,Nat.reduceAdd]
 have hml:maxLen=9223372036854775807:=rfl
 have hi0:aG .u8 []=[]:=rfl
 repeat'(first|refine zk ?_|(refine zu ?_ ?_<;>intro hc)|(refine zv ?_ ?_<;>intro hg)|omega|simp -dsimp (disch:=try exact zo)only[go_sem]|contradiction|rfl)
 refine AW.loop (fun z:{p:Nat × List Int // gI p.2∧p.1<18446744073709551616∧ofI p.2++nbL p.1=nbL n}=>⟨[(0,.lit (.int .u64 z.1.1)),(3,.ref 9 0 z.1.2.length z.1.2.length)],[(9,.vec 1 (aG .u8 z.1.2))],40⟩) (fun z=>z.1.1) ⟨(n,[]),fun x hx=>by simp at hx,hn,rfl⟩ zw ?_
 rintro⟨⟨m,X⟩,dX,hm,hX⟩
 dsimp only at dX hm hX ⊢
 have hXs:X.length+(nbL m).length=(nbL n).length:=by rw[← hX,List.length_append];simp[ofI]
 have hl8:=c4k hn
 by_cases h0:0<m
 ·have hm1:(m:Int) % 256=((m % 256:Nat):Int):=by omega
  have hm2:(m:Int) / 256=((m / 256:Nat):Int):=by omega
  have hlt:m % 256<256:=Nat.mod_lt _ (by decide)
  have dX1:=pN dX (d:=((m % 256:Nat):Int)) (by omega)
  have hst:=b9o hX (by omega)
  have hXl:(X++[((m % 256:Nat):Int)]).length=X.length+1:=by simp
  have hdl:m / 256<m:=Nat.div_lt_self h0 (by decide)
  clear hX
  repeat'(first|refine zk ?_|(refine zu ?_ ?_<;>intro hc)|(refine zv ?_ ?_<;>intro hg)|omega|simp -dsimp (disch:=try exact zo)only[go_sem,hm1,hm2,bW,gK]|contradiction|rfl)
  all_goals exact AW.stop ⟨⟨(m / 256,X++[((m % 256:Nat):Int)]),dX1,by dsimp only;omega,hst⟩,(aR (by refine⟨?_,?_,?_,?_⟩<;>first|(simp -dsimp (disch:=try exact zo)only[go_sem,ZC,hXl,gK,hm1,hm2];done)|(simp -dsimp (disch:=try exact zo)only[go_sem,ZC];done))),by dsimp only;omega⟩
 ·obtain rfl:m=0:=by omega
  have hfin:(⟨(ofI X).toArray⟩:ByteArray)=nb n:=by
   unfold nb
   rw[kT,List.append_nil]at hX
   rw[hX]
  clear hX
  repeat'(first|refine zk ?_|(refine zu ?_ ?_<;>intro hc)|(refine zv ?_ ?_<;>intro hg)|omega|simp -dsimp (disch:=try exact zo)only[go_sem,bW]|contradiction|rfl)
  all_goals
   refine⟨ofI X,by first|exact iF _ dX|(rw[List.take_of_length_le (by first|omega|(rw[bW];omega))];exact iF _ dX),?_⟩
   repeat'(first|refine zk ?_|(refine zu ?_ ?_<;>intro hc)|(refine zv ?_ ?_<;>intro hg)|omega|simp -dsimp (disch:=try exact zo)only[go_sem,hfin]|contradiction|rfl)
theorem c8s (n:Bool) (m:ByteArray):iv (!n) m=-iv n m:=by cases n<;>simp[iv]
theorem c85 (n:Bool) (m:ByteArray) (hm:m.size<4611686018427387904):CallOK prog 85 [.agg [.lit (.bool n),.lit (.string m)]] [] (.agg (eZ (iv n m))) []:=by
 refine zs func85 8 [.cell 2 24] results85 ?_
 simp only[aC,Nat.reduceAdd]
 have co:=nK n m hm
 generalize iv n m=z at *
 exact z1
theorem c89 (n:Bool) (m:ByteArray) (hm:m.size<4611686018427387904):CallOK prog 89 [.agg [.lit (.bool n),.lit (.string m)]] [] (.agg (eZ (-iv n m))) []:=by
 refine zs func89 9 [.cell 2 24] results89 ?_
 simp only[aC,Nat.reduceAdd]
 have co:=nK (!n) m hm
 rw[c8s]at co
 generalize -iv n m=z at *
 exact z1
theorem b0v (b:Bool) (k:Nat):iv b (nb k)=if b then -(k:Int)else k:=by unfold iv;rw[aV]
theorem c87 (z:Int) (h1:-9223372036854775808≤z) (h2:z<9223372036854775808):CallOK prog 87 [.lit (.int .i64 z)] [] (.agg (eZ z)) []:=by
 refine zs func87 16 [.cell 2 24] results87 ?_
 simp only[aC,Nat.reduceAdd]
 by_cases h0:z<0
 ·have c4:=c154 (-z).toNat (by omega)
  have co:=nK true (nb (-z).toNat) (Nat.lt_of_le_of_lt ((cE _ 8).2 (by omega)) (by decide))
  have e:iv true (nb (-z).toNat)=z:=by rw[b0v];simp only[if_true];omega
  rw[e]at co
  have hk:((-z).toNat:Int)=0 - (z+1)+1:=by omega
  rw[hk]at c4
  generalize nb (-z).toNat=s at *
  clear e hk
  exact z1
 ·have c4:=c154 z.toNat (by omega)
  have co:=nK false (nb z.toNat) (Nat.lt_of_le_of_lt ((cE _ 8).2 (by omega)) (by decide))
  have e:iv false (nb z.toNat)=z:=by rw[b0v];simp only[Bool.false_eq_true,if_false];omega
  rw[e]at co
  have hk:(z.toNat:Int)=z:=by omega
  rw[hk]at c4
  generalize nb z.toNat=s at *
  clear e hk
  exact z1
def b8 (r:RP):Bool:=decide (6<r.m1.size)||decide (6<r.m2.size)||decide (6<r.m3.size)||decide (6<r.m4.size)
theorem zR {r:RP} (h:b8 r=false):r.m1.size≤6∧r.m2.size≤6∧r.m3.size≤6∧r.m4.size≤6:=by
 unfold b8 at h
 simp only[Bool.or_eq_false_iff,decide_eq_false_iff_not,Nat.not_lt]at h
 omega
end Go.Proofs.Vx
namespace Go.Proofs.Vx
open Go Go.Sx Go.Proofs Tryz
attribute [local irreducible] fnT CallOK CallFr AW aJ callV aL aI aH aM gcaseP hid
theorem c86z (z:Int) (h:(Zm z).size≤268435456):CallOK prog 86 [.agg (eZ z)] [] (.lit (.int .i64 (sg z))) []:=by
 have:=c86 (Zn z) (Zm z) (by omega)
 rw[aZ]at this
 exact this
theorem c89z (z:Int) (h:(Zm z).size≤268435456):CallOK prog 89 [.agg (eZ z)] [] (.agg (eZ (-z))) []:=by
 have:=c89 (Zn z) (Zm z) (by omega)
 rw[aZ]at this
 exact this
theorem iL (z:Int) (g:Nat) (hg:0<g) (hd:(g:Int)∣z) (h:(Zm z).size≤268435456) (hgs:(nb g).size≤268435456):CallOK prog 90 [.agg (eZ z),.agg [.lit (.bool false),.lit (.string (nb g))]] [] (.tup [.agg (eZ (z / (g:Int))),.agg (eZ 0),.lit (.bool true)]) []:=by
 have:=c90 (Zn z) (Zm z) g hg (by rw[aQ];exact Int.ofNat_dvd_left.1 hd) h hgs
 rw[aZ]at this
 exact this
theorem c88z (x y z w : Int) (h1 : (Zm x).size ≤ 268435456) (h2 : (Zm y).size ≤ 268435456) (h3 : (Zm z).size ≤ 268435456) (h4 : (Zm w).size ≤ 268435456) :
  CallOK prog 88 [.sl [eZ x,eZ y,eZ z,eZ w]] [] (.agg [.lit (.bool false),.lit (.string (nb (g4 x y z w)))]) []:=by
 have:=c88x (Zn x) (Zn y) (Zn z) (Zn w) (Zm x) (Zm y) (Zm z) (Zm w) h1 h2 h3 h4
 simp only[aZ]at this
 exact this
theorem c5c {x y z w:Int} {k:Nat} (hx:(Zm x).size≤k) (hy:(Zm y).size≤k) (hz:(Zm z).size≤k) (hw:(Zm w).size≤k):(nb (g4 x y z w)).size≤k:=by
 unfold g4
 rw[← aQ x,← aQ y,← aQ z,← aQ w]
 exact nW (nW (nW (Nat.le_trans (dF _) hx) (Nat.le_trans (dF _) hy)) (Nat.le_trans (dF _) hz)) (Nat.le_trans (dF _) hw)
theorem nA {n:Bool} {m:ByteArray} {k:Nat} (h:m.size≤k):(Zm (iv n m)).size≤k:=Nat.le_trans (dK n m) h
set_option maxRecDepth 20000 in
theorem c29 (n1 n2 n3 n4:Bool) (m1 m2 m3 m4:ByteArray) (h1:m1.size≤268435456) (h2:m2.size≤268435456) (h3:m3.size≤268435456) (h4:m4.size≤268435456):CallOK prog 29 [.agg [.lit (.bool n1),.lit (.string m1),.lit (.bool n2),.lit (.string m2),.lit (.bool n3),.lit (.string m3),.lit (.bool n4),.lit (.string m4)]] [] (.agg (eP (nrm (iv n1 m1) (iv n2 m2) (iv n3 m3) (iv n4 m4)))) []:=by
 refine zs func29 76 [.cell 2 51] results29 ?_
 simp only[aC,Nat.reduceAdd]
 have hml:maxLen=9223372036854775807:=rfl
 have N1:=c85 n1 m1 (by omega)
 have N2:=c85 n2 m2 (by omega)
 have N3:=c85 n3 m3 (by omega)
 have N4:=c85 n4 m4 (by omega)
 have zx:=nA (n:=n1) h1
 have zy:=nA (n:=n2) h2
 have zz:=nA (n:=n3) h3
 have zw:=nA (n:=n4) h4
 generalize iv n1 m1=x at *
 generalize iv n2 m2=y at *
 generalize iv n3 m3=z at *
 generalize iv n4 m4=w at *
 have s0:=c86z w zw
 have zW:(Zm (nz w)).size≤268435456:=a1q zw (by decide)
 have sW:=c86z (nz w) zW
 have cg:=c88z x y z (nz w) zx zy zz zW
 obtain⟨e1,e2,e3,e4'⟩:=j4 x y z (nz w)
 have hG:=tT (x:=x) (y:=y) (z:=z) (qZ w)
 have hGs:=c5c zx zy zz zW
 unfold nrm
 unfold turn
 by_cases hw0:w=0
 ·have hz:nz w=1:=if_pos hw0
  have k0:(sg w=0)=True:=eq_true (fX.2 hw0)
  have c1:=c87 1 (by decide) (by decide)
  simp only[hz]at s0 zW sW cg e1 e2 e3 e4' hG hGs ⊢
  have kW:(sg 1<0)=False:=eq_false (by decide)
  have hn:¬ (1:Int)<0:=by decide
  simp only[if_neg hn]
  have t1:True:=trivial
  have d1:=iL x _ hG e1 zx hGs
  have t2:True:=trivial
  have d2:=iL y _ hG e2 zy hGs
  have t3:True:=trivial
  have d3:=iL z _ hG e3 zz hGs
  have t4:True:=trivial
  have d4:=iL 1 _ hG e4' zW hGs
  clear e1 e2 e3 e4' hG hGs zx zy zz zw zW hz
  generalize g4 x y z 1=G at *
  clear hw0
  repeat'(first|refine zg ?_|refine dJ 6 ?_|(refine zc ?_ ?_<;>intro hc<;>first|simp only[NM]at hc|omega|skip)|refine zr ?_|(first|refine zf N1 ?_|refine zf N2 ?_|refine zf N3 ?_|refine zf N4 ?_)|(first|refine zf sW ?_|refine zf s0 ?_)|(refine zf c1 ?_)|(refine iD _ j0 cg rfl rfl (by simp -dsimp (disch:=try exact zo)only[go_sem,eZ]) (.agg _ (by intro c hc;simp only[zM,or_false]at hc;rcases hc with rfl|rfl<;>exact .lit _)) ?_)|(first|refine zf t1 ?_|refine zf t2 ?_|refine zf t3 ?_|refine zf t4 ?_)|(first|refine zf d1 ?_|refine zf d2 ?_|refine zf d3 ?_|refine zf d4 ?_)|refine⟨by omega,?_⟩|(refine zb ?_ ?_<;>intro hg<;>(try rw[hg])<;>try simp only[NM]at hg)|omega|simp -dsimp (disch:=try exact zo)only[go_sem,k0,kW]|contradiction|rfl)
 ·have hz:nz w=w:=if_neg hw0
  have k0:(sg w=0)=False:=eq_false fun h=>hw0 (fX.1 h)
  have c1:True:=trivial
  simp only[hz]at s0 zW sW cg e1 e2 e3 e4' hG hGs ⊢
  by_cases hn:w<0
  ·have kW:(sg w<0)=True:=eq_true (j3.2 hn)
   simp only[if_pos hn]
   have t1:=c89z x zx
   have d1:=iL (-x) _ hG (Int.dvd_neg.2 e1) (Nat.le_trans (iW (by simp)) zx) hGs
   rw[Int.neg_ediv_of_dvd e1]at d1
   have t2:=c89z y zy
   have d2:=iL (-y) _ hG (Int.dvd_neg.2 e2) (Nat.le_trans (iW (by simp)) zy) hGs
   rw[Int.neg_ediv_of_dvd e2]at d2
   have t3:=c89z z zz
   have d3:=iL (-z) _ hG (Int.dvd_neg.2 e3) (Nat.le_trans (iW (by simp)) zz) hGs
   rw[Int.neg_ediv_of_dvd e3]at d3
   have t4:=c89z w zW
   have d4:=iL (-w) _ hG (Int.dvd_neg.2 e4') (Nat.le_trans (iW (by simp)) zW) hGs
   rw[Int.neg_ediv_of_dvd e4']at d4
   clear e1 e2 e3 e4' hG hGs zx zy zz zw zW hz
   generalize g4 x y z w=G at *
   clear hw0 hn
   repeat'(first|refine zg ?_|refine dJ 6 ?_|(refine zc ?_ ?_<;>intro hc<;>first|simp only[NM]at hc|omega|skip)|refine zr ?_|(first|refine zf N1 ?_|refine zf N2 ?_|refine zf N3 ?_|refine zf N4 ?_)|(first|refine zf sW ?_|refine zf s0 ?_)|(refine zf c1 ?_)|(refine iD _ j0 cg rfl rfl (by simp -dsimp (disch:=try exact zo)only[go_sem,eZ]) (.agg _ (by intro c hc;simp only[zM,or_false]at hc;rcases hc with rfl|rfl<;>exact .lit _)) ?_)|(first|refine zf t1 ?_|refine zf t2 ?_|refine zf t3 ?_|refine zf t4 ?_)|(first|refine zf d1 ?_|refine zf d2 ?_|refine zf d3 ?_|refine zf d4 ?_)|refine⟨by omega,?_⟩|(refine zb ?_ ?_<;>intro hg<;>(try rw[hg])<;>try simp only[NM]at hg)|omega|simp -dsimp (disch:=try exact zo)only[go_sem,k0,kW]|contradiction|rfl)
  ·have kW:(sg w<0)=False:=eq_false fun h=>hn (j3.1 h)
   simp only[if_neg hn]
   have t1:True:=trivial
   have d1:=iL x _ hG e1 zx hGs
   have t2:True:=trivial
   have d2:=iL y _ hG e2 zy hGs
   have t3:True:=trivial
   have d3:=iL z _ hG e3 zz hGs
   have t4:True:=trivial
   have d4:=iL w _ hG e4' zW hGs
   clear e1 e2 e3 e4' hG hGs zx zy zz zw zW hz
   generalize g4 x y z w=G at *
   clear hw0 hn
   repeat'(first|refine zg ?_|refine dJ 6 ?_|(refine zc ?_ ?_<;>intro hc<;>first|simp only[NM]at hc|omega|skip)|refine zr ?_|(first|refine zf N1 ?_|refine zf N2 ?_|refine zf N3 ?_|refine zf N4 ?_)|(first|refine zf sW ?_|refine zf s0 ?_)|(refine zf c1 ?_)|(refine iD _ j0 cg rfl rfl (by simp -dsimp (disch:=try exact zo)only[go_sem,eZ]) (.agg _ (by intro c hc;simp only[zM,or_false]at hc;rcases hc with rfl|rfl<;>exact .lit _)) ?_)|(first|refine zf t1 ?_|refine zf t2 ?_|refine zf t3 ?_|refine zf t4 ?_)|(first|refine zf d1 ?_|refine zf d2 ?_|refine zf d3 ?_|refine zf d4 ?_)|refine⟨by omega,?_⟩|(refine zb ?_ ?_<;>intro hg<;>(try rw[hg])<;>try simp only[NM]at hg)|omega|simp -dsimp (disch:=try exact zo)only[go_sem,k0,kW]|contradiction|rfl)
end Go.Proofs.Vx
namespace Go.Proofs.Vx
open Go Go.Sx Go.Proofs Tryz
attribute [local irreducible] fnT CallOK CallFr AW aJ callV aL aI aH aM gcaseP hid
theorem c174 (a b:ByteArray) (ha:a.size<1099511627776) (hb:b.size<1099511627776):CallOK prog 174 [.lit (.string a),.lit (.string b)] [] (.lit (.string (nb (nv a+nv b)))) []:=by
 refine zs func174 45 [.tmp 4] results174 ?_
 simp only[aC,Nat.reduceAdd]
 have hml:maxLen=9223372036854775807:=rfl
 have hi0:aG .u8 []=[]:=rfl
 obtain⟨M,h1,h2,h3⟩:∃ M,a.size≤M∧b.size≤M∧M<1099511627776:=⟨max a.size b.size,by omega,by omega,by omega⟩
 repeat'(first|refine zk ?_|(refine zu ?_ ?_<;>intro hc)|(refine zv ?_ ?_<;>intro hg)|omega|simp -dsimp (disch:=try exact zo)only[go_sem]|contradiction|rfl)
 refine AW.loop (fun z:{p:Nat × List Int × Int // p.1≤M+1∧gI p.2.1∧p.2.1.length=p.1∧(0≤p.2.2∧p.2.2≤1)∧w8 p.2.1+p.2.2*256 ^ p.1=bM a p.1+bM b p.1∧(p.1=M+1→p.2.2=0)}=>⟨[(7,.lit (.int .i64 z.1.1)),(6,.lit (.int .i64 z.1.2.2)),(5,.ref 9 0 z.1.1 z.1.1),(0,.lit (.string a)),(1,.lit (.string b))],[(9,.vec 1 (aG .u8 z.1.2.1))],40⟩) (fun z=>M+2 - z.1.1) ⟨(0,[],0),Nat.zero_le _,fun x hx=>by simp at hx,rfl,by dsimp only;omega,by simp[w8,vR],fun _=>rfl⟩ zw ?_
 rintro⟨⟨i,X,c⟩,hi,dX,hX,hc1,hv,hM⟩
 dsimp only at hi dX hX hc1 hv hM ⊢
 have b1:=jH a i
 have b2:=jH b i
 by_cases hgo:(i<a.size∨i<b.size)∨0<c
 ·have hiM:i≤M:=by
   apply Classical.byContradiction
   intro hn
   have:=hM (by omega)
   omega
  have z1:a.size≤i→bt a i=0:=fun h=>a1o h
  have z2:b.size≤i→bt b i=0:=fun h=>a1o h
  have hM2:i=M→(c+(bt a i+bt b i)) / 256=0:=fun h=>by have:=z1 (by omega);have:=z2 (by omega);omega
  clear z1 z2 hM
  have hXl:(X++[0]).length=i+1:=by simp[hX]
  have gw:Hid (w8 (X++[(c+(bt a i+bt b i)) % 256])+(c+(bt a i+bt b i)) / 256*256 ^ (i+1)=bM a (i+1)+bM b (i+1)):=Hid.mk (by
   have e1:=pF a i
   have e2:=pF b i
   rw[a4b,hX,e1,e2,nT]
   simp only[w8]
   have:(c+(bt a i+bt b i)) % 256=(c+(bt a i+bt b i)) - 256*((c+(bt a i+bt b i)) / 256):=by omega
   rw[this]
   generalize (c+(bt a i+bt b i)) / 256=q at *
   grind)
  clear hv
  by_cases q1:i<a.size
  ·have k1:((i:Int)<(a.size:Int))=True:=eq_true (by omega)
   have k2:True:=trivial
   have k3:True:=trivial
   have hd:0≤(c+(bt a i+bt b i)) % 256∧(c+(bt a i+bt b i)) % 256<256:=by omega
   have wd:IntKind.u8.wrap ((c+(bt a i+bt b i)) % 256)=(c+(bt a i+bt b i)) % 256:=j1 hd.1 hd.2
   have dX1:=pN dX hd
   repeat'(first|refine zk ?_|(refine zu ?_ ?_<;>intro hc)|(first|refine zf (jA a i (by omega)) ?_|refine zf (jA b i (by omega)) ?_)|(refine zv ?_ ?_<;>intro hg)|omega|simp -dsimp (disch:=try exact zo)only[go_sem,k1,k2,k3,wd,ZT,bW,gK,hX]|contradiction|rfl)
   all_goals exact AW.stop ⟨⟨(i+1,X++[(c+(bt a i+bt b i)) % 256],(c+(bt a i+bt b i)) / 256),by dsimp only;omega,dX1,by simp[hX],by dsimp only;omega,gw.out,by dsimp only;omega⟩,(aR (by refine⟨?_,?_,?_,?_⟩<;>first|(simp -dsimp (disch:=try exact zo)only[go_sem,ZC,hXl,gK];done)|(simp -dsimp (disch:=try exact zo)only[go_sem,ZC];done))),by dsimp only;omega⟩
  ·have k1:((i:Int)<(a.size:Int))=False:=eq_false (by omega)
   by_cases q2:i<b.size
   ·have k2:((i:Int)<(b.size:Int))=True:=eq_true (by omega)
    have k3:True:=trivial
    have hd:0≤(c+(bt a i+bt b i)) % 256∧(c+(bt a i+bt b i)) % 256<256:=by omega
    have wd:IntKind.u8.wrap ((c+(bt a i+bt b i)) % 256)=(c+(bt a i+bt b i)) % 256:=j1 hd.1 hd.2
    have dX1:=pN dX hd
    repeat'(first|refine zk ?_|(refine zu ?_ ?_<;>intro hc)|(first|refine zf (jA a i (by omega)) ?_|refine zf (jA b i (by omega)) ?_)|(refine zv ?_ ?_<;>intro hg)|omega|simp -dsimp (disch:=try exact zo)only[go_sem,k1,k2,k3,wd,ZT,bW,gK,hX]|contradiction|rfl)
    all_goals exact AW.stop ⟨⟨(i+1,X++[(c+(bt a i+bt b i)) % 256],(c+(bt a i+bt b i)) / 256),by dsimp only;omega,dX1,by simp[hX],by dsimp only;omega,gw.out,by dsimp only;omega⟩,(aR (by refine⟨?_,?_,?_,?_⟩<;>first|(simp -dsimp (disch:=try exact zo)only[go_sem,ZC,hXl,gK];done)|(simp -dsimp (disch:=try exact zo)only[go_sem,ZC];done))),by dsimp only;omega⟩
   ·have k2:((i:Int)<(b.size:Int))=False:=eq_false (by omega)
    have k3:(0<c)=True:=eq_true (by omega)
    have hd:0≤(c+(bt a i+bt b i)) % 256∧(c+(bt a i+bt b i)) % 256<256:=by omega
    have wd:IntKind.u8.wrap ((c+(bt a i+bt b i)) % 256)=(c+(bt a i+bt b i)) % 256:=j1 hd.1 hd.2
    have dX1:=pN dX hd
    repeat'(first|refine zk ?_|(refine zu ?_ ?_<;>intro hc)|(first|refine zf (jA a i (by omega)) ?_|refine zf (jA b i (by omega)) ?_)|(refine zv ?_ ?_<;>intro hg)|omega|simp -dsimp (disch:=try exact zo)only[go_sem,k1,k2,k3,wd,ZT,bW,gK,hX]|contradiction|rfl)
    all_goals exact AW.stop ⟨⟨(i+1,X++[(c+(bt a i+bt b i)) % 256],(c+(bt a i+bt b i)) / 256),by dsimp only;omega,dX1,by simp[hX],by dsimp only;omega,gw.out,by dsimp only;omega⟩,(aR (by refine⟨?_,?_,?_,?_⟩<;>first|(simp -dsimp (disch:=try exact zo)only[go_sem,ZC,hXl,gK];done)|(simp -dsimp (disch:=try exact zo)only[go_sem,ZC];done))),by dsimp only;omega⟩
 ·have k1:((i:Int)<(a.size:Int))=False:=eq_false (by omega)
  have k2:((i:Int)<(b.size:Int))=False:=eq_false (by omega)
  have k3:(0<c)=False:=eq_false (by omega)
  have hfin:nb (nv ⟨(ofI X).toArray⟩)=nb (nv a+nv b):=by
   congr 1
   have e1:=tN X dX
   have e2:=pK (m:=a) (i:=i) (by omega)
   have e3:=pK (m:=b) (i:=i) (by omega)
   have e4:c=0:=by omega
   rw[e2,e3,e4]at hv
   omega
  clear hv hM
  repeat'(first|refine zk ?_|(refine zu ?_ ?_<;>intro hc)|(refine zv ?_ ?_<;>intro hg)|omega|simp -dsimp (disch:=try exact zo)only[go_sem,hX,bW,k1,k2,k3]|contradiction|rfl)
  all_goals
   refine⟨ofI X,by first|exact iF _ dX|(rw[List.take_of_length_le (by first|omega|(rw[bW];omega))];exact iF _ dX),?_⟩
   repeat'(first|refine zk ?_|(refine zu ?_ ?_<;>intro hc)|(refine zf (gS _ (by rw[sQ];omega)) ?_)|(refine zv ?_ ?_<;>intro hg)|omega|simp -dsimp (disch:=try exact zo)only[go_sem,hfin]|contradiction|rfl)
end Go.Proofs.Vx
