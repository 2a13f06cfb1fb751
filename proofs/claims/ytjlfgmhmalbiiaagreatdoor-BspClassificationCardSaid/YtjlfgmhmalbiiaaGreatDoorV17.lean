import Derived.Test.YtjlfgmhmalbiiaaGreatDoorV16
set_option linter.all false
set_option maxHeartbeats 6400000
namespace Go.Proofs.Vx
open Go Go.Sx Go.Proofs Tryz
attribute [local irreducible] fnT CallOK CallFr AW aO callV aP aN aM aQ gcaseP hid
theorem b5o:agT prog 193=some true∧arT prog 193=some (3,2,true)∧plT prog 193=some [(0,2),(2,2),(4,2)]∧slT prog 193=none∧szT prog 193=some 6∧zeT prog 193=some [.lit (.bool false),.lit (.string ⟨#[]⟩),.lit (.bool false),.lit (.string ⟨#[]⟩),.lit (.bool false),.lit (.string ⟨#[]⟩)]:=by and_intros<;>kernel_rfl
attribute [go_sem] b5o
theorem c34 (p:Pl) (x:Pt) (hp:BPl 1073741824 p) (hx:BPt 1073741824 x):CallOK prog 34 [.agg (eH p),.agg (eP x)] [] (.lit (.int .i64 (aB p x))) []:=by
 refine zs func34 30 [.tmp 4] results34 ?_
 simp only[aD,Nat.reduceAdd]
 have sp1:=hp.out.a
 have sp2:=hp.out.b
 have sp3:=hp.out.c
 have sp4:=hp.out.d
 have sx1:=hx.out.a
 have sx2:=hx.out.b
 have sx3:=hx.out.c
 have sx4:=hx.out.d
 have m1:=aR (p.a) (x.x) sp1 sx1
 have m2:=aR (p.b) (x.y) sp2 sx2
 have m3:=aR (p.c) (x.z) sp3 sx3
 have m4:=aR (p.d) (x.w) sp4 sx4
 have u1:=gH _ _ m1 m2
 have u2:=gH _ _ u1 (Nat.le_succ_of_le m3)
 repeat'(first|refine zg ?_|(refine zc ?_ ?_<;>intro hc<;>try simp only[NM]at hc)|refine zr ?_|(first|refine zf (bE (p.a) (x.x) (by omega) (by omega)) ?_|refine zf (bE (p.b) (x.y) (by omega) (by omega)) ?_|refine zf (bE (p.c) (x.z) (by omega) (by omega)) ?_|refine zf (bE (p.d) (x.w) (by omega) (by omega)) ?_)|(first|refine zf (tM (p.a*x.x) (p.b*x.y) (by omega) (by omega)) ?_|refine zf (tM (p.a*x.x+p.b*x.y) (p.c*x.z) (by omega) (by omega)) ?_)|(refine zf (fZ (p.a*x.x+p.b*x.y+p.c*x.z) (p.d*x.w) (by omega) (by omega)) ?_)|refine⟨by omega,?_⟩|(refine zb ?_ ?_<;>intro hg<;>(try rw[hg])<;>try simp only[NM]at hg)|omega|simp -dsimp (disch:=try exact zo)only[go_sem]|contradiction|rfl)
theorem c22 (p:Pl) (hp:BPl 1073741824 p):CallOK prog 22 [.agg (eH p)] [] (.agg (eH (bH p))) []:=by
 refine zs func22 19 [.cell 2 26] results22 ?_
 simp only[aD,Nat.reduceAdd]
 have sp1:=hp.out.a
 have sp2:=hp.out.b
 have sp3:=hp.out.c
 have sp4:=hp.out.d
 unfold bH
 repeat'(first|refine zg ?_|refine bQ 6 ?_|(refine zc ?_ ?_<;>intro hc<;>try simp only[NM]at hc)|refine zr ?_|(refine zf (c72 _ _ _ _ _ _ _ _) ?_)|(first|refine zf (f7 p.a (by omega)) ?_|refine zf (f7 p.b (by omega)) ?_|refine zf (f7 p.c (by omega)) ?_|refine zf (f7 p.d (by omega)) ?_)|(refine zf (c74 _ _ _ _ _ _ _ _) ?_)|refine⟨by omega,?_⟩|(refine zb ?_ ?_<;>intro hg<;>(try rw[hg])<;>try simp only[NM]at hg)|omega|simp -dsimp (disch:=try exact zo)only[go_sem]|contradiction|rfl)
theorem a9k:(Zm 0).size=0:=tV
theorem c82e (x:Int) (h:(Zm x).size<68719476736):CallOK prog 82 [.agg [.lit (.bool false),.lit (.string ⟨#[]⟩)],.agg (eZ x)] [] (.agg (eZ x)) []:=by
 have:=tM 0 x (by rw[a9k];omega) h
 rw[Int.zero_add]at this
 simpa only[eZ,eD,kH (Int.le_refl 0)]using this
theorem c233 (p:Pl):CallOK prog 233 [.agg (eH p)] [] (.agg [.lit (.bool (Zn p.a)),.lit (.string (Zm p.a)),.lit (.bool (Zn p.b)),.lit (.string (Zm p.b)),.lit (.bool (Zn p.c)),.lit (.string (Zm p.c))]) []:=by
 refine zs func233 10 [.cell 2 193] results233 ?_
 simp only[aD,Nat.reduceAdd]
 repeat'(first|refine zg ?_|(refine zc ?_ ?_<;>intro hc<;>try simp only[NM]at hc)|refine zr ?_|refine⟨by omega,?_⟩|(refine zb ?_ ?_<;>intro hg<;>(try rw[hg])<;>try simp only[NM]at hg)|omega|simp -dsimp (disch:=try exact zo)only[go_sem]|contradiction|rfl)
theorem c232 (a b c x y z:Int) (h1:(Zm a).size≤1073741824) (h2:(Zm b).size≤1073741824) (h3:(Zm c).size≤1073741824) (k1:(Zm x).size≤1073741824) (k2:(Zm y).size≤1073741824) (k3:(Zm z).size≤1073741824):CallOK prog 232 [.agg [.lit (.bool (Zn a)),.lit (.string (Zm a)),.lit (.bool (Zn b)),.lit (.string (Zm b)),.lit (.bool (Zn c)),.lit (.string (Zm c))],.agg [.lit (.bool (Zn x)),.lit (.string (Zm x)),.lit (.bool (Zn y)),.lit (.string (Zm y)),.lit (.bool (Zn z)),.lit (.string (Zm z))]] [] (.agg (eZ (a*x+b*y+c*z))) []:=by
 refine zs func232 21 [.cell 4 24] results232 ?_
 simp only[aD,Nat.reduceAdd]
 have m1:=aR a x h1 k1
 have m2:=aR b y h2 k2
 have m3:=aR c z h3 k3
 have u1:=gH (a*x) (b*y) m1 m2
 repeat'(first|refine zg ?_|refine bQ 6 ?_|(refine zc ?_ ?_<;>intro hc<;>try simp only[NM]at hc)|refine zr ?_|(first|refine zf (bE (a) (x) (by omega) (by omega)) ?_|refine zf (bE (b) (y) (by omega) (by omega)) ?_|refine zf (bE (c) (z) (by omega) (by omega)) ?_)|(first|refine zf (c82e (a*x) (by omega)) ?_|refine zf (tM (a*x) (b*y) (by omega) (by omega)) ?_|refine zf (tM (a*x+b*y) (c*z) (by omega) (by omega)) ?_)|refine⟨by omega,?_⟩|(refine zb ?_ ?_<;>intro hg<;>(try rw[hg])<;>try simp only[NM]at hg)|omega|simp -dsimp (disch:=try exact zo)only[go_sem]|contradiction|rfl)
theorem c187 (x y z w:Int) (hb:Bs 17179869183 x y z w) (hw:w≠0):CallOK prog 187 [.agg [.lit (.bool (Zn x)),.lit (.string (Zm x)),.lit (.bool (Zn y)),.lit (.string (Zm y)),.lit (.bool (Zn z)),.lit (.string (Zm z))],.agg (eZ w)] [] (.tup [.agg (eP (nrm x y z w)),.lit (.bool true)]) []:=by
 refine zs func187 19 [.cell 4 51,.tmp 5] results187 ?_
 simp only[aD,Nat.reduceAdd]
 have sw:=hb.d
 have hs:(sg w=0)=False:=eq_false fun h=>hw (fT.1 h)
 repeat'(first|refine zg ?_|(refine zc ?_ ?_<;>intro hc<;>try simp only[NM]at hc)|refine zr ?_|(refine zf (fK w (by omega)) ?_)|(refine zf (c98z x y z w hb) ?_)|refine⟨by omega,?_⟩|(refine zb ?_ ?_<;>intro hg<;>(try rw[hg])<;>try simp only[NM]at hg)|omega|simp -dsimp (disch:=try exact zo)only[go_sem,hs]|contradiction|rfl)
theorem c185 (p:Pl) (x:Pt) (hp:BPl 1073741824 p) (hx:BPt 1073741824 x):CallOK prog 185 [.agg (eH p),.agg (eP x)] [] (.agg (eZ (abv p x))) []:=by
 refine zs func185 21 [.cell 4 24] results185 ?_
 simp only[aD,Nat.reduceAdd]
 have sp1:=hp.out.a
 have sp2:=hp.out.b
 have sp3:=hp.out.c
 have sp4:=hp.out.d
 have sx1:=hx.out.a
 have sx2:=hx.out.b
 have sx3:=hx.out.c
 have sx4:=hx.out.d
 have m1:=aR (p.a) (x.x) sp1 sx1
 have m2:=aR (p.b) (x.y) sp2 sx2
 have m3:=aR (p.c) (x.z) sp3 sx3
 have m4:=aR (p.d) (x.w) sp4 sx4
 have u1:=gH _ _ m1 m2
 have u2:=gH _ _ u1 (Nat.le_succ_of_le m3)
 repeat'(first|refine zg ?_|(refine zc ?_ ?_<;>intro hc<;>try simp only[NM]at hc)|refine zr ?_|(refine zf (c233 p) ?_)|(refine zf (c232 p.a p.b p.c x.x x.y x.z sp1 sp2 sp3 sx1 sx2 sx3) ?_)|(refine zf (bE p.d x.w (by omega) (by omega)) ?_)|(refine zf (a8w (p.a*x.x+p.b*x.y+p.c*x.z) (p.d*x.w) (by omega) (by omega)) ?_)|refine⟨by omega,?_⟩|(refine zb ?_ ?_<;>intro hg<;>(try rw[hg])<;>try simp only[NM]at hg)|omega|simp -dsimp (disch:=try exact zo)only[go_sem]|contradiction|rfl)
end Go.Proofs.Vx
namespace Go.Proofs.Vx
open Go Go.Sx Go.Proofs Tryz
attribute [local irreducible] fnT CallOK CallFr AW aO callV aP aN aM aQ gcaseP hid
theorem b5n:boT prog 51=false∧Tryz.prog.eqGuardType Tryz.prog.depth 51=false∧lfT prog 30 51=some [.b,.s,.b,.s,.b,.s,.b,.s]:=by and_intros<;>kernel_rfl
attribute [go_sem] b5n
theorem vC:fnT prog 186=true:=by kernel_rfl
theorem c186 (x y t s:Int) (hx:(Zm x).size≤4294967296) (hy:(Zm y).size≤4294967296) (ht:(Zm t).size≤4294967296) (hs:(Zm s).size≤4294967296):CallOK prog 186 [.agg (eZ x),.agg (eZ y),.fp (eZ t),.fp (eZ s)] [] (.agg (eZ (x*t - y*s))) []:=by
 refine zs func186 14 [.cell 6 24] results186 ?_
 simp only[aD,Nat.reduceAdd]
 have m1:=aR x t hx ht
 have m2:=aR y s hy hs
 repeat'(first|refine zg ?_|(refine zc ?_ ?_<;>intro hc<;>try simp only[NM]at hc)|refine zr ?_|(first|refine zf (bE x t (by omega) (by omega)) ?_|refine zf (bE y s (by omega) (by omega)) ?_)|(refine zf (a8w (x*t) (y*s) (by omega) (by omega)) ?_)|refine⟨by omega,?_⟩|(refine zb ?_ ?_<;>intro hg<;>(try rw[hg])<;>try simp only[NM]at hg)|omega|simp -dsimp (disch:=try exact zo)only[go_sem]|contradiction|rfl)
theorem f9 (p:Pl) (a b:Pt) (hp:BPl 1073741824 p) (ha:BPt 1073741824 a) (hb:BPt 1073741824 b) (hab:a≠b) (hw:a.w*abv p b - b.w*abv p a≠0):CallOK prog 141 [.agg (eH p),.agg (eP a),.agg (eP b)] [] (.tup [.agg (eP (bW p a b)),.lit (.bool true)]) []:=by
 refine zs func141 50 [.cell 6 51,.tmp 7] results141 ?_
 simp only[aD,Nat.reduceAdd]
 have hne:(a.x=b.x∧a.y=b.y∧a.z=b.z∧a.w=b.w)=False:=eq_false fun h=>hab (by cases a;cases b;simp at h;simp[h])
 have va:=vL hp ha
 have vb:=vL hp hb
 have sa1:=ha.out.a
 have sa2:=ha.out.b
 have sa3:=ha.out.c
 have sa4:=ha.out.d
 have sb1:=hb.out.a
 have sb2:=hb.out.b
 have sb3:=hb.out.c
 have sb4:=hb.out.d
 have mx:=aR a.x _ sa1 vb
 have nx:=aR b.x _ sb1 va
 have qx:=zs_sub _ _ mx nx
 have my:=aR a.y _ sa2 vb
 have ny:=aR b.y _ sb2 va
 have qy:=zs_sub _ _ my ny
 have mz:=aR a.z _ sa3 vb
 have nz:=aR b.z _ sb3 va
 have qz:=zs_sub _ _ mz nz
 have mw:=aR a.w _ sa4 vb
 have nw:=aR b.w _ sb4 va
 have qw:=zs_sub _ _ mw nw
 have hbs:Bs 17179869183 (a.x*abv p b - b.x*abv p a) (a.y*abv p b - b.y*abv p a) (a.z*abv p b - b.z*abv p a) (a.w*abv p b - b.w*abv p a):=⟨by omega,by omega,by omega,by omega⟩
 unfold bW
 repeat'(first|refine zg ?_|(refine zc ?_ ?_<;>intro hc<;>try simp only[NM]at hc)|refine zr ?_|(first|refine zf (c185 p a hp ha) ?_|refine zf (c185 p b hp hb) ?_)|(first|refine dB (.agg (eZ (a.x*abv p b - b.x*abv p a))) vC (by simp -dsimp (disch:=try exact zo)only[go_sem];exact c186 a.x b.x (abv p b) (abv p a) (by omega) (by omega) (by omega) (by omega)) (by simp -dsimp (disch:=try exact zo)only[go_sem]) (.agg _ (by simp;exact⟨.lit _,.lit _⟩)) ?_|refine dB (.agg (eZ (a.y*abv p b - b.y*abv p a))) vC (by simp -dsimp (disch:=try exact zo)only[go_sem];exact c186 a.y b.y (abv p b) (abv p a) (by omega) (by omega) (by omega) (by omega)) (by simp -dsimp (disch:=try exact zo)only[go_sem]) (.agg _ (by simp;exact⟨.lit _,.lit _⟩)) ?_|refine dB (.agg (eZ (a.z*abv p b - b.z*abv p a))) vC (by simp -dsimp (disch:=try exact zo)only[go_sem];exact c186 a.z b.z (abv p b) (abv p a) (by omega) (by omega) (by omega) (by omega)) (by simp -dsimp (disch:=try exact zo)only[go_sem]) (.agg _ (by simp;exact⟨.lit _,.lit _⟩)) ?_|refine dB (.agg (eZ (a.w*abv p b - b.w*abv p a))) vC (by simp -dsimp (disch:=try exact zo)only[go_sem];exact c186 a.w b.w (abv p b) (abv p a) (by omega) (by omega) (by omega) (by omega)) (by simp -dsimp (disch:=try exact zo)only[go_sem]) (.agg _ (by simp;exact⟨.lit _,.lit _⟩)) ?_)|(refine zf (c187 _ _ _ _ hbs hw) ?_)|refine⟨by omega,?_⟩|(refine zb ?_ ?_<;>intro hg<;>(try rw[hg])<;>try simp only[NM]at hg)|omega|simp -dsimp (disch:=try exact zo)only[go_sem,hne]|contradiction|rfl)
end Go.Proofs.Vx
namespace Geo
variable {α β:Type}
def aK:List α→List (α × α)
 | []=>[]
 | [_]=>[]
 | a::b::t=>(a,b)::aK (b::t)
def edges:List α→List (α × α)
 | []=>[]
 | x::t=>aK (x::t++[x])
theorem lY (l:List α) (m:α) (r:List α):aK (l++m::r)=aK (l++[m])++aK (m::r):=by
 induction l with
 | nil=>simp[aK]
 | cons a l ih=>cases l with
  | nil=>simp[aK]
  | cons b l=>simpa [aK]using ih
theorem lQ (a b:α) (A B:List α):edges (a::A++b::B)=aK (a::A++[b])++aK (b::B++[a]):=by
 have:=lY (a::A) b (B++[a])
 simpa [edges]using this
theorem rX (A B:List α):(edges (A++B)).Perm (edges (B++A)):=by
 cases A with
 | nil=>simp
 | cons a A=>cases B with
  | nil=>simp
  | cons b B=>rw[lQ,lQ];exact List.perm_append_comm
theorem sA (l:List α) (x:α):(aK (l++[x])).map (·.1)=l:=by
 induction l with
 | nil=>rfl
 | cons a l ih=>cases l with
  | nil=>rfl
  | cons b l=>simpa [aK]using ih
theorem r9 (x:α) (l:List α):(aK (x::l)).map (·.2)=l:=by
 induction l generalizing x with
 | nil=>rfl
 | cons a l ih=>simpa [aK]using ih a
theorem i6 (l:List α):(edges l).map (·.1)=l:=by
 cases l with
 | nil=>rfl
 | cons x t=>exact sA (x::t) x
theorem xM (l:List α):((edges l).map (·.2)).Perm l:=by
 cases l with
 | nil=>exact List.Perm.refl _
 | cons x t =>
  show ((aK (x::(t++[x]))).map (·.2)).Perm _
  rw[r9]
  exact List.perm_append_singleton x t
theorem gC (l:List α):(edges l).length=l.length:=by
 have:=congrArg List.length (i6 l);simpa using this
theorem bL {l:List α} {e:α × α} (h:e∈edges l):e.1∈l:=by
 have:=List.mem_map_of_mem (f:=(·.1)) h;rwa [i6]at this
theorem bU {l:List α} {e:α × α} (h:e∈edges l):e.2∈l :=
 (xM l).mem_iff.1 (List.mem_map_of_mem (f:=(·.2)) h)
theorem pH {l:List α} {a:α} (h:a∈l):∃ b,(a,b)∈edges l:=by
 rw[← i6 l]at h
 obtain⟨e,he,rfl⟩:=List.mem_map.1 h
 exact⟨e.2,he⟩
theorem c5q {l:List α} {a:α} (h:a∈l):∃ b,(b,a)∈edges l:=by
 have h:=(xM l).mem_iff.2 h
 obtain⟨e,he,rfl⟩:=List.mem_map.1 h
 exact⟨e.1,he⟩
theorem rF {f:α→β} {l:List α} (h:(l.map f).Nodup) {a b:α} (ha:a∈l) (hb:b∈l) (e:f a=f b):a=b:=by
 induction l with
 | nil=>simp at ha
 | cons x l ih =>
  simp only[List.map_cons,List.nodup_cons,List.mem_map,not_exists,not_and]at h
  rcases List.mem_cons.1 ha with ea|ma<;>rcases List.mem_cons.1 hb with eb|mb
  ·rw[ea,eb]
  ·exact absurd (by rw[← e,ea]) (h.1 _ mb)
  ·exact absurd (by rw[e,eb]) (h.1 _ ma)
  ·exact ih h.2 ma mb
theorem a1g {l:List α} (h:l.Nodup) {a b c:α} (h1:(a,b)∈edges l) (h2:(a,c)∈edges l):b=c:=by
 have:=rF (f:=(·.1)) (by rw[i6];exact h) h1 h2 rfl
 exact congrArg (·.2) this
theorem wQ {f:α→β} {l:List α} (h:(l.map f).Nodup):l.Nodup:=by
 induction l with
 | nil=>simp
 | cons x l ih =>
  simp only[List.map_cons,List.nodup_cons,List.mem_map,not_exists,not_and]at h ⊢
  exact⟨fun hx=>h.1 x hx rfl,ih h.2⟩
theorem rJ {l:List α} (h:l.Nodup):(edges l).Nodup:=by
 have:((edges l).map (·.1)).Nodup:=by rw[i6];exact h
 exact wQ this
theorem b6r (f:α→β) (l:List α):aK (l.map f)=(aK l).map (fun e=>(f e.1,f e.2)):=by
 induction l with
 | nil=>rfl
 | cons a l ih=>cases l with
  | nil=>rfl
  | cons b l=>simpa [aK]using ih
theorem a2s (f:α→β) (l:List α):edges (l.map f)=(edges l).map (fun e=>(f e.1,f e.2)):=by
 cases l with
 | nil=>rfl
 | cons a l=>have:=b6r f (a::l++[a]);simpa [edges]using this
theorem a9a (A:List α) (x y:α) (B:List α):(x,y)∈aK (A++x::y::B):=by
 rw[lY];simp[aK]
theorem uA {l:List α} {e:α × α} (h:e∈aK l):∃ A B,l=A++e.1::e.2::B:=by
 induction l with
 | nil=>simp[aK]at h
 | cons a l ih=>cases l with
  | nil=>simp[aK]at h
  | cons b l =>
   simp only[aK,List.mem_cons]at h
   rcases h with rfl|h
   ·exact⟨[],l,rfl⟩
   ·obtain⟨A,B,hAB⟩:=ih h
    exact⟨a::A,B,by rw[hAB];rfl⟩
theorem b8g {l:List α} (h:l.Nodup) (h2:2≤l.length) {e:α × α} (he:e∈edges l):e.1≠e.2:=by
 intro heq
 match l,h,h2,he with
 | x::y::t,h,_,he =>
  obtain⟨A,B,hAB⟩:=uA (l:=x::y::t++[x]) he
  rw[← heq]at hAB
  rcases List.eq_nil_or_concat B with rfl|⟨B',b,rfl⟩
  ·have h1:x::y::t=A++[e.1]∧[x]=[e.1]:=by
    have:(x::y::t)++[x]=(A++[e.1])++[e.1]:=by simpa using hAB
    exact List.append_inj' this rfl
   have hx:x=e.1:=by simpa using h1.2
   cases A with
   | nil=>simp at h1
   | cons a A =>
    have h3:x=a∧y::t=A++[e.1]:=by simpa using h1.1
    have:x∈y::t:=by rw[h3.2,hx];simp
    exact (List.nodup_cons.1 h).1 this
  ·have h1:x::y::t=A++e.1::e.1::B':=by
    have:(x::y::t)++[x]=(A++e.1::e.1::B')++[b]:=by simpa using hAB
    exact (List.append_inj' this rfl).1
   rw[h1]at h
   have:=(List.nodup_append.1 h).2.1
   simp at this
theorem wV {p:α→Prop} {x:α} {t:List α} (h:∀ e∈aK (x::t),p e.1→p e.2) (hx:p x):∀ y∈x::t,p y:=by
 induction t generalizing x with
 | nil=>intro y hy;simp at hy;exact hy▸hx
 | cons b t ih =>
  intro y hy
  rcases List.mem_cons.1 hy with rfl|hy
  ·exact hx
  ·exact ih (fun e he=>h e (by simp[aK,he])) (h (x,b) (by simp[aK]) hx) y hy
theorem a3g {p:α→Prop} [DecidablePred p]:∀ {l:List α},(∀ e∈aK l,p e.1→p e.2)→∃ P N,l=P++N∧(∀ x∈P,¬ p x)∧∀ x∈N,p x
 | [],_=>⟨[],[],rfl,by simp,by simp⟩
 | x::t,h=>by
  by_cases hx:p x
  ·exact⟨[],x::t,rfl,by simp,wV h hx⟩
  ·obtain⟨P,N,h1,h2,h3⟩:=a3g (p:=p) (l:=t) (fun e he=>h e (by cases t with|nil=>simp[aK]at he|cons b t=>simp[aK,he]))
   refine⟨x::P,N,by rw[h1];rfl,?_,h3⟩
   intro y hy
   rcases List.mem_cons.1 hy with rfl|hy
   ·exact hx
   ·exact h2 y hy
theorem c5p {p:α→Prop} [DecidablePred p] {l:List α} {a b:α} (ha:a∈l) (pa:p a) (hb:b∈l) (pb:¬ p b):∃ e∈edges l,p e.1∧¬ p e.2:=by
 apply Classical.byContradiction
 intro hno
 have hcl:∀ e∈edges l,p e.1→p e.2:=fun e he h1=>Classical.byContradiction fun h2=>hno ⟨e,he,h1,h2⟩
 cases l with
 | nil=>simp at ha
 | cons x t =>
  obtain⟨A,B,hAB⟩:=List.append_of_mem ha
  have h1:aK (x::t++[x])=aK (A++[a])++aK (a::(B++[x])):=by
   rw[hAB];have:=lY A a (B++[x]);simpa using this
  have hx:p x:=wV (t:=B++[x]) (fun e he=>hcl e (by show e∈aK (x::t++[x]);rw[h1];simp[he])) pa x (by simp)
  exact pb (wV (t:=t++[x]) (fun e he=>hcl e he) hx b (by
   rcases List.mem_cons.1 hb with rfl|hb
   ·simp
   ·simp[hb]))
theorem b2t {p : α → Prop} [DecidablePred p] {l : List α} (hnd : l.Nodup) (h1 : ∀ e ∈ edges l, ∀ e' ∈ edges l, (p e.1 ∧ ¬ p e.2) → (p e'.1 ∧ ¬ p e'.2) → e = e') {a b : α} (ha : a ∈ l) (pa : p a) (hb : b ∈ l) (pb : ¬ p b) :
  ∃ N P A B,l=A++B∧B++A=N++P∧N≠[]∧P≠[]∧(∀ x∈N,p x)∧∀ x∈P,¬ p x:=by
 obtain⟨u,hu,hu1,hu2⟩:=c5p ha pa hb pb
 have key:∃ A B T,l=A++B∧B++A=u.2::T∧aK (u.2::(T++[u.2]))=aK (u.2::T)++[(u.1,u.2)]:=by
  cases l with
  | nil=>simp at ha
  | cons x t =>
   obtain⟨A,B,hAB⟩:=uA (l:=x::t++[x]) hu
   rcases List.eq_nil_or_concat B with rfl|⟨B',c,rfl⟩
   ·have h2:(x::t)++[x]=(A++[u.1])++[u.2]:=by simpa using hAB
    obtain⟨h3,h4⟩:=List.append_inj' h2 rfl
    have hx:x=u.2:=by simpa using h4
    refine⟨[],x::t,t,rfl,by simp[hx],?_⟩
    have h5:u.2::t=A++[u.1]:=by rw[← hx];exact h3
    have:aK ((u.2::t)++[u.2])=aK (u.2::t)++[(u.1,u.2)]:=by
     rw[h5]
     have:=lY A u.1 [u.2]
     simpa [aK]using this
    simpa using this
   ·have h2:(x::t)++[x]=(A++u.1::u.2::B')++[c]:=by simpa using hAB
    obtain⟨h3,h4⟩:=List.append_inj' h2 rfl
    refine⟨A++[u.1],u.2::B',B'++(A++[u.1]),by simpa using h3,by simp,?_⟩
    have:=lY (u.2::B'++A) u.1 [u.2]
    simpa [aK]using this
 obtain⟨A,B,T,hl,hT,hp⟩:=key
 have hnd2:(B++A).Nodup:=by
  rw[hl]at hnd
  exact (List.perm_append_comm.nodup_iff).1 hnd
 have hed:edges (B++A)=aK (u.2::T)++[(u.1,u.2)]:=by
  rw[hT];show aK (u.2::T++[u.2])=_;rw[← hp];rfl
 have hper:(edges l).Perm (edges (B++A)):=by rw[hl];exact rX A B
 have hndE:=rJ hnd2
 rw[hed]at hndE
 have hno:∀ e∈aK (u.2::T),p e.1→p e.2:=by
  intro e he h2
  apply Classical.byContradiction
  intro h3
  have hel:e∈edges l:=hper.mem_iff.2 (by rw[hed];simp[he])
  have:=h1 e hel u hu ⟨h2,h3⟩ ⟨hu1,hu2⟩
  subst this
  exact (List.nodup_append.1 hndE).2.2 e he e (by simp) rfl
 obtain⟨P,N,q1,q2,q3⟩:=a3g hno
 have hmem:∀ y,y∈l↔y∈P++N:=fun y=>by
  rw[← q1,← hT,hl];simp[or_comm]
 have hN:N≠[]:=by
  intro h0;subst h0
  exact q2 a (by simpa using (hmem a).1 ha) pa
 have hP:P≠[]:=by
  intro h0;subst h0
  exact pb (q3 b (by simpa using (hmem b).1 hb))
 rw[q1]at hT
 rcases List.append_eq_append_iff.1 hT with⟨C,hc1,hc2⟩|⟨C,hc1,hc2⟩
 ·
  exact⟨N,P,C,N++B,by rw[hl,hc2];simp,by rw[hc1];simp,hN,hP,q3,q2⟩
 ·
  exact⟨N,P,A++P,C,by rw[hl,hc1];simp,by rw[hc2];simp,hN,hP,q3,q2⟩
end Geo
namespace Go.Sx
set_option linter.unusedVariables false
theorem a0d {α:Type}:∀ (l:List α) (i:Nat) (h:i<(Geo.aK l).length) (h1:i<l.length) (h2:i+1<l.length),(Geo.aK l)[i]=(l[i],l[i+1])
 | [],i,h,_,_=>by simp[Geo.aK]at h
 | [_],i,h,_,_=>by simp[Geo.aK]at h
 | a::b::t,0,h,_,_=>by simp[Geo.aK]
 | a::b::t,i+1,h,h1,h2=>by
  have:=a0d (b::t) i (by simpa [Geo.aK]using h) (by simpa using h1) (by simpa using h2)
  simpa [Geo.aK]using this
theorem b7b {i n:Nat} (h:i<n):(i+1) % n=if i+1=n then 0 else i+1:=by
 split
 ·rename_i e;rw[e,Nat.mod_self]
 ·exact Nat.mod_eq_of_lt (by omega)
theorem xN {α:Type} (l:List α) (i:Nat) (h:i<l.length) (h':i<(Geo.edges l).length):(Geo.edges l)[i]=(l[i],l[(i+1) % l.length]'(Nat.mod_lt _ (by omega))):=by
 cases l with
 | nil=>simp at h
 | cons x t =>
  have hp:(Geo.edges (x::t))=Geo.aK (x::t++[x]):=rfl
  have:=a0d (x::t++[x]) i (by rw[← hp];exact h') (by simp at h ⊢;omega) (by simp at h ⊢;omega)
  simp only[hp]
  rw[this]
  have e1:(x::t++[x])[i]'(by simp at h ⊢;omega)=(x::t)[i]:=List.getElem_append_left h
  rw[e1]
  congr 1
  simp only[b7b h]
  split
  ·rename_i e
   rw[List.getElem_append_right (by omega)]
   simp[e]
  ·rename_i e
   rw[List.getElem_append_left (by simp at h e ⊢;omega)]
abbrev eG (p:Pl) (vs:List Pt):List AV:=[.lit (.bool (Zn p.a)),.lit (.string (Zm p.a)),.lit (.bool (Zn p.b)),.lit (.string (Zm p.b)),.lit (.bool (Zn p.c)),.lit (.string (Zm p.c)),.lit (.bool (Zn p.d)),.lit (.string (Zm p.d)),.sl (vs.map eP)]
abbrev eG0:List AV:=[.lit (.bool false),.lit (.string ⟨#[]⟩),.lit (.bool false),.lit (.string ⟨#[]⟩),.lit (.bool false),.lit (.string ⟨#[]⟩),.lit (.bool false),.lit (.string ⟨#[]⟩),.lit (.slice none 0 0)]
def pc (h:Int) (by':Pl) (a b:Pt):List Pt:=(if aB by' a≠-h then [a]else [])++(if aB by' a*aB by' b<0 then [bW by' a b]else [])
def bD (h:Int) (by':Pl) (vs:List Pt):List Pt:=(Geo.edges vs).flatMap fun e=>pc h by' e.1 e.2
def aY (h:Int) (by':Pl) (vs:List Pt) (i:Nat):List Pt:=((Geo.edges vs).take i).flatMap fun e=>pc h by' e.1 e.2
def bG (h:Int) (by':Pl) (vs:List Pt) (i:Nat):Bool:=(vs.take i).any fun v=>decide (aB by' v=h)
theorem uB (h:Int) (by':Pl) (vs:List Pt):aY h by' vs 0=[]:=rfl
theorem uM (h:Int) (by':Pl) (vs:List Pt):aY h by' vs vs.length=bD h by' vs:=by
 unfold aY bD
 rw[List.take_of_length_le (by rw[Geo.gC];exact Nat.le_refl _)]
theorem uC (h:Int) (by':Pl) (vs:List Pt) (i:Nat) (hi:i<vs.length):aY h by' vs (i+1)=aY h by' vs i++pc h by' vs[i] (vs[(i+1) % vs.length]'(Nat.mod_lt _ (by omega))):=by
 have hl:i<(Geo.edges vs).length:=by rw[Geo.gC];exact hi
 unfold aY
 rw[List.take_succ_eq_append_getElem hl,List.flatMap_append,xN vs i hi hl]
 simp
theorem a0z (h:Int) (by':Pl) (vs:List Pt):bG h by' vs 0=false:=rfl
theorem a1a (h:Int) (by':Pl) (vs:List Pt) (i:Nat) (hi:i<vs.length):bG h by' vs (i+1)=(bG h by' vs i||decide (aB by' vs[i]=h)):=by
 unfold bG
 rw[List.take_succ_eq_append_getElem hi,List.any_append]
 simp
theorem b2z (h:Int) (by':Pl) (a b:Pt):(pc h by' a b).length≤2:=by
 unfold pc
 split<;>split<;>simp
theorem tU (h:Int) (by':Pl) (vs:List Pt) (i:Nat):(aY h by' vs i).length≤2*i:=by
 induction i with
 | zero=>simp[uB]
 | succ i ih =>
  by_cases hi:i<vs.length
  ·rw[uC h by' vs i hi,List.length_append]
   have:=b2z h by' vs[i] (vs[(i+1) % vs.length]'(Nat.mod_lt _ (by omega)))
   omega
  ·have:aY h by' vs (i+1)=aY h by' vs i:=by
    unfold aY
    rw[List.take_of_length_le (by rw[Geo.gC];omega),List.take_of_length_le (by rw[Geo.gC];omega)]
   rw[this];omega
theorem gD (z:Int):(sg z=-1∧z<0)∨(sg z=0∧z=0)∨(sg z=1∧0<z):=by
 unfold sg
 split
 ·exact .inl ⟨rfl,by assumption⟩
 ·split
  ·exact .inr (.inl ⟨rfl,by assumption⟩)
  ·exact .inr (.inr ⟨rfl,by omega⟩)
theorem opp {p:Pl} {a b:Pt} (h:aB p a*aB p b<0):(abv p a<0∧0<abv p b)∨(0<abv p a∧abv p b<0):=by
 unfold aB at h
 rcases gD (abv p a)with⟨e1,h1⟩|⟨e1,h1⟩|⟨e1,h1⟩<;>rcases gD (abv p b)with⟨e2,h2⟩|⟨e2,h2⟩|⟨e2,h2⟩<;>rw[e1,e2]at h<;>simp at h
 ·exact .inl ⟨h1,h2⟩
 ·exact .inr ⟨h1,h2⟩
theorem fU {p:Pl} {a b:Pt} (h:aB p a*aB p b<0):a≠b:=by
 rintro rfl
 rcases opp h with h|h<;>omega
theorem fE {p:Pl} {a b:Pt} (ha:0<a.w) (hb:0<b.w) (h:aB p a*aB p b<0):a.w*abv p b - b.w*abv p a≠0:=by
 rcases opp h with⟨h1,h2⟩|⟨h1,h2⟩
 ·have:=Int.mul_pos ha h2
  have:=Int.mul_neg_of_pos_of_neg hb h1
  omega
 ·have:=Int.mul_neg_of_pos_of_neg ha h2
  have:=Int.mul_pos hb h1
  omega
theorem d7 (p:Pl) (a b:Pt):IntKind.i64.wrap (aB p a*aB p b)=aB p a*aB p b:=by
 unfold aB
 rcases gD (abv p a)with⟨e1,h1⟩|⟨e1,h1⟩|⟨e1,h1⟩<;>rcases gD (abv p b)with⟨e2,h2⟩|⟨e2,h2⟩|⟨e2,h2⟩<;>rw[e1,e2]<;>decide
theorem fB (vs:List Pt) (i:Nat) (h:i<vs.length):(vs.map eP).getD i []=eP vs[i]:=by
 rw[List.getD_eq_getElem?_getD,List.getElem?_eq_getElem (by simpa using h)];simp
theorem uG (k:IntKind) (xs:List Int) (i:Nat) (h:i<xs.length):(aJ k xs).getD i []=[.lit (.int k xs[i])]:=by
 rw[List.getD_eq_getElem?_getD,List.getElem?_eq_getElem (by rw[b5];exact h)];simp[aJ]
theorem pI (vs:List Pt):∀ e∈vs.map eP,∀ c∈e,Flat c:=by
 intro e he c hc
 obtain⟨v,_,rfl⟩:=List.mem_map.1 he
 simp only[eP,e4,List.mem_cons,List.not_mem_nil,or_false]at hc
 rcases hc with rfl|rfl|rfl|rfl|rfl|rfl|rfl|rfl<;>exact .lit _
theorem aC {K:Nat→Prop} (vs:List Pt):(∀ e∈vs.map eP,∀ c∈e,In K c)=True:=eq_true fun e he c hc=>(pI vs e he c hc).inn
end Go.Sx
