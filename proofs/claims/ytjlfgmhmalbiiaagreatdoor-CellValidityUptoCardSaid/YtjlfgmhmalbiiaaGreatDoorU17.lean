import Derived.Test.YtjlfgmhmalbiiaaGreatDoorProg
import Derived.Test.YtjlfgmhmalbiiaaGreatDoorU11
import Derived.Test.YtjlfgmhmalbiiaaGreatDoorU16
set_option linter.all false
namespace Go.Proofs.Vx
open Go Go.Sx Go.Proofs
attribute [local irreducible] fnT CallOK CallFr AW effV callV runP runO oneP oneO gcaseP hid
theorem yqq_Nx19:agT Tryz.prog 193=some true∧arT Tryz.prog 193=some (3,2,true)∧plT Tryz.prog 193=some [(0,2),(2,2),(4,2)]∧slT Tryz.prog 193=none∧szT Tryz.prog 193=some 6∧zeT Tryz.prog 193=some [.lit (.bool false),.lit (.string ⟨#[]⟩),.lit (.bool false),.lit (.string ⟨#[]⟩),.lit (.bool false),.lit (.string ⟨#[]⟩)]:=by and_intros<;>kernel_rfl
attribute [go_sem] yqq_Nx19
theorem yfn_141:fnT Tryz.prog 141=true:=by kernel_rfl
theorem yfn_185:fnT Tryz.prog 185=true:=by kernel_rfl
theorem yfn_186:fnT Tryz.prog 186=true:=by kernel_rfl
theorem yfn_187:fnT Tryz.prog 187=true:=by kernel_rfl
theorem yfn_232:fnT Tryz.prog 232=true:=by kernel_rfl
theorem yfn_233:fnT Tryz.prog 233=true:=by kernel_rfl
set_option maxHeartbeats 3200000 in
theorem c34 (p:Pl) (x:Pt) (hp:BPl 1073741824 p) (hx:BPt 1073741824 x):CallOK Tryz.prog 34 [.agg (eH p),.agg (eP x)] [] (.lit (.int .i64 (sideP p x))) []:=by
 refine CallOK.flat Tryz.func34 rfl 30 rfl rfl rfl [.tmp 4] (congrArg Array.toList Tryz.results34) ?_
 simp only[startT,Nat.reduceAdd]
 have sp1:=hp.out.a
 have sp2:=hp.out.b
 have sp3:=hp.out.c
 have sp4:=hp.out.d
 have sx1:=hx.out.a
 have sx2:=hx.out.b
 have sx3:=hx.out.c
 have sx4:=hx.out.d
 have m1:=zs_mul (p.a) (x.x) sp1 sx1
 have m2:=zs_mul (p.b) (x.y) sp2 sx2
 have m3:=zs_mul (p.c) (x.z) sp3 sx3
 have m4:=zs_mul (p.d) (x.w) sp4 sx4
 have u1:=zs_add _ _ m1 m2
 have u2:=zs_add _ _ u1 (Nat.le_succ_of_le m3)
 repeat' (first|refine zg ?_|(refine AW.cond rfl ?_ ?_<;>intro hc<;>try simp only[NM]at hc)|refine zr ?_|(first|refine callV.flat _ yfn_83 (c83z (p.a) (x.x) (by omega) (by omega)) rfl rfl ?_|refine callV.flat _ yfn_83 (c83z (p.b) (x.y) (by omega) (by omega)) rfl rfl ?_|refine callV.flat _ yfn_83 (c83z (p.c) (x.z) (by omega) (by omega)) rfl rfl ?_|refine callV.flat _ yfn_83 (c83z (p.d) (x.w) (by omega) (by omega)) rfl rfl ?_)|(first|refine callV.flat _ yfn_82 (c82z (p.a*x.x) (p.b*x.y) (by omega) (by omega)) rfl rfl ?_|refine callV.flat _ yfn_82 (c82z (p.a*x.x+p.b*x.y) (p.c*x.z) (by omega) (by omega)) rfl rfl ?_)|(refine callV.flat _ yfn_97 (c97z (p.a*x.x+p.b*x.y+p.c*x.z) (p.d*x.w) (by omega) (by omega)) rfl rfl ?_)|refine ⟨by omega,?_⟩|(refine zb ?_ ?_<;>intro hg<;>(try rw[hg])<;>try simp only[NM]at hg)|omega|simp -dsimp (disch:=try exact zo) only[go_sem]|contradiction|rfl)
set_option maxHeartbeats 1600000 in
theorem c22 (p:Pl) (hp:BPl 1073741824 p):CallOK Tryz.prog 22 [.agg (eH p)] [] (.agg (eH (negP p))) []:=by
 refine CallOK.flat Tryz.func22 rfl 19 rfl rfl rfl [.cell 2 26] (congrArg Array.toList Tryz.results22) ?_
 simp only[startT,Nat.reduceAdd]
 have sp1:=hp.out.a
 have sp2:=hp.out.b
 have sp3:=hp.out.c
 have sp4:=hp.out.d
 unfold negP
 repeat' (first|refine zg ?_|refine AW.unroll 6 ?_|(refine AW.cond rfl ?_ ?_<;>intro hc<;>try simp only[NM]at hc)|refine zr ?_|(refine callV.flat _ yfn_72 (c72 _ _ _ _ _ _ _ _) rfl rfl ?_)|(first|refine callV.flat _ yfn_73 (c73z p.a (by omega)) rfl rfl ?_|refine callV.flat _ yfn_73 (c73z p.b (by omega)) rfl rfl ?_|refine callV.flat _ yfn_73 (c73z p.c (by omega)) rfl rfl ?_|refine callV.flat _ yfn_73 (c73z p.d (by omega)) rfl rfl ?_)|(refine callV.flat _ yfn_74 (c74 _ _ _ _ _ _ _ _) rfl rfl ?_)|refine ⟨by omega,?_⟩|(refine zb ?_ ?_<;>intro hg<;>(try rw[hg])<;>try simp only[NM]at hg)|omega|simp -dsimp (disch:=try exact zo) only[go_sem]|contradiction|rfl)
theorem nb_zero_size':(Zm 0).size=0:=nb_zero_size
theorem c82e (x:Int) (h:(Zm x).size<68719476736):CallOK Tryz.prog 82 [.agg [.lit (.bool false),.lit (.string ⟨#[]⟩)],.agg (eZ x)] [] (.agg (eZ x)) []:=by
 have:=c82z 0 x (by rw[nb_zero_size'];omega) h
 rw[Int.zero_add]at this
 simpa only[eZ,Zm_zero,Zn_false (Int.le_refl 0)]using this
set_option maxHeartbeats 1600000 in
theorem c233 (p:Pl):CallOK Tryz.prog 233 [.agg (eH p)] [] (.agg [.lit (.bool (Zn p.a)),.lit (.string (Zm p.a)),.lit (.bool (Zn p.b)),.lit (.string (Zm p.b)),.lit (.bool (Zn p.c)),.lit (.string (Zm p.c))]) []:=by
 refine CallOK.flat Tryz.func233 rfl 10 rfl rfl rfl [.cell 2 193] (congrArg Array.toList Tryz.results233) ?_
 simp only[startT,Nat.reduceAdd]
 repeat' (first|refine zg ?_|(refine AW.cond rfl ?_ ?_<;>intro hc<;>try simp only[NM]at hc)|refine zr ?_|refine ⟨by omega,?_⟩|(refine zb ?_ ?_<;>intro hg<;>(try rw[hg])<;>try simp only[NM]at hg)|omega|simp -dsimp (disch:=try exact zo) only[go_sem]|contradiction|rfl)
set_option maxHeartbeats 3200000 in
theorem c232 (a b c x y z:Int) (h1:(Zm a).size≤1073741824) (h2:(Zm b).size≤1073741824) (h3:(Zm c).size≤1073741824) (k1:(Zm x).size≤1073741824) (k2:(Zm y).size≤1073741824) (k3:(Zm z).size≤1073741824):CallOK Tryz.prog 232 [.agg [.lit (.bool (Zn a)),.lit (.string (Zm a)),.lit (.bool (Zn b)),.lit (.string (Zm b)),.lit (.bool (Zn c)),.lit (.string (Zm c))],.agg [.lit (.bool (Zn x)),.lit (.string (Zm x)),.lit (.bool (Zn y)),.lit (.string (Zm y)),.lit (.bool (Zn z)),.lit (.string (Zm z))]] [] (.agg (eZ (a*x+b*y+c*z))) []:=by
 refine CallOK.flat Tryz.func232 rfl 21 rfl rfl rfl [.cell 4 24] (congrArg Array.toList Tryz.results232) ?_
 simp only[startT,Nat.reduceAdd]
 have m1:=zs_mul a x h1 k1
 have m2:=zs_mul b y h2 k2
 have m3:=zs_mul c z h3 k3
 have u1:=zs_add (a*x) (b*y) m1 m2
 repeat' (first|refine zg ?_|refine AW.unroll 6 ?_|(refine AW.cond rfl ?_ ?_<;>intro hc<;>try simp only[NM]at hc)|refine zr ?_|(first|refine callV.flat _ yfn_83 (c83z (a) (x) (by omega) (by omega)) rfl rfl ?_|refine callV.flat _ yfn_83 (c83z (b) (y) (by omega) (by omega)) rfl rfl ?_|refine callV.flat _ yfn_83 (c83z (c) (z) (by omega) (by omega)) rfl rfl ?_)|(first|refine callV.flat _ yfn_82 (c82e (a*x) (by omega)) rfl rfl ?_|refine callV.flat _ yfn_82 (c82z (a*x) (b*y) (by omega) (by omega)) rfl rfl ?_|refine callV.flat _ yfn_82 (c82z (a*x+b*y) (c*z) (by omega) (by omega)) rfl rfl ?_)|refine ⟨by omega,?_⟩|(refine zb ?_ ?_<;>intro hg<;>(try rw[hg])<;>try simp only[NM]at hg)|omega|simp -dsimp (disch:=try exact zo) only[go_sem]|contradiction|rfl)
set_option maxHeartbeats 1600000 in
theorem c187 (x y z w:Int) (hb:Bs 17179869183 x y z w) (hw:w≠0):CallOK Tryz.prog 187 [.agg [.lit (.bool (Zn x)),.lit (.string (Zm x)),.lit (.bool (Zn y)),.lit (.string (Zm y)),.lit (.bool (Zn z)),.lit (.string (Zm z))],.agg (eZ w)] [] (.tup [.agg (eP (nrm x y z w)),.lit (.bool true)]) []:=by
 refine CallOK.flat Tryz.func187 rfl 19 rfl rfl rfl [.cell 4 51,.tmp 5] (congrArg Array.toList Tryz.results187) ?_
 simp only[startT,Nat.reduceAdd]
 have sw:=hb.d
 have hs:(sg w=0)=False:=eq_false fun h=>hw (sg_zero.1 h)
 repeat' (first|refine zg ?_|(refine AW.cond rfl ?_ ?_<;>intro hc<;>try simp only[NM]at hc)|refine zr ?_|(refine callV.flat _ yfn_76 (c76z w (by omega)) rfl rfl ?_)|(refine callV.flat _ yfn_98 (c98z x y z w hb) rfl rfl ?_)|refine ⟨by omega,?_⟩|(refine zb ?_ ?_<;>intro hg<;>(try rw[hg])<;>try simp only[NM]at hg)|omega|simp -dsimp (disch:=try exact zo) only[go_sem,hs]|contradiction|rfl)
set_option maxHeartbeats 1600000 in
theorem c185 (p:Pl) (x:Pt) (hp:BPl 1073741824 p) (hx:BPt 1073741824 x):CallOK Tryz.prog 185 [.agg (eH p),.agg (eP x)] [] (.agg (eZ (abv p x))) []:=by
 refine CallOK.flat Tryz.func185 rfl 21 rfl rfl rfl [.cell 4 24] (congrArg Array.toList Tryz.results185) ?_
 simp only[startT,Nat.reduceAdd]
 have sp1:=hp.out.a
 have sp2:=hp.out.b
 have sp3:=hp.out.c
 have sp4:=hp.out.d
 have sx1:=hx.out.a
 have sx2:=hx.out.b
 have sx3:=hx.out.c
 have sx4:=hx.out.d
 have m1:=zs_mul (p.a) (x.x) sp1 sx1
 have m2:=zs_mul (p.b) (x.y) sp2 sx2
 have m3:=zs_mul (p.c) (x.z) sp3 sx3
 have m4:=zs_mul (p.d) (x.w) sp4 sx4
 have u1:=zs_add _ _ m1 m2
 have u2:=zs_add _ _ u1 (Nat.le_succ_of_le m3)
 repeat' (first|refine zg ?_|(refine AW.cond rfl ?_ ?_<;>intro hc<;>try simp only[NM]at hc)|refine zr ?_|(refine callV.flat _ yfn_233 (c233 p) rfl rfl ?_)|(refine callV.flat _ yfn_232 (c232 p.a p.b p.c x.x x.y x.z sp1 sp2 sp3 sx1 sx2 sx3) rfl rfl ?_)|(refine callV.flat _ yfn_83 (c83z p.d x.w (by omega) (by omega)) rfl rfl ?_)|(refine callV.flat _ yfn_166 (c166z (p.a*x.x+p.b*x.y+p.c*x.z) (p.d*x.w) (by omega) (by omega)) rfl rfl ?_)|refine ⟨by omega,?_⟩|(refine zb ?_ ?_<;>intro hg<;>(try rw[hg])<;>try simp only[NM]at hg)|omega|simp -dsimp (disch:=try exact zo) only[go_sem]|contradiction|rfl)
end Go.Proofs.Vx
namespace Go.Proofs.Vx
open Go Go.Sx Go.Proofs
attribute [local irreducible] fnT CallOK CallFr AW effV callV runP runO oneP oneO gcaseP hid
theorem yqq_Nx20:boT Tryz.prog 51=false∧Tryz.prog.eqGuardType Tryz.prog.depth 51=false∧lfT Tryz.prog 30 51=some [.b,.s,.b,.s,.b,.s,.b,.s]:=by and_intros<;>kernel_rfl
attribute [go_sem] yqq_Nx20
set_option maxHeartbeats 1600000 in
theorem c186 (x y t s:Int) (hx:(Zm x).size≤4294967296) (hy:(Zm y).size≤4294967296) (ht:(Zm t).size≤4294967296) (hs:(Zm s).size≤4294967296):CallOK Tryz.prog 186 [.agg (eZ x),.agg (eZ y),.fp (eZ t),.fp (eZ s)] [] (.agg (eZ (x*t - y*s))) []:=by
 refine CallOK.flat Tryz.func186 rfl 14 rfl rfl rfl [.cell 6 24] (congrArg Array.toList Tryz.results186) ?_
 simp only[startT,Nat.reduceAdd]
 have m1:=zs_mul x t hx ht
 have m2:=zs_mul y s hy hs
 repeat' (first|refine zg ?_|(refine AW.cond rfl ?_ ?_<;>intro hc<;>try simp only[NM]at hc)|refine zr ?_|(first|refine callV.flat _ yfn_83 (c83z x t (by omega) (by omega)) rfl rfl ?_|refine callV.flat _ yfn_83 (c83z y s (by omega) (by omega)) rfl rfl ?_)|(refine callV.flat _ yfn_166 (c166z (x*t) (y*s) (by omega) (by omega)) rfl rfl ?_)|refine ⟨by omega,?_⟩|(refine zb ?_ ?_<;>intro hg<;>(try rw[hg])<;>try simp only[NM]at hg)|omega|simp -dsimp (disch:=try exact zo) only[go_sem]|contradiction|rfl)
set_option maxHeartbeats 6400000 in
theorem c141 (p:Pl) (a b:Pt) (hp:BPl 1073741824 p) (ha:BPt 1073741824 a) (hb:BPt 1073741824 b) (hab:a≠b) (hw:a.w*abv p b - b.w*abv p a≠0):CallOK Tryz.prog 141 [.agg (eH p),.agg (eP a),.agg (eP b)] [] (.tup [.agg (eP (meetP p a b)),.lit (.bool true)]) []:=by
 refine CallOK.flat Tryz.func141 rfl 50 rfl rfl rfl [.cell 6 51,.tmp 7] (congrArg Array.toList Tryz.results141) ?_
 simp only[startT,Nat.reduceAdd]
 have hne:(a.x=b.x∧a.y=b.y∧a.z=b.z∧a.w=b.w)=False:=eq_false fun h=>hab (by cases a;cases b;simp at h;simp[h])
 have va:=zs_abv hp ha
 have vb:=zs_abv hp hb
 have sa1:=ha.out.a
 have sa2:=ha.out.b
 have sa3:=ha.out.c
 have sa4:=ha.out.d
 have sb1:=hb.out.a
 have sb2:=hb.out.b
 have sb3:=hb.out.c
 have sb4:=hb.out.d
 have mx:=zs_mul a.x _ sa1 vb
 have nx:=zs_mul b.x _ sb1 va
 have qx:=zs_sub _ _ mx nx
 have my:=zs_mul a.y _ sa2 vb
 have ny:=zs_mul b.y _ sb2 va
 have qy:=zs_sub _ _ my ny
 have mz:=zs_mul a.z _ sa3 vb
 have nz:=zs_mul b.z _ sb3 va
 have qz:=zs_sub _ _ mz nz
 have mw:=zs_mul a.w _ sa4 vb
 have nw:=zs_mul b.w _ sb4 va
 have qw:=zs_sub _ _ mw nw
 have hbs:Bs 17179869183 (a.x*abv p b - b.x*abv p a) (a.y*abv p b - b.y*abv p a) (a.z*abv p b - b.z*abv p a) (a.w*abv p b - b.w*abv p a):=⟨by omega,by omega,by omega,by omega⟩
 unfold meetP
 repeat' (first|refine zg ?_|(refine AW.cond rfl ?_ ?_<;>intro hc<;>try simp only[NM]at hc)|refine zr ?_|(first|refine callV.flat _ yfn_185 (c185 p a hp ha) rfl rfl ?_|refine callV.flat _ yfn_185 (c185 p b hp hb) rfl rfl ?_)|(first|refine callV.lend (.agg (eZ (a.x*abv p b - b.x*abv p a))) yfn_186 (by simp -dsimp (disch:=try exact zo) only[go_sem];exact c186 a.x b.x (abv p b) (abv p a) (by omega) (by omega) (by omega) (by omega)) (by simp -dsimp (disch:=try exact zo) only[go_sem]) (.agg _ (by simp;exact ⟨.lit _,.lit _⟩)) ?_|refine callV.lend (.agg (eZ (a.y*abv p b - b.y*abv p a))) yfn_186 (by simp -dsimp (disch:=try exact zo) only[go_sem];exact c186 a.y b.y (abv p b) (abv p a) (by omega) (by omega) (by omega) (by omega)) (by simp -dsimp (disch:=try exact zo) only[go_sem]) (.agg _ (by simp;exact ⟨.lit _,.lit _⟩)) ?_|refine callV.lend (.agg (eZ (a.z*abv p b - b.z*abv p a))) yfn_186 (by simp -dsimp (disch:=try exact zo) only[go_sem];exact c186 a.z b.z (abv p b) (abv p a) (by omega) (by omega) (by omega) (by omega)) (by simp -dsimp (disch:=try exact zo) only[go_sem]) (.agg _ (by simp;exact ⟨.lit _,.lit _⟩)) ?_|refine callV.lend (.agg (eZ (a.w*abv p b - b.w*abv p a))) yfn_186 (by simp -dsimp (disch:=try exact zo) only[go_sem];exact c186 a.w b.w (abv p b) (abv p a) (by omega) (by omega) (by omega) (by omega)) (by simp -dsimp (disch:=try exact zo) only[go_sem]) (.agg _ (by simp;exact ⟨.lit _,.lit _⟩)) ?_)|(refine callV.flat _ yfn_187 (c187 _ _ _ _ hbs hw) rfl rfl ?_)|refine ⟨by omega,?_⟩|(refine zb ?_ ?_<;>intro hg<;>(try rw[hg])<;>try simp only[NM]at hg)|omega|simp -dsimp (disch:=try exact zo) only[go_sem,hne]|contradiction|rfl)
end Go.Proofs.Vx
namespace Geo
variable {α β:Type}
def path:List α→List (α × α)
 | []=>[]
 | [_]=>[]
 | a::b::t=>(a,b)::path (b::t)
def edges:List α→List (α × α)
 | []=>[]
 | x::t=>path (x::t++[x])
theorem path_join (l:List α) (m:α) (r:List α):path (l++m::r)=path (l++[m])++path (m::r):=by
 induction l with
 | nil=>simp[path]
 | cons a l ih=>cases l with
  | nil=>simp[path]
  | cons b l=>simpa [path]using ih
theorem edges_append (a b:α) (A B:List α):edges (a::A++b::B)=path (a::A++[b])++path (b::B++[a]):=by
 have:=path_join (a::A) b (B++[a])
 simpa [edges]using this
theorem edges_rot (A B:List α):(edges (A++B)).Perm (edges (B++A)):=by
 cases A with
 | nil=>simp
 | cons a A=>cases B with
  | nil=>simp
  | cons b B=>rw[edges_append,edges_append];exact List.perm_append_comm
theorem path_fst (l:List α) (x:α):(path (l++[x])).map (·.1)=l:=by
 induction l with
 | nil=>rfl
 | cons a l ih=>cases l with
  | nil=>rfl
  | cons b l=>simpa [path]using ih
theorem path_snd (x:α) (l:List α):(path (x::l)).map (·.2)=l:=by
 induction l generalizing x with
 | nil=>rfl
 | cons a l ih=>simpa [path]using ih a
theorem edges_fst (l:List α):(edges l).map (·.1)=l:=by
 cases l with
 | nil=>rfl
 | cons x t=>exact path_fst (x::t) x
theorem edges_snd (l:List α):((edges l).map (·.2)).Perm l:=by
 cases l with
 | nil=>exact List.Perm.refl _
 | cons x t =>
  show ((path (x::(t++[x]))).map (·.2)).Perm _
  rw[path_snd]
  exact List.perm_append_singleton x t
theorem edges_length (l:List α):(edges l).length=l.length:=by
 have:=congrArg List.length (edges_fst l);simpa using this
theorem mem_fst {l:List α} {e:α × α} (h:e∈edges l):e.1∈l:=by
 have:=List.mem_map_of_mem (f:=(·.1)) h;rwa [edges_fst]at this
theorem mem_snd {l:List α} {e:α × α} (h:e∈edges l):e.2∈l :=
 (edges_snd l).mem_iff.1 (List.mem_map_of_mem (f:=(·.2)) h)
theorem has_out {l:List α} {a:α} (h:a∈l):∃ b,(a,b)∈edges l:=by
 rw[← edges_fst l]at h
 obtain ⟨e,he,rfl⟩:=List.mem_map.1 h
 exact ⟨e.2,he⟩
theorem has_in {l:List α} {a:α} (h:a∈l):∃ b,(b,a)∈edges l:=by
 have h:=(edges_snd l).mem_iff.2 h
 obtain ⟨e,he,rfl⟩:=List.mem_map.1 h
 exact ⟨e.1,he⟩
theorem inj_of_nodup_map {f:α→β} {l:List α} (h:(l.map f).Nodup) {a b:α} (ha:a∈l) (hb:b∈l) (e:f a=f b):a=b:=by
 induction l with
 | nil=>simp at ha
 | cons x l ih =>
  simp only[List.map_cons,List.nodup_cons,List.mem_map,not_exists,not_and]at h
  rcases List.mem_cons.1 ha with ea|ma<;>rcases List.mem_cons.1 hb with eb|mb
  ·rw[ea,eb]
  ·exact absurd (by rw[← e,ea]) (h.1 _ mb)
  ·exact absurd (by rw[e,eb]) (h.1 _ ma)
  ·exact ih h.2 ma mb
theorem out_unique {l:List α} (h:l.Nodup) {a b c:α} (h1:(a,b)∈edges l) (h2:(a,c)∈edges l):b=c:=by
 have:=inj_of_nodup_map (f:=(·.1)) (by rw[edges_fst];exact h) h1 h2 rfl
 exact congrArg (·.2) this
theorem nodup_of_map {f:α→β} {l:List α} (h:(l.map f).Nodup):l.Nodup:=by
 induction l with
 | nil=>simp
 | cons x l ih =>
  simp only[List.map_cons,List.nodup_cons,List.mem_map,not_exists,not_and]at h ⊢
  exact ⟨fun hx=>h.1 x hx rfl,ih h.2⟩
theorem edges_nodup {l:List α} (h:l.Nodup):(edges l).Nodup:=by
 have:((edges l).map (·.1)).Nodup:=by rw[edges_fst];exact h
 exact nodup_of_map this
theorem path_map (f:α→β) (l:List α):path (l.map f)=(path l).map (fun e=>(f e.1,f e.2)):=by
 induction l with
 | nil=>rfl
 | cons a l ih=>cases l with
  | nil=>rfl
  | cons b l=>simpa [path]using ih
theorem edges_map (f:α→β) (l:List α):edges (l.map f)=(edges l).map (fun e=>(f e.1,f e.2)):=by
 cases l with
 | nil=>rfl
 | cons a l=>have:=path_map f (a::l++[a]);simpa [edges]using this
theorem path_mem_of_split (A:List α) (x y:α) (B:List α):(x,y)∈path (A++x::y::B):=by
 rw[path_join];simp[path]
theorem path_split {l:List α} {e:α × α} (h:e∈path l):∃ A B,l=A++e.1::e.2::B:=by
 induction l with
 | nil=>simp[path]at h
 | cons a l ih=>cases l with
  | nil=>simp[path]at h
  | cons b l =>
   simp only[path,List.mem_cons]at h
   rcases h with rfl|h
   ·exact ⟨[],l,rfl⟩
   ·obtain ⟨A,B,hAB⟩:=ih h
    exact ⟨a::A,B,by rw[hAB];rfl⟩
theorem edges_ne {l:List α} (h:l.Nodup) (h2:2≤l.length) {e:α × α} (he:e∈edges l):e.1≠e.2:=by
 intro heq
 match l,h,h2,he with
 | x::y::t,h,_,he =>
  obtain ⟨A,B,hAB⟩:=path_split (l:=x::y::t++[x]) he
  rw[← heq]at hAB
  rcases List.eq_nil_or_concat B with rfl|⟨B',b,rfl⟩
  ·have h1:x::y::t=A++[e.1]∧[x]=[e.1]:=by
    have:(x::y::t)++[x]=(A++[e.1])++[e.1]:=by simpa using hAB
    exact List.append_inj' this rfl
   have hx:x=e.1:=by simpa using h1.2
   cases A with
   | nil=>simp at h1
   | cons a A =>
    have h3:x=a∧y::t=A++[e.1]:=by simpa using h1.1
    have:x∈y::t:=by rw[h3.2,hx];simp
    exact (List.nodup_cons.1 h).1 this
  ·have h1:x::y::t=A++e.1::e.1::B':=by
    have:(x::y::t)++[x]=(A++e.1::e.1::B')++[b]:=by simpa using hAB
    exact (List.append_inj' this rfl).1
   rw[h1]at h
   have:=(List.nodup_append.1 h).2.1
   simp at this
theorem path_closed {p:α→Prop} {x:α} {t:List α} (h:∀ e∈path (x::t),p e.1→p e.2) (hx:p x):∀ y∈x::t,p y:=by
 induction t generalizing x with
 | nil=>intro y hy;simp at hy;exact hy▸hx
 | cons b t ih =>
  intro y hy
  rcases List.mem_cons.1 hy with rfl|hy
  ·exact hx
  ·exact ih (fun e he=>h e (by simp[path,he])) (h (x,b) (by simp[path]) hx) y hy
theorem path_cut {p:α→Prop} [DecidablePred p]:∀ {l:List α},(∀ e∈path l,p e.1→p e.2)→∃ P N,l=P++N∧(∀ x∈P,¬ p x)∧∀ x∈N,p x
 | [],_=>⟨[],[],rfl,by simp,by simp⟩
 | x::t,h=>by
  by_cases hx:p x
  ·exact ⟨[],x::t,rfl,by simp,path_closed h hx⟩
  ·obtain ⟨P,N,h1,h2,h3⟩:=path_cut (p:=p) (l:=t) (fun e he=>h e (by cases t with|nil=>simp[path]at he|cons b t=>simp[path,he]))
   refine ⟨x::P,N,by rw[h1];rfl,?_,h3⟩
   intro y hy
   rcases List.mem_cons.1 hy with rfl|hy
   ·exact hx
   ·exact h2 y hy
theorem has_up {p:α→Prop} [DecidablePred p] {l:List α} {a b:α} (ha:a∈l) (pa:p a) (hb:b∈l) (pb:¬ p b):∃ e∈edges l,p e.1∧¬ p e.2:=by
 apply Classical.byContradiction
 intro hno
 have hcl:∀ e∈edges l,p e.1→p e.2:=fun e he h1=>Classical.byContradiction fun h2=>hno ⟨e,he,h1,h2⟩
 cases l with
 | nil=>simp at ha
 | cons x t =>
  obtain ⟨A,B,hAB⟩:=List.append_of_mem ha
  have h1:path (x::t++[x])=path (A++[a])++path (a::(B++[x])):=by
   rw[hAB];have:=path_join A a (B++[x]);simpa using this
  have hx:p x:=path_closed (t:=B++[x]) (fun e he=>hcl e (by show e∈path (x::t++[x]);rw[h1];simp[he])) pa x (by simp)
  exact pb (path_closed (t:=t++[x]) (fun e he=>hcl e he) hx b (by
   rcases List.mem_cons.1 hb with rfl|hb
   ·simp
   ·simp[hb]))
theorem rot_split {p : α → Prop} [DecidablePred p] {l : List α} (hnd : l.Nodup) (h1 : ∀ e ∈ edges l, ∀ e' ∈ edges l, (p e.1 ∧ ¬ p e.2) → (p e'.1 ∧ ¬ p e'.2) → e = e') {a b : α} (ha : a ∈ l) (pa : p a) (hb : b ∈ l) (pb : ¬ p b) :
  ∃ N P A B,l=A++B∧B++A=N++P∧N≠[]∧P≠[]∧(∀ x∈N,p x)∧∀ x∈P,¬ p x:=by
 obtain ⟨u,hu,hu1,hu2⟩:=has_up ha pa hb pb
 have key:∃ A B T,l=A++B∧B++A=u.2::T∧path (u.2::(T++[u.2]))=path (u.2::T)++[(u.1,u.2)]:=by
  cases l with
  | nil=>simp at ha
  | cons x t =>
   obtain ⟨A,B,hAB⟩:=path_split (l:=x::t++[x]) hu
   rcases List.eq_nil_or_concat B with rfl|⟨B',c,rfl⟩
   ·have h2:(x::t)++[x]=(A++[u.1])++[u.2]:=by simpa using hAB
    obtain ⟨h3,h4⟩:=List.append_inj' h2 rfl
    have hx:x=u.2:=by simpa using h4
    refine ⟨[],x::t,t,rfl,by simp[hx],?_⟩
    have h5:u.2::t=A++[u.1]:=by rw[← hx];exact h3
    have:path ((u.2::t)++[u.2])=path (u.2::t)++[(u.1,u.2)]:=by
     rw[h5]
     have:=path_join A u.1 [u.2]
     simpa [path]using this
    simpa using this
   ·have h2:(x::t)++[x]=(A++u.1::u.2::B')++[c]:=by simpa using hAB
    obtain ⟨h3,h4⟩:=List.append_inj' h2 rfl
    refine ⟨A++[u.1],u.2::B',B'++(A++[u.1]),by simpa using h3,by simp,?_⟩
    have:=path_join (u.2::B'++A) u.1 [u.2]
    simpa [path]using this
 obtain ⟨A,B,T,hl,hT,hp⟩:=key
 have hnd2:(B++A).Nodup:=by
  rw[hl]at hnd
  exact (List.perm_append_comm.nodup_iff).1 hnd
 have hed:edges (B++A)=path (u.2::T)++[(u.1,u.2)]:=by
  rw[hT];show path (u.2::T++[u.2])=_;rw[← hp];rfl
 have hper:(edges l).Perm (edges (B++A)):=by rw[hl];exact edges_rot A B
 have hndE:=edges_nodup hnd2
 rw[hed]at hndE
 have hno:∀ e∈path (u.2::T),p e.1→p e.2:=by
  intro e he h2
  apply Classical.byContradiction
  intro h3
  have hel:e∈edges l:=hper.mem_iff.2 (by rw[hed];simp[he])
  have:=h1 e hel u hu ⟨h2,h3⟩ ⟨hu1,hu2⟩
  subst this
  exact (List.nodup_append.1 hndE).2.2 e he e (by simp) rfl
 obtain ⟨P,N,q1,q2,q3⟩:=path_cut hno
 have hmem:∀ y,y∈l↔y∈P++N:=fun y=>by
  rw[← q1,← hT,hl];simp[or_comm]
 have hN:N≠[]:=by
  intro h0;subst h0
  exact q2 a (by simpa using (hmem a).1 ha) pa
 have hP:P≠[]:=by
  intro h0;subst h0
  exact pb (q3 b (by simpa using (hmem b).1 hb))
 rw[q1]at hT
 rcases List.append_eq_append_iff.1 hT with ⟨C,hc1,hc2⟩|⟨C,hc1,hc2⟩
 ·
  exact ⟨N,P,C,N++B,by rw[hl,hc2];simp,by rw[hc1];simp,hN,hP,q3,q2⟩
 ·
  exact ⟨N,P,A++P,C,by rw[hl,hc1];simp,by rw[hc2];simp,hN,hP,q3,q2⟩
end Geo
namespace Go.Sx
set_option linter.unusedVariables false
theorem getElem_path {α:Type}:∀ (l:List α) (i:Nat) (h:i<(Geo.path l).length) (h1:i<l.length) (h2:i+1<l.length),(Geo.path l)[i]=(l[i],l[i+1])
 | [],i,h,_,_=>by simp[Geo.path]at h
 | [_],i,h,_,_=>by simp[Geo.path]at h
 | a::b::t,0,h,_,_=>by simp[Geo.path]
 | a::b::t,i+1,h,h1,h2=>by
  have:=getElem_path (b::t) i (by simpa [Geo.path]using h) (by simpa using h1) (by simpa using h2)
  simpa [Geo.path]using this
theorem mod_next {i n:Nat} (h:i<n):(i+1) % n=if i+1=n then 0 else i+1:=by
 split
 ·rename_i e;rw[e,Nat.mod_self]
 ·exact Nat.mod_eq_of_lt (by omega)
theorem edges_get {α:Type} (l:List α) (i:Nat) (h:i<l.length) (h':i<(Geo.edges l).length):(Geo.edges l)[i]=(l[i],l[(i+1) % l.length]'(Nat.mod_lt _ (by omega))):=by
 cases l with
 | nil=>simp at h
 | cons x t =>
  have hp:(Geo.edges (x::t))=Geo.path (x::t++[x]):=rfl
  have:=getElem_path (x::t++[x]) i (by rw[← hp];exact h') (by simp at h ⊢;omega) (by simp at h ⊢;omega)
  simp only[hp]
  rw[this]
  have e1:(x::t++[x])[i]'(by simp at h ⊢;omega)=(x::t)[i]:=List.getElem_append_left h
  rw[e1]
  congr 1
  simp only[mod_next h]
  split
  ·rename_i e
   rw[List.getElem_append_right (by omega)]
   simp[e]
  ·rename_i e
   rw[List.getElem_append_left (by simp at h e ⊢;omega)]
abbrev eG (p:Pl) (vs:List Pt):List AV:=[.lit (.bool (Zn p.a)),.lit (.string (Zm p.a)),.lit (.bool (Zn p.b)),.lit (.string (Zm p.b)),.lit (.bool (Zn p.c)),.lit (.string (Zm p.c)),.lit (.bool (Zn p.d)),.lit (.string (Zm p.d)),.sl (vs.map eP)]
abbrev eG0:List AV:=[.lit (.bool false),.lit (.string ⟨#[]⟩),.lit (.bool false),.lit (.string ⟨#[]⟩),.lit (.bool false),.lit (.string ⟨#[]⟩),.lit (.bool false),.lit (.string ⟨#[]⟩),.lit (.slice none 0 0)]
def pc (h:Int) (by':Pl) (a b:Pt):List Pt:=(if sideP by' a≠-h then [a]else [])++(if sideP by' a*sideP by' b<0 then [meetP by' a b]else [])
def partI (h:Int) (by':Pl) (vs:List Pt):List Pt:=(Geo.edges vs).flatMap fun e=>pc h by' e.1 e.2
def partT (h:Int) (by':Pl) (vs:List Pt) (i:Nat):List Pt:=((Geo.edges vs).take i).flatMap fun e=>pc h by' e.1 e.2
def someT (h:Int) (by':Pl) (vs:List Pt) (i:Nat):Bool:=(vs.take i).any fun v=>decide (sideP by' v=h)
theorem partT_zero (h:Int) (by':Pl) (vs:List Pt):partT h by' vs 0=[]:=rfl
theorem partT_all (h:Int) (by':Pl) (vs:List Pt):partT h by' vs vs.length=partI h by' vs:=by
 unfold partT partI
 rw[List.take_of_length_le (by rw[Geo.edges_length];exact Nat.le_refl _)]
theorem partT_succ (h:Int) (by':Pl) (vs:List Pt) (i:Nat) (hi:i<vs.length):partT h by' vs (i+1)=partT h by' vs i++pc h by' vs[i] (vs[(i+1) % vs.length]'(Nat.mod_lt _ (by omega))):=by
 have hl:i<(Geo.edges vs).length:=by rw[Geo.edges_length];exact hi
 unfold partT
 rw[List.take_succ_eq_append_getElem hl,List.flatMap_append,edges_get vs i hi hl]
 simp
theorem someT_zero (h:Int) (by':Pl) (vs:List Pt):someT h by' vs 0=false:=rfl
theorem someT_succ (h:Int) (by':Pl) (vs:List Pt) (i:Nat) (hi:i<vs.length):someT h by' vs (i+1)=(someT h by' vs i||decide (sideP by' vs[i]=h)):=by
 unfold someT
 rw[List.take_succ_eq_append_getElem hi,List.any_append]
 simp
theorem pc_length (h:Int) (by':Pl) (a b:Pt):(pc h by' a b).length≤2:=by
 unfold pc
 split<;>split<;>simp
theorem partT_length (h:Int) (by':Pl) (vs:List Pt) (i:Nat):(partT h by' vs i).length≤2*i:=by
 induction i with
 | zero=>simp[partT_zero]
 | succ i ih =>
  by_cases hi:i<vs.length
  ·rw[partT_succ h by' vs i hi,List.length_append]
   have:=pc_length h by' vs[i] (vs[(i+1) % vs.length]'(Nat.mod_lt _ (by omega)))
   omega
  ·have:partT h by' vs (i+1)=partT h by' vs i:=by
    unfold partT
    rw[List.take_of_length_le (by rw[Geo.edges_length];omega),List.take_of_length_le (by rw[Geo.edges_length];omega)]
   rw[this];omega
theorem sg_cases (z:Int):(sg z=-1∧z<0)∨(sg z=0∧z=0)∨(sg z=1∧0<z):=by
 unfold sg
 split
 ·exact .inl ⟨rfl,by assumption⟩
 ·split
  ·exact .inr (.inl ⟨rfl,by assumption⟩)
  ·exact .inr (.inr ⟨rfl,by omega⟩)
theorem opp {p:Pl} {a b:Pt} (h:sideP p a*sideP p b<0):(abv p a<0∧0<abv p b)∨(0<abv p a∧abv p b<0):=by
 unfold sideP at h
 rcases sg_cases (abv p a)with ⟨e1,h1⟩|⟨e1,h1⟩|⟨e1,h1⟩<;>rcases sg_cases (abv p b)with ⟨e2,h2⟩|⟨e2,h2⟩|⟨e2,h2⟩<;>rw[e1,e2]at h<;>simp at h
 ·exact .inl ⟨h1,h2⟩
 ·exact .inr ⟨h1,h2⟩
theorem opp_ne {p:Pl} {a b:Pt} (h:sideP p a*sideP p b<0):a≠b:=by
 rintro rfl
 rcases opp h with h|h<;>omega
theorem opp_w {p:Pl} {a b:Pt} (ha:0<a.w) (hb:0<b.w) (h:sideP p a*sideP p b<0):a.w*abv p b - b.w*abv p a≠0:=by
 rcases opp h with ⟨h1,h2⟩|⟨h1,h2⟩
 ·have:=Int.mul_pos ha h2
  have:=Int.mul_neg_of_pos_of_neg hb h1
  omega
 ·have:=Int.mul_neg_of_pos_of_neg ha h2
  have:=Int.mul_pos hb h1
  omega
theorem side_mul (p:Pl) (a b:Pt):IntKind.i64.wrap (sideP p a*sideP p b)=sideP p a*sideP p b:=by
 unfold sideP
 rcases sg_cases (abv p a)with ⟨e1,h1⟩|⟨e1,h1⟩|⟨e1,h1⟩<;>rcases sg_cases (abv p b)with ⟨e2,h2⟩|⟨e2,h2⟩|⟨e2,h2⟩<;>rw[e1,e2]<;>decide
theorem eP_getD (vs:List Pt) (i:Nat) (h:i<vs.length):(vs.map eP).getD i []=eP vs[i]:=by
 rw[List.getD_eq_getElem?_getD,List.getElem?_eq_getElem (by simpa using h)];simp
theorem ints_getD' (k:IntKind) (xs:List Int) (i:Nat) (h:i<xs.length):(ints k xs).getD i []=[.lit (.int k xs[i])]:=by
 rw[List.getD_eq_getElem?_getD,List.getElem?_eq_getElem (by rw[ints_length];exact h)];simp[ints]
theorem eP_flat (vs:List Pt):∀ e∈vs.map eP,∀ c∈e,Flat c:=by
 intro e he c hc
 obtain ⟨v,_,rfl⟩:=List.mem_map.1 he
 simp only[eP,e4,List.mem_cons,List.not_mem_nil,or_false]at hc
 rcases hc with rfl|rfl|rfl|rfl|rfl|rfl|rfl|rfl<;>exact .lit _
theorem eP_in {K:Nat→Prop} (vs:List Pt):(∀ e∈vs.map eP,∀ c∈e,In K c)=True:=eq_true fun e he c hc=>(eP_flat vs e he c hc).inn
end Go.Sx
