import Derived.Test.YtjlfgmhmalbiiaaGreatDoorProg
import Derived.Test.YtjlfgmhmalbiiaaGreatDoorU10
import Derived.Test.YtjlfgmhmalbiiaaGreatDoorU11
import Derived.Test.YtjlfgmhmalbiiaaGreatDoorU26
set_option linter.all false
namespace Go.Proofs.Vx
open Go Go.Sx Go.Proofs
attribute [local irreducible] fnT CallOK CallFr AW effV callV runP runO oneP oneO gcaseP hid
theorem yfn_24:fnT Tryz.prog 24=true:=by kernel_rfl
theorem tv_div (p:Pt):Rat.divInt p.x p.w=(tv p).x∧Rat.divInt p.y p.w=(tv p).y∧Rat.divInt p.z p.w=(tv p).z:=⟨Rat.divInt_eq_div _ _,Rat.divInt_eq_div _ _,Rat.divInt_eq_div _ _⟩
theorem c77t (p:Pt) (hcp:CanP p) (hp:BPt 1073741824 p):CallOK Tryz.prog 77 [.agg (eP p)] [] (.agg (eV (tv p).x (tv p).y (tv p).z)) []:=by
 have h:=c77 p hcp ⟨Nat.le_trans hp.out.a (by decide),Nat.le_trans hp.out.b (by decide),Nat.le_trans hp.out.c (by decide),Nat.le_trans hp.out.d (by decide)⟩
 rw[(tv_div p).1,(tv_div p).2.1,(tv_div p).2.2]at h
 exact h
structure QV (k:Nat) (v:Geo.V):Prop where
 x:Qs k v.x
 y:Qs k v.y
 z:Qs k v.z
theorem QV.mono {k l:Nat} {v:Geo.V} (h:QV k v) (hl:k≤l):QV l v:=⟨h.x.mono hl,h.y.mono hl,h.z.mono hl⟩
theorem tv_qs {p:Pt} {k:Nat} (hc:CanP p) (h:BPt k p):QV k (tv p):=by
 have hw:p.w≠0:=by have:=hc.w;omega
 refine ⟨?_,?_,?_⟩
 ·rw[← (tv_div p).1];exact Qs.divInt hw h.out.a h.out.d
 ·rw[← (tv_div p).2.1];exact Qs.divInt hw h.out.b h.out.d
 ·rw[← (tv_div p).2.2];exact Qs.divInt hw h.out.c h.out.d
theorem sub_qs {a b:Geo.V} {k:Nat} (ha:QV k a) (hb:QV k b):QV (2*k+1) (a - b):=by
 refine ⟨(ha.x.sub hb.x).mono (by omega),(ha.y.sub hb.y).mono (by omega),(ha.z.sub hb.z).mono (by omega)⟩
theorem cross_qs {a b:Geo.V} {k:Nat} (ha:QV k a) (hb:QV k b):QV (4*k+1) (Geo.cross a b) :=
 ⟨((ha.y.mul hb.z).sub (ha.z.mul hb.y)).mono (by omega),((ha.z.mul hb.x).sub (ha.x.mul hb.z)).mono (by omega),((ha.x.mul hb.y).sub (ha.y.mul hb.x)).mono (by omega)⟩
theorem add_qs {a b:Geo.V} {k l:Nat} (ha:QV k a) (hb:QV l b):QV (k+l+1) (a+b):=⟨ha.x.add hb.x,ha.y.add hb.y,ha.z.add hb.z⟩
theorem zero_qs {k:Nat} (hk:1≤k):QV k ⟨0,0,0⟩:=by
 have:Qs k 0:=⟨by show (Zm 0).size≤k;rw[Zm_zero];exact Nat.zero_le _,by show (nb 1).size≤k;rw[nb_one];exact hk⟩
 exact ⟨this,this,this⟩
theorem two_ne:((2:Int):Rat)≠0:=by decide
theorem two_qs:Qs 17179869184 ((2:Int):Rat):=⟨Nat.le_trans ((Zm_size 2 1).2 (by decide)) (by decide),by show (nb 1).size≤_;rw[nb_one];decide⟩
theorem Zz:Zn (0:Rat).num=false:=Zn_zero
theorem Zmz:Zm (0:Rat).num=⟨#[]⟩:=Zm_zero
theorem Qz:Qd 0=⟨#[]⟩:=by unfold Qd;rfl
def areaT (vs:List Pt) (i:Nat):Geo.V:=areaL (hd vs) ((Geo.edges (vs.map tv)).take i)
theorem areaT_zero (vs:List Pt):areaT vs 0=⟨0,0,0⟩:=rfl
theorem areaT_succ (vs:List Pt) (i:Nat) (h:i<vs.length):areaT vs (i+1)=areaT vs i+Geo.cross (tv vs[i] - hd vs) (tv (vs[(i+1) % vs.length]'(Nat.mod_lt _ (by omega))) - hd vs):=by
 have hl:i<(Geo.edges vs).length:=by rw[Geo.edges_length];exact h
 unfold areaT areaL
 rw[Geo.edges_map,List.take_succ_eq_append_getElem (by simpa using hl),List.foldl_append]
 simp only[List.foldl_cons,List.foldl_nil,crA,List.getElem_map,edges_get vs i h hl]
theorem areaT_all (vs:List Pt):areaT vs vs.length=areaL (hd vs) (Geo.edges (vs.map tv)):=by
 unfold areaT
 rw[List.take_of_length_le (by rw[Geo.edges_length];simp)]
def aB:Nat→Nat
 | 0=>1
 | n+1=>aB n+16006+1
theorem aB_eq (n:Nat):aB n=16007*n+1:=by
 induction n with
 | zero=>rfl
 | succ n ih=>rw[aB,ih];omega
theorem areaT_qs {vs:List Pt} (hv:∀ v∈vs,CanP v∧BPt 2000 v) (i:Nat) (hi:i≤vs.length):QV (aB i) (areaT vs i):=by
 induction i with
 | zero=>exact zero_qs (Nat.le_refl _)
 | succ i ih =>
  have h:i<vs.length:=by omega
  rw[areaT_succ vs i h]
  have h0:QV 2000 (hd vs):=by
   cases vs with
   | nil=>simp at h
   | cons v vs=>exact tv_qs (hv v (by simp)).1 (hv v (by simp)).2
  have h1:∀ v∈vs,QV 4001 (tv v - hd vs):=fun v hvm=>(sub_qs (tv_qs (hv v hvm).1 (hv v hvm).2) h0).mono (by omega)
  exact (add_qs (ih (by omega)) (cross_qs (h1 _ (List.getElem_mem h)) (h1 _ (List.getElem_mem (Nat.mod_lt _ (by omega)))))).mono (by rw[aB];omega)
set_option maxHeartbeats 40000000 in
theorem c78 (p:Pl) (vs:List Pt) (hn:vs.length≤1024) (hne:0<vs.length) (hv:∀ v∈vs,CanP v∧BPt 2000 v):CallOK Tryz.prog 78 [.agg (eG p vs)] [] (.agg (eV (areaP vs).x (areaP vs).y (areaP vs).z)) []:=by
 refine CallOK.flat Tryz.func78 rfl 93 rfl rfl rfl [.cell 2 103] (congrArg Array.toList Tryz.results78) ?_
 simp only[startT,Nat.reduceAdd]
 have hml:maxLen=9223372036854775807:=rfl
 have hl:(vs.map eP).length=vs.length:=List.length_map _
 have e0:=eP_getD vs 0 hne
 have hc0:=hv _ (List.getElem_mem hne)
 have hh:hd vs=tv vs[0]:=by
  cases vs with
  | nil=>simp at hne
  | cons v vs=>rfl
 have hc0:CanP vs[0]∧BPt 1073741824 vs[0]:=⟨hc0.1,hc0.2.mono (by decide)⟩
 generalize hv0:vs[0]=v0 at *
 simp only[eP,e4]at e0
 repeat' (first|refine zg ?_|(refine AW.cond rfl ?_ ?_<;>intro hc<;>first|simp only[NM]at hc|omega|skip)|refine zr ?_|(refine callV.flat _ yfn_77 (c77t v0 hc0.1 hc0.2) rfl rfl ?_)|refine ⟨by omega,?_⟩|(refine zb ?_ ?_<;>intro hg<;>(try rw[hg])<;>try simp only[NM]at hg)|omega|simp -dsimp (disch:=try exact zo) only[go_sem,hl,zl,eP_in,e0]|contradiction|rfl)
 refine AW.loop (fun z:{i:Nat // i≤vs.length}=>⟨[(25,.lit (.int .i64 z.1)),(24,.lit (.int .i64 vs.length)),(1,.loc 8 0),(2,.loc 9 0),(3,.loc 10 0),(4,.loc 20 0)],[(8,.blk (eG p vs)),(9,.blk [.lit (.bool false),.lit (.string ⟨#[]⟩),.lit (.string ⟨#[]⟩),.lit (.bool false),.lit (.string ⟨#[]⟩),.lit (.string ⟨#[]⟩),.lit (.bool false),.lit (.string ⟨#[]⟩),.lit (.string ⟨#[]⟩)]),(10,.blk (eV (areaT vs z.1).x (areaT vs z.1).y (areaT vs z.1).z)),(20,.blk (eV (hd vs).x (hd vs).y (hd vs).z))],60⟩) (fun z=>vs.length - z.1) ⟨0,Nat.zero_le _⟩ (Weak.t4 (by refine ⟨?_,?_,?_,?_⟩<;>simp -dsimp (disch:=try exact zo) only[go_sem,areaT_zero,eV,Zz,Zmz,Qz,hh,eP_in,ZC])) ?_
 rintro ⟨i,hi⟩
 dsimp only
 have hs:=areaT_qs hv i hi
 have hb:=aB_eq i
 by_cases hlt:i<vs.length
 ·have hmod:(i+1) % vs.length<vs.length:=Nat.mod_lt _ (by omega)
  have hm:((i:Int)+1) % (vs.length:Int)=(((i+1) % vs.length:Nat):Int):=by rw[Int.natCast_emod,Int.natCast_add];rfl
  have ea:=eP_getD vs i hlt
  have ea2:=eP_getD vs _ hmod
  have hca:=hv _ (List.getElem_mem hlt)
  have hca2:=hv _ (List.getElem_mem hmod)
  have hst:=areaT_succ vs i hlt
  have hh0:QV 2000 (hd vs):=by rw[hh];exact tv_qs (hv v0 (hv0▸List.getElem_mem hne)).1 (hv v0 (hv0▸List.getElem_mem hne)).2
  generalize vs[i]=a at *
  generalize vs[(i+1) % vs.length]=a2 at *
  have ha:=tv_qs hca.1 hca.2
  have hr:=tv_qs hca2.1 hca2.2
  have hca:CanP a∧BPt 1073741824 a:=⟨hca.1,hca.2.mono (by decide)⟩
  have hca2:CanP a2∧BPt 1073741824 a2:=⟨hca2.1,hca2.2.mono (by decide)⟩
  simp only[eP,e4]at ea ea2
  have c1:=c77t a hca.1 hca.2
  have c2:=c77t a2 hca2.1 hca2.2
  have hX:(areaT vs (i+1)).x=(areaT vs i).x+(((tv a).y - (hd vs).y)*((tv a2).z - (hd vs).z) - ((tv a).z - (hd vs).z)*((tv a2).y - (hd vs).y)):=by rw[hst];rfl
  have hY:(areaT vs (i+1)).y=(areaT vs i).y+(((tv a).z - (hd vs).z)*((tv a2).x - (hd vs).x) - ((tv a).x - (hd vs).x)*((tv a2).z - (hd vs).z)):=by rw[hst];rfl
  have hZ:(areaT vs (i+1)).z=(areaT vs i).z+(((tv a).x - (hd vs).x)*((tv a2).y - (hd vs).y) - ((tv a).y - (hd vs).y)*((tv a2).x - (hd vs).x)):=by rw[hst];rfl
  clear hst hv hc0 hh
  obtain ⟨s1,s2,s3⟩:=hs
  obtain ⟨p1,p2,p3⟩:=ha
  obtain ⟨r1,r2,r3⟩:=hr
  obtain ⟨h1,h2,h3⟩:=hh0
  generalize (areaT vs i).x=S1 at *
  generalize (areaT vs i).y=S2 at *
  generalize (areaT vs i).z=S3 at *
  generalize (tv a).x=P1 at *
  generalize (tv a).y=P2 at *
  generalize (tv a).z=P3 at *
  generalize (tv a2).x=R1 at *
  generalize (tv a2).y=R2 at *
  generalize (tv a2).z=R3 at *
  generalize (hd vs).x=H1 at *
  generalize (hd vs).y=H2 at *
  generalize (hd vs).z=H3 at *
  have p1':=p1.mono (show 2000≤1073741824 by decide)
  have r1':=r1.mono (show 2000≤1073741824 by decide)
  have h1':=h1.mono (show 2000≤1073741824 by decide)
  have p2':=p2.mono (show 2000≤1073741824 by decide)
  have r2':=r2.mono (show 2000≤1073741824 by decide)
  have h2':=h2.mono (show 2000≤1073741824 by decide)
  have p3':=p3.mono (show 2000≤1073741824 by decide)
  have r3':=r3.mono (show 2000≤1073741824 by decide)
  have h3':=h3.mono (show 2000≤1073741824 by decide)
  have d1:=p1.sub h1
  have g1:=r1.sub h1
  have d2:=p2.sub h2
  have g2:=r2.sub h2
  have d3:=p3.sub h3
  have g3:=r3.sub h3
  have m23:=d2.mul g3
  have m32:=d3.mul g2
  have m31:=d3.mul g1
  have m13:=d1.mul g3
  have m12:=d1.mul g2
  have m21:=d2.mul g1
  have n1:=(m23.sub m32).mono (show _≤17179869184 by omega)
  have s1':=s1.mono (show aB i≤17179869184 by omega)
  have n2:=(m31.sub m13).mono (show _≤17179869184 by omega)
  have s2':=s2.mono (show aB i≤17179869184 by omega)
  have n3:=(m12.sub m21).mono (show _≤17179869184 by omega)
  have s3':=s3.mono (show aB i≤17179869184 by omega)
  have m23':=m23.mono (show _≤17179869184 by omega)
  have m32':=m32.mono (show _≤17179869184 by omega)
  have m31':=m31.mono (show _≤17179869184 by omega)
  have m13':=m13.mono (show _≤17179869184 by omega)
  have m12':=m12.mono (show _≤17179869184 by omega)
  have m21':=m21.mono (show _≤17179869184 by omega)
  have d1':=d1.mono (show _≤17179869184 by omega)
  have g1':=g1.mono (show _≤17179869184 by omega)
  have d2':=d2.mono (show _≤17179869184 by omega)
  have g2':=g2.mono (show _≤17179869184 by omega)
  have d3':=d3.mono (show _≤17179869184 by omega)
  have g3':=g3.mono (show _≤17179869184 by omega)
  clear m23 m32 m31 m13 m12 m21 s1 s2 s3 p1 p2 p3 r1 r2 r3 h1 h2 h3
  clear d1 d2 d3 g1 g2 g3
  clear hb
  repeat' (first|refine zg ?_|refine AW.unroll 6 ?_|(refine AW.cond rfl ?_ ?_<;>intro hc<;>first|simp only[NM]at hc|omega|skip)|refine zr ?_|(first|refine callV.flat _ yfn_77 c1 rfl rfl ?_|refine callV.flat _ yfn_77 c2 rfl rfl ?_)|(refine callV.flat _ yfn_145 (c145 _ _ _ _ _ _ (by assumption) (by assumption) (by assumption) (by assumption) (by assumption) (by assumption)) rfl rfl ?_)|(refine callV.plain _ yfn_140 (c140 p vs i hlt (by omega)) (by simp -dsimp (disch:=try exact zo) only[go_sem,eP_in]) (.lit _) ?_)|(refine callV.flat _ yfn_79 (c79 _ _ (by assumption) (by assumption)) rfl rfl ?_)|(refine callV.flat _ yfn_146 (c146 _ _ (by assumption) (by assumption)) rfl rfl ?_)|(refine callV.flat _ yfn_25 (c25 _ _ (by assumption) (by assumption)) rfl rfl ?_)|refine ⟨by omega,?_⟩|(refine zb ?_ ?_<;>intro hg<;>(try rw[hg])<;>try simp only[NM]at hg)|omega|simp -dsimp (disch:=try exact zo) only[go_sem,hl,zl,ZT,eP_in,ea,ea2,e0,hm]|contradiction|rfl)
  all_goals exact AW.stop ⟨⟨i+1,by omega⟩,(Weak.t4 (by refine ⟨?_,?_,?_,?_⟩<;>simp -dsimp (disch:=try exact zo) only[go_sem,eP_in,hX,hY,hZ,ZC])),by dsimp only;omega⟩
 ·have hil:i=vs.length:=by omega
  subst hil
  rw[areaT_all]at hs ⊢
  have hr:areaP vs=⟨(areaL (hd vs) (Geo.edges (vs.map tv))).x / ((2:Int):Rat),(areaL (hd vs) (Geo.edges (vs.map tv))).y / ((2:Int):Rat),(areaL (hd vs) (Geo.edges (vs.map tv))).z / ((2:Int):Rat)⟩:=rfl
  rw[hr]
  clear hr hc0 hv
  generalize areaL (hd vs) (Geo.edges (vs.map tv))=A at *
  dsimp only
  obtain ⟨s1,s2,s3⟩:=hs
  have s1:=s1.mono (show aB vs.length≤17179869184 by omega)
  have s2:=s2.mono (show aB vs.length≤17179869184 by omega)
  have s3:=s3.mono (show aB vs.length≤17179869184 by omega)
  clear hb
  have q2:=two_qs
  repeat' (first|refine zg ?_|refine AW.unroll 6 ?_|(refine AW.cond rfl ?_ ?_<;>intro hc<;>first|simp only[NM]at hc|omega|skip)|refine zr ?_|(refine callV.flat _ yfn_68 (c68 2 (by decide)) rfl rfl ?_)|(refine callV.flat _ yfn_80 (c80 _ _ (by assumption) (by assumption) two_ne) rfl rfl ?_)|refine ⟨by omega,?_⟩|(refine zb ?_ ?_<;>intro hg<;>(try rw[hg])<;>try simp only[NM]at hg)|omega|simp -dsimp (disch:=try exact zo) only[go_sem,hl,zl]|contradiction|rfl)
end Go.Proofs.Vx
namespace Go.Proofs.Vx
open Go Go.Sx Go.Proofs
attribute [local irreducible] fnT CallOK CallFr AW effV callV runP runO oneP oneO gcaseP hid
theorem three_ne:((3:Int):Rat)≠0:=by decide
theorem three_qs:Qs 17179869184 ((3:Int):Rat):=⟨Nat.le_trans ((Zm_size 3 1).2 (by decide)) (by decide),by show (nb 1).size≤_;rw[nb_one];decide⟩
theorem two_qs1:Qs 1 ((2:Int):Rat):=⟨(Zm_size 2 1).2 (by decide),by show (nb 1).size≤_;rw[nb_one];decide⟩
theorem areaP_qs {vs:List Pt} (hv:∀ v∈vs,CanP v∧BPt 2000 v) (hn:vs.length≤1024):QV 16400000 (areaP vs):=by
 have h:=areaT_qs hv vs.length (Nat.le_refl _)
 rw[areaT_all]at h
 have hb:=aB_eq vs.length
 exact ⟨(h.x.div two_qs1 two_ne).mono (by omega),(h.y.div two_qs1 two_ne).mono (by omega),(h.z.div two_qs1 two_ne).mono (by omega)⟩
def vB:Nat→Nat
 | 0=>1
 | n+1=>vB n+49206009
theorem vB_eq (n:Nat):vB n=49206009*n+1:=by
 induction n with
 | zero=>rfl
 | succ n ih=>rw[vB,ih];omega
def volT (l:PCell) (i:Nat):Rat:=(l.take i).foldl volS 0
theorem volT_zero (l:PCell):volT l 0=0:=rfl
theorem volT_succ (l:PCell) (i:Nat) (h:i<l.length):volT l (i+1)=volS (volT l i) l[i]:=by
 unfold volT
 rw[List.take_succ_eq_append_getElem h,List.foldl_append]
 rfl
theorem hd_qs {vs:List Pt} {k:Nat} (hk:1≤k) (hv:∀ v∈vs,CanP v∧BPt k v):QV k (hd vs):=by
 cases vs with
 | nil=>exact zero_qs hk
 | cons v vs=>exact tv_qs (hv v (by simp)).1 (hv v (by simp)).2
theorem volT_qs {l:PCell} (hl:∀ s∈l,s.2.length≤1024∧∀ v∈s.2,CanP v∧BPt 2000 v) (i:Nat) (hi:i≤l.length):Qs (vB i) (volT l i):=by
 induction i with
 | zero=>exact (zero_qs (Nat.le_refl 1)).x
 | succ i ih =>
  have h:i<l.length:=by omega
  have h0:=ih (by omega)
  obtain ⟨h1,h2⟩:=hl _ (List.getElem_mem h)
  rw[volT_succ l i h]
  unfold volS
  split
  ·exact h0.mono (by rw[vB];omega)
  ·have a:=areaP_qs h2 h1
   have d:=hd_qs (by decide) h2
   exact (((h0.add (a.x.mul d.x)).add (a.y.mul d.y)).add (a.z.mul d.z)).mono (by rw[vB];omega)
abbrev BdV (l:PCell):Prop:=Bd 32 1024 2000 l
theorem flatEV (a b c:Rat):Flat (.agg (eV a b c)):=.agg _ (by intro x hx;simp only[eV,List.mem_cons,List.not_mem_nil,or_false]at hx;rcases hx with rfl|rfl|rfl|rfl|rfl|rfl|rfl|rfl|rfl<;>exact .lit _)
set_option maxHeartbeats 40000000 in
theorem c24 (l:PCell) (hc:CanC l) (hB:BdV l):CallOK Tryz.prog 24 [.agg [.sl (eS l)]] [] (.agg (eQ (volP l))) []:=by
 refine CallOK.flat Tryz.func24 rfl 49 rfl rfl rfl [.cell 2 41] (congrArg Array.toList Tryz.results24) ?_
 simp only[startT,Nat.reduceAdd]
 have hml:maxLen=9223372036854775807:=rfl
 have hl:(eS l).length=l.length:=List.length_map _
 have hln:=hB.n
 have hv:∀ s∈l,s.2.length≤1024∧∀ v∈s.2,CanP v∧BPt 2000 v:=fun s hs=>⟨hB.m s hs,fun v hv=>⟨hc.can s hs v hv,hB.k s hs v hv⟩⟩
 clear hB hc
 repeat' (first|refine zg ?_|(refine AW.cond rfl ?_ ?_<;>intro hc<;>first|simp only[NM]at hc|omega|skip)|refine zr ?_|refine ⟨by omega,?_⟩|(refine zb ?_ ?_<;>intro hg<;>(try rw[hg])<;>try simp only[NM]at hg)|omega|simp -dsimp (disch:=try exact zo) only[go_sem,hl]|contradiction|rfl)
 refine AW.loop (fun z:{i:Nat // i≤l.length}=>⟨[(14,.lit (.int .i64 z.1)),(13,.lit (.int .i64 l.length)),(12,.sl (eS l)),(1,.loc 8 0),(2,.loc 9 0),(3,.loc 10 0)],[(8,.blk [.sl (eS l)]),(9,.blk [.lit (.bool false),.lit (.string ⟨#[]⟩),.lit (.string ⟨#[]⟩)]),(10,.blk (eQ (volT l z.1)))],60⟩) (fun z=>l.length - z.1) ⟨0,Nat.zero_le _⟩ (Weak.t4 (by refine ⟨?_,?_,?_,?_⟩<;>simp -dsimp (disch:=try exact zo) only[go_sem,volT_zero,eQ,Zz,Zmz,Qz,eS_in,eP_in,ZC])) ?_
 rintro ⟨i,hi⟩
 dsimp only
 have hs:=volT_qs hv i hi
 have hb:=vB_eq i
 have hs':=hs.mono (show vB i≤17179869184 by omega)
 by_cases hlt:i<l.length
 ·have es1:=eS_getD l i hlt
  have hst0:=volT_succ l i hlt
  obtain ⟨hvn,hvv⟩:=hv _ (List.getElem_mem hlt)
  clear hv
  generalize l[i]=sd at *
  obtain ⟨sp,svs⟩:=sd
  dsimp only at es1 hvn hvv
  generalize volT l i=A at *
  cases svs with
  | nil =>
   have hst:volT l (i+1)=A:=hst0
   simp only[eG,List.map_nil]at es1
   clear hst0 hs hb
   repeat' (first|refine zg ?_|refine AW.unroll 6 ?_|(refine AW.cond rfl ?_ ?_<;>intro hc<;>first|simp only[NM]at hc|omega|skip)|refine zr ?_|refine ⟨by omega,?_⟩|(refine zb ?_ ?_<;>intro hg<;>(try rw[hg])<;>try simp only[NM]at hg)|omega|simp -dsimp (disch:=try exact zo) only[go_sem,hl,es1,List.map_nil,List.length_nil,ZT,eS_in,eP_in]|contradiction|rfl)
   all_goals exact AW.stop ⟨⟨i+1,by omega⟩,(Weak.t4 (by refine ⟨?_,?_,?_,?_⟩<;>simp -dsimp (disch:=try exact zo) only[go_sem,eS_in,eP_in,hst,ZC])),by dsimp only;omega⟩
  | cons v0 vt =>
   have hst:volT l (i+1)=A+(areaP (v0::vt)).x*(tv v0).x+(areaP (v0::vt)).y*(tv v0).y+(areaP (v0::vt)).z*(tv v0).z:=by rw[hst0];rfl
   have hnp:0<(v0::vt).length:=by simp
   have c78v:=c78 sp (v0::vt) hvn hnp hvv
   have hc0:=hvv v0 (by simp)
   have c77v:=c77t v0 hc0.1 (hc0.2.mono (by decide))
   have ha:=areaP_qs hvv hvn
   have hh:=tv_qs hc0.1 hc0.2
   have e0:((v0::vt).map eP).getD 0 []=eP v0:=rfl
   have hvl:((v0::vt).map eP).length=(v0::vt).length:=List.length_map _
   clear hst0 hvv hc0
   generalize areaP (v0::vt)=R at *
   generalize hq:v0::vt=vs at *
   obtain ⟨a1,a2,a3⟩:=ha
   obtain ⟨h1,h2,h3⟩:=hh
   generalize R.x=R1 at *
   generalize R.y=R2 at *
   generalize R.z=R3 at *
   generalize (tv v0).x=H1 at *
   generalize (tv v0).y=H2 at *
   generalize (tv v0).z=H3 at *
   have m1:=(a1.mul h1).mono (show _≤17179869184 by omega)
   have m2:=(a2.mul h2).mono (show _≤17179869184 by omega)
   have m3:=(a3.mul h3).mono (show _≤17179869184 by omega)
   have t1:=(hs.add (a1.mul h1)).mono (show _≤17179869184 by omega)
   have t2:=((hs.add (a1.mul h1)).add (a2.mul h2)).mono (show _≤17179869184 by omega)
   have a1':=a1.mono (show _≤17179869184 by omega)
   have a2':=a2.mono (show _≤17179869184 by omega)
   have a3':=a3.mono (show _≤17179869184 by omega)
   have h1':=h1.mono (show _≤17179869184 by omega)
   have h2':=h2.mono (show _≤17179869184 by omega)
   have h3':=h3.mono (show _≤17179869184 by omega)
   simp only[eG]at es1
   simp only[eP,e4]at e0
   clear hs hb a1 a2 a3 h1 h2 h3
   repeat' (first|refine zg ?_|refine AW.unroll 6 ?_|(refine AW.cond rfl ?_ ?_<;>intro hc<;>first|simp only[NM]at hc|omega|skip)|refine zr ?_|(refine callV.flat _ yfn_77 c77v rfl rfl ?_)|(refine callV.plain _ yfn_78 c78v (by simp -dsimp (disch:=try exact zo) only[go_sem,eP_in]) (flatEV _ _ _).in ?_)|(refine callV.flat _ yfn_79 (c79 _ _ (by assumption) (by assumption)) rfl rfl ?_)|(refine callV.flat _ yfn_25 (c25 _ _ (by assumption) (by assumption)) rfl rfl ?_)|refine ⟨by omega,?_⟩|(refine zb ?_ ?_<;>intro hg<;>(try rw[hg])<;>try simp only[NM]at hg)|omega|simp -dsimp (disch:=try exact zo) only[go_sem,hl,es1,hvl,e0,zl,ZT,eS_in,eP_in]|contradiction|rfl)
   all_goals exact AW.stop ⟨⟨i+1,by omega⟩,(Weak.t4 (by refine ⟨?_,?_,?_,?_⟩<;>simp -dsimp (disch:=try exact zo) only[go_sem,eS_in,eP_in,hst,ZC])),by dsimp only;omega⟩
 ·have hil:i=l.length:=by omega
  subst hil
  have hT:volT l l.length=l.foldl volS 0:=by unfold volT;rw[List.take_length]
  have hr:volP l=volT l l.length / ((3:Int):Rat):=by rw[hT];rfl
  rw[hr]
  clear hr hT hv hs hb
  have q3:=three_qs
  generalize volT l l.length=A at *
  repeat' (first|refine zg ?_|(refine AW.cond rfl ?_ ?_<;>intro hc<;>first|simp only[NM]at hc|omega|skip)|refine zr ?_|(refine callV.flat _ yfn_68 (c68 3 (by decide)) rfl rfl ?_)|(refine callV.flat _ yfn_80 (c80 _ _ (by assumption) (by assumption) three_ne) rfl rfl ?_)|refine ⟨by omega,?_⟩|(refine zb ?_ ?_<;>intro hg<;>(try rw[hg])<;>try simp only[NM]at hg)|omega|simp -dsimp (disch:=try exact zo) only[go_sem,hl]|contradiction|rfl)
end Go.Proofs.Vx
namespace Go.Proofs.Vx
open Go Go.Sx Go.Proofs
attribute [local irreducible] fnT CallOK CallFr AW effV callV runP runO oneP oneO gcaseP hid
theorem yqq_Nx34:agT Tryz.prog 140=some true∧agT Tryz.prog 141=some true∧arT Tryz.prog 140=some (3,1,false)∧arT Tryz.prog 141=some (4,3,true)∧strT Tryz.prog 140=false∧strT Tryz.prog 141=false∧szT Tryz.prog 140=some 3∧szT Tryz.prog 141=some 12∧zeT Tryz.prog 140=some [.lit (.int .i64 0),.lit (.int .i64 0),.lit (.int .i64 0)]:=by and_intros<;>kernel_rfl
attribute [go_sem] yqq_Nx34
theorem yfn_57:fnT Tryz.prog 57=true:=by kernel_rfl
theorem yfn_121:fnT Tryz.prog 121=true:=by kernel_rfl
theorem yfn_122:fnT Tryz.prog 122=true:=by kernel_rfl
theorem wpt_can (a b c:Int):CanP (wpt a b c):=⟨by show (0:Int)<1;decide,by show g4 (1000*a) (1000*b) (1000*c) 1=1;unfold g4;exact Nat.gcd_one_right _⟩
theorem mkW (a b c:Int):mkP ((a*1000:Int):Rat) ((b*1000:Int):Rat) ((c*1000:Int):Rat)=wpt a b c:=by
 refine tv_inj (mkP_can _ _ _) (wpt_can a b c) ?_
 rw[tv_mkP]
 have e:∀ x:Int,((x*1000:Int):Rat)=((1000*x:Int):Rat) / ((1:Int):Rat):=fun x=>by
  rw[Int.mul_comm]
  have:((1:Int):Rat)=1:=rfl
  rw[this]
  grind
 rw[e a,e b,e c]
 rfl
theorem w_rg {a:Int} (h:a=1∨a=-1):-9223372036854775808≤a*1000∧a*1000<9223372036854775808:=by omega
theorem w_wr {a:Int} (h:a=1∨a=-1):IntKind.i64.wrap (a*1000)=a*1000:=wrap64 (by omega) (by omega)
theorem w_qs {a:Int} (h:a=1∨a=-1):Qs 1073741824 ((a*1000:Int):Rat):=by
 refine ⟨?_,by show (nb 1).size≤_;rw[nb_one];decide⟩
 rcases h with rfl|rfl
 ·exact Nat.le_trans ((Zm_size 1000 2).2 (by decide)) (by decide)
 ·exact Nat.le_trans ((Zm_size (-1000) 2).2 (by decide)) (by decide)
set_option maxRecDepth 20000 in
set_option maxHeartbeats 40000000 in
theorem c122 (p:Pl) (a0 b0 c0 a1 b1 c1 a2 b2 c2 a3 b3 c3:Int) (ha0:a0=1∨a0=-1) (hb0:b0=1∨b0=-1) (hc0:c0=1∨c0=-1) (ha1:a1=1∨a1=-1) (hb1:b1=1∨b1=-1) (hc1:c1=1∨c1=-1) (ha2:a2=1∨a2=-1) (hb2:b2=1∨b2=-1) (hc2:c2=1∨c2=-1) (ha3:a3=1∨a3=-1) (hb3:b3=1∨b3=-1) (hc3:c3=1∨c3=-1):CallNw Tryz.prog 122 [.agg (eH p),.agg [.lit (.int .i64 a0),.lit (.int .i64 b0),.lit (.int .i64 c0),.lit (.int .i64 a1),.lit (.int .i64 b1),.lit (.int .i64 c1),.lit (.int .i64 a2),.lit (.int .i64 b2),.lit (.int .i64 c2),.lit (.int .i64 a3),.lit (.int .i64 b3),.lit (.int .i64 c3)]] (.agg (eG p [wpt a0 b0 c0,wpt a1 b1 c1,wpt a2 b2 c2,wpt a3 b3 c3])):=by
 refine CallNw.flat Tryz.func122 rfl 37 rfl rfl (capFlat _ _) [.cell 4 58] (congrArg Array.toList Tryz.results122) ?_
 simp only[startT,Nat.reduceAdd]
 have hml:maxLen=9223372036854775807:=rfl
 have qa0:=w_qs ha0
 have ra0:=w_rg ha0
 have wa0:=w_wr ha0
 clear ha0
 have qb0:=w_qs hb0
 have rb0:=w_rg hb0
 have wb0:=w_wr hb0
 clear hb0
 have qc0:=w_qs hc0
 have rc0:=w_rg hc0
 have wc0:=w_wr hc0
 clear hc0
 have qa1:=w_qs ha1
 have ra1:=w_rg ha1
 have wa1:=w_wr ha1
 clear ha1
 have qb1:=w_qs hb1
 have rb1:=w_rg hb1
 have wb1:=w_wr hb1
 clear hb1
 have qc1:=w_qs hc1
 have rc1:=w_rg hc1
 have wc1:=w_wr hc1
 clear hc1
 have qa2:=w_qs ha2
 have ra2:=w_rg ha2
 have wa2:=w_wr ha2
 clear ha2
 have qb2:=w_qs hb2
 have rb2:=w_rg hb2
 have wb2:=w_wr hb2
 clear hb2
 have qc2:=w_qs hc2
 have rc2:=w_rg hc2
 have wc2:=w_wr hc2
 clear hc2
 have qa3:=w_qs ha3
 have ra3:=w_rg ha3
 have wa3:=w_wr ha3
 clear ha3
 have qb3:=w_qs hb3
 have rb3:=w_rg hb3
 have wb3:=w_wr hb3
 clear hb3
 have qc3:=w_qs hc3
 have rc3:=w_rg hc3
 have wc3:=w_wr hc3
 clear hc3
 repeat' (first|refine zg ?_|(refine AW.cond rfl ?_ ?_<;>intro hc<;>try simp only[NM]at hc)|refine zr ?_|refine ⟨by omega,?_⟩|(refine zb ?_ ?_<;>intro hg<;>(try rw[hg])<;>try simp only[NM]at hg)|omega|simp -dsimp (disch:=try exact zo) only[go_sem]|contradiction|rfl)
 refine AW.weak (Weak.nilB 13 8 8 _ (by decide) rfl (by simp) rfl (by simp)) ?_
 refine AW.weak (show Weak _ ⟨[(14,.lit (.int .i64 0)),(13,.agg [.lit (.int .i64 a0),.lit (.int .i64 b0),.lit (.int .i64 c0),.lit (.int .i64 a1),.lit (.int .i64 b1),.lit (.int .i64 c1),.lit (.int .i64 a2),.lit (.int .i64 b2),.lit (.int .i64 c2),.lit (.int .i64 a3),.lit (.int .i64 b3),.lit (.int .i64 c3)]),(5,.loc 13 0),(4,.loc 10 0)],[(13,.blk [.lit (.bool (Zn p.a)),.lit (.string (Zm p.a)),.lit (.bool (Zn p.b)),.lit (.string (Zm p.b)),.lit (.bool (Zn p.c)),.lit (.string (Zm p.c)),.lit (.bool (Zn p.d)),.lit (.string (Zm p.d)),.ref 17 0 0 0]),(17,.vec 8 ([]:List (List AV))),(10,.blk eG0)],30⟩from (Weak.t4 (by refine ⟨?_,?_,?_,?_⟩<;>simp -dsimp (disch:=try exact zo) only[go_sem,ZC]))) ?_
 repeat' (first|refine zg ?_|refine AW.unroll 6 ?_|(refine AW.cond rfl ?_ ?_<;>intro hc<;>try simp only[NM]at hc)|refine zn ?_|(first|refine callV.flat _ yfn_68 (c68 (a0*1000) ra0) rfl rfl ?_|refine callV.flat _ yfn_68 (c68 (b0*1000) rb0) rfl rfl ?_|refine callV.flat _ yfn_68 (c68 (c0*1000) rc0) rfl rfl ?_|refine callV.flat _ yfn_68 (c68 (a1*1000) ra1) rfl rfl ?_|refine callV.flat _ yfn_68 (c68 (b1*1000) rb1) rfl rfl ?_|refine callV.flat _ yfn_68 (c68 (c1*1000) rc1) rfl rfl ?_|refine callV.flat _ yfn_68 (c68 (a2*1000) ra2) rfl rfl ?_|refine callV.flat _ yfn_68 (c68 (b2*1000) rb2) rfl rfl ?_|refine callV.flat _ yfn_68 (c68 (c2*1000) rc2) rfl rfl ?_|refine callV.flat _ yfn_68 (c68 (a3*1000) ra3) rfl rfl ?_|refine callV.flat _ yfn_68 (c68 (b3*1000) rb3) rfl rfl ?_|refine callV.flat _ yfn_68 (c68 (c3*1000) rc3) rfl rfl ?_)|(refine callV.flat _ yfn_96 (c96 _ _ _ (by assumption) (by assumption) (by assumption)) rfl rfl ?_)|refine ⟨by omega,?_⟩|(refine zb ?_ ?_<;>intro hg<;>(try rw[hg])<;>try simp only[NM]at hg)|omega|simp -dsimp (disch:=try exact zo) only[go_sem,mkW,wa0,wb0,wc0,wa1,wb1,wc1,wa2,wb2,wc2,wa3,wb3,wc3]|contradiction|rfl)
end Go.Proofs.Vx
namespace Go.Proofs.Vx
open Go Go.Sx Go.Proofs
attribute [local irreducible] fnT CallOK CallFr AW effV callV runP runO oneP oneO gcaseP hid
theorem yqq_Nx35:arT Tryz.prog 145=none∧slT Tryz.prog 145=some (140,3)∧strT Tryz.prog 145=false:=by and_intros<;>kernel_rfl
attribute [go_sem] yqq_Nx35
set_option maxRecDepth 20000 in
set_option maxHeartbeats 40000000 in
theorem c121 (a0 b0 c0 a1 b1 c1 a2 b2 c2 a3 b3 c3:Int):CallOK Tryz.prog 121 [.bs 0 0 3 4] [(0,.blk [.lit (.int .i64 a0),.lit (.int .i64 b0),.lit (.int .i64 c0),.lit (.int .i64 a1),.lit (.int .i64 b1),.lit (.int .i64 c1),.lit (.int .i64 a2),.lit (.int .i64 b2),.lit (.int .i64 c2),.lit (.int .i64 a3),.lit (.int .i64 b3),.lit (.int .i64 c3)])] (.tup []) [(0,.blk [.lit (.int .i64 a3),.lit (.int .i64 b3),.lit (.int .i64 c3),.lit (.int .i64 a2),.lit (.int .i64 b2),.lit (.int .i64 c2),.lit (.int .i64 a1),.lit (.int .i64 b1),.lit (.int .i64 c1),.lit (.int .i64 a0),.lit (.int .i64 b0),.lit (.int .i64 c0)])]:=by
 refine CallOK.inout Tryz.func121 rfl 28 rfl rfl (by simp) (.tup _ (by simp)) (by
  intro q hq
  simp only[List.mem_cons,List.not_mem_nil,or_false]at hq
  subst hq
  refine ⟨by simp,fun c hc=>?_⟩
  simp only[List.mem_cons,List.not_mem_nil,or_false]at hc
  rcases hc with rfl|rfl|rfl|rfl|rfl|rfl|rfl|rfl|rfl|rfl|rfl|rfl<;>exact .lit _) [] (congrArg Array.toList Tryz.results121) ?_
 simp only[startT,Nat.reduceAdd]
 repeat' (first|refine zg ?_|refine AW.unroll 6 ?_|(refine AW.cond rfl ?_ ?_<;>intro hc<;>first|simp only[NM]at hc|omega|skip)|refine zr ?_|(refine AW.nil (RetB.of ?_ ?_)<;>simp -dsimp (disch:=try exact zo) only[go_sem])|refine ⟨by omega,?_⟩|(refine zb ?_ ?_<;>intro hg<;>(try rw[hg])<;>try simp only[NM]at hg)|omega|simp -dsimp (disch:=try exact zo) only[go_sem,Int.cast_ofNat_Int]|contradiction|rfl)
end Go.Proofs.Vx
namespace Go.Proofs.Vx
open Go Go.Sx Go.Proofs
attribute [local irreducible] fnT CallOK CallFr AW effV callV runP runO oneP oneO gcaseP hid
theorem yqq_Nx36:arT Tryz.prog 139=none∧arT Tryz.prog 142=some (2,1,false)∧arT Tryz.prog 143=some (4,2,true)∧plT Tryz.prog 142=some [(0,1),(1,1)]∧plT Tryz.prog 143=some [(0,2),(2,2),(4,2),(6,2)]∧slT Tryz.prog 139=some (2,1)∧slT Tryz.prog 140=none∧slT Tryz.prog 141=none∧slT Tryz.prog 142=none∧strT Tryz.prog 139=false∧strT Tryz.prog 143=false∧szT Tryz.prog 142=some 2∧szT Tryz.prog 2=some 1∧zeT Tryz.prog 141=some [.lit (.int .i64 0),.lit (.int .i64 0),.lit (.int .i64 0),.lit (.int .i64 0),.lit (.int .i64 0),.lit (.int .i64 0),.lit (.int .i64 0),.lit (.int .i64 0),.lit (.int .i64 0),.lit (.int .i64 0),.lit (.int .i64 0),.lit (.int .i64 0)]∧zeT Tryz.prog 142=some [.lit (.int .i64 0),.lit (.int .i64 0)]∧zeT Tryz.prog 143=some [.lit (.int .i64 0),.lit (.int .i64 0),.lit (.int .i64 0),.lit (.int .i64 0),.lit (.int .i64 0),.lit (.int .i64 0),.lit (.int .i64 0),.lit (.int .i64 0)]∧zeT Tryz.prog 2=some [.lit (.int .i64 0)]:=by and_intros<;>kernel_rfl
attribute [go_sem] yqq_Nx36
set_option maxRecDepth 20000 in
set_option maxHeartbeats 40000000 in
theorem c57:CallOK Tryz.prog 57 [] [] (.agg [.sl (eS worldP)]) []:=by
 refine CallOK.closed Tryz.func57 rfl 77 rfl rfl (by simp -dsimp (disch:=try exact zo) only[go_sem,eS_in]) [.cell 0 33] (congrArg Array.toList Tryz.results57) ?_
 simp only[startT,Nat.reduceAdd]
 have hml:maxLen=9223372036854775807:=rfl
 repeat' (first|refine zg ?_|(refine AW.cond rfl ?_ ?_<;>intro hc<;>try simp only[NM]at hc)|refine zr ?_|(first|refine callV.flat _ yfn_67 (c67 1000 (by decide)) rfl rfl ?_|refine callV.flat _ yfn_67 (c67 (-1) (by decide)) rfl rfl ?_|refine callV.flat _ yfn_67 (c67 1 (by decide)) rfl rfl ?_)|refine ⟨by omega,?_⟩|(refine zb ?_ ?_<;>intro hg<;>(try rw[hg])<;>try simp only[NM]at hg)|omega|simp -dsimp (disch:=try exact zo) only[go_sem]|contradiction|rfl)
 refine AW.weak (Weak.nilB 9 0 9 _ (by decide) rfl (by simp) rfl (by simp)) ?_
 have hwl:eS (List.take 6 worldP)=eS worldP:=rfl
 have hz:eS (worldP.take 0)=[]:=rfl
 refine AW.loop (fun z:{i:Nat // i≤3}=>⟨[(11,.lit (.int .i64 z.1)),(2,.loc 11 0),(1,.loc 9 0),(0,.loc 8 0)],[(11,.blk (eZ 1000)),(9,.blk [.ref 14 0 (2*z.1) (2*z.1)]),(14,.vec 9 (eS (worldP.take (2*z.1)))),(8,.blk [.lit (.slice none 0 0)])],30⟩) (fun z=>3 - z.1) ⟨0,Nat.zero_le _⟩ (Weak.t4 (by refine ⟨?_,?_,?_,?_⟩<;>simp -dsimp (disch:=try exact zo) only[go_sem,Nat.mul_zero,hz,ZC])) ?_
 rintro ⟨i,hi⟩
 dsimp only
 rcases (show i=0∨i=1∨i=2∨i=3 by omega)with rfl|rfl|rfl|rfl
 ·have hE:eS (List.take 2 worldP)=eS (List.take 0 worldP)++[eG ⟨-1,0,0,1000⟩ [wpt (-1) (-1) (1),wpt (-1) (1) (1),wpt (-1) (1) (-1),wpt (-1) (-1) (-1)]]++[eG ⟨1,0,0,1000⟩ [wpt (1) (-1) (-1),wpt (1) (1) (-1),wpt (1) (1) (1),wpt (1) (-1) (1)]]:=rfl
  have hlE:(eS (List.take 0 worldP)).length=0:=rfl
  have he0:AV.agg [.lit (.bool (Zn (-1))),.lit (.string (Zm (-1))),.lit (.bool false),.lit (.string ⟨#[]⟩),.lit (.bool false),.lit (.string ⟨#[]⟩),.lit (.bool (Zn (1000))),.lit (.string (Zm (1000)))]=.agg (eH ⟨-1,0,0,1000⟩):=by simp only[eH,e4,Zn_zero,Zm_zero]
  have w0:=c122 ⟨-1,0,0,1000⟩ (-1) (-1) (1) (-1) (1) (1) (-1) (1) (-1) (-1) (-1) (-1) (by decide) (by decide) (by decide) (by decide) (by decide) (by decide) (by decide) (by decide) (by decide) (by decide) (by decide) (by decide)
  have he1:AV.agg [.lit (.bool (Zn (1))),.lit (.string (Zm (1))),.lit (.bool false),.lit (.string ⟨#[]⟩),.lit (.bool false),.lit (.string ⟨#[]⟩),.lit (.bool (Zn (1000))),.lit (.string (Zm (1000)))]=.agg (eH ⟨1,0,0,1000⟩):=by simp only[eH,e4,Zn_zero,Zm_zero]
  have w1:=c122 ⟨1,0,0,1000⟩ (1) (-1) (-1) (1) (1) (-1) (1) (1) (1) (1) (-1) (1) (by decide) (by decide) (by decide) (by decide) (by decide) (by decide) (by decide) (by decide) (by decide) (by decide) (by decide) (by decide)
  simp only[Nat.reduceMul]
  generalize eS (List.take 0 worldP)=E at *
  repeat' (first|refine zg ?_|refine AW.unroll 6 ?_|(refine AW.cond rfl ?_ ?_<;>intro hc<;>first|simp only[NM]at hc|omega|skip)|refine zr ?_|(first|refine callV.flat _ yfn_67 (c67 1000 (by decide)) rfl rfl ?_|refine callV.flat _ yfn_67 (c67 (-1) (by decide)) rfl rfl ?_|refine callV.flat _ yfn_67 (c67 1 (by decide)) rfl rfl ?_)|(refine callV.inout1 _ _ _ _ yfn_121 (CallOK.ren (c121 _ _ _ _ _ _ _ _ _ _ _ _) (by simp -dsimp (disch:=try exact zo) only[go_sem]) (by simp -dsimp (disch:=try exact zo) only[go_sem]) (.tup _ (by simp)) (by simp[top0]) _) rfl (by simp[In_bs]) (by simp -dsimp (disch:=try exact zo) only[go_sem]) (by simp -dsimp (disch:=try exact zo) only[go_sem]) (.tup _ (by simp)) rfl ?_)|(first|refine callV.new _ yfn_122 (by simp -dsimp (disch:=try exact zo) only[go_sem];rw[he0];exact w0) (by simp -dsimp (disch:=try exact zo) only[go_sem]) (capFlat _ _).in ?_|refine callV.new _ yfn_122 (by simp -dsimp (disch:=try exact zo) only[go_sem];rw[he1];exact w1) (by simp -dsimp (disch:=try exact zo) only[go_sem]) (capFlat _ _).in ?_)|refine ⟨by omega,?_⟩|(refine zb ?_ ?_<;>intro hg<;>(try rw[hg])<;>try simp only[NM]at hg)|omega|simp -dsimp (disch:=try exact zo) only[go_sem,Int.cast_ofNat_Int,hlE,Int.reduceMod,Int.reduceTMod]|rfl)
  all_goals exact AW.stop ⟨⟨1,by omega⟩,(Weak.to (by simp -dsimp (disch:=try exact zo) only[go_sem,Int.cast_ofNat_Int]) (by simp -dsimp (disch:=try exact zo) only[go_sem,hE,Int.cast_ofNat_Int];try rfl) (by decide) (by simp -dsimp (disch:=try exact zo) only[go_sem,Int.cast_ofNat_Int]) (by simp -dsimp (disch:=try exact zo) only[go_sem,eS_in,Int.cast_ofNat_Int])),by dsimp only;omega⟩
 ·have hE:eS (List.take 4 worldP)=eS (List.take 2 worldP)++[eG ⟨0,-1,0,1000⟩ [wpt (1) (-1) (-1),wpt (1) (-1) (1),wpt (-1) (-1) (1),wpt (-1) (-1) (-1)]]++[eG ⟨0,1,0,1000⟩ [wpt (-1) (1) (-1),wpt (-1) (1) (1),wpt (1) (1) (1),wpt (1) (1) (-1)]]:=rfl
  have hlE:(eS (List.take 2 worldP)).length=2:=rfl
  have he0:AV.agg [.lit (.bool false),.lit (.string ⟨#[]⟩),.lit (.bool (Zn (-1))),.lit (.string (Zm (-1))),.lit (.bool false),.lit (.string ⟨#[]⟩),.lit (.bool (Zn (1000))),.lit (.string (Zm (1000)))]=.agg (eH ⟨0,-1,0,1000⟩):=by simp only[eH,e4,Zn_zero,Zm_zero]
  have w0:=c122 ⟨0,-1,0,1000⟩ (1) (-1) (-1) (1) (-1) (1) (-1) (-1) (1) (-1) (-1) (-1) (by decide) (by decide) (by decide) (by decide) (by decide) (by decide) (by decide) (by decide) (by decide) (by decide) (by decide) (by decide)
  have he1:AV.agg [.lit (.bool false),.lit (.string ⟨#[]⟩),.lit (.bool (Zn (1))),.lit (.string (Zm (1))),.lit (.bool false),.lit (.string ⟨#[]⟩),.lit (.bool (Zn (1000))),.lit (.string (Zm (1000)))]=.agg (eH ⟨0,1,0,1000⟩):=by simp only[eH,e4,Zn_zero,Zm_zero]
  have w1:=c122 ⟨0,1,0,1000⟩ (-1) (1) (-1) (-1) (1) (1) (1) (1) (1) (1) (1) (-1) (by decide) (by decide) (by decide) (by decide) (by decide) (by decide) (by decide) (by decide) (by decide) (by decide) (by decide) (by decide)
  simp only[Nat.reduceMul]
  generalize eS (List.take 2 worldP)=E at *
  repeat' (first|refine zg ?_|refine AW.unroll 6 ?_|(refine AW.cond rfl ?_ ?_<;>intro hc<;>first|simp only[NM]at hc|omega|skip)|refine zr ?_|(first|refine callV.flat _ yfn_67 (c67 1000 (by decide)) rfl rfl ?_|refine callV.flat _ yfn_67 (c67 (-1) (by decide)) rfl rfl ?_|refine callV.flat _ yfn_67 (c67 1 (by decide)) rfl rfl ?_)|(refine callV.inout1 _ _ _ _ yfn_121 (CallOK.ren (c121 _ _ _ _ _ _ _ _ _ _ _ _) (by simp -dsimp (disch:=try exact zo) only[go_sem]) (by simp -dsimp (disch:=try exact zo) only[go_sem]) (.tup _ (by simp)) (by simp[top0]) _) rfl (by simp[In_bs]) (by simp -dsimp (disch:=try exact zo) only[go_sem]) (by simp -dsimp (disch:=try exact zo) only[go_sem]) (.tup _ (by simp)) rfl ?_)|(first|refine callV.new _ yfn_122 (by simp -dsimp (disch:=try exact zo) only[go_sem];rw[he0];exact w0) (by simp -dsimp (disch:=try exact zo) only[go_sem]) (capFlat _ _).in ?_|refine callV.new _ yfn_122 (by simp -dsimp (disch:=try exact zo) only[go_sem];rw[he1];exact w1) (by simp -dsimp (disch:=try exact zo) only[go_sem]) (capFlat _ _).in ?_)|refine ⟨by omega,?_⟩|(refine zb ?_ ?_<;>intro hg<;>(try rw[hg])<;>try simp only[NM]at hg)|omega|simp -dsimp (disch:=try exact zo) only[go_sem,Int.cast_ofNat_Int,hlE,Int.reduceMod,Int.reduceTMod]|rfl)
  all_goals exact AW.stop ⟨⟨2,by omega⟩,(Weak.to (by simp -dsimp (disch:=try exact zo) only[go_sem,Int.cast_ofNat_Int]) (by simp -dsimp (disch:=try exact zo) only[go_sem,hE,Int.cast_ofNat_Int];try rfl) (by decide) (by simp -dsimp (disch:=try exact zo) only[go_sem,Int.cast_ofNat_Int]) (by simp -dsimp (disch:=try exact zo) only[go_sem,eS_in,Int.cast_ofNat_Int])),by dsimp only;omega⟩
 ·have hE:eS (List.take 6 worldP)=eS (List.take 4 worldP)++[eG ⟨0,0,-1,1000⟩ [wpt (-1) (1) (-1),wpt (1) (1) (-1),wpt (1) (-1) (-1),wpt (-1) (-1) (-1)]]++[eG ⟨0,0,1,1000⟩ [wpt (-1) (-1) (1),wpt (1) (-1) (1),wpt (1) (1) (1),wpt (-1) (1) (1)]]:=rfl
  have hlE:(eS (List.take 4 worldP)).length=4:=rfl
  have he0:AV.agg [.lit (.bool false),.lit (.string ⟨#[]⟩),.lit (.bool false),.lit (.string ⟨#[]⟩),.lit (.bool (Zn (-1))),.lit (.string (Zm (-1))),.lit (.bool (Zn (1000))),.lit (.string (Zm (1000)))]=.agg (eH ⟨0,0,-1,1000⟩):=by simp only[eH,e4,Zn_zero,Zm_zero]
  have w0:=c122 ⟨0,0,-1,1000⟩ (-1) (1) (-1) (1) (1) (-1) (1) (-1) (-1) (-1) (-1) (-1) (by decide) (by decide) (by decide) (by decide) (by decide) (by decide) (by decide) (by decide) (by decide) (by decide) (by decide) (by decide)
  have he1:AV.agg [.lit (.bool false),.lit (.string ⟨#[]⟩),.lit (.bool false),.lit (.string ⟨#[]⟩),.lit (.bool (Zn (1))),.lit (.string (Zm (1))),.lit (.bool (Zn (1000))),.lit (.string (Zm (1000)))]=.agg (eH ⟨0,0,1,1000⟩):=by simp only[eH,e4,Zn_zero,Zm_zero]
  have w1:=c122 ⟨0,0,1,1000⟩ (-1) (-1) (1) (1) (-1) (1) (1) (1) (1) (-1) (1) (1) (by decide) (by decide) (by decide) (by decide) (by decide) (by decide) (by decide) (by decide) (by decide) (by decide) (by decide) (by decide)
  simp only[Nat.reduceMul]
  generalize eS (List.take 4 worldP)=E at *
  repeat' (first|refine zg ?_|refine AW.unroll 6 ?_|(refine AW.cond rfl ?_ ?_<;>intro hc<;>first|simp only[NM]at hc|omega|skip)|refine zr ?_|(first|refine callV.flat _ yfn_67 (c67 1000 (by decide)) rfl rfl ?_|refine callV.flat _ yfn_67 (c67 (-1) (by decide)) rfl rfl ?_|refine callV.flat _ yfn_67 (c67 1 (by decide)) rfl rfl ?_)|(refine callV.inout1 _ _ _ _ yfn_121 (CallOK.ren (c121 _ _ _ _ _ _ _ _ _ _ _ _) (by simp -dsimp (disch:=try exact zo) only[go_sem]) (by simp -dsimp (disch:=try exact zo) only[go_sem]) (.tup _ (by simp)) (by simp[top0]) _) rfl (by simp[In_bs]) (by simp -dsimp (disch:=try exact zo) only[go_sem]) (by simp -dsimp (disch:=try exact zo) only[go_sem]) (.tup _ (by simp)) rfl ?_)|(first|refine callV.new _ yfn_122 (by simp -dsimp (disch:=try exact zo) only[go_sem];rw[he0];exact w0) (by simp -dsimp (disch:=try exact zo) only[go_sem]) (capFlat _ _).in ?_|refine callV.new _ yfn_122 (by simp -dsimp (disch:=try exact zo) only[go_sem];rw[he1];exact w1) (by simp -dsimp (disch:=try exact zo) only[go_sem]) (capFlat _ _).in ?_)|refine ⟨by omega,?_⟩|(refine zb ?_ ?_<;>intro hg<;>(try rw[hg])<;>try simp only[NM]at hg)|omega|simp -dsimp (disch:=try exact zo) only[go_sem,Int.cast_ofNat_Int,hlE,Int.reduceMod,Int.reduceTMod]|rfl)
  all_goals exact AW.stop ⟨⟨3,by omega⟩,(Weak.to (by simp -dsimp (disch:=try exact zo) only[go_sem,Int.cast_ofNat_Int]) (by simp -dsimp (disch:=try exact zo) only[go_sem,hE,Int.cast_ofNat_Int];try rfl) (by decide) (by simp -dsimp (disch:=try exact zo) only[go_sem,Int.cast_ofNat_Int]) (by simp -dsimp (disch:=try exact zo) only[go_sem,eS_in,Int.cast_ofNat_Int])),by dsimp only;omega⟩
 ·repeat' (first|refine zg ?_|(refine AW.cond rfl ?_ ?_<;>intro hc<;>first|simp only[NM]at hc|omega|skip)|refine zr ?_|refine ⟨by omega,?_⟩|(refine zb ?_ ?_<;>intro hg<;>(try rw[hg])<;>try simp only[NM]at hg)|omega|simp -dsimp (disch:=try exact zo) only[go_sem,hwl]|contradiction|rfl)
end Go.Proofs.Vx
