import Derived.Test.YtjlfgmhmalbiiaaGreatDoorX27
set_option linter.all false
set_option maxHeartbeats 40000000
open Array renaming getD_eq_getD_getElem? → Ad, getElem?_eq_getElem → Af, toList → An
open Int renaming cast_ofNat_Int → Aa, reduceTMod → Ai, reduceMod → Al, natCast_zero → Aq, natCast_add → Au, ofNat_zero → Av, mul_comm → Ax, mul_add → Az
open List renaming take → Ab, getElem_mem → Ag, length_cons → Ao, length_map → At, map_nil → Aw
open Nat renaming reduceAdd → Ac, lt_of_lt_of_le → Ae, div_eq_of_lt → Ah, pow_le_pow_right → Aj, reduceMul → Ak, le_trans → Am, mod_eq_of_lt → Ap, le_refl → Ar, zero_le → As, pow_succ → Ay
namespace Go.Proofs.Vx
open Go Go.Sx Go.Proofs Tryz
attribute [local irreducible] fnT CallOK CallFr AW aK callV aL aJ aI aM gcaseP hid
theorem a6t:((3:Int):Rat)≠0:=by decide
theorem c1b:Qs 17179869184 ((3:Int):Rat):=⟨Am ((bX 3 1).2 (by decide)) (by decide),by show (nb 1).size≤_;rw[kI];decide⟩
theorem qK:Qs 1 ((2:Int):Rat):=⟨(bX 2 1).2 (by decide),by show (nb 1).size≤_;rw[kI];decide⟩
theorem a8k {vs:List Pt} (hv:∀ v∈vs,CanP v∧BPt 2000 v) (hn:vs.length≤1024):QV 16400000 (iH vs):=by
 have h:=a8j hv vs.length (Ar _)
 rw[z7]at h
 have hb:=b3f vs.length
 exact⟨(h.x.div qK oP).mono (by omega),(h.y.div qK oP).mono (by omega),(h.z.div qK oP).mono (by omega)⟩
def vB:Nat→Nat
 | 0=>1
 | n+1=>vB n+49206009
theorem vB_eq (n:Nat):vB n=49206009*n+1:=by
 induction n with
 | zero=>rfl
 | succ n ih=>rw[vB,ih];omega
def gG (l:aE) (i:Nat):Rat:=(l.take i).foldl kT 0
theorem b6t (l:aE):gG l 0=0:=rfl
theorem zN (l:aE) (i:Nat) (h:i<l.length):gG l (i+1)=kT (gG l i) l[i]:=by
 unfold gG
 rw[List.take_succ_eq_append_getElem h,List.foldl_append]
 rfl
theorem a3a {vs:List Pt} {k:Nat} (hk:1≤k) (hv:∀ v∈vs,CanP v∧BPt k v):QV k (hd vs):=by
 cases vs with
 | nil=>exact qG hk
 | cons v vs=>exact gZ (hv v (by simp)).1 (hv v (by simp)).2
theorem c5t {l:aE} (hl:∀ s∈l,s.2.length≤1024∧∀ v∈s.2,CanP v∧BPt 2000 v) (i:Nat) (hi:i≤l.length):Qs (vB i) (gG l i):=by
 induction i with
 | zero=>exact (qG (Ar 1)).x
 | succ i ih =>
  have h:i<l.length:=by omega
  have h0:=ih (by omega)
  obtain⟨h1,h2⟩:=hl _ (Ag h)
  rw[zN l i h]
  unfold kT
  split
  ·exact h0.mono (by rw[vB];omega)
  ·have a:=a8k h2 h1
   have d:=a3a (by decide) h2
   exact (((h0.add (a.x.mul d.x)).add (a.y.mul d.y)).add (a.z.mul d.z)).mono (by rw[vB];omega)
abbrev BdV (l:aE):Prop:=Bd 32 1024 2000 l
theorem d1t (a b c:Rat):Flat (.agg (eV a b c)):=.agg _ (by intro x hx;simp only[eV,List.mem_cons,List.not_mem_nil,or_false]at hx;rcases hx with rfl|rfl|rfl|rfl|rfl|rfl|rfl|rfl|rfl<;>exact .lit _)
theorem c24 (l:aE) (hc:CanC l) (hB:BdV l):CallOK prog 24 [.agg [.sl (eS l)]] [] (.agg (eQ (dM l))) []:=by
 refine zs func24 49 [.cell 2 41] results24 ?_
 simp only[aD,Ac]
 have hml:maxLen=9223372036854775807:=rfl
 have hl:(eS l).length=l.length:=At _
 have hln:=hB.n
 have hv:∀ s∈l,s.2.length≤1024∧∀ v∈s.2,CanP v∧BPt 2000 v:=fun s hs=>⟨hB.m s hs,fun v hv=>⟨hc.can s hs v hv,hB.k s hs v hv⟩⟩
 clear hB hc
 repeat'(first|refine zk ?_|(refine zu ?_ ?_<;>intro hc)|(refine zv ?_ ?_<;>intro hg)|omega|simp -dsimp (disch:=try exact zo)only[go_sem,hl]|contradiction|rfl)
 refine AW.loop (fun z:{i:Nat // i≤l.length}=>⟨[(14,.lit (.int .i64 z.1)),(13,.lit (.int .i64 l.length)),(12,.sl (eS l)),(1,.loc 8 0),(2,.loc 9 0),(3,.loc 10 0)],[(8,.blk [.sl (eS l)]),(9,.blk [.lit (.bool false),.lit (.string ⟨#[]⟩),.lit (.string ⟨#[]⟩)]),(10,.blk (eQ (gG l z.1)))],60⟩) (fun z=>l.length - z.1) ⟨0,As _⟩ (aR (by refine⟨?_,?_,?_,?_⟩<;>simp -dsimp (disch:=try exact zo)only[go_sem,b6t,eQ,Zz,Zmz,Qz,ZC])) ?_
 rintro⟨i,hi⟩
 dsimp only
 have hs:=c5t hv i hi
 have hb:=vB_eq i
 have hs':=hs.mono (show vB i≤17179869184 by omega)
 by_cases hlt:i<l.length
 ·have es1:=qU l i hlt
  have hst0:=zN l i hlt
  obtain⟨hvn,hvv⟩:=hv _ (Ag hlt)
  clear hv
  generalize l[i]=sd at *
  obtain⟨sp,svs⟩:=sd
  dsimp only at es1 hvn hvv
  generalize gG l i=A at *
  cases svs with
  | nil =>
   have hst:gG l (i+1)=A:=hst0
   simp only[eG,Aw]at es1
   clear hst0 hs hb
   repeat'(first|refine zg ?_|refine cK 6 ?_|(refine zc ?_ ?_<;>intro hc<;>first|simp only[NM]at hc|omega|skip)|refine zr ?_|refine⟨by omega,?_⟩|(refine zb ?_ ?_<;>intro hg<;>(try rw[hg])<;>try simp only[NM]at hg)|omega|simp -dsimp (disch:=try exact zo)only[go_sem,hl,es1,Aw,List.length_nil,ZT]|contradiction|rfl)
   all_goals exact AW.stop ⟨⟨i+1,by omega⟩,zw,by dsimp only;omega⟩
  | cons v0 vt =>
   have hst:gG l (i+1)=A+(iH (v0::vt)).x*(tv v0).x+(iH (v0::vt)).y*(tv v0).y+(iH (v0::vt)).z*(tv v0).z:=by rw[hst0];rfl
   have hnp:0<(v0::vt).length:=by simp
   have c78v:=c78 sp (v0::vt) hvn hnp hvv
   have hc0:=hvv v0 (by simp)
   have c77v:=c77t v0 hc0.1 (hc0.2.mono (by decide))
   have ha:=a8k hvv hvn
   have hh:=gZ hc0.1 hc0.2
   have e0:((v0::vt).map eP).getD 0 []=eP v0:=rfl
   have hvl:((v0::vt).map eP).length=(v0::vt).length:=At _
   clear hst0 hvv hc0
   generalize iH (v0::vt)=R at *
   generalize hq:v0::vt=vs at *
   obtain⟨a1,a2,a3⟩:=ha
   obtain⟨h1,h2,h3⟩:=hh
   generalize R.x=R1 at *
   generalize R.y=R2 at *
   generalize R.z=R3 at *
   generalize (tv v0).x=H1 at *
   generalize (tv v0).y=H2 at *
   generalize (tv v0).z=H3 at *
   have m1:=(a1.mul h1).mono (show _≤17179869184 by omega)
   have m2:=(a2.mul h2).mono (show _≤17179869184 by omega)
   have m3:=(a3.mul h3).mono (show _≤17179869184 by omega)
   have t1:=(hs.add (a1.mul h1)).mono (show _≤17179869184 by omega)
   have t2:=((hs.add (a1.mul h1)).add (a2.mul h2)).mono (show _≤17179869184 by omega)
   have a1':=a1.mono (show _≤17179869184 by omega)
   have a2':=a2.mono (show _≤17179869184 by omega)
   have a3':=a3.mono (show _≤17179869184 by omega)
   have h1':=h1.mono (show _≤17179869184 by omega)
   have h2':=h2.mono (show _≤17179869184 by omega)
   have h3':=h3.mono (show _≤17179869184 by omega)
   simp only[eG]at es1
   simp only[eP,e4]at e0
   clear hs hb a1 a2 a3 h1 h2 h3
   repeat'(first|refine zg ?_|refine cK 6 ?_|(refine zc ?_ ?_<;>intro hc<;>first|simp only[NM]at hc|omega|skip)|refine zr ?_|(refine zf c77v ?_)|(refine zp c78v (by simp -dsimp (disch:=try exact zo)only[go_sem]) (d1t _ _ _).in ?_)|(refine zf (c79 _ _ (by assumption) (by assumption)) ?_)|(refine zf (c25 _ _ (by assumption) (by assumption)) ?_)|refine⟨by omega,?_⟩|(refine zb ?_ ?_<;>intro hg<;>(try rw[hg])<;>try simp only[NM]at hg)|omega|simp -dsimp (disch:=try exact zo)only[go_sem,hl,es1,hvl,e0,zl,ZT]|contradiction|rfl)
   all_goals exact AW.stop ⟨⟨i+1,by omega⟩,zw,by dsimp only;omega⟩
 ·have hil:i=l.length:=by omega
  subst hil
  have hT:gG l l.length=l.foldl kT 0:=by unfold gG;rw[List.take_length]
  have hr:dM l=gG l l.length / ((3:Int):Rat):=by rw[hT];rfl
  rw[hr]
  clear hr hT hv hs hb
  have q3:=c1b
  generalize gG l l.length=A at *
  repeat'(first|refine zk ?_|(refine zu ?_ ?_<;>intro hc)|(refine zf (c68 3 (by decide)) ?_)|(refine zf (c80 _ _ (by assumption) (by assumption) a6t) ?_)|(refine zv ?_ ?_<;>intro hg)|omega|simp -dsimp (disch:=try exact zo)only[go_sem,hl]|contradiction|rfl)
end Go.Proofs.Vx
namespace Go.Proofs.Vx
open Go Go.Sx Go.Proofs Tryz
attribute [local irreducible] fnT CallOK CallFr AW aK callV aL aJ aI aM gcaseP hid
theorem c0b:agT prog 140=some true∧agT prog 141=some true∧arT prog 140=some (3,1,false)∧arT prog 141=some (4,3,true)∧bI prog 140=false∧bI prog 141=false∧szT prog 140=some 3∧szT prog 141=some 12∧zeT prog 140=some [.lit (.int .i64 0),.lit (.int .i64 0),.lit (.int .i64 0)]:=by and_intros<;>kernel_rfl
attribute [go_sem] c0b
theorem c5p (a b c:Int):CanP (wpt a b c):=⟨by show (0:Int)<1;decide,by show g4 (1000*a) (1000*b) (1000*c) 1=1;unfold g4;exact Nat.gcd_one_right _⟩
theorem mkW (a b c:Int):mkP ((a*1000:Int):Rat) ((b*1000:Int):Rat) ((c*1000:Int):Rat)=wpt a b c:=by
 refine l7 (a1h _ _ _) (c5p a b c) ?_
 rw[a1s]
 have e:∀ x:Int,((x*1000:Int):Rat)=((1000*x:Int):Rat) / ((1:Int):Rat):=fun x=>by
  rw[Ax]
  have:((1:Int):Rat)=1:=rfl
  rw[this]
  grind
 rw[e a,e b,e c]
 rfl
theorem jJ {a:Int} (h:a=1∨a=-1):-9223372036854775808≤a*1000∧a*1000<9223372036854775808:=by omega
theorem jI {a:Int} (h:a=1∨a=-1):IntKind.i64.wrap (a*1000)=a*1000:=wrap64 (by omega) (by omega)
theorem jK {a:Int} (h:a=1∨a=-1):Qs 1073741824 ((a*1000:Int):Rat):=by
 refine⟨?_,by show (nb 1).size≤_;rw[kI];decide⟩
 rcases h with rfl|rfl
 ·exact Am ((bX 1000 2).2 (by decide)) (by decide)
 ·exact Am ((bX (-1000) 2).2 (by decide)) (by decide)
set_option maxRecDepth 20000 in
theorem sR (p:Pl) (a0 b0 c0 a1 b1 c1 a2 b2 c2 a3 b3 c3:Int) (ha0:a0=1∨a0=-1) (hb0:b0=1∨b0=-1) (hc0:c0=1∨c0=-1) (ha1:a1=1∨a1=-1) (hb1:b1=1∨b1=-1) (hc1:c1=1∨c1=-1) (ha2:a2=1∨a2=-1) (hb2:b2=1∨b2=-1) (hc2:c2=1∨c2=-1) (ha3:a3=1∨a3=-1) (hb3:b3=1∨b3=-1) (hc3:c3=1∨c3=-1):CallNw prog 122 [.agg (eH p),.agg [.lit (.int .i64 a0),.lit (.int .i64 b0),.lit (.int .i64 c0),.lit (.int .i64 a1),.lit (.int .i64 b1),.lit (.int .i64 c1),.lit (.int .i64 a2),.lit (.int .i64 b2),.lit (.int .i64 c2),.lit (.int .i64 a3),.lit (.int .i64 b3),.lit (.int .i64 c3)]] (.agg (eG p [wpt a0 b0 c0,wpt a1 b1 c1,wpt a2 b2 c2,wpt a3 b3 c3])):=by
 refine CallNw.flat func122 rfl 37 rfl rfl (gX _ _) [.cell 4 58] (congrArg An results122) ?_
 simp only[aD,Ac]
 have hml:maxLen=9223372036854775807:=rfl
 have qa0:=jK ha0
 have ra0:=jJ ha0
 have wa0:=jI ha0
 clear ha0
 have qb0:=jK hb0
 have rb0:=jJ hb0
 have wb0:=jI hb0
 clear hb0
 have qc0:=jK hc0
 have rc0:=jJ hc0
 have wc0:=jI hc0
 clear hc0
 have qa1:=jK ha1
 have ra1:=jJ ha1
 have wa1:=jI ha1
 clear ha1
 have qb1:=jK hb1
 have rb1:=jJ hb1
 have wb1:=jI hb1
 clear hb1
 have qc1:=jK hc1
 have rc1:=jJ hc1
 have wc1:=jI hc1
 clear hc1
 have qa2:=jK ha2
 have ra2:=jJ ha2
 have wa2:=jI ha2
 clear ha2
 have qb2:=jK hb2
 have rb2:=jJ hb2
 have wb2:=jI hb2
 clear hb2
 have qc2:=jK hc2
 have rc2:=jJ hc2
 have wc2:=jI hc2
 clear hc2
 have qa3:=jK ha3
 have ra3:=jJ ha3
 have wa3:=jI ha3
 clear ha3
 have qb3:=jK hb3
 have rb3:=jJ hb3
 have wb3:=jI hb3
 clear hb3
 have qc3:=jK hc3
 have rc3:=jJ hc3
 have wc3:=jI hc3
 clear hc3
 repeat'(first|refine zk ?_|(refine zu ?_ ?_<;>intro hc)|(refine zv ?_ ?_<;>intro hg)|omega|simp -dsimp (disch:=try exact zo)only[go_sem]|contradiction|rfl)
 refine AW.weak (jQ 13 8 8 _ (by decide) rfl (by simp) rfl (by simp)) ?_
 refine AW.weak (show Weak _ ⟨[(14,.lit (.int .i64 0)),(13,.agg [.lit (.int .i64 a0),.lit (.int .i64 b0),.lit (.int .i64 c0),.lit (.int .i64 a1),.lit (.int .i64 b1),.lit (.int .i64 c1),.lit (.int .i64 a2),.lit (.int .i64 b2),.lit (.int .i64 c2),.lit (.int .i64 a3),.lit (.int .i64 b3),.lit (.int .i64 c3)]),(5,.loc 13 0),(4,.loc 10 0)],[(13,.blk [.lit (.bool (Zn p.a)),.lit (.string (Zm p.a)),.lit (.bool (Zn p.b)),.lit (.string (Zm p.b)),.lit (.bool (Zn p.c)),.lit (.string (Zm p.c)),.lit (.bool (Zn p.d)),.lit (.string (Zm p.d)),.ref 17 0 0 0]),(17,.vec 8 ([]:List (List AV))),(10,.blk eG0)],30⟩from zw) ?_
 repeat'(first|refine zg ?_|refine cK 6 ?_|(refine zc ?_ ?_<;>intro hc<;>try simp only[NM]at hc)|refine zn ?_|(first|refine zf (c68 (a0*1000) ra0) ?_|refine zf (c68 (b0*1000) rb0) ?_|refine zf (c68 (c0*1000) rc0) ?_|refine zf (c68 (a1*1000) ra1) ?_|refine zf (c68 (b1*1000) rb1) ?_|refine zf (c68 (c1*1000) rc1) ?_|refine zf (c68 (a2*1000) ra2) ?_|refine zf (c68 (b2*1000) rb2) ?_|refine zf (c68 (c2*1000) rc2) ?_|refine zf (c68 (a3*1000) ra3) ?_|refine zf (c68 (b3*1000) rb3) ?_|refine zf (c68 (c3*1000) rc3) ?_)|(refine zf (c96 _ _ _ (by assumption) (by assumption) (by assumption)) ?_)|refine⟨by omega,?_⟩|(refine zb ?_ ?_<;>intro hg<;>(try rw[hg])<;>try simp only[NM]at hg)|omega|simp -dsimp (disch:=try exact zo)only[go_sem,mkW,wa0,wb0,wc0,wa1,wb1,wc1,wa2,wb2,wc2,wa3,wb3,wc3]|contradiction|rfl)
end Go.Proofs.Vx
namespace Go.Proofs.Vx
open Go Go.Sx Go.Proofs Tryz
attribute [local irreducible] fnT CallOK CallFr AW aK callV aL aJ aI aM gcaseP hid
theorem c0a:arT prog 145=none∧slT prog 145=some (140,3)∧bI prog 145=false:=by and_intros<;>kernel_rfl
attribute [go_sem] c0a
set_option maxRecDepth 20000 in
theorem c121 (a0 b0 c0 a1 b1 c1 a2 b2 c2 a3 b3 c3:Int):CallOK prog 121 [.bs 0 0 3 4] [(0,.blk [.lit (.int .i64 a0),.lit (.int .i64 b0),.lit (.int .i64 c0),.lit (.int .i64 a1),.lit (.int .i64 b1),.lit (.int .i64 c1),.lit (.int .i64 a2),.lit (.int .i64 b2),.lit (.int .i64 c2),.lit (.int .i64 a3),.lit (.int .i64 b3),.lit (.int .i64 c3)])] (.tup []) [(0,.blk [.lit (.int .i64 a3),.lit (.int .i64 b3),.lit (.int .i64 c3),.lit (.int .i64 a2),.lit (.int .i64 b2),.lit (.int .i64 c2),.lit (.int .i64 a1),.lit (.int .i64 b1),.lit (.int .i64 c1),.lit (.int .i64 a0),.lit (.int .i64 b0),.lit (.int .i64 c0)])]:=by
 refine fL func121 rfl 28 rfl rfl (by simp) (.tup _ (by simp)) (by
  intro q hq
  simp only[zM,or_false]at hq
  subst hq
  refine⟨by simp,fun c hc=>?_⟩
  simp only[zM,or_false]at hc
  rcases hc with rfl|rfl|rfl|rfl|rfl|rfl|rfl|rfl|rfl|rfl|rfl|rfl<;>exact .lit _) [] (congrArg An results121) ?_
 simp only[aD,Ac]
 repeat'(first|refine zg ?_|refine cK 6 ?_|(refine zc ?_ ?_<;>intro hc<;>first|simp only[NM]at hc|omega|skip)|refine zr ?_|(refine AW.nil (b9 ?_ ?_)<;>simp -dsimp (disch:=try exact zo)only[go_sem])|refine⟨by omega,?_⟩|(refine zb ?_ ?_<;>intro hg<;>(try rw[hg])<;>try simp only[NM]at hg)|omega|simp -dsimp (disch:=try exact zo)only[go_sem,Aa]|contradiction|rfl)
end Go.Proofs.Vx
namespace Go.Proofs.Vx
open Go Go.Sx Go.Proofs Tryz
attribute [local irreducible] fnT CallOK CallFr AW aK callV aL aJ aI aM gcaseP hid
theorem b9z:arT prog 139=none∧arT prog 142=some (2,1,false)∧arT prog 143=some (4,2,true)∧plT prog 142=some [(0,1),(1,1)]∧plT prog 143=some [(0,2),(2,2),(4,2),(6,2)]∧slT prog 139=some (2,1)∧slT prog 140=none∧slT prog 141=none∧slT prog 142=none∧bI prog 139=false∧bI prog 143=false∧szT prog 142=some 2∧szT prog 2=some 1∧zeT prog 141=some [.lit (.int .i64 0),.lit (.int .i64 0),.lit (.int .i64 0),.lit (.int .i64 0),.lit (.int .i64 0),.lit (.int .i64 0),.lit (.int .i64 0),.lit (.int .i64 0),.lit (.int .i64 0),.lit (.int .i64 0),.lit (.int .i64 0),.lit (.int .i64 0)]∧zeT prog 142=some [.lit (.int .i64 0),.lit (.int .i64 0)]∧zeT prog 143=some [.lit (.int .i64 0),.lit (.int .i64 0),.lit (.int .i64 0),.lit (.int .i64 0),.lit (.int .i64 0),.lit (.int .i64 0),.lit (.int .i64 0),.lit (.int .i64 0)]∧zeT prog 2=some [.lit (.int .i64 0)]:=by and_intros<;>kernel_rfl
attribute [go_sem] b9z
theorem a0v:fnT prog 121=true:=by kernel_rfl
theorem qJ:fnT prog 122=true:=by kernel_rfl
set_option maxRecDepth 20000 in
theorem c57:CallOK prog 57 [] [] (.agg [.sl (eS aO)]) []:=by
 refine fF func57 rfl 77 rfl rfl (by simp -dsimp (disch:=try exact zo)only[go_sem]) [.cell 0 33] (congrArg An results57) ?_
 simp only[aD,Ac]
 have hml:maxLen=9223372036854775807:=rfl
 repeat'(first|refine zg ?_|(refine zc ?_ ?_<;>intro hc<;>try simp only[NM]at hc)|refine zr ?_|(first|refine zf (c67 1000 (by decide)) ?_|refine zf (c67 (-1) (by decide)) ?_|refine zf (c67 1 (by decide)) ?_)|refine⟨by omega,?_⟩|(refine zb ?_ ?_<;>intro hg<;>(try rw[hg])<;>try simp only[NM]at hg)|omega|simp -dsimp (disch:=try exact zo)only[go_sem]|contradiction|rfl)
 refine AW.weak (jQ 9 0 9 _ (by decide) rfl (by simp) rfl (by simp)) ?_
 have hwl:eS (Ab 6 aO)=eS aO:=rfl
 have hz:eS (aO.take 0)=[]:=rfl
 refine AW.loop (fun z:{i:Nat // i≤3}=>⟨[(11,.lit (.int .i64 z.1)),(2,.loc 11 0),(1,.loc 9 0),(0,.loc 8 0)],[(11,.blk (eZ 1000)),(9,.blk [.ref 14 0 (2*z.1) (2*z.1)]),(14,.vec 9 (eS (aO.take (2*z.1)))),(8,.blk [.lit (.slice none 0 0)])],30⟩) (fun z=>3 - z.1) ⟨0,As _⟩ (aR (by refine⟨?_,?_,?_,?_⟩<;>simp -dsimp (disch:=try exact zo)only[go_sem,Nat.mul_zero,hz,ZC])) ?_
 rintro⟨i,hi⟩
 dsimp only
 rcases (show i=0∨i=1∨i=2∨i=3 by omega)with rfl|rfl|rfl|rfl
 ·have hE:eS (Ab 2 aO)=eS (Ab 0 aO)++[eG ⟨-1,0,0,1000⟩ [wpt (-1) (-1) (1),wpt (-1) (1) (1),wpt (-1) (1) (-1),wpt (-1) (-1) (-1)]]++[eG ⟨1,0,0,1000⟩ [wpt (1) (-1) (-1),wpt (1) (1) (-1),wpt (1) (1) (1),wpt (1) (-1) (1)]]:=rfl
  have hlE:(eS (Ab 0 aO)).length=0:=rfl
  have he0:AV.agg [.lit (.bool (Zn (-1))),.lit (.string (Zm (-1))),.lit (.bool false),.lit (.string ⟨#[]⟩),.lit (.bool false),.lit (.string ⟨#[]⟩),.lit (.bool (Zn (1000))),.lit (.string (Zm (1000)))]=.agg (eH ⟨-1,0,0,1000⟩):=by simp only[eH,e4,kD,eF]
  have w0:=sR ⟨-1,0,0,1000⟩ (-1) (-1) (1) (-1) (1) (1) (-1) (1) (-1) (-1) (-1) (-1) (by decide) (by decide) (by decide) (by decide) (by decide) (by decide) (by decide) (by decide) (by decide) (by decide) (by decide) (by decide)
  have he1:AV.agg [.lit (.bool (Zn (1))),.lit (.string (Zm (1))),.lit (.bool false),.lit (.string ⟨#[]⟩),.lit (.bool false),.lit (.string ⟨#[]⟩),.lit (.bool (Zn (1000))),.lit (.string (Zm (1000)))]=.agg (eH ⟨1,0,0,1000⟩):=by simp only[eH,e4,kD,eF]
  have w1:=sR ⟨1,0,0,1000⟩ (1) (-1) (-1) (1) (1) (-1) (1) (1) (1) (1) (-1) (1) (by decide) (by decide) (by decide) (by decide) (by decide) (by decide) (by decide) (by decide) (by decide) (by decide) (by decide) (by decide)
  simp only[Ak]
  generalize eS (Ab 0 aO)=E at *
  repeat'(first|refine zg ?_|refine cK 6 ?_|(refine zc ?_ ?_<;>intro hc<;>first|simp only[NM]at hc|omega|skip)|refine zr ?_|(first|refine zf (c67 1000 (by decide)) ?_|refine zf (c67 (-1) (by decide)) ?_|refine zf (c67 1 (by decide)) ?_)|(refine j1 _ _ _ _ a0v (mX (c121 _ _ _ _ _ _ _ _ _ _ _ _) (by simp -dsimp (disch:=try exact zo)only[go_sem]) (by simp -dsimp (disch:=try exact zo)only[go_sem]) (.tup _ (by simp)) (by simp[iW]) _) rfl (by simp[yQ]) (by simp -dsimp (disch:=try exact zo)only[go_sem]) (by simp -dsimp (disch:=try exact zo)only[go_sem]) (.tup _ (by simp)) rfl ?_)|(first|refine gM _ qJ (by simp -dsimp (disch:=try exact zo)only[go_sem];rw[he0];exact w0) (by simp -dsimp (disch:=try exact zo)only[go_sem]) (gX _ _).in ?_|refine gM _ qJ (by simp -dsimp (disch:=try exact zo)only[go_sem];rw[he1];exact w1) (by simp -dsimp (disch:=try exact zo)only[go_sem]) (gX _ _).in ?_)|refine⟨by omega,?_⟩|(refine zb ?_ ?_<;>intro hg<;>(try rw[hg])<;>try simp only[NM]at hg)|omega|simp -dsimp (disch:=try exact zo)only[go_sem,Aa,hlE,Al,Ai]|rfl)
  all_goals exact AW.stop ⟨⟨1,by omega⟩,(nF (by simp -dsimp (disch:=try exact zo)only[go_sem,Aa]) (by simp -dsimp (disch:=try exact zo)only[go_sem,hE,Aa];try rfl) (by decide) (by simp -dsimp (disch:=try exact zo)only[go_sem,Aa]) (by simp -dsimp (disch:=try exact zo)only[go_sem,Aa])),by dsimp only;omega⟩
 ·have hE:eS (Ab 4 aO)=eS (Ab 2 aO)++[eG ⟨0,-1,0,1000⟩ [wpt (1) (-1) (-1),wpt (1) (-1) (1),wpt (-1) (-1) (1),wpt (-1) (-1) (-1)]]++[eG ⟨0,1,0,1000⟩ [wpt (-1) (1) (-1),wpt (-1) (1) (1),wpt (1) (1) (1),wpt (1) (1) (-1)]]:=rfl
  have hlE:(eS (Ab 2 aO)).length=2:=rfl
  have he0:AV.agg [.lit (.bool false),.lit (.string ⟨#[]⟩),.lit (.bool (Zn (-1))),.lit (.string (Zm (-1))),.lit (.bool false),.lit (.string ⟨#[]⟩),.lit (.bool (Zn (1000))),.lit (.string (Zm (1000)))]=.agg (eH ⟨0,-1,0,1000⟩):=by simp only[eH,e4,kD,eF]
  have w0:=sR ⟨0,-1,0,1000⟩ (1) (-1) (-1) (1) (-1) (1) (-1) (-1) (1) (-1) (-1) (-1) (by decide) (by decide) (by decide) (by decide) (by decide) (by decide) (by decide) (by decide) (by decide) (by decide) (by decide) (by decide)
  have he1:AV.agg [.lit (.bool false),.lit (.string ⟨#[]⟩),.lit (.bool (Zn (1))),.lit (.string (Zm (1))),.lit (.bool false),.lit (.string ⟨#[]⟩),.lit (.bool (Zn (1000))),.lit (.string (Zm (1000)))]=.agg (eH ⟨0,1,0,1000⟩):=by simp only[eH,e4,kD,eF]
  have w1:=sR ⟨0,1,0,1000⟩ (-1) (1) (-1) (-1) (1) (1) (1) (1) (1) (1) (1) (-1) (by decide) (by decide) (by decide) (by decide) (by decide) (by decide) (by decide) (by decide) (by decide) (by decide) (by decide) (by decide)
  simp only[Ak]
  generalize eS (Ab 2 aO)=E at *
  repeat'(first|refine zg ?_|refine cK 6 ?_|(refine zc ?_ ?_<;>intro hc<;>first|simp only[NM]at hc|omega|skip)|refine zr ?_|(first|refine zf (c67 1000 (by decide)) ?_|refine zf (c67 (-1) (by decide)) ?_|refine zf (c67 1 (by decide)) ?_)|(refine j1 _ _ _ _ a0v (mX (c121 _ _ _ _ _ _ _ _ _ _ _ _) (by simp -dsimp (disch:=try exact zo)only[go_sem]) (by simp -dsimp (disch:=try exact zo)only[go_sem]) (.tup _ (by simp)) (by simp[iW]) _) rfl (by simp[yQ]) (by simp -dsimp (disch:=try exact zo)only[go_sem]) (by simp -dsimp (disch:=try exact zo)only[go_sem]) (.tup _ (by simp)) rfl ?_)|(first|refine gM _ qJ (by simp -dsimp (disch:=try exact zo)only[go_sem];rw[he0];exact w0) (by simp -dsimp (disch:=try exact zo)only[go_sem]) (gX _ _).in ?_|refine gM _ qJ (by simp -dsimp (disch:=try exact zo)only[go_sem];rw[he1];exact w1) (by simp -dsimp (disch:=try exact zo)only[go_sem]) (gX _ _).in ?_)|refine⟨by omega,?_⟩|(refine zb ?_ ?_<;>intro hg<;>(try rw[hg])<;>try simp only[NM]at hg)|omega|simp -dsimp (disch:=try exact zo)only[go_sem,Aa,hlE,Al,Ai]|rfl)
  all_goals exact AW.stop ⟨⟨2,by omega⟩,(nF (by simp -dsimp (disch:=try exact zo)only[go_sem,Aa]) (by simp -dsimp (disch:=try exact zo)only[go_sem,hE,Aa];try rfl) (by decide) (by simp -dsimp (disch:=try exact zo)only[go_sem,Aa]) (by simp -dsimp (disch:=try exact zo)only[go_sem,Aa])),by dsimp only;omega⟩
 ·have hE:eS (Ab 6 aO)=eS (Ab 4 aO)++[eG ⟨0,0,-1,1000⟩ [wpt (-1) (1) (-1),wpt (1) (1) (-1),wpt (1) (-1) (-1),wpt (-1) (-1) (-1)]]++[eG ⟨0,0,1,1000⟩ [wpt (-1) (-1) (1),wpt (1) (-1) (1),wpt (1) (1) (1),wpt (-1) (1) (1)]]:=rfl
  have hlE:(eS (Ab 4 aO)).length=4:=rfl
  have he0:AV.agg [.lit (.bool false),.lit (.string ⟨#[]⟩),.lit (.bool false),.lit (.string ⟨#[]⟩),.lit (.bool (Zn (-1))),.lit (.string (Zm (-1))),.lit (.bool (Zn (1000))),.lit (.string (Zm (1000)))]=.agg (eH ⟨0,0,-1,1000⟩):=by simp only[eH,e4,kD,eF]
  have w0:=sR ⟨0,0,-1,1000⟩ (-1) (1) (-1) (1) (1) (-1) (1) (-1) (-1) (-1) (-1) (-1) (by decide) (by decide) (by decide) (by decide) (by decide) (by decide) (by decide) (by decide) (by decide) (by decide) (by decide) (by decide)
  have he1:AV.agg [.lit (.bool false),.lit (.string ⟨#[]⟩),.lit (.bool false),.lit (.string ⟨#[]⟩),.lit (.bool (Zn (1))),.lit (.string (Zm (1))),.lit (.bool (Zn (1000))),.lit (.string (Zm (1000)))]=.agg (eH ⟨0,0,1,1000⟩):=by simp only[eH,e4,kD,eF]
  have w1:=sR ⟨0,0,1,1000⟩ (-1) (-1) (1) (1) (-1) (1) (1) (1) (1) (-1) (1) (1) (by decide) (by decide) (by decide) (by decide) (by decide) (by decide) (by decide) (by decide) (by decide) (by decide) (by decide) (by decide)
  simp only[Ak]
  generalize eS (Ab 4 aO)=E at *
  repeat'(first|refine zg ?_|refine cK 6 ?_|(refine zc ?_ ?_<;>intro hc<;>first|simp only[NM]at hc|omega|skip)|refine zr ?_|(first|refine zf (c67 1000 (by decide)) ?_|refine zf (c67 (-1) (by decide)) ?_|refine zf (c67 1 (by decide)) ?_)|(refine j1 _ _ _ _ a0v (mX (c121 _ _ _ _ _ _ _ _ _ _ _ _) (by simp -dsimp (disch:=try exact zo)only[go_sem]) (by simp -dsimp (disch:=try exact zo)only[go_sem]) (.tup _ (by simp)) (by simp[iW]) _) rfl (by simp[yQ]) (by simp -dsimp (disch:=try exact zo)only[go_sem]) (by simp -dsimp (disch:=try exact zo)only[go_sem]) (.tup _ (by simp)) rfl ?_)|(first|refine gM _ qJ (by simp -dsimp (disch:=try exact zo)only[go_sem];rw[he0];exact w0) (by simp -dsimp (disch:=try exact zo)only[go_sem]) (gX _ _).in ?_|refine gM _ qJ (by simp -dsimp (disch:=try exact zo)only[go_sem];rw[he1];exact w1) (by simp -dsimp (disch:=try exact zo)only[go_sem]) (gX _ _).in ?_)|refine⟨by omega,?_⟩|(refine zb ?_ ?_<;>intro hg<;>(try rw[hg])<;>try simp only[NM]at hg)|omega|simp -dsimp (disch:=try exact zo)only[go_sem,Aa,hlE,Al,Ai]|rfl)
  all_goals exact AW.stop ⟨⟨3,by omega⟩,(nF (by simp -dsimp (disch:=try exact zo)only[go_sem,Aa]) (by simp -dsimp (disch:=try exact zo)only[go_sem,hE,Aa];try rfl) (by decide) (by simp -dsimp (disch:=try exact zo)only[go_sem,Aa]) (by simp -dsimp (disch:=try exact zo)only[go_sem,Aa])),by dsimp only;omega⟩
 ·exact z1
end Go.Proofs.Vx
namespace Go.Sx
set_option linter.unusedVariables false
def w8:List Int→Int
 | []=>0
 | d::t=>d+256*w8 t
def gU (xs:List Int):Prop:=∀ x∈xs,0≤x∧x<256
theorem n8 (n:Nat):(256:Int) ^ (n+1)=256*256 ^ n:=by rw[Int.pow_succ,Int.mul_comm]
theorem a0j (n:Nat):((256 ^ n:Nat):Int)=(256:Int) ^ n:=Int.natCast_pow 256 n
theorem a0i (n:Nat):(0:Int)<256 ^ n:=Int.pow_pos (by decide)
theorem a5l (a b:List Int):w8 (a++b)=w8 a+256 ^ a.length*w8 b:=by
 induction a with
 | nil=>simp[w8]
 | cons x a ih =>
  simp only[List.cons_append,w8,ih,Ao,n8,Az,Int.mul_assoc]
  omega
theorem b0w (n:Nat):w8 (List.replicate n 0)=0:=by
 induction n with
 | zero=>rfl
 | succ n ih=>simp[List.replicate_succ,w8,ih]
theorem b0v {xs:List Int} {i:Nat} (h:i<xs.length) (d:Int):w8 (xs.set i d)=w8 xs+(d - xs.getD i 0)*256 ^ i:=by
 induction xs generalizing i with
 | nil=>simp at h
 | cons x xs ih =>
  cases i with
  | zero=>simp[w8];omega
  | succ i =>
   have:=ih (i:=i) (by simpa using h)
   simp only[List.set_cons_succ,w8,this,List.getD_cons_succ,n8,Az,Int.mul_left_comm (256:Int)]
   omega
theorem a8b {xs:List Int} (h:gU xs) {i:Nat} {d:Int} (hd:0≤d∧d<256):gU (xs.set i d):=fun x hx=>by
 rcases List.mem_or_eq_of_mem_set hx with hx|rfl
 ·exact h x hx
 ·exact hd
theorem qD {xs:List Int} (h:gU xs) {d:Int} (hd:0≤d∧d<256):gU (xs++[d]):=fun x hx=>by
 rcases List.mem_append.1 hx with hx|hx
 ·exact h x hx
 ·obtain rfl:x=d:=by simpa using hx
  exact hd
theorem a6j {xs:List Int} (h:gU xs) (i:Nat):0≤xs.getD i 0∧xs.getD i 0<256:=by
 rw[List.getD_eq_getElem?_getD]
 by_cases hi:i<xs.length
 ·rw[List.getElem?_eq_getElem hi];exact h _ (Ag hi)
 ·rw[List.getElem?_eq_none (by omega)];decide
theorem b2a {xs:List Int} (h:gU xs):0≤w8 xs∧w8 xs<256 ^ xs.length:=by
 induction xs with
 | nil=>decide
 | cons x xs ih =>
  obtain⟨i1,i2⟩:=ih fun y hy=>h y (by simp[hy])
  have:=h x (by simp)
  simp only[w8,Ao,n8]
  omega
theorem c6x {xs:List Int} (h:gU xs):(nvL (ofI xs):Int)=w8 xs:=by
 induction xs with
 | nil=>rfl
 | cons x xs ih =>
  have ih:=ih fun y hy=>h y (by simp[hy])
  have hx:=h x (by simp)
  have e:(UInt8.ofNat x.toNat).toNat=x.toNat:=by
   rw[UInt8.toNat_ofNat'];exact Ap (by omega)
  simp only[ofI,List.map_cons,nvL,w8,e]at ih ⊢
  rw[← ih]
  omega
def bP (m:ByteArray) (i:Nat):Int:=((nv m % 256 ^ i:Nat):Int)
theorem wL (m:ByteArray):bP m 0=0:=by simp[bP,Nat.mod_one]
theorem p8 {m:ByteArray} {i:Nat} (h:m.size≤i):bP m i=(nv m:Int):=by
 unfold bP
 rw[Ap (Ae (fH m) (Aj (by decide) h))]
theorem pW (m:ByteArray) (i:Nat):bP m (i+1)=bP m i+bt m i*256 ^ i:=by
 unfold bP
 rw[kJ]
 have h:nv m % 256 ^ (i+1)=nv m % 256 ^ i+256 ^ i*(nv m / 256 ^ i % 256):=by rw[Ay,Nat.mod_mul]
 rw[h,Au,Int.natCast_mul,a0j,Ax ((256:Int) ^ i)]
theorem a9r (m:ByteArray) (i:Nat):0≤bP m i∧bP m i<256 ^ i:=by
 unfold bP
 have h:=Nat.mod_lt (nv m) (Nat.pow_pos (n:=i) (show 0<256 by decide))
 have h2:=a0j i
 omega
theorem b4k (m:ByteArray) (i:Nat):0≤bP m i:=(a9r m i).1
theorem a2l {m:ByteArray} {i:Nat} (h:m.size≤i):bt m i=0:=by
 unfold bt
 have:m.data.getD i 0=0:=by
  simp only[Ad]
  rw[Array.getElem?_eq_none (by exact h)];rfl
 rw[this];rfl
def cH (m:ByteArray) (i:Nat):Nat:=nv m / 256 ^ i
theorem a4y (m:ByteArray):cH m 0=nv m:=by simp[cH]
theorem a6g {m:ByteArray} {i:Nat} (h:m.size≤i):cH m i=0:=Ah (Ae (fH m) (Aj (by decide) h))
theorem b5t (m:ByteArray) (i:Nat):cH m i=(bt m i).toNat+256*cH m (i+1):=by
 unfold cH
 rw[kJ,Int.toNat_natCast,Ay,← Nat.div_div_eq_div_mul]
 omega
end Go.Sx
namespace Go.Sx
set_option linter.unusedVariables false
theorem b1t {m:ByteArray} {n i:Nat} (hn:n≤m.size) (hi:i<n):bt (m.extract 0 n) i=bt m i:=by
 unfold bt
 have h1:i<m.data.size:=Ae hi hn
 have h2:i<(m.extract 0 n).data.size:=by rw[ByteArray.data_extract,Array.size_extract];omega
 rw[Ad,Ad,Af h1,Af h2]
 simp[ByteArray.data_extract]
theorem c8b (m:ByteArray) (n k:Nat) (h:k≤n):(m.extract 0 n).extract 0 k=m.extract 0 k:=by
 apply ByteArray.ext
 simp only[ByteArray.data_extract,Array.extract_extract]
 congr 1
 omega
theorem a7y {m:ByteArray} {n:Nat} (h:n≤m.size):(m.extract 0 n).size=n:=by rw[ByteArray.size_extract];omega
theorem c3j {m:ByteArray} {n:Nat} (hn:n+1≤m.size) (hb:bt m n=0):nv (m.extract 0 n)=nv (m.extract 0 (n+1)):=by
 have h1:=a7y hn
 have:=a9i (m:=m.extract 0 (n+1)) (by omega) (by rw[h1,b1t hn (by omega)];exact hb)
 rw[h1,c8b m (n+1) _ (by omega)]at this
 exact this
theorem b1l {m:ByteArray} {n:Nat} (hn:n≤m.size) (hv:nv (m.extract 0 n)=nv m) (h:n=0∨bt m (n - 1)≠0):m.extract 0 n=nb (nv m):=by
 rw[← hv,a2y]
 rw[a7y hn]
 rcases h with h|h
 ·exact .inl h
 ·by_cases h0:n=0
  ·exact .inl h0
  ·right;rw[b1t hn (by omega)];exact h
theorem c8c (m:ByteArray):m.extract 0 m.size=m:=by
 apply ByteArray.ext
 simp[ByteArray.data_extract]
end Go.Sx
namespace Go.Sx
theorem d0z {m r:ByteArray} {j:Nat} (hj:j<m.size):nv (m.extract j (j+1)++r)=(bt m j).toNat+256*nv r:=by
 have h1:(m.extract j (j+1)++r).data.toList=(m.extract j (j+1)).data.toList++r.data.toList:=by simp
 have h2:(m.extract j (j+1)).data.toList=[m.data.toList[j]'(by simpa using hj)]:=by
  rw[ByteArray.data_extract,Array.toList_extract,List.extract_eq_take_drop]
  have:j<m.data.toList.length:=by simpa using hj
  rw[List.drop_eq_getElem_cons this,show j+1 - j=1 by omega]
  rfl
 have h3:=yD m j (by simpa using hj)
 unfold nv
 rw[h1,h2,h3]
 simp[nvL]
theorem c4l {m r:ByteArray} {j:Nat} (hj:j<m.size):(m.extract j (j+1)++r).size=r.size+1:=by
 rw[ByteArray.size_append,ByteArray.size_extract];omega
end Go.Sx
namespace Go.Proofs.Vx
open Go Go.Sx Go.Proofs Tryz
attribute [local irreducible] fnT CallOK CallFr AW aK callV aL aJ aI aM gcaseP hid
theorem g8 (m:ByteArray) (hm:m.size<4611686018427387904):CallOK prog 153 [.lit (.string m)] [] (.lit (.string (nb (nv m)))) []:=by
 refine zs func153 20 [.tmp 2] results153 ?_
 simp only[aD,Ac]
 repeat'(first|refine zk ?_|(refine zu ?_ ?_<;>intro hc)|(refine zv ?_ ?_<;>intro hg)|omega|simp -dsimp (disch:=try exact zo)only[go_sem]|contradiction|rfl)
 refine AW.loop (fun z:{n:Nat // n≤m.size∧nv (m.extract 0 n)=nv m}=>⟨[(3,.lit (.int .i64 z.1)),(0,.lit (.string m))],[],20⟩) (fun z=>z.1) ⟨m.size,Ar _,by rw[c8c]⟩ zw ?_
 rintro⟨n,hn,hv⟩
 dsimp only
 cases n with
 | zero =>
  have hr:=b1l hn hv (.inl rfl)
  repeat'(first|refine zk ?_|(refine zu ?_ ?_<;>intro hc)|(refine zv ?_ ?_<;>intro hg)|omega|simp -dsimp (disch:=try exact zo)only[go_sem,ZT,hr,Av,Aa,Aq]|contradiction|rfl)
 | succ n =>
  have e:((n+1:Nat):Int) - 1=(n:Int):=by omega
  by_cases q:bt m n=0
  ·have k1:=eq_true q
   have hc2:=c3j hn q
   have hr:True:=trivial
   repeat'(first|refine zk ?_|(refine zu ?_ ?_<;>intro hc)|(refine zv ?_ ?_<;>intro hg)|omega|simp -dsimp (disch:=try exact zo)only[go_sem,e,ZT,k1,hr]|contradiction|rfl)
   all_goals exact AW.stop ⟨⟨n,by omega,hc2.trans hv⟩,zw,by dsimp only;omega⟩
  ·have k1:=eq_false q
   have hr:=b1l hn hv (.inr q)
   exact z1
theorem jO (m:ByteArray) (i:Nat) (hm:m.size<4611686018427387904):CallOK prog 217 [.lit (.string m),.lit (.int .i64 i)] [] (.lit (.int .i64 (bt m i))) []:=by
 refine zs func217 13 [.tmp 4] results217 ?_
 simp only[aD,Ac]
 by_cases hi:i<m.size
 ·have zh0:=@a5k
  exact z1
 ·have hr:=a2l (m:=m) (i:=i) (by omega)
  rw[hr]
  exact z1
theorem c207 (a b:ByteArray) (ha:a.size<1099511627776) (hb:b.size<1099511627776):CallOK prog 207 [.lit (.string a),.lit (.string b)] [] (.lit (.int .i64 (bR (nv a) (nv b)))) []:=by
 refine zs func207 43 [.tmp 4] results207 ?_
 simp only[aD,Ac]
 have hc0:=eA a
 have hd0:=eA b
 have hcn:nv (nb (nv a))=nv a:=aV _
 have hdn:nv (nb (nv b))=nv b:=aV _
 have hlt1:(nb (nv a)).size<(nb (nv b)).size→nv a<nv b:=vY
 have hlt2:(nb (nv b)).size<(nb (nv a)).size→nv b<nv a:=vY
 have ca:=g8 a (by omega)
 have cb:=g8 b (by omega)
 generalize hcc:nb (nv a)=c at *
 generalize hdd:nb (nv b)=d at *
 rw[← hcn,← hdn]
 clear hcc hdd
 by_cases q1:c.size<d.size
 ·have:bR (nv c) (nv d)=-1:=by unfold bR;rw[if_pos (by rw[hcn,hdn];exact hlt1 q1)]
  rw[this]
  exact z1
 ·by_cases q2:d.size<c.size
  ·have:bR (nv c) (nv d)=1:=by have:=hlt2 q2;unfold bR;rw[if_neg (by omega),if_neg (by omega)]
   rw[this]
   exact z1
  ·have hsz:d.size=c.size:=by omega
   clear hlt1 hlt2 hcn hdn
   repeat'(first|refine zk ?_|(refine zu ?_ ?_<;>intro hc)|(first|refine zf ca ?_|refine zf cb ?_)|(refine zv ?_ ?_<;>intro hg)|omega|simp -dsimp (disch:=try exact zo)only[go_sem]|contradiction|rfl)
   refine AW.loop (fun z:{i:Nat // i≤c.size∧nv c / 256 ^ (c.size - i)=nv d / 256 ^ (c.size - i)}=>⟨[(7,.lit (.int .i64 ((c.size:Int) - 1 - z.1))),(5,.lit (.string c)),(6,.lit (.string d))],[],30⟩) (fun z=>c.size - z.1) ⟨0,As _,by
    have h1:=fH c
    have h2:=fH d
    rw[hsz]at h2
    rw[Nat.sub_zero,Ah h1,Ah h2]⟩ (aR (by refine⟨?_,?_,?_,?_⟩<;>simp -dsimp (disch:=try exact zo)only[go_sem,Int.sub_zero,Aq,Av,Aa,Au])) ?_
   rintro⟨i,hi,hq⟩
   dsimp only
   by_cases hil:i<c.size
   ·have ek:((c.size:Int) - 1 - i).toNat=c.size - 1 - i:=by omega
    have hq1:nv c / 256 ^ (c.size - 1 - i+1)=nv d / 256 ^ (c.size - 1 - i+1):=by rwa [show c.size - 1 - i+1=c.size - i by omega]
    have b1:=kJ c (c.size - 1 - i)
    have b2:=kJ d (c.size - 1 - i)
    by_cases w1:bt c (c.size - 1 - i)<bt d (c.size - 1 - i)
    ·have hr:bR (nv c) (nv d)=-1:=by unfold bR;rw[if_pos ((qV hq1).1 (by omega))]
     have k1:=eq_true w1
     have k2:True:=trivial
     rw[hr]
     clear hq hq1 b1 b2
     exact z1
    ·by_cases w2:bt d (c.size - 1 - i)<bt c (c.size - 1 - i)
     ·have hr:bR (nv c) (nv d)=1:=by
       have:=(qV hq1.symm).1 (by omega)
       unfold bR;rw[if_neg (by omega),if_neg (by omega)]
      have k1:=eq_false w1
      have k2:=eq_true w2
      rw[hr]
      clear hq hq1 b1 b2
      exact z1
     ·have k1:=eq_false w1
      have k2:=eq_false w2
      have hn:nv c / 256 ^ (c.size - (i+1))=nv d / 256 ^ (c.size - (i+1)):=by
       rw[show c.size - (i+1)=c.size - 1 - i by omega]
       exact (qV hq1).2 (by omega)
      have hsb:(c.size:Int) - 1 - ((i:Int)+1)=(c.size:Int) - 1 - i - 1:=by omega
      clear hq hq1 b1 b2
      repeat'(first|refine zk ?_|(refine zu ?_ ?_<;>intro hc)|(refine zv ?_ ?_<;>intro hg)|omega|simp -dsimp (disch:=try exact zo)only[go_sem,ek,k1,k2]|contradiction|rfl)
      all_goals exact AW.stop ⟨⟨i+1,by omega,hn⟩,(nF (by simp -dsimp (disch:=try exact zo)only[go_sem,ZC,hsb]) (by simp -dsimp (disch:=try exact zo)only[go_sem,ZC]) (by decide) (by simp -dsimp (disch:=try exact zo)only[go_sem,ZC]) (by simp -dsimp (disch:=try exact zo)only[go_sem,ZC])),by dsimp only;omega⟩
   ·have e:c.size - i=0:=by omega
    rw[e]at hq
    simp only[Nat.pow_zero,Nat.div_one]at hq
    have hr:bR (nv c) (nv d)=0:=by unfold bR;rw[hq,if_neg (by omega),if_pos rfl]
    rw[hr]
    exact z1
end Go.Proofs.Vx
