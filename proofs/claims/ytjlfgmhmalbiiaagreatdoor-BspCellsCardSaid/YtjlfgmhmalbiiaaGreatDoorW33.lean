import Derived.Test.YtjlfgmhmalbiiaaGreatDoorW30
import Derived.Test.YtjlfgmhmalbiiaaGreatDoorW32
set_option linter.all false
set_option maxHeartbeats 40000000
open Array renaming toList → Be, mk → Bh
open Bool renaming or_false → At, or_assoc → A8, false_or → A9, true_or → Bb, or_true → Bc
open Int renaming neg_neg → Ap, natCast_emod → Ay, natCast_add → A6
open List renaming length_map → Aa, getElem_mem → Ab, take_succ_eq_append_getElem → Ac, mem_map → Ad, map_append → Ae, append_nil → Ag, drop_succ_cons → Ah, take_succ_cons → Ai, take_zero → Aj, length_filterMap_le → Ak, take_length → Al, length_take → Am, take_of_length_le → An, map_map → Ao, mapM_cons → Aq, drop_zero → Ar, mapM_nil → Au, length_append → Av, find?_eq_none → Aw, map_nil → Ax, length_cons → Az, getElem_map → A3, any_append → A4, length_nil → A5, Pairwise → Ba, cons → Bg
open Nat renaming zero_le → Af, reduceAdd → As, mod_lt → A7, le_refl → Bf
namespace Go.Proofs.Vx
open Go Go.Sx Go.Proofs Tryz
attribute [local irreducible] fnT CallOK CallFr AW aI callV aL aJ aH aK gcaseP hid
theorem b7z (b:Pl) (l:aC) (i:Nat) (h:i<l.length):aZ b (l.take (i+1))=(aZ b (l.take i)||l[i].2.any (fun v=>decide (aB b v<0))):=by
 unfold aZ
 rw[Ac h,A4]
 simp
theorem b7j (b:Pl) (l:aC) (i:Nat) (h:i<l.length):aY b (l.take (i+1))=(aY b (l.take i)||l[i].2.any (fun v=>decide (0<aB b v))):=by
 unfold aY
 rw[Ac h,A4]
 simp
theorem c162 (l:aC) (b:Pl) (hb:BPl 268435456 b) (hn:l.length≤1048576) (hv:∀ s∈l,s.2.length≤268435456∧∀ v∈s.2,BPt 268435456 v):CallOK prog 162 [.agg [.sl (eS l)],.agg (eH b)] [] (.tup [.lit (.bool (aZ b l)),.lit (.bool (aY b l))]) []:=by
 refine zs func162 52 [.tmp 4,.tmp 5] results162 ?_
 simp only[aD,As]
 have hml:maxLen=9223372036854775807:=rfl
 have hl:(eS l).length=l.length:=Aa _
 have hz1:aZ b []=false:=rfl
 have hz2:aY b []=false:=rfl
 repeat'(first|refine zk ?_|(refine zu ?_ ?_<;>intro hc)|(refine zv ?_ ?_<;>intro hg)|omega|simp -dsimp (disch:=try exact zo)only[go_sem,hl]|contradiction|rfl)
 refine AW.loop (fun z:{i:Nat // i≤l.length}=>⟨[(8,.lit (.int .i64 z.1)),(6,.lit (.bool (aZ b (l.take z.1)))),(7,.lit (.bool (aY b (l.take z.1)))),(2,.loc 8 0),(3,.loc 9 0)],[(8,.blk [.sl (eS l)]),(9,.blk (eH b))],60⟩) (fun z=>l.length - z.1) ⟨0,Af _⟩ zw ?_
 rintro⟨i,hi⟩
 dsimp only
 by_cases hlt:i<l.length
 ·have es1:=oE l i hlt
  have hS1:=b7z b l i hlt
  have hS2:=b7j b l i hlt
  obtain⟨hvn,hvb⟩:=hv _ (Ab hlt)
  generalize hq:l[i]=sd at *
  obtain⟨sp,svs⟩:=sd
  dsimp only at es1 hS1 hS2 hvn hvb
  have hvl:(svs.map eP).length=svs.length:=Aa _
  generalize aZ b (l.take i)=B0 at *
  generalize aY b (l.take i)=F0 at *
  simp only[eG]at es1
  clear hv hq
  repeat'(first|refine zk ?_|(refine zu ?_ ?_<;>intro hc)|(refine zv ?_ ?_<;>intro hg)|omega|simp -dsimp (disch:=try exact zo)only[go_sem,hl]|contradiction|rfl)
  refine AW.loop (fun z:{j:Nat // j≤svs.length}=>⟨[(9,.lit (.int .i64 z.1)),(8,.lit (.int .i64 i)),(6,.lit (.bool (B0||cM (fun v=>decide (aB b v<0)) svs z.1))),(7,.lit (.bool (F0||cM (fun v=>decide (0<aB b v)) svs z.1))),(2,.loc 8 0),(3,.loc 9 0)],[(8,.blk [.sl (eS l)]),(9,.blk (eH b))],80⟩) (fun z=>svs.length - z.1) ⟨0,Af _⟩ (aQ (by refine⟨?_,?_,?_,?_⟩<;>simp -dsimp (disch:=try exact zo)only[go_sem,wA,At,ZC])) ?_
  rintro⟨j,hj⟩
  dsimp only
  by_cases hjt:j<svs.length
  ·have ea:=cZ svs j hjt
   have hsb0:=mQ (fun v=>decide (aB b v<0)) svs j hjt
   have hsf0:=mQ (fun v=>decide (0<aB b v)) svs j hjt
   have ca:=c50 b svs[j] hb (hvb _ (Ab hjt))
   have cb:True:=trivial
   clear hvb hS1 hS2
   generalize svs[j]=a at *
   have hsb:(B0||cM (fun v=>decide (aB b v<0)) svs (j+1))=((B0||cM (fun v=>decide (aB b v<0)) svs j)||decide (aB b a<0)):=by rw[hsb0,A8]
   have hsf:(F0||cM (fun v=>decide (0<aB b v)) svs (j+1))=((F0||cM (fun v=>decide (0<aB b v)) svs j)||decide (0<aB b a)):=by rw[hsf0,A8]
   generalize (B0||cM (fun v=>decide (aB b v<0)) svs j)=bb at *
   generalize (F0||cM (fun v=>decide (0<aB b v)) svs j)=ff at *
   clear hsb0 hsf0
   simp only[eP,e4]at ea
   generalize aB b a=sv at *
   by_cases q1:sv<0<;>by_cases q2:0<sv
   ·omega
   all_goals
    have k1:=(show (sv<0)=_∧(0<sv)=_ from⟨(by first|exact eq_true q1|exact eq_false q1),(by first|exact eq_true q2|exact eq_false q2)⟩)
    clear q1 q2
    obtain⟨k1,k2⟩:=k1
    simp only[k1,k2,decide_true,decide_false]at hsb hsf
    cases bb<;>cases ff<;>(try simp only[Bb,A9,Bc,At]at hsb)<;>(try simp only[Bb,A9,Bc,At]at hsf)
   all_goals
    repeat'(first|refine zk ?_|(refine zu ?_ ?_<;>intro hc)|(first|refine zf ca ?_|refine zf cb ?_)|(refine zv ?_ ?_<;>intro hg)|omega|simp -dsimp (disch:=try exact zo)only[go_sem,hl,es1,ea,k1,k2,ZT,zl,hvl]|contradiction|rfl)
   all_goals exact AW.stop ⟨⟨j+1,by omega⟩,zw,by dsimp only;omega⟩
  ·have hjl:j=svs.length:=by omega
   subst hjl
   rw[mS,mS,← hS1,← hS2]
   clear hvb
   repeat'(first|refine zk ?_|(refine zu ?_ ?_<;>intro hc)|(refine zv ?_ ?_<;>intro hg)|omega|simp -dsimp (disch:=try exact zo)only[go_sem,hl,es1,ZT,zl,hvl]|contradiction|rfl)
   all_goals exact AW.stop ⟨⟨i+1,by omega⟩,zw,by dsimp only;omega⟩
 ·have hil:i=l.length:=by omega
  subst hil
  rw[Al]
  exact z1
theorem c214f (b:Pl) (vs:List Pt) (hn:vs.length≤268435456) (hcan:∀ v∈vs,CanP v) (hv:∀ v∈vs,BPt 1048576 v) (hb:BPl 1048576 b):CallFr prog 214 [.sl (vs.map eP),.agg (eH b)] 8 ((bC (-1) b vs).map eP):=by
 refine CallFr.flat func214 rfl 60 rfl rfl (oF _) [.tmp 4] (congrArg Be results214) ?_
 simp only[aD,As]
 have hml:maxLen=9223372036854775807:=rfl
 have hl:(vs.map eP).length=vs.length:=Aa _
 repeat'(first|refine zk ?_|(refine zu ?_ ?_<;>intro hc)|(refine zv ?_ ?_<;>intro hg)|omega|simp -dsimp (disch:=try exact zo)only[go_sem,hl]|contradiction|rfl)
 refine AW.loop (fun z:{i:Nat // i≤vs.length}=>⟨[(6,.lit (.int .i64 z.1)),(5,.ref 10 0 (aT (-1) b vs z.1).length (aT (-1) b vs z.1).length),(3,.loc 8 0),(0,.sl (vs.map eP))],[(8,.blk (eH b)),(10,.vec 8 ((aT (-1) b vs z.1).map eP))],60⟩) (fun z=>vs.length - z.1) ⟨0,Af _⟩ (aQ (by refine⟨?_,?_,?_,?_⟩<;>simp -dsimp (disch:=try exact zo)only[go_sem,vI,Ax,A5,ZC])) ?_
 rintro⟨i,hi⟩
 dsimp only
 by_cases hlt:i<vs.length
 ·have hmod:(i+1) % vs.length<vs.length:=A7 _ (by omega)
  have hm:((i:Int)+1) % (vs.length:Int)=(((i+1) % vs.length:Nat):Int):=by rw[Ay,A6];rfl
  have ea:=cZ vs i hlt
  have ea2:=cZ vs _ hmod
  have hW:=vJ (-1) b vs i hlt
  have hWn:=u6 (-1) b vs i
  have ha:=hv _ (Ab hlt)
  have ha2:=hv _ (Ab hmod)
  have haw:=hcan _ (Ab hlt)
  have ha2w:=hcan _ (Ab hmod)
  generalize vs[i]=a at *
  generalize vs[(i+1) % vs.length]=a2 at *
  generalize aT (-1) b vs i=W at *
  simp only[eP,e4]at ea ea2
  have hs1:aB b a≤0↔aB b a≠1:=by have:=a5l (abv b a);unfold aB;omega
  have ca:=c50 b a (hb.mono (by decide)) (ha.mono (by decide))
  have cb:=c50 b a2 (hb.mono (by decide)) (ha2.mono (by decide))
  clear hv hcan
  by_cases q2:aB b a≤0
  ·by_cases q3:aB b a*aB b a2<0
   ·skip
    have k2:(aB b a≤0)=True:=eq_true q2
    have k3:(aB b a*aB b a2<0)=True:=eq_true q3
    have hpc:pc (-1) b a a2=[a,bO b a a2]:=by unfold pc;rw[Ap,if_pos (hs1.1 q2),if_pos q3];rfl
    rw[hpc]at hW
    have hWl:(aT (-1) b vs (i+1)).length=W.length+1+1:=by rw[hW];simp
    have hWm:(aT (-1) b vs (i+1)).map eP=W.map eP++[eP (a),eP (bO b a a2)]:=by rw[hW];simp
    have cm:=c247 b a a2 hb haw ha2w ha ha2 q3
    clear hW hpc hs1 ha ha2 haw ha2w
    repeat'(first|refine zk ?_|(refine zu ?_ ?_<;>intro hc)|(first|refine zf ca ?_|refine zf cb ?_)|(refine zf cm ?_)|(refine zv ?_ ?_<;>intro hg)|omega|simp -dsimp (disch:=try exact zo)only[go_sem,hl,ea,ea2,k2,k3,hm,zl,eC,ZT,Ae]|contradiction|rfl)
    all_goals exact AW.stop ⟨⟨i+1,by omega⟩,(aQ (by refine⟨?_,?_,?_,?_⟩<;>first|(simp -dsimp (disch:=try exact zo)only[go_sem,hWl,hWm,zl,ZC];done)|(simp -dsimp (disch:=try exact zo)only[go_sem,hWl,ZC];done))),by dsimp only;omega⟩
   ·skip
    have k2:(aB b a≤0)=True:=eq_true q2
    have k3:(aB b a*aB b a2<0)=False:=eq_false q3
    have hpc:pc (-1) b a a2=[a]:=by unfold pc;rw[Ap,if_pos (hs1.1 q2),if_neg q3];rfl
    rw[hpc]at hW
    have hWl:(aT (-1) b vs (i+1)).length=W.length+1:=by rw[hW];simp
    have hWm:(aT (-1) b vs (i+1)).map eP=W.map eP++[eP (a)]:=by rw[hW];simp
    have cm:True:=trivial
    clear hW hpc hs1 ha ha2 haw ha2w
    repeat'(first|refine zk ?_|(refine zu ?_ ?_<;>intro hc)|(first|refine zf ca ?_|refine zf cb ?_)|(refine zf cm ?_)|(refine zv ?_ ?_<;>intro hg)|omega|simp -dsimp (disch:=try exact zo)only[go_sem,hl,ea,ea2,k2,k3,hm,zl,eC,ZT,Ae]|contradiction|rfl)
    all_goals exact AW.stop ⟨⟨i+1,by omega⟩,(aQ (by refine⟨?_,?_,?_,?_⟩<;>first|(simp -dsimp (disch:=try exact zo)only[go_sem,hWl,hWm,zl,ZC];done)|(simp -dsimp (disch:=try exact zo)only[go_sem,hWl,ZC];done))),by dsimp only;omega⟩
  ·by_cases q3:aB b a*aB b a2<0
   ·skip
    have k2:(aB b a≤0)=False:=eq_false q2
    have k3:(aB b a*aB b a2<0)=True:=eq_true q3
    have hpc:pc (-1) b a a2=[bO b a a2]:=by unfold pc;rw[Ap,if_neg (fun h=>q2 (hs1.2 h)),if_pos q3];rfl
    rw[hpc]at hW
    have hWl:(aT (-1) b vs (i+1)).length=W.length+1:=by rw[hW];simp
    have hWm:(aT (-1) b vs (i+1)).map eP=W.map eP++[eP (bO b a a2)]:=by rw[hW];simp
    have cm:=c247 b a a2 hb haw ha2w ha ha2 q3
    clear hW hpc hs1 ha ha2 haw ha2w
    repeat'(first|refine zk ?_|(refine zu ?_ ?_<;>intro hc)|(first|refine zf ca ?_|refine zf cb ?_)|(refine zf cm ?_)|(refine zv ?_ ?_<;>intro hg)|omega|simp -dsimp (disch:=try exact zo)only[go_sem,hl,ea,ea2,k2,k3,hm,zl,eC,ZT,Ae]|contradiction|rfl)
    all_goals exact AW.stop ⟨⟨i+1,by omega⟩,(aQ (by refine⟨?_,?_,?_,?_⟩<;>first|(simp -dsimp (disch:=try exact zo)only[go_sem,hWl,hWm,zl,ZC];done)|(simp -dsimp (disch:=try exact zo)only[go_sem,hWl,ZC];done))),by dsimp only;omega⟩
   ·skip
    have k2:(aB b a≤0)=False:=eq_false q2
    have k3:(aB b a*aB b a2<0)=False:=eq_false q3
    have hpc:pc (-1) b a a2=[]:=by unfold pc;rw[Ap,if_neg (fun h=>q2 (hs1.2 h)),if_neg q3];rfl
    rw[hpc]at hW
    have hWl:(aT (-1) b vs (i+1)).length=W.length:=by rw[hW];simp
    have hWm:(aT (-1) b vs (i+1)).map eP=W.map eP:=by rw[hW];simp
    have cm:True:=trivial
    clear hW hpc hs1 ha ha2 haw ha2w
    repeat'(first|refine zk ?_|(refine zu ?_ ?_<;>intro hc)|(first|refine zf ca ?_|refine zf cb ?_)|(refine zf cm ?_)|(refine zv ?_ ?_<;>intro hg)|omega|simp -dsimp (disch:=try exact zo)only[go_sem,hl,ea,ea2,k2,k3,hm,zl,eC,ZT,Ae]|contradiction|rfl)
    all_goals exact AW.stop ⟨⟨i+1,by omega⟩,(aQ (by refine⟨?_,?_,?_,?_⟩<;>first|(simp -dsimp (disch:=try exact zo)only[go_sem,hWl,hWm,zl,ZC];done)|(simp -dsimp (disch:=try exact zo)only[go_sem,hWl,ZC];done))),by dsimp only;omega⟩
 ·have hil:i=vs.length:=by omega
  subst hil
  rw[vT]
  have hfin:True:=trivial
  repeat'(first|refine zj ?_|(refine zu ?_ ?_<;>intro hc)|(refine AW.ret (qF ?_);simp -dsimp (disch:=try exact zo)only[go_sem,hl,zl,hfin]<;>try (exact⟨_,rfl,rfl⟩))|(refine zv ?_ ?_<;>intro hg)|omega|simp -dsimp (disch:=try exact zo)only[go_sem,hl,zl,hfin]|contradiction)
theorem c214 (b:Pl) (vs:List Pt) (hn:vs.length≤268435456) (hcan:∀ v∈vs,CanP v) (hv:∀ v∈vs,BPt 1048576 v) (hb:BPl 1048576 b):CallOK prog 214 [.sl (vs.map eP),.agg (eH b)] [] (.sl ((bC (-1) b vs).map eP)) []:=(c214f b vs hn hcan hv hb).ok
end Go.Proofs.Vx
namespace Go.Proofs.Vx
open Go Go.Sx Go.Proofs Tryz
attribute [local irreducible] fnT CallOK CallFr AW aI callV aL aJ aH aK gcaseP hid
theorem c3d (b:Pl) (l:aC) (i:Nat) (h:i<l.length):bhR b (l.take (i+1))=bhR b (l.take i)++(if 3≤(bC (-1) b l[i].2).length then [(l[i].1,bC (-1) b l[i].2)]else []):=by
 unfold bhR
 rw[Ac h,List.filterMap_append]
 congr 1
 rw[List.filterMap_cons,List.filterMap_nil]
 split<;>rename_i q<;>split at q<;>simp_all
theorem a8u (b:Pl) (l:aC):(bhR b l).length≤l.length:=Ak _ _
def onL (b:Pl) (es:List (Pt × Pt)):List (Pt × Pt):=es.filter (onE b)
theorem a7o (b:Pl) (a c:List (Pt × Pt)):onL b (a++c)=onL b a++onL b c:=List.filter_append _ _
theorem a0o (l m:aC):esP (l++m)=esP l++esP m:=List.flatMap_append
theorem a8j (p:Pl) (vs:List Pt):esP [(p,vs)]=Geo.edges vs:=by unfold esP;simp
theorem b4u {α:Type} (vs:List α) (k:Nat) (h:k<vs.length):(Geo.edges vs).take (k+1)=(Geo.edges vs).take k++[(vs[k],vs[(k+1) % vs.length]'(A7 _ (by omega)))]:=by
 have hl:k<(Geo.edges vs).length:=by rw[Geo.fN];exact h
 rw[Ac hl,vY vs k h hl]
theorem c5c (b:Pl) (x y:Pt):onL b [(x,y)]=if aB b x=0∧aB b y=0 then [(x,y)]else []:=by
 unfold onL onE
 by_cases h:aB b x=0∧aB b y=0<;>simp[h]
def mE (b:Pl) (H:List (Pt × Pt)) (P:List Pt) (k:Nat):List (Pt × Pt):=H++onL b ((Geo.edges P).take k)
theorem a7z (b:Pl) (H:List (Pt × Pt)) (P:List Pt):mE b H P 0=H:=Ag _
theorem c9m (b:Pl) (H:List (Pt × Pt)) (P:List Pt):mE b H P P.length=H++onL b (Geo.edges P):=by unfold mE;rw[An (by rw[Geo.fN];exact Bf _)]
theorem a7n (b:Pl) (es:List (Pt × Pt)):(onL b es).length≤es.length:=List.length_filter_le _ _
theorem a1g {p q:Pt} (h:p.x=q.x∧p.y=q.y∧p.z=q.z∧p.w=q.w):p=q:=by
 obtain⟨h1,h2,h3,h4⟩:=h
 cases p;cases q
 simp only at h1 h2 h3 h4
 subst h1 h2 h3 h4;rfl
theorem a8k {l:aC} {M:Nat} (h:∀ s∈l,s.2.length≤M):(esP l).length≤l.length*M:=by
 induction l with
 | nil=>simp[esP]
 | cons s l ih =>
  have h1:=ih fun t ht=>h t (by simp[ht])
  have h2:=h s (by simp)
  have e:(esP (s::l)).length=s.2.length+(esP l).length:=by unfold esP;rw[List.flatMap_cons,Av,Geo.fN]
  rw[e,Az,Nat.succ_mul]
  omega
theorem bhR_M {b:Pl} {l:aC} {M:Nat} (h:∀ s∈l,s.2.length≤M):∀ s∈bhR b l,s.2.length≤2*M:=by
 intro s hs
 obtain⟨t,ht,e⟩:=List.mem_filterMap.1 hs
 split at e
 ·obtain rfl:=Option.some.inj e
  have h1:=pL (-1) b t.2
  have h2:=h t ht
  show (bC (-1) b t.2).length≤_
  omega
 ·contradiction
set_option maxRecDepth 20000 in
theorem c163 (l:aC) (b:Pl) (h:CellOK l) (hS:Geo.Spl (sds l) (tH b)) (hb:BPl 1048576 b) (hn:l.length≤4096) (hv:∀ s∈l,s.2.length≤65536∧∀ v∈s.2,BPt 1048576 v):CallOK prog 163 [.agg [.sl (eS l)],.agg (eH b)] [] (.agg [.sl (eS (jJ b l))]) []:=by
 refine fV func163 rfl 131 rfl rfl (fG _) [.cell 4 33] (congrArg Be results163) ?_
 simp only[aD,As]
 have hml:maxLen=9223372036854775807:=rfl
 have hl:(eS l).length=l.length:=Aa _
 have hz1:bhR b []=[]:=rfl
 have hz2:onL b []=[]:=rfl
 have hz3:esP []=[]:=rfl
 have hEn:∀ i,(onL b (esP (bhR b (l.take i)))).length≤536870912:=fun i=>by
  have h1:=a7n b (esP (bhR b (l.take i)))
  have h2:=a8k (bhR_M (b:=b) (l:=l.take i) (M:=65536) fun s hs=>(hv s (List.mem_of_mem_take hs)).1)
  have h3:=a8u b (l.take i)
  rw[Am]at h3
  have h4:(bhR b (l.take i)).length*(2*65536)≤4096*(2*65536):=Nat.mul_le_mul_right _ (by omega)
  omega
 repeat'(first|refine zk ?_|(refine zu ?_ ?_<;>intro hc)|(refine zv ?_ ?_<;>intro hg)|omega|simp -dsimp (disch:=try exact zo)only[go_sem,hl]|contradiction|rfl)
 refine AW.weak (jT 12 0 9 _ (by decide) rfl (by simp) rfl (by simp)) ?_
 refine AW.loop (fun z:{i:Nat // i≤l.length}=>⟨[(8,.lit (.int .i64 z.1)),(6,.ref 14 0 (onL b (esP (bhR b (l.take z.1)))).length (onL b (esP (bhR b (l.take z.1)))).length),(7,.ref 15 0 (onL b (esP (bhR b (l.take z.1)))).length (onL b (esP (bhR b (l.take z.1)))).length),(2,.loc 8 0),(3,.loc 9 0),(4,.loc 10 0),(5,.loc 12 0)],[(12,.blk [.ref 19 0 (bhR b (l.take z.1)).length (bhR b (l.take z.1)).length]),(19,.vec 9 (eS (bhR b (l.take z.1)))),(14,.vec 8 (((onL b (esP (bhR b (l.take z.1)))).map (·.2)).map eP)),(15,.vec 8 (((onL b (esP (bhR b (l.take z.1)))).map (·.1)).map eP)),(8,.blk [.sl (eS l)]),(9,.blk (eH b)),(10,.blk [.lit (.slice none 0 0)])],60⟩) (fun z=>l.length - z.1) ⟨0,Af _⟩ (aQ (by refine⟨?_,?_,?_,?_⟩<;>simp -dsimp (disch:=try exact zo)only[go_sem,Aj,hz1,hz2,hz3,Ax,A5,ZC])) ?_
 rintro⟨i,hi⟩
 dsimp only
 by_cases hlt:i<l.length
 ·have es1:=oE l i hlt
  have hst0:=c3d b l i hlt
  obtain⟨hvn,hvb⟩:=hv _ (Ab hlt)
  have hcan:=h.can _ (Ab hlt)
  have hBn:=a8u b (l.take i)
  rw[Am]at hBn
  have hHn:=hEn i
  clear h hS hv hEn
  generalize l[i]=sd at *
  obtain⟨sp,svs⟩:=sd
  dsimp only at es1 hst0 hvn hvb hcan
  have cc:=c214 b svs (by omega) hcan hvb hb
  have hPn:=pL (-1) b svs
  have hPb:=zJ (h:=-1) hb hvb
  generalize bC (-1) b svs=P at *
  generalize bhR b (l.take i)=B at *
  have hBl:(eS B).length=B.length:=Aa _
  have hBl2:(B++[(sp,P)]).length=B.length+1:=by simp
  have hBm:eS (B++[(sp,P)])=eS B++[eG sp P]:=by rw[b0e];rfl
  have hPl:(P.map eP).length=P.length:=Aa _
  have hfH0:onL b (esP (B++[(sp,P)]))=onL b (esP B)++onL b (Geo.edges P):=by rw[a0o,a8j,a7o]
  generalize hHe:onL b (esP B)=H at *
  simp only[eG]at es1
  have hHa:((H.map (·.2)).map eP).length=H.length:=by rw[Aa,Aa]
  have hHb:((H.map (·.1)).map eP).length=H.length:=by rw[Aa,Aa]
  clear hcan hvb
  by_cases h3:3≤P.length
  ·have k0:((P.length:Int)<3)=False:=eq_false (by omega)
   rw[if_pos h3]at hst0
   repeat'(first|refine zk ?_|(refine zu ?_ ?_<;>intro hc)|(refine zq cc ?_)|(refine zv ?_ ?_<;>intro hg)|omega|simp -dsimp (disch:=try exact zo)only[go_sem,hl,es1,ZT,zl,k0,hBl,hBm]|contradiction|rfl)
   refine AW.loop (fun z:{k:Nat // k≤P.length}=>⟨[(10,.lit (.int .i64 z.1)),(9,.sl (P.map eP)),(8,.lit (.int .i64 i)),(6,.ref 14 0 (mE b H P z.1).length (mE b H P z.1).length),(7,.ref 15 0 (mE b H P z.1).length (mE b H P z.1).length),(2,.loc 8 0),(3,.loc 9 0),(4,.loc 10 0),(5,.loc 12 0)],[(12,.blk [.ref 19 0 (B++[(sp,P)]).length (B++[(sp,P)]).length]),(19,.vec 9 (eS (B++[(sp,P)]))),(14,.vec 8 (((mE b H P z.1).map (·.2)).map eP)),(15,.vec 8 (((mE b H P z.1).map (·.1)).map eP)),(8,.blk [.sl (eS l)]),(9,.blk (eH b)),(10,.blk [.lit (.slice none 0 0)])],90⟩) (fun z=>P.length - z.1) ⟨0,Af _⟩ (aQ (by refine⟨?_,?_,?_,?_⟩<;>first|(simp -dsimp (disch:=try exact zo)only[go_sem,a7z,hBl2,hBm,hBl,ZC];done)|(simp -dsimp (disch:=try exact zo)only[go_sem,a7z,Int.cast_ofNat_Int];done))) ?_
   rintro⟨k,hk⟩
   dsimp only
   by_cases hkt:k<P.length
   ·have hmod:(k+1) % P.length<P.length:=A7 _ (by omega)
    have hm:((k:Int)+1) % (P.length:Int)=(((k+1) % P.length:Nat):Int):=by rw[Ay,A6];rfl
    have ea:=cZ P k hkt
    have ea2:=cZ P _ hmod
    have hst:mE b H P (k+1)=mE b H P k++(if aB b P[k]=0∧aB b P[(k+1) % P.length]=0 then [(P[k],P[(k+1) % P.length])]else []):=by
     unfold mE;rw[b4u P k hkt,a7o,c5c,List.append_assoc]
    have ca:=c50 b P[k] (hb.mono (by decide)) ((hPb _ (Ab hkt)).mono (by decide))
    have cb:=c50 b P[(k+1) % P.length] (hb.mono (by decide)) ((hPb _ (Ab hmod)).mono (by decide))
    have hGn:(mE b H P k).length≤1073741824:=by
     unfold mE
     have h1:=a7n b ((Geo.edges P).take k)
     rw[Am]at h1
     rw[Av]
     omega
    clear hPb hfH0 hHa hHb hHn
    generalize P[k]=x at *
    generalize P[(k+1) % P.length]=y at *
    generalize mE b H P k=G at *
    have hHa:((G.map (·.2)).map eP).length=G.length:=by rw[Aa,Aa]
    have hHb:((G.map (·.1)).map eP).length=G.length:=by rw[Aa,Aa]
    simp only[eP,e4]at ea ea2
    by_cases q1:aB b x=0
    ·have k1:=eq_true q1
     by_cases q2:aB b y=0
     ·have k2:=eq_true q2
      rw[if_pos ⟨q1,q2⟩]at hst
      have hHl:(mE b H P (k+1)).length=G.length+1:=by rw[hst];simp
      have hHx:((mE b H P (k+1)).map (·.2)).map eP=(G.map (·.2)).map eP++[eP y]:=by rw[hst];simp
      have hHy:((mE b H P (k+1)).map (·.1)).map eP=(G.map (·.1)).map eP++[eP x]:=by rw[hst];simp
      clear hst q1 q2
      repeat'(first|refine zk ?_|(refine zu ?_ ?_<;>intro hc)|(first|refine zf ca ?_|refine zf cb ?_)|(refine zv ?_ ?_<;>intro hg)|omega|simp -dsimp (disch:=try exact zo)only[go_sem,hPl,ea,ea2,hm,k1,k2,ZT,zl,hHa,hHb]|contradiction|rfl)
      all_goals exact AW.stop ⟨⟨k+1,by omega⟩,(aQ (by refine⟨?_,?_,?_,?_⟩<;>first|(simp -dsimp (disch:=try exact zo)only[go_sem,hHl,hHx,hHy,zl,ZC];done)|(simp -dsimp (disch:=try exact zo)only[go_sem,hHl,ZC];done))),by dsimp only;omega⟩
     ·have k2:=eq_false q2
      rw[if_neg (fun e=>q2 e.2),Ag]at hst
      clear q1 q2
      repeat'(first|refine zk ?_|(refine zu ?_ ?_<;>intro hc)|(first|refine zf ca ?_|refine zf cb ?_)|(refine zv ?_ ?_<;>intro hg)|omega|simp -dsimp (disch:=try exact zo)only[go_sem,hPl,ea,ea2,hm,k1,k2,ZT,zl,hHa,hHb]|contradiction|rfl)
      all_goals exact AW.stop ⟨⟨k+1,by omega⟩,(aQ (by refine⟨?_,?_,?_,?_⟩<;>simp -dsimp (disch:=try exact zo)only[go_sem,hst,ZC])),by dsimp only;omega⟩
    ·have k1:=eq_false q1
     have k2:True:=trivial
     rw[if_neg (fun e=>q1 e.1),Ag]at hst
     clear q1
     repeat'(first|refine zk ?_|(refine zu ?_ ?_<;>intro hc)|(first|refine zf ca ?_|refine zf cb ?_)|(refine zv ?_ ?_<;>intro hg)|omega|simp -dsimp (disch:=try exact zo)only[go_sem,hPl,ea,ea2,hm,k1,k2,ZT,zl,hHa,hHb]|contradiction|rfl)
     all_goals exact AW.stop ⟨⟨k+1,by omega⟩,(aQ (by refine⟨?_,?_,?_,?_⟩<;>simp -dsimp (disch:=try exact zo)only[go_sem,hst,ZC])),by dsimp only;omega⟩
   ·have hkl:k=P.length:=by omega
    subst hkl
    have hfB:bhR b (l.take (i+1))=B++[(sp,P)]:=hst0
    have hfH:onL b (esP (B++[(sp,P)]))=mE b H P P.length:=by rw[hfH0,c9m]
    clear hPb hst0
    repeat'(first|refine zk ?_|(refine zu ?_ ?_<;>intro hc)|(refine zv ?_ ?_<;>intro hg)|omega|simp -dsimp (disch:=try exact zo)only[go_sem,hPl,zl]|contradiction|rfl)
    all_goals exact AW.stop ⟨⟨i+1,by omega⟩,(aQ (by refine⟨?_,?_,?_,?_⟩<;>simp -dsimp (disch:=try exact zo)only[go_sem,hfH,hfB,ZC])),by dsimp only;omega⟩
  ·have k0:((P.length:Int)<3)=True:=eq_true (by omega)
   rw[if_neg h3,Ag]at hst0
   have hst:=hst0
   clear hst0 hPb
   repeat'(first|refine zk ?_|(refine zu ?_ ?_<;>intro hc)|(refine zq cc ?_)|(refine zv ?_ ?_<;>intro hg)|omega|simp -dsimp (disch:=try exact zo)only[go_sem,hl,es1,ZT,zl,k0,hBl,hBm]|contradiction|rfl)
   all_goals exact AW.stop ⟨⟨i+1,by omega⟩,(aQ (by refine⟨?_,?_,?_,?_⟩<;>simp -dsimp (disch:=try exact zo)only[go_sem,hst,hHe,ZC])),by dsimp only;omega⟩
 ·have hil:i=l.length:=by omega
  subst hil
  rw[Al]
  have hHn:=hEn l.length
  rw[Al]at hHn
  rw[d0r h hS]at hHn ⊢
  have C:=tT h hS
  have hbl:=qW (b:=b) h.toCanC
  have hBn:(bh b l).length≤l.length:=Ak _ _
  have hcl:=C.cl
  have hnx:=C.nx
  have hne:=C.ne
  have hcap:nN b (bh b l)=aV (nxP ((heP b l).map Geo.sw)) (heP b l).length (((heP b l).map (·.2)).headD P0):=rfl
  have hf0:=a4z (d:=P0) (show (heP b l).map (·.2)≠[] by simpa using hne)
  have hon:onL b (esP (bh b l))=heP b l:=rfl
  unfold jJ
  rw[hon]at hHn ⊢
  rw[hcap]
  clear h hS hv hEn C hbl
  generalize nxP ((heP b l).map Geo.sw)=nx at *
  generalize heP b l=H at *
  generalize hfe:(H.map (·.2)).headD P0=f0 at *
  have ef0:((H.map (·.2)).map eP).getD 0 []=eP f0:=by
   cases H with
   | nil=>exact absurd rfl hne
   | cons e H=>rw[← hfe];rfl
  generalize bh b l=B at *
  have hBl:(eS B).length=B.length:=Aa _
  have hHa:((H.map (·.2)).map eP).length=H.length:=by rw[Aa,Aa]
  have hHb:((H.map (·.1)).map eP).length=H.length:=by rw[Aa,Aa]
  have hn0:0<H.length:=List.length_pos_iff.2 hne
  have k0:((H.length:Int)=0)=False:=eq_false (by omega)
  have hr1:aV nx 1 f0=[f0]:=rfl
  simp only[eP,e4]at ef0
  repeat'(first|refine zk ?_|(refine zu ?_ ?_<;>intro hc)|(refine zv ?_ ?_<;>intro hg)|omega|simp -dsimp (disch:=try exact zo)only[go_sem,hHa,hHb,zl,k0,ef0,hl]|contradiction|rfl)
  have hbB:eS (B++[(b,aV nx H.length f0)])=eS B++[eG b (aV nx H.length f0)]:=by rw[b0e];rfl
  rw[hbB]
  clear hcap hon hfe ef0 hlt hi hb
  refine AW.loop (fun z:{j:Nat // 1≤j∧j≤H.length}=>⟨[(13,.ref 71 0 z.1 z.1),(6,.ref 14 0 (H).length (H).length),(7,.ref 15 0 (H).length (H).length),(2,.loc 8 0),(3,.loc 9 0),(4,.loc 10 0),(5,.loc 12 0)],[(71,.vec 8 ((aV nx z.1 f0).map eP)),(12,.blk [.ref 19 0 (B).length (B).length]),(19,.vec 9 (eS (B))),(14,.vec 8 (((H).map (·.2)).map eP)),(15,.vec 8 (((H).map (·.1)).map eP)),(8,.blk [.sl (eS l)]),(9,.blk (eH b)),(10,.blk [.lit (.slice none 0 0)])],80⟩) (fun z=>H.length - z.1) ⟨1,Bf _,hn0⟩ (aQ (by refine⟨?_,?_,?_,?_⟩<;>simp -dsimp (disch:=try exact zo)only[go_sem,hr1,List.map_cons,Ax,ZC])) ?_
  rintro⟨j,hj1,hj⟩
  dsimp only
  have hRl:((aV nx j f0).map eP).length=j:=by rw[Aa,pD]
  by_cases hjt:j<H.length
  ·have hlm:itP nx (j - 1) f0∈H.map (·.2):=a8c hcl _ hf0
   have hRn:aV nx (j+1) f0=aV nx j f0++[nx (itP nx (j - 1) f0)]:=by
    have e1:=tK nx (j - 1) f0
    rw[show j - 1+1=j by omega]at e1
    rw[vG,e1]
   have el:((aV nx j f0).map eP).getD (j - 1) []=eP (itP nx (j - 1) f0):=by
    obtain⟨q,rfl⟩:∃ q,j=q+1:=⟨j - 1,by omega⟩
    rw[vG,Ae,List.getD_eq_getElem?_getD,List.getElem?_append_right (by simp[pD])]
    simp[pD]
   have hj1':((j:Int) - 1).toNat=j - 1:=by omega
   generalize hRR:aV nx j f0=R at *
   generalize itP nx (j - 1) f0=last at *
   simp only[eP,e4]at el
   clear hcl hf0 hbB
   repeat'(first|refine zk ?_|(refine zu ?_ ?_<;>intro hc)|(refine zv ?_ ?_<;>intro hg)|omega|simp -dsimp (disch:=try exact zo)only[go_sem,hHa,zl,hRl,k0]|contradiction|rfl)
   refine AW.loop (fun z:{i:Nat // i≤H.length∧∀ q,q<i→∀ h:q<H.length,H[q].2≠last}=>⟨[(14,.lit (.int .i64 z.1)),(13,.ref 71 0 j j),(6,.ref 14 0 (H).length (H).length),(7,.ref 15 0 (H).length (H).length),(2,.loc 8 0),(3,.loc 9 0),(4,.loc 10 0),(5,.loc 12 0)],[(71,.vec 8 (R.map eP)),(12,.blk [.ref 19 0 (B).length (B).length]),(19,.vec 9 (eS (B))),(14,.vec 8 (((H).map (·.2)).map eP)),(15,.vec 8 (((H).map (·.1)).map eP)),(8,.blk [.sl (eS l)]),(9,.blk (eH b)),(10,.blk [.lit (.slice none 0 0)])],100⟩) (fun z=>H.length - z.1) ⟨0,Af _,fun q hq=>by omega⟩ (aQ (by refine⟨?_,?_,?_,?_⟩<;>simp -dsimp (disch:=try exact zo)only[go_sem,ZC])) ?_
   rintro⟨i,hi,hbe⟩
   dsimp only
   by_cases hit:i<H.length
   ·have ea:((H.map (·.2)).map eP).getD i []=eP H[i].2:=by rw[cZ _ i (by simpa using hit),A3]
    have et:((H.map (·.1)).map eP).getD i []=eP H[i].1:=by rw[cZ _ i (by simpa using hit),A3]
    have hnxi:=hnx _ (Ab hit)
    by_cases e:H[i].2=last
    ·have hRn2:aV nx (j+1) f0=R++[H[i].1]:=by rw[hRn,← e,hnxi]
     have k1:(H[i].2.x=last.x∧H[i].2.y=last.y∧H[i].2.z=last.z∧H[i].2.w=last.w)=True:=eq_true (by rw[e];simp)
     have hRm:(aV nx (j+1) f0).map eP=R.map eP++[eP H[i].1]:=by rw[hRn2];simp
     clear hbe hnx hnxi hRn hRn2 hlm e
     generalize H[i].2=u at *
     generalize H[i].1=w at *
     simp only[eP,e4]at ea et
     repeat'(first|refine zk ?_|(refine zu ?_ ?_<;>intro hc)|(refine zv ?_ ?_<;>intro hg)|omega|simp -dsimp (disch:=try exact zo)only[go_sem,hHa,hHb,hRl,zl,ea,el,et,hj1',k1,ZT]|contradiction|rfl)
     all_goals exact AW.stop ⟨⟨j+1,by omega,by omega⟩,(aQ (by refine⟨?_,?_,?_,?_⟩<;>first|(simp -dsimp (disch:=try exact zo)only[go_sem,hRm,hRl,zl,ZC];done)|(simp -dsimp (disch:=try exact zo)only[go_sem,ZC];done))),by dsimp only;omega⟩
    ·have k1:(H[i].2.x=last.x∧H[i].2.y=last.y∧H[i].2.z=last.z∧H[i].2.w=last.w)=False:=eq_false fun q=>e (a1g q)
     have hbe2:∀ q,q<i+1→∀ h:q<H.length,H[q].2≠last:=fun q hq h=>by
      by_cases q':q=i
      ·subst q';exact e
      ·exact hbe q (by omega) h
     clear hbe hnx hnxi hRn hlm e
     generalize H[i].2=u at *
     generalize H[i].1=w at *
     simp only[eP,e4]at ea et
     replace hbe2:=Hid.mk hbe2
     repeat'(first|refine zk ?_|(refine zu ?_ ?_<;>intro hc)|(refine zv ?_ ?_<;>intro hg)|omega|simp -dsimp (disch:=try exact zo)only[go_sem,hHa,hHb,hRl,zl,ea,el,et,hj1',k1,ZT]|contradiction|rfl)
     all_goals exact AW.stop ⟨⟨i+1,by omega,hbe2.out⟩,(aQ (by refine⟨?_,?_,?_,?_⟩<;>simp -dsimp (disch:=try exact zo)only[go_sem,ZC])),by dsimp only;omega⟩
   ·exfalso
    obtain⟨e,he,q⟩:=Ad.1 hlm
    obtain⟨t,ht,rfl⟩:=List.mem_iff_getElem.1 he
    exact hbe t (by omega) ht q
  ·have hjl:j=H.length:=by omega
   subst hjl
   generalize aV nx H.length f0=R at *
   refine AW.weak (mI 71 H.length 8 (R.map eP) (t:=[(13,.sl (R.map eP)),(6,.ref 14 0 (H).length (H).length),(7,.ref 15 0 (H).length (H).length),(2,.loc 8 0),(3,.loc 9 0),(4,.loc 10 0),(5,.loc 12 0)]) (o:=[(12,.blk [.ref 19 0 (B).length (B).length]),(19,.vec 9 (eS (B))),(14,.vec 8 (((H).map (·.2)).map eP)),(15,.vec 8 (((H).map (·.1)).map eP)),(8,.blk [.sl (eS l)]),(9,.blk (eH b)),(10,.blk [.lit (.slice none 0 0)])]) rfl hRl (by simp -dsimp (disch:=try exact zo)only[go_sem,and_self]) (by simp -dsimp (disch:=try exact zo)only[go_sem,and_self])) ?_
   clear hcl hnx hf0 hbB
   repeat'(first|refine zk ?_|(refine zu ?_ ?_<;>intro hc)|(refine zv ?_ ?_<;>intro hg)|omega|simp -dsimp (disch:=try exact zo)only[go_sem,hHa,hRl,zl,hBl,An,Nat.zero_lt_succ]|contradiction|rfl)
end Go.Proofs.Vx
namespace Go.Proofs.Vx
open Go Go.Sx Go.Proofs Tryz
attribute [local irreducible] fnT CallOK CallFr AW aI callV aL aJ aH aK gcaseP hid
def plv (p:Pl):Value:=.agg #[.bool (Zn p.a),.string (Zm p.a),.bool (Zn p.b),.string (Zm p.b),.bool (Zn p.c),.string (Zm p.c),.bool (Zn p.d),.string (Zm p.d)]
def ev (e:Pt × Pt):Value:=.agg #[.bool (Zn e.1.x),.string (Zm e.1.x),.bool (Zn e.1.y),.string (Zm e.1.y),.bool (Zn e.1.z),.string (Zm e.1.z),.bool (Zn e.1.w),.string (Zm e.1.w),.bool (Zn e.2.x),.string (Zm e.2.x),.bool (Zn e.2.y),.string (Zm e.2.y),.bool (Zn e.2.z),.string (Zm e.2.z),.bool (Zn e.2.w),.string (Zm e.2.w)]
theorem a7m {p q:Pl} (h:plv p=plv q):p=q:=by
 unfold plv at h
 simp only[Value.agg.injEq,Bh.injEq,Bg.injEq,Value.bool.injEq,Value.string.injEq,and_true]at h
 obtain⟨h1,h2,h3,h4,h5,h6,h7,h8⟩:=h
 cases p;cases q
 simp only at *
 rw[fH h1 h2,fH h3 h4,fH h5 h6,fH h7 h8]
theorem b0c {e f:Pt × Pt} (h:ev e=ev f):e=f:=by
 unfold ev at h
 simp only[Value.agg.injEq,Bh.injEq,Bg.injEq,Value.bool.injEq,Value.string.injEq,and_true]at h
 obtain⟨h1,h2,h3,h4,h5,h6,h7,h8,k1,k2,k3,k4,k5,k6,k7,k8⟩:=h
 obtain⟨a,b⟩:=e
 obtain⟨c,d⟩:=f
 simp only at *
 rw[a1g (p:=a) (q:=c) ⟨fH h1 h2,fH h3 h4,fH h5 h6,fH h7 h8⟩,a1g (p:=b) (q:=d) ⟨fH k1 k2,fH k3 k4,fH k5 k6,fH k7 k8⟩]
def mHB (ps:List Pl):List (Value × Value):=ps.map fun p=>(plv p,.bool true)
def mEN (es:List (Pt × Pt)):List (Value × Value):=es.map fun e=>(ev e,.int .i64 1)
theorem tP (es:List (Pt × Pt)):(mEN es).length=es.length:=Aa _
theorem a7y {ps:List Pl} {p:Pl} (h:p∉ps):plv p∉(mHB ps).map (·.1):=by
 unfold mHB
 rw[Ao]
 intro hm
 obtain⟨q,hq,e⟩:=Ad.1 hm
 exact h (a7m e▸hq)
theorem tQ {es:List (Pt × Pt)} {e:Pt × Pt} (h:e∉es):ev e∉(mEN es).map (·.1):=by
 unfold mEN
 rw[Ao]
 intro hm
 obtain⟨q,hq,e⟩:=Ad.1 hm
 exact h (b0c e▸hq)
theorem a5t {es:List (Value × Value)} {k:Value} (h:k∉es.map (·.1)):bY es k=none:=by
 unfold bY
 rw[Aw.2]
 ·rfl
 ·intro e he
  simp only[decide_eq_true_eq]
  rintro rfl
  exact h (List.mem_map_of_mem he)
theorem a7w {es:List (Value × Value)} {k v:Value} (h:k∉es.map (·.1)):eO es k v=es++[(k,v)]:=by
 unfold eO
 rw[if_neg h]
theorem c0q (es:List (Value × Value)) (n:Nat) (hn:es.length=n) (k v u:Value):l6 (es++[(k,v)]) n u=es++[(k,u)]:=by
 unfold l6
 subst hn
 induction es with
 | nil=>rfl
 | cons a es ih=>rw[List.cons_append,Az,List.modify_succ_cons,ih];rfl
open Classical in
theorem c0z {es:List (Pt × Pt)} {e:Pt × Pt} (h:e∈es):bY (mEN es) (ev e)=some (.int .i64 1):=by
 unfold bY
 cases hq:(mEN es).find? fun x=>decide (x.1=ev e)with
 | none =>
  have:=Aw.1 hq (ev e,.int .i64 1) (Ad.2 ⟨e,h,rfl⟩)
  simp at this
 | some x =>
  obtain⟨f,_,rfl⟩:=Ad.1 (List.mem_of_find?_eq_some hq)
  rfl
theorem kl26:WideMaps.KeyLaw prog 26:=deep_law_gate (by kernel_rfl) (of_decide_eq_true (by kernel_rfl)) (of_decide_eq_true (by kernel_rfl)) (by kernel_rfl) (by kernel_rfl)
theorem b1k:WideMaps.KeyLaw prog 138:=deep_law_gate (by kernel_rfl) (of_decide_eq_true (by kernel_rfl)) (of_decide_eq_true (by kernel_rfl)) (by kernel_rfl) (by kernel_rfl)
theorem a9b:g9 prog 26=some [(24,0),(24,2),(24,4),(24,6)]:=by kernel_rfl
theorem a7a:g9 prog 138=some [(51,0),(51,8)]:=by kernel_rfl
theorem a9d:Tryz.prog.cellsOf 26=8:=by kernel_rfl
theorem a7b:Tryz.prog.cellsOf 138=16:=by kernel_rfl
theorem b1l (p:Pl) (h:BPl 1073741824 p):(keyOf prog 26 (plv p)).isSome=true:=by
 have hml:maxLen=9223372036854775807:=rfl
 have h1:=h.out.a
 have h2:=h.out.b
 have h3:=h.out.c
 have h4:=h.out.d
 refine yE (L:=[.bool (Zn p.a),.string (Zm p.a).data.toList,.bool (Zn p.b),.string (Zm p.b).data.toList,.bool (Zn p.c),.string (Zm p.c).data.toList,.bool (Zn p.d),.string (Zm p.d).data.toList]) a9b (by kernel_rfl) (by rw[a9d];rfl) ?_
 rw[yts,sC a9b (by rw[a9d];rfl)]
 simp only[Aq,Au,tW,Ar,Ah,Ai,Aj,i6 288 _ _ (show (Zm p.a).size≤maxLen by omega),i6 288 _ _ (show (Zm p.b).size≤maxLen by omega),i6 288 _ _ (show (Zm p.c).size≤maxLen by omega),i6 288 _ _ (show (Zm p.d).size≤maxLen by omega)]
 rfl
theorem b1j (d:Nat) (p:Pt) (h:BPt 1073741824 p):Tryz.prog.keyLits (d+3) 51 [.bool (Zn p.x),.string (Zm p.x),.bool (Zn p.y),.string (Zm p.y),.bool (Zn p.z),.string (Zm p.z),.bool (Zn p.w),.string (Zm p.w)]=some [.bool (Zn p.x),.string (Zm p.x).data.toList,.bool (Zn p.y),.string (Zm p.y).data.toList,.bool (Zn p.z),.string (Zm p.z).data.toList,.bool (Zn p.w),.string (Zm p.w).data.toList]:=by
 have hml:maxLen=9223372036854775807:=rfl
 have h1:=h.out.a
 have h2:=h.out.b
 have h3:=h.out.c
 have h4:=h.out.d
 rw[sC a0y (by rw[xF];rfl)]
 simp only[Aq,Au,tW,Ar,Ah,Ai,Aj,i6 d _ _ (show (Zm p.x).size≤maxLen by omega),i6 d _ _ (show (Zm p.y).size≤maxLen by omega),i6 d _ _ (show (Zm p.z).size≤maxLen by omega),i6 d _ _ (show (Zm p.w).size≤maxLen by omega)]
 rfl
theorem a1l (e:Pt × Pt) (h:BPt 1073741824 e.1) (h':BPt 1073741824 e.2):(keyOf prog 138 (ev e)).isSome=true:=by
 have k1:=b1j 287 e.1 h
 have k2:=b1j 287 e.2 h'
 refine yE (L:=[.bool (Zn e.1.x),.string (Zm e.1.x).data.toList,.bool (Zn e.1.y),.string (Zm e.1.y).data.toList,.bool (Zn e.1.z),.string (Zm e.1.z).data.toList,.bool (Zn e.1.w),.string (Zm e.1.w).data.toList,.bool (Zn e.2.x),.string (Zm e.2.x).data.toList,.bool (Zn e.2.y),.string (Zm e.2.y).data.toList,.bool (Zn e.2.z),.string (Zm e.2.z).data.toList,.bool (Zn e.2.w),.string (Zm e.2.w).data.toList]) a7a (by kernel_rfl) (by rw[a7b];rfl) ?_
 rw[yts,sC a7a (by rw[a7b];rfl)]
 simp only[Aq,Au,xF,Ar,Ah,Ai,Aj,k1,k2]
 rfl
theorem c9u {ps:List Pl} (hn:ps.Nodup) (h:∀ p∈ps,BPl 1073741824 p):lQ prog 26 (mHB ps):=by
 refine⟨fun e he=>?_,?_⟩
 ·obtain⟨q,hq,rfl⟩:=Ad.1 he
  exact b1l q (h q hq)
 ·unfold mHB
  rw[Ao]
  exact Ba.map _ (fun a b hab hp=>hab (a7m hp)) hn
theorem a9z {es:List (Pt × Pt)} (hn:es.Nodup) (h:∀ e∈es,BPt 1073741824 e.1∧BPt 1073741824 e.2):lQ prog 138 (mEN es):=by
 refine⟨fun e he=>?_,?_⟩
 ·obtain⟨q,hq,rfl⟩:=Ad.1 he
  exact a1l q (h q hq).1 (h q hq).2
 ·unfold mEN
  rw[Ao]
  exact Ba.map _ (fun a b hab hp=>hab (b0c hp)) hn
end Go.Proofs.Vx
