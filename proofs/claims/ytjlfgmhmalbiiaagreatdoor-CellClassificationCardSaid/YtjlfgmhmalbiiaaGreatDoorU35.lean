import Derived.Test.YtjlfgmhmalbiiaaGreatDoorProg
import Derived.Test.YtjlfgmhmalbiiaaGreatDoorU10
import Derived.Test.YtjlfgmhmalbiiaaGreatDoorU33
import Derived.Test.YtjlfgmhmalbiiaaGreatDoorU34
set_option linter.all false
namespace Go.Proofs.Vx
open Go Go.Sx Go.Proofs
attribute [local irreducible] fnT CallOK CallFr AW effV callV runP runO oneP oneO gcaseP hid
theorem yfn_31:fnT Tryz.prog 31=true:=by kernel_rfl
theorem yfn_162:fnT Tryz.prog 162=true:=by kernel_rfl
theorem yfn_214:fnT Tryz.prog 214=true:=by kernel_rfl
theorem behB_succ (b:Pl) (l:PCell) (i:Nat) (h:i<l.length):behindB b (l.take (i+1))=(behindB b (l.take i)||l[i].2.any (fun v=>decide (sideP b v<0))):=by
 unfold behindB
 rw[List.take_succ_eq_append_getElem h,List.any_append]
 simp
theorem froB_succ (b:Pl) (l:PCell) (i:Nat) (h:i<l.length):frontB b (l.take (i+1))=(frontB b (l.take i)||l[i].2.any (fun v=>decide (0<sideP b v))):=by
 unfold frontB
 rw[List.take_succ_eq_append_getElem h,List.any_append]
 simp
set_option maxHeartbeats 40000000 in
theorem c162 (l:PCell) (b:Pl) (hb:BPl 268435456 b) (hn:l.length≤1048576) (hv:∀ s∈l,s.2.length≤268435456∧∀ v∈s.2,BPt 268435456 v):CallOK Tryz.prog 162 [.agg [.sl (eS l)],.agg (eH b)] [] (.tup [.lit (.bool (behindB b l)),.lit (.bool (frontB b l))]) []:=by
 refine CallOK.flat Tryz.func162 rfl 52 rfl rfl rfl [.tmp 4,.tmp 5] (congrArg Array.toList Tryz.results162) ?_
 simp only[startT,Nat.reduceAdd]
 have hml:maxLen=9223372036854775807:=rfl
 have hl:(eS l).length=l.length:=List.length_map _
 have hz1:behindB b []=false:=rfl
 have hz2:frontB b []=false:=rfl
 repeat' (first|refine zg ?_|(refine AW.cond rfl ?_ ?_<;>intro hc<;>first|simp only[NM]at hc|omega|skip)|refine zr ?_|refine ⟨by omega,?_⟩|(refine zb ?_ ?_<;>intro hg<;>(try rw[hg])<;>try simp only[NM]at hg)|omega|simp -dsimp (disch:=try exact zo) only[go_sem,hl]|contradiction|rfl)
 refine AW.loop (fun z:{i:Nat // i≤l.length}=>⟨[(8,.lit (.int .i64 z.1)),(6,.lit (.bool (behindB b (l.take z.1)))),(7,.lit (.bool (frontB b (l.take z.1)))),(2,.loc 8 0),(3,.loc 9 0)],[(8,.blk [.sl (eS l)]),(9,.blk (eH b))],60⟩) (fun z=>l.length - z.1) ⟨0,Nat.zero_le _⟩ (Weak.t4 (by refine ⟨?_,?_,?_,?_⟩<;>simp -dsimp (disch:=try exact zo) only[go_sem,eS_in,eP_in,List.take_zero,hz1,hz2,ZC])) ?_
 rintro ⟨i,hi⟩
 dsimp only
 by_cases hlt:i<l.length
 ·have es1:=eS_getD l i hlt
  have hS1:=behB_succ b l i hlt
  have hS2:=froB_succ b l i hlt
  obtain ⟨hvn,hvb⟩:=hv _ (List.getElem_mem hlt)
  generalize hq:l[i]=sd at *
  obtain ⟨sp,svs⟩:=sd
  dsimp only at es1 hS1 hS2 hvn hvb
  have hvl:(svs.map eP).length=svs.length:=List.length_map _
  generalize behindB b (l.take i)=B0 at *
  generalize frontB b (l.take i)=F0 at *
  simp only[eG]at es1
  clear hv hq
  repeat' (first|refine zg ?_|(refine AW.cond rfl ?_ ?_<;>intro hc<;>first|simp only[NM]at hc|omega|skip)|refine zr ?_|refine ⟨by omega,?_⟩|(refine zb ?_ ?_<;>intro hg<;>(try rw[hg])<;>try simp only[NM]at hg)|omega|simp -dsimp (disch:=try exact zo) only[go_sem,hl]|contradiction|rfl)
  refine AW.loop (fun z:{j:Nat // j≤svs.length}=>⟨[(9,.lit (.int .i64 z.1)),(8,.lit (.int .i64 i)),(6,.lit (.bool (B0||anyT (fun v=>decide (sideP b v<0)) svs z.1))),(7,.lit (.bool (F0||anyT (fun v=>decide (0<sideP b v)) svs z.1))),(2,.loc 8 0),(3,.loc 9 0)],[(8,.blk [.sl (eS l)]),(9,.blk (eH b))],80⟩) (fun z=>svs.length - z.1) ⟨0,Nat.zero_le _⟩ (Weak.t4 (by refine ⟨?_,?_,?_,?_⟩<;>simp -dsimp (disch:=try exact zo) only[go_sem,eS_in,eP_in,anyT_zero,Bool.or_false,ZC])) ?_
  rintro ⟨j,hj⟩
  dsimp only
  by_cases hjt:j<svs.length
  ·have ea:=eP_getD svs j hjt
   have hsb0:=anyT_succ (fun v=>decide (sideP b v<0)) svs j hjt
   have hsf0:=anyT_succ (fun v=>decide (0<sideP b v)) svs j hjt
   have ca:=c50 b svs[j] hb (hvb _ (List.getElem_mem hjt))
   have cb:True:=trivial
   clear hvb hS1 hS2
   generalize svs[j]=a at *
   have hsb:(B0||anyT (fun v=>decide (sideP b v<0)) svs (j+1))=((B0||anyT (fun v=>decide (sideP b v<0)) svs j)||decide (sideP b a<0)):=by rw[hsb0,Bool.or_assoc]
   have hsf:(F0||anyT (fun v=>decide (0<sideP b v)) svs (j+1))=((F0||anyT (fun v=>decide (0<sideP b v)) svs j)||decide (0<sideP b a)):=by rw[hsf0,Bool.or_assoc]
   generalize (B0||anyT (fun v=>decide (sideP b v<0)) svs j)=bb at *
   generalize (F0||anyT (fun v=>decide (0<sideP b v)) svs j)=ff at *
   clear hsb0 hsf0
   simp only[eP,e4]at ea
   generalize sideP b a=sv at *
   by_cases q1:sv<0<;>by_cases q2:0<sv
   ·omega
   all_goals
    have k1:=(show (sv<0)=_∧(0<sv)=_ from ⟨(by first|exact eq_true q1|exact eq_false q1),(by first|exact eq_true q2|exact eq_false q2)⟩)
    clear q1 q2
    obtain ⟨k1,k2⟩:=k1
    simp only[k1,k2,decide_true,decide_false]at hsb hsf
    cases bb<;>cases ff<;>(try simp only[Bool.true_or,Bool.false_or,Bool.or_true,Bool.or_false]at hsb)<;>(try simp only[Bool.true_or,Bool.false_or,Bool.or_true,Bool.or_false]at hsf)
   all_goals
    repeat' (first|refine zg ?_|(refine AW.cond rfl ?_ ?_<;>intro hc<;>first|simp only[NM]at hc|omega|skip)|refine zr ?_|(first|refine callV.flat _ yfn_50 ca rfl rfl ?_|refine callV.flat _ yfn_50 cb rfl rfl ?_)|refine ⟨by omega,?_⟩|(refine zb ?_ ?_<;>intro hg<;>(try rw[hg])<;>try simp only[NM]at hg)|omega|simp -dsimp (disch:=try exact zo) only[go_sem,hl,es1,ea,k1,k2,ZT,zl,eS_in,eP_in,hvl]|contradiction|rfl)
   all_goals exact AW.stop ⟨⟨j+1,by omega⟩,(Weak.t4 (by refine ⟨?_,?_,?_,?_⟩<;>simp -dsimp (disch:=try exact zo) only[go_sem,eS_in,eP_in,hsb,hsf,ZC])),by dsimp only;omega⟩
  ·have hjl:j=svs.length:=by omega
   subst hjl
   rw[anyT_all,anyT_all,← hS1,← hS2]
   clear hvb
   repeat' (first|refine zg ?_|(refine AW.cond rfl ?_ ?_<;>intro hc<;>first|simp only[NM]at hc|omega|skip)|refine zr ?_|refine ⟨by omega,?_⟩|(refine zb ?_ ?_<;>intro hg<;>(try rw[hg])<;>try simp only[NM]at hg)|omega|simp -dsimp (disch:=try exact zo) only[go_sem,hl,es1,ZT,zl,eS_in,eP_in,hvl]|contradiction|rfl)
   all_goals exact AW.stop ⟨⟨i+1,by omega⟩,(Weak.t4 (by refine ⟨?_,?_,?_,?_⟩<;>simp -dsimp (disch:=try exact zo) only[go_sem,eS_in,eP_in,ZC])),by dsimp only;omega⟩
 ·have hil:i=l.length:=by omega
  subst hil
  rw[List.take_length]
  repeat' (first|refine zg ?_|(refine AW.cond rfl ?_ ?_<;>intro hc<;>first|simp only[NM]at hc|omega|skip)|refine zr ?_|refine ⟨by omega,?_⟩|(refine zb ?_ ?_<;>intro hg<;>(try rw[hg])<;>try simp only[NM]at hg)|omega|simp -dsimp (disch:=try exact zo) only[go_sem,hl]|contradiction|rfl)
set_option maxHeartbeats 40000000 in
theorem c214f (b:Pl) (vs:List Pt) (hn:vs.length≤268435456) (hcan:∀ v∈vs,CanP v) (hv:∀ v∈vs,BPt 1048576 v) (hb:BPl 1048576 b):CallFr Tryz.prog 214 [.sl (vs.map eP),.agg (eH b)] 8 ((partI (-1) b vs).map eP):=by
 refine CallFr.flat Tryz.func214 rfl 60 rfl rfl (eP_flat _) [.tmp 4] (congrArg Array.toList Tryz.results214) ?_
 simp only[startT,Nat.reduceAdd]
 have hml:maxLen=9223372036854775807:=rfl
 have hl:(vs.map eP).length=vs.length:=List.length_map _
 repeat' (first|refine zg ?_|(refine AW.cond rfl ?_ ?_<;>intro hc<;>first|simp only[NM]at hc|omega|skip)|refine zr ?_|refine ⟨by omega,?_⟩|(refine zb ?_ ?_<;>intro hg<;>(try rw[hg])<;>try simp only[NM]at hg)|omega|simp -dsimp (disch:=try exact zo) only[go_sem,hl]|contradiction|rfl)
 refine AW.loop (fun z:{i:Nat // i≤vs.length}=>⟨[(6,.lit (.int .i64 z.1)),(5,.ref 10 0 (partT (-1) b vs z.1).length (partT (-1) b vs z.1).length),(3,.loc 8 0),(0,.sl (vs.map eP))],[(8,.blk (eH b)),(10,.vec 8 ((partT (-1) b vs z.1).map eP))],60⟩) (fun z=>vs.length - z.1) ⟨0,Nat.zero_le _⟩ (Weak.t4 (by refine ⟨?_,?_,?_,?_⟩<;>simp -dsimp (disch:=try exact zo) only[go_sem,partT_zero,eP_in,List.map_nil,List.length_nil,ZC])) ?_
 rintro ⟨i,hi⟩
 dsimp only
 by_cases hlt:i<vs.length
 ·have hmod:(i+1) % vs.length<vs.length:=Nat.mod_lt _ (by omega)
  have hm:((i:Int)+1) % (vs.length:Int)=(((i+1) % vs.length:Nat):Int):=by rw[Int.natCast_emod,Int.natCast_add];rfl
  have ea:=eP_getD vs i hlt
  have ea2:=eP_getD vs _ hmod
  have hW:=partT_succ (-1) b vs i hlt
  have hWn:=partT_length (-1) b vs i
  have ha:=hv _ (List.getElem_mem hlt)
  have ha2:=hv _ (List.getElem_mem hmod)
  have haw:=hcan _ (List.getElem_mem hlt)
  have ha2w:=hcan _ (List.getElem_mem hmod)
  generalize vs[i]=a at *
  generalize vs[(i+1) % vs.length]=a2 at *
  generalize partT (-1) b vs i=W at *
  simp only[eP,e4]at ea ea2
  have hs1:sideP b a≤0↔sideP b a≠1:=by have:=sg_range (abv b a);unfold sideP;omega
  have ca:=c50 b a (hb.mono (by decide)) (ha.mono (by decide))
  have cb:=c50 b a2 (hb.mono (by decide)) (ha2.mono (by decide))
  clear hv hcan
  by_cases q2:sideP b a≤0
  ·by_cases q3:sideP b a*sideP b a2<0
   ·skip
    have k2:(sideP b a≤0)=True:=eq_true q2
    have k3:(sideP b a*sideP b a2<0)=True:=eq_true q3
    have hpc:pc (-1) b a a2=[a,meetP b a a2]:=by unfold pc;rw[Int.neg_neg,if_pos (hs1.1 q2),if_pos q3];rfl
    rw[hpc]at hW
    have hWl:(partT (-1) b vs (i+1)).length=W.length+1+1:=by rw[hW];simp
    have hWm:(partT (-1) b vs (i+1)).map eP=W.map eP++[eP (a),eP (meetP b a a2)]:=by rw[hW];simp
    have cm:=c247 b a a2 hb haw ha2w ha ha2 q3
    clear hW hpc hs1 ha ha2 haw ha2w
    repeat' (first|refine zg ?_|(refine AW.cond rfl ?_ ?_<;>intro hc<;>first|simp only[NM]at hc|omega|skip)|refine zr ?_|(first|refine callV.flat _ yfn_50 ca rfl rfl ?_|refine callV.flat _ yfn_50 cb rfl rfl ?_)|(refine callV.flat _ yfn_247 cm rfl rfl ?_)|refine ⟨by omega,?_⟩|(refine zb ?_ ?_<;>intro hg<;>(try rw[hg])<;>try simp only[NM]at hg)|omega|simp -dsimp (disch:=try exact zo) only[go_sem,hl,ea,ea2,k2,k3,hm,zl,side_mul,ZT,List.map_append,eP_in]|contradiction|rfl)
    all_goals exact AW.stop ⟨⟨i+1,by omega⟩,(Weak.t4 (by refine ⟨?_,?_,?_,?_⟩<;>first|(simp -dsimp (disch:=try exact zo) only[go_sem,hWl,hWm,zl,ZC];done)|(simp -dsimp (disch:=try exact zo) only[go_sem,eP_in,hWl,ZC];done))),by dsimp only;omega⟩
   ·skip
    have k2:(sideP b a≤0)=True:=eq_true q2
    have k3:(sideP b a*sideP b a2<0)=False:=eq_false q3
    have hpc:pc (-1) b a a2=[a]:=by unfold pc;rw[Int.neg_neg,if_pos (hs1.1 q2),if_neg q3];rfl
    rw[hpc]at hW
    have hWl:(partT (-1) b vs (i+1)).length=W.length+1:=by rw[hW];simp
    have hWm:(partT (-1) b vs (i+1)).map eP=W.map eP++[eP (a)]:=by rw[hW];simp
    have cm:True:=trivial
    clear hW hpc hs1 ha ha2 haw ha2w
    repeat' (first|refine zg ?_|(refine AW.cond rfl ?_ ?_<;>intro hc<;>first|simp only[NM]at hc|omega|skip)|refine zr ?_|(first|refine callV.flat _ yfn_50 ca rfl rfl ?_|refine callV.flat _ yfn_50 cb rfl rfl ?_)|(refine callV.flat _ yfn_247 cm rfl rfl ?_)|refine ⟨by omega,?_⟩|(refine zb ?_ ?_<;>intro hg<;>(try rw[hg])<;>try simp only[NM]at hg)|omega|simp -dsimp (disch:=try exact zo) only[go_sem,hl,ea,ea2,k2,k3,hm,zl,side_mul,ZT,List.map_append,eP_in]|contradiction|rfl)
    all_goals exact AW.stop ⟨⟨i+1,by omega⟩,(Weak.t4 (by refine ⟨?_,?_,?_,?_⟩<;>first|(simp -dsimp (disch:=try exact zo) only[go_sem,hWl,hWm,zl,ZC];done)|(simp -dsimp (disch:=try exact zo) only[go_sem,eP_in,hWl,ZC];done))),by dsimp only;omega⟩
  ·by_cases q3:sideP b a*sideP b a2<0
   ·skip
    have k2:(sideP b a≤0)=False:=eq_false q2
    have k3:(sideP b a*sideP b a2<0)=True:=eq_true q3
    have hpc:pc (-1) b a a2=[meetP b a a2]:=by unfold pc;rw[Int.neg_neg,if_neg (fun h=>q2 (hs1.2 h)),if_pos q3];rfl
    rw[hpc]at hW
    have hWl:(partT (-1) b vs (i+1)).length=W.length+1:=by rw[hW];simp
    have hWm:(partT (-1) b vs (i+1)).map eP=W.map eP++[eP (meetP b a a2)]:=by rw[hW];simp
    have cm:=c247 b a a2 hb haw ha2w ha ha2 q3
    clear hW hpc hs1 ha ha2 haw ha2w
    repeat' (first|refine zg ?_|(refine AW.cond rfl ?_ ?_<;>intro hc<;>first|simp only[NM]at hc|omega|skip)|refine zr ?_|(first|refine callV.flat _ yfn_50 ca rfl rfl ?_|refine callV.flat _ yfn_50 cb rfl rfl ?_)|(refine callV.flat _ yfn_247 cm rfl rfl ?_)|refine ⟨by omega,?_⟩|(refine zb ?_ ?_<;>intro hg<;>(try rw[hg])<;>try simp only[NM]at hg)|omega|simp -dsimp (disch:=try exact zo) only[go_sem,hl,ea,ea2,k2,k3,hm,zl,side_mul,ZT,List.map_append,eP_in]|contradiction|rfl)
    all_goals exact AW.stop ⟨⟨i+1,by omega⟩,(Weak.t4 (by refine ⟨?_,?_,?_,?_⟩<;>first|(simp -dsimp (disch:=try exact zo) only[go_sem,hWl,hWm,zl,ZC];done)|(simp -dsimp (disch:=try exact zo) only[go_sem,eP_in,hWl,ZC];done))),by dsimp only;omega⟩
   ·skip
    have k2:(sideP b a≤0)=False:=eq_false q2
    have k3:(sideP b a*sideP b a2<0)=False:=eq_false q3
    have hpc:pc (-1) b a a2=[]:=by unfold pc;rw[Int.neg_neg,if_neg (fun h=>q2 (hs1.2 h)),if_neg q3];rfl
    rw[hpc]at hW
    have hWl:(partT (-1) b vs (i+1)).length=W.length:=by rw[hW];simp
    have hWm:(partT (-1) b vs (i+1)).map eP=W.map eP:=by rw[hW];simp
    have cm:True:=trivial
    clear hW hpc hs1 ha ha2 haw ha2w
    repeat' (first|refine zg ?_|(refine AW.cond rfl ?_ ?_<;>intro hc<;>first|simp only[NM]at hc|omega|skip)|refine zr ?_|(first|refine callV.flat _ yfn_50 ca rfl rfl ?_|refine callV.flat _ yfn_50 cb rfl rfl ?_)|(refine callV.flat _ yfn_247 cm rfl rfl ?_)|refine ⟨by omega,?_⟩|(refine zb ?_ ?_<;>intro hg<;>(try rw[hg])<;>try simp only[NM]at hg)|omega|simp -dsimp (disch:=try exact zo) only[go_sem,hl,ea,ea2,k2,k3,hm,zl,side_mul,ZT,List.map_append,eP_in]|contradiction|rfl)
    all_goals exact AW.stop ⟨⟨i+1,by omega⟩,(Weak.t4 (by refine ⟨?_,?_,?_,?_⟩<;>first|(simp -dsimp (disch:=try exact zo) only[go_sem,hWl,hWm,zl,ZC];done)|(simp -dsimp (disch:=try exact zo) only[go_sem,eP_in,hWl,ZC];done))),by dsimp only;omega⟩
 ·have hil:i=vs.length:=by omega
  subst hil
  rw[partT_all]
  have hfin:True:=trivial
  repeat' (first|refine zg ?_|(refine AW.cond rfl ?_ ?_<;>intro hc<;>first|simp only[NM]at hc|omega|skip)|(refine AW.ret (RetF.of ?_);simp -dsimp (disch:=try exact zo) only[go_sem,hl,zl,hfin]<;>try (exact ⟨_,rfl,rfl⟩))|refine ⟨by omega,?_⟩|(refine zb ?_ ?_<;>intro hg<;>(try rw[hg])<;>try simp only[NM]at hg)|omega|simp -dsimp (disch:=try exact zo) only[go_sem,hl,zl,hfin]|contradiction)
theorem c214 (b:Pl) (vs:List Pt) (hn:vs.length≤268435456) (hcan:∀ v∈vs,CanP v) (hv:∀ v∈vs,BPt 1048576 v) (hb:BPl 1048576 b):CallOK Tryz.prog 214 [.sl (vs.map eP),.agg (eH b)] [] (.sl ((partI (-1) b vs).map eP)) []:=(c214f b vs hn hcan hv hb).ok
theorem onB_succ (l:PCell) (x:Pt) (i:Nat) (h:i<l.length):onB (l.take (i+1)) x=(onB (l.take i) x||decide (sideP l[i].1 x=0)):=by
 unfold onB
 rw[List.take_succ_eq_append_getElem h,List.any_append]
 simp
theorem outB_succ (l:PCell) (x:Pt) (i:Nat) (h:i<l.length):outB (l.take (i+1)) x=(outB (l.take i) x||decide (0<sideP l[i].1 x)):=by
 unfold outB
 rw[List.take_succ_eq_append_getElem h,List.any_append]
 simp
set_option maxHeartbeats 16000000 in
theorem c31 (l:PCell) (x:Pt) (hn:l.length≤1048576) (hp:∀ s∈l,BPl 268435456 s.1) (hx:BPt 268435456 x):CallOK Tryz.prog 31 [.agg [.sl (eS l)],.agg (eP x)] [] (.lit (.int .i64 (clsP l x))) []:=by
 refine CallOK.flat Tryz.func31 rfl 32 rfl rfl rfl [.tmp 4] (congrArg Array.toList Tryz.results31) ?_
 simp only[startT,Nat.reduceAdd]
 have hml:maxLen=9223372036854775807:=rfl
 have hl:(eS l).length=l.length:=List.length_map _
 by_cases h0:l=[]
 ·have k0:((l.length:Int)=0)=True:=eq_true (by rw[h0];rfl)
  have hr:clsP l x=-1:=if_pos (.inl h0)
  rw[hr]
  clear hp h0
  simp only[eP,e4]
  repeat' (first|refine zg ?_|(refine AW.cond rfl ?_ ?_<;>intro hc<;>first|simp only[NM]at hc|omega|skip)|refine zr ?_|refine ⟨by omega,?_⟩|(refine zb ?_ ?_<;>intro hg<;>(try rw[hg])<;>try simp only[NM]at hg)|omega|simp -dsimp (disch:=try exact zo) only[go_sem,hl,k0]|contradiction|rfl)
 ·have k0:((l.length:Int)=0)=False:=eq_false (by have:=List.length_pos_iff.2 h0;omega)
  have hz:onB [] x=false:=rfl
  have hcl:∀ i,i<l.length→∀ h:i<l.length,0<sideP l[i].1 x→clsP l x=-1:=fun i _ h hs=>if_pos (.inr (List.any_eq_true.2 ⟨l[i],List.getElem_mem h,decide_eq_true hs⟩))
  have hce:outB l x=false→clsP l x=if onB l x=true then 0 else 1:=fun ho=>by unfold clsP;rw[if_neg (by rw[ho];simp[h0])]
  generalize clsP l x=R at *
  repeat' (first|refine zg ?_|(refine AW.cond rfl ?_ ?_<;>intro hc<;>first|simp only[NM]at hc|omega|skip)|refine zr ?_|refine ⟨by omega,?_⟩|(refine zb ?_ ?_<;>intro hg<;>(try rw[hg])<;>try simp only[NM]at hg)|omega|simp -dsimp (disch:=try exact zo) only[go_sem,hl,k0]|contradiction|rfl)
  refine AW.loop (fun z:{i:Nat // i≤l.length∧outB (l.take i) x=false}=>⟨[(6,.lit (.int .i64 z.1)),(5,.lit (.int .i64 (if onB (l.take z.1) x=true then 0 else 1))),(2,.loc 8 0),(3,.loc 9 0)],[(8,.blk [.sl (eS l)]),(9,.blk (eP x))],60⟩) (fun z=>l.length - z.1) ⟨0,Nat.zero_le _,rfl⟩ (Weak.t4 (by refine ⟨?_,?_,?_,?_⟩<;>simp -dsimp (disch:=try exact zo) only[go_sem,eS_in,eP_in,List.take_zero,hz,ZC])) ?_
  rintro ⟨i,hi,ho⟩
  dsimp only
  by_cases hlt:i<l.length
  ·have es1:=eS_getD l i hlt
   have hst0:=onB_succ l x i hlt
   have ho2:=outB_succ l x i hlt
   rw[ho,Bool.false_or]at ho2
   have hr:=hcl i hlt hlt
   have cs:=c50 l[i].1 x (hp _ (List.getElem_mem hlt)) hx
   clear hcl hce hp k0 h0
   generalize l[i]=s at *
   obtain ⟨sp,svs⟩:=s
   dsimp only at hst0 ho2 hr cs es1
   generalize onB (l.take i) x=oo at *
   simp only[eG]at es1
   generalize sideP sp x=sv at *
   by_cases q1:0<sv
   ·have k1:=eq_true q1
    have k2:True:=trivial
    rw[hr q1]
    clear hr hst0 ho2 ho
    repeat' (first|refine zg ?_|(refine AW.cond rfl ?_ ?_<;>intro hc<;>first|simp only[NM]at hc|omega|skip)|refine zr ?_|(refine callV.flat _ yfn_50 cs rfl rfl ?_)|refine ⟨by omega,?_⟩|(refine zb ?_ ?_<;>intro hg<;>(try rw[hg])<;>try simp only[NM]at hg)|omega|simp -dsimp (disch:=try exact zo) only[go_sem,hl,es1,k1,k2,ZT,zl,eS_in,eP_in]|contradiction|rfl)
   ·have k1:=eq_false q1
    have ho3:outB (l.take (i+1)) x=false:=by rw[ho2];exact decide_eq_false q1
    clear hr ho2 ho
    by_cases q2:sv=0
    ·have k2:=eq_true q2
     have hst:(if onB (l.take (i+1)) x=true then (0:Int)else 1)=0:=by rw[hst0,decide_eq_true q2,Bool.or_true];rfl
     clear hst0
     replace ho3:=Hid.mk ho3
     repeat' (first|refine zg ?_|(refine AW.cond rfl ?_ ?_<;>intro hc<;>first|simp only[NM]at hc|omega|skip)|refine zr ?_|(refine callV.flat _ yfn_50 cs rfl rfl ?_)|refine ⟨by omega,?_⟩|(refine zb ?_ ?_<;>intro hg<;>(try rw[hg])<;>try simp only[NM]at hg)|omega|simp -dsimp (disch:=try exact zo) only[go_sem,hl,es1,k1,k2,ZT,zl,eS_in,eP_in]|contradiction|rfl)
     all_goals exact AW.stop ⟨⟨i+1,by omega,ho3.out⟩,(Weak.t4 (by refine ⟨?_,?_,?_,?_⟩<;>simp -dsimp (disch:=try exact zo) only[go_sem,eS_in,eP_in,hst,ZC])),by dsimp only;omega⟩
    ·have k2:=eq_false q2
     have hst:(if onB (l.take (i+1)) x=true then (0:Int)else 1)=(if oo=true then (0:Int)else 1):=by rw[hst0,decide_eq_false q2,Bool.or_false]
     clear hst0
     replace ho3:=Hid.mk ho3
     repeat' (first|refine zg ?_|(refine AW.cond rfl ?_ ?_<;>intro hc<;>first|simp only[NM]at hc|omega|skip)|refine zr ?_|(refine callV.flat _ yfn_50 cs rfl rfl ?_)|refine ⟨by omega,?_⟩|(refine zb ?_ ?_<;>intro hg<;>(try rw[hg])<;>try simp only[NM]at hg)|omega|simp -dsimp (disch:=try exact zo) only[go_sem,hl,es1,k1,k2,ZT,zl,eS_in,eP_in]|contradiction|rfl)
     all_goals exact AW.stop ⟨⟨i+1,by omega,ho3.out⟩,(Weak.t4 (by refine ⟨?_,?_,?_,?_⟩<;>simp -dsimp (disch:=try exact zo) only[go_sem,eS_in,eP_in,hst,ZC])),by dsimp only;omega⟩
  ·have hil:i=l.length:=by omega
   subst hil
   rw[List.take_length]at ho ⊢
   rw[hce ho]
   clear hcl hce hp ho
   repeat' (first|refine zg ?_|(refine AW.cond rfl ?_ ?_<;>intro hc<;>first|simp only[NM]at hc|omega|skip)|refine zr ?_|refine ⟨by omega,?_⟩|(refine zb ?_ ?_<;>intro hg<;>(try rw[hg])<;>try simp only[NM]at hg)|omega|simp -dsimp (disch:=try exact zo) only[go_sem,hl]|contradiction|rfl)
end Go.Proofs.Vx
namespace Go.Proofs.Vx
open Go Go.Sx Go.Proofs
attribute [local irreducible] fnT CallOK CallFr AW effV callV runP runO oneP oneO gcaseP hid
theorem yfn_163:fnT Tryz.prog 163=true:=by kernel_rfl
theorem bhR_succ (b:Pl) (l:PCell) (i:Nat) (h:i<l.length):bhR b (l.take (i+1))=bhR b (l.take i)++(if 3≤(partI (-1) b l[i].2).length then [(l[i].1,partI (-1) b l[i].2)]else []):=by
 unfold bhR
 rw[List.take_succ_eq_append_getElem h,List.filterMap_append]
 congr 1
 rw[List.filterMap_cons,List.filterMap_nil]
 split<;>rename_i q<;>split at q<;>simp_all
theorem bhR_len (b:Pl) (l:PCell):(bhR b l).length≤l.length:=List.length_filterMap_le _ _
def onL (b:Pl) (es:List (Pt × Pt)):List (Pt × Pt):=es.filter (onE b)
theorem onL_app (b:Pl) (a c:List (Pt × Pt)):onL b (a++c)=onL b a++onL b c:=List.filter_append _ _
theorem esP_app (l m:PCell):esP (l++m)=esP l++esP m:=List.flatMap_append
theorem esP_one (p:Pl) (vs:List Pt):esP [(p,vs)]=Geo.edges vs:=by unfold esP;simp
theorem edges_take {α:Type} (vs:List α) (k:Nat) (h:k<vs.length):(Geo.edges vs).take (k+1)=(Geo.edges vs).take k++[(vs[k],vs[(k+1) % vs.length]'(Nat.mod_lt _ (by omega)))]:=by
 have hl:k<(Geo.edges vs).length:=by rw[Geo.edges_length];exact h
 rw[List.take_succ_eq_append_getElem hl,edges_get vs k h hl]
theorem onL_one (b:Pl) (x y:Pt):onL b [(x,y)]=if sideP b x=0∧sideP b y=0 then [(x,y)]else []:=by
 unfold onL onE
 by_cases h:sideP b x=0∧sideP b y=0<;>simp[h]
def mE (b:Pl) (H:List (Pt × Pt)) (P:List Pt) (k:Nat):List (Pt × Pt):=H++onL b ((Geo.edges P).take k)
theorem mE_zero (b:Pl) (H:List (Pt × Pt)) (P:List Pt):mE b H P 0=H:=List.append_nil _
theorem mE_all (b:Pl) (H:List (Pt × Pt)) (P:List Pt):mE b H P P.length=H++onL b (Geo.edges P):=by unfold mE;rw[List.take_of_length_le (by rw[Geo.edges_length];exact Nat.le_refl _)]
theorem onL_len (b:Pl) (es:List (Pt × Pt)):(onL b es).length≤es.length:=List.length_filter_le _ _
theorem pt_ext {p q:Pt} (h:p.x=q.x∧p.y=q.y∧p.z=q.z∧p.w=q.w):p=q:=by
 obtain ⟨h1,h2,h3,h4⟩:=h
 cases p;cases q
 simp only at h1 h2 h3 h4
 subst h1 h2 h3 h4;rfl
theorem esP_len {l:PCell} {M:Nat} (h:∀ s∈l,s.2.length≤M):(esP l).length≤l.length*M:=by
 induction l with
 | nil=>simp[esP]
 | cons s l ih =>
  have h1:=ih fun t ht=>h t (by simp[ht])
  have h2:=h s (by simp)
  have e:(esP (s::l)).length=s.2.length+(esP l).length:=by unfold esP;rw[List.flatMap_cons,List.length_append,Geo.edges_length]
  rw[e,List.length_cons,Nat.succ_mul]
  omega
theorem bhR_M {b:Pl} {l:PCell} {M:Nat} (h:∀ s∈l,s.2.length≤M):∀ s∈bhR b l,s.2.length≤2*M:=by
 intro s hs
 obtain ⟨t,ht,e⟩:=List.mem_filterMap.1 hs
 split at e
 ·obtain rfl:=Option.some.inj e
  have h1:=partI_len (-1) b t.2
  have h2:=h t ht
  show (partI (-1) b t.2).length≤_
  omega
 ·contradiction
set_option maxRecDepth 20000 in
set_option maxHeartbeats 40000000 in
theorem c163 (l:PCell) (b:Pl) (h:CellOK l) (hS:Geo.Spl (sds l) (tH b)) (hb:BPl 1048576 b) (hn:l.length≤4096) (hv:∀ s∈l,s.2.length≤65536∧∀ v∈s.2,BPt 1048576 v):CallOK Tryz.prog 163 [.agg [.sl (eS l)],.agg (eH b)] [] (.agg [.sl (eS (bcellR b l))]) []:=by
 refine CallOK.closed Tryz.func163 rfl 131 rfl rfl (inCell _) [.cell 4 33] (congrArg Array.toList Tryz.results163) ?_
 simp only[startT,Nat.reduceAdd]
 have hml:maxLen=9223372036854775807:=rfl
 have hl:(eS l).length=l.length:=List.length_map _
 have hz1:bhR b []=[]:=rfl
 have hz2:onL b []=[]:=rfl
 have hz3:esP []=[]:=rfl
 have hEn:∀ i,(onL b (esP (bhR b (l.take i)))).length≤536870912:=fun i=>by
  have h1:=onL_len b (esP (bhR b (l.take i)))
  have h2:=esP_len (bhR_M (b:=b) (l:=l.take i) (M:=65536) fun s hs=>(hv s (List.mem_of_mem_take hs)).1)
  have h3:=bhR_len b (l.take i)
  rw[List.length_take]at h3
  have h4:(bhR b (l.take i)).length*(2*65536)≤4096*(2*65536):=Nat.mul_le_mul_right _ (by omega)
  omega
 repeat' (first|refine zg ?_|(refine AW.cond rfl ?_ ?_<;>intro hc<;>first|simp only[NM]at hc|omega|skip)|refine zr ?_|refine ⟨by omega,?_⟩|(refine zb ?_ ?_<;>intro hg<;>(try rw[hg])<;>try simp only[NM]at hg)|omega|simp -dsimp (disch:=try exact zo) only[go_sem,hl]|contradiction|rfl)
 refine AW.weak (Weak.nilB 12 0 9 _ (by decide) rfl (by simp) rfl (by simp)) ?_
 refine AW.loop (fun z:{i:Nat // i≤l.length}=>⟨[(8,.lit (.int .i64 z.1)),(6,.ref 14 0 (onL b (esP (bhR b (l.take z.1)))).length (onL b (esP (bhR b (l.take z.1)))).length),(7,.ref 15 0 (onL b (esP (bhR b (l.take z.1)))).length (onL b (esP (bhR b (l.take z.1)))).length),(2,.loc 8 0),(3,.loc 9 0),(4,.loc 10 0),(5,.loc 12 0)],[(12,.blk [.ref 19 0 (bhR b (l.take z.1)).length (bhR b (l.take z.1)).length]),(19,.vec 9 (eS (bhR b (l.take z.1)))),(14,.vec 8 (((onL b (esP (bhR b (l.take z.1)))).map (·.2)).map eP)),(15,.vec 8 (((onL b (esP (bhR b (l.take z.1)))).map (·.1)).map eP)),(8,.blk [.sl (eS l)]),(9,.blk (eH b)),(10,.blk [.lit (.slice none 0 0)])],60⟩) (fun z=>l.length - z.1) ⟨0,Nat.zero_le _⟩ (Weak.t4 (by refine ⟨?_,?_,?_,?_⟩<;>simp -dsimp (disch:=try exact zo) only[go_sem,eS_in,eP_in,List.take_zero,hz1,hz2,hz3,List.map_nil,List.length_nil,ZC])) ?_
 rintro ⟨i,hi⟩
 dsimp only
 by_cases hlt:i<l.length
 ·have es1:=eS_getD l i hlt
  have hst0:=bhR_succ b l i hlt
  obtain ⟨hvn,hvb⟩:=hv _ (List.getElem_mem hlt)
  have hcan:=h.can _ (List.getElem_mem hlt)
  have hBn:=bhR_len b (l.take i)
  rw[List.length_take]at hBn
  have hHn:=hEn i
  clear h hS hv hEn
  generalize l[i]=sd at *
  obtain ⟨sp,svs⟩:=sd
  dsimp only at es1 hst0 hvn hvb hcan
  have cc:=c214 b svs (by omega) hcan hvb hb
  have hPn:=partI_len (-1) b svs
  have hPb:=partI_bs (h:=-1) hb hvb
  generalize partI (-1) b svs=P at *
  generalize bhR b (l.take i)=B at *
  have hBl:(eS B).length=B.length:=List.length_map _
  have hBl2:(B++[(sp,P)]).length=B.length+1:=by simp
  have hBm:eS (B++[(sp,P)])=eS B++[eG sp P]:=by rw[eS_app];rfl
  have hPl:(P.map eP).length=P.length:=List.length_map _
  have hfH0:onL b (esP (B++[(sp,P)]))=onL b (esP B)++onL b (Geo.edges P):=by rw[esP_app,esP_one,onL_app]
  generalize hHe:onL b (esP B)=H at *
  simp only[eG]at es1
  have hHa:((H.map (·.2)).map eP).length=H.length:=by rw[List.length_map,List.length_map]
  have hHb:((H.map (·.1)).map eP).length=H.length:=by rw[List.length_map,List.length_map]
  clear hcan hvb
  by_cases h3:3≤P.length
  ·have k0:((P.length:Int)<3)=False:=eq_false (by omega)
   rw[if_pos h3]at hst0
   repeat' (first|refine zg ?_|(refine AW.cond rfl ?_ ?_<;>intro hc<;>first|simp only[NM]at hc|omega|skip)|refine zr ?_|(refine callV.plain _ yfn_214 cc (by simp -dsimp (disch:=try exact zo) only[go_sem,eP_in]) (by rw[In_sl,eP_in];trivial) ?_)|refine ⟨by omega,?_⟩|(refine zb ?_ ?_<;>intro hg<;>(try rw[hg])<;>try simp only[NM]at hg)|omega|simp -dsimp (disch:=try exact zo) only[go_sem,hl,es1,ZT,zl,eS_in,eP_in,k0,hBl,hBm]|contradiction|rfl)
   refine AW.loop (fun z:{k:Nat // k≤P.length}=>⟨[(10,.lit (.int .i64 z.1)),(9,.sl (P.map eP)),(8,.lit (.int .i64 i)),(6,.ref 14 0 (mE b H P z.1).length (mE b H P z.1).length),(7,.ref 15 0 (mE b H P z.1).length (mE b H P z.1).length),(2,.loc 8 0),(3,.loc 9 0),(4,.loc 10 0),(5,.loc 12 0)],[(12,.blk [.ref 19 0 (B++[(sp,P)]).length (B++[(sp,P)]).length]),(19,.vec 9 (eS (B++[(sp,P)]))),(14,.vec 8 (((mE b H P z.1).map (·.2)).map eP)),(15,.vec 8 (((mE b H P z.1).map (·.1)).map eP)),(8,.blk [.sl (eS l)]),(9,.blk (eH b)),(10,.blk [.lit (.slice none 0 0)])],90⟩) (fun z=>P.length - z.1) ⟨0,Nat.zero_le _⟩ (Weak.t4 (by refine ⟨?_,?_,?_,?_⟩<;>first|(simp -dsimp (disch:=try exact zo) only[go_sem,mE_zero,hBl2,hBm,hBl,ZC];done)|(simp -dsimp (disch:=try exact zo) only[go_sem,eS_in,eP_in,mE_zero,Int.cast_ofNat_Int];done))) ?_
   rintro ⟨k,hk⟩
   dsimp only
   by_cases hkt:k<P.length
   ·have hmod:(k+1) % P.length<P.length:=Nat.mod_lt _ (by omega)
    have hm:((k:Int)+1) % (P.length:Int)=(((k+1) % P.length:Nat):Int):=by rw[Int.natCast_emod,Int.natCast_add];rfl
    have ea:=eP_getD P k hkt
    have ea2:=eP_getD P _ hmod
    have hst:mE b H P (k+1)=mE b H P k++(if sideP b P[k]=0∧sideP b P[(k+1) % P.length]=0 then [(P[k],P[(k+1) % P.length])]else []):=by
     unfold mE;rw[edges_take P k hkt,onL_app,onL_one,List.append_assoc]
    have ca:=c50 b P[k] (hb.mono (by decide)) ((hPb _ (List.getElem_mem hkt)).mono (by decide))
    have cb:=c50 b P[(k+1) % P.length] (hb.mono (by decide)) ((hPb _ (List.getElem_mem hmod)).mono (by decide))
    have hGn:(mE b H P k).length≤1073741824:=by
     unfold mE
     have h1:=onL_len b ((Geo.edges P).take k)
     rw[List.length_take]at h1
     rw[List.length_append]
     omega
    clear hPb hfH0 hHa hHb hHn
    generalize P[k]=x at *
    generalize P[(k+1) % P.length]=y at *
    generalize mE b H P k=G at *
    have hHa:((G.map (·.2)).map eP).length=G.length:=by rw[List.length_map,List.length_map]
    have hHb:((G.map (·.1)).map eP).length=G.length:=by rw[List.length_map,List.length_map]
    simp only[eP,e4]at ea ea2
    by_cases q1:sideP b x=0
    ·have k1:=eq_true q1
     by_cases q2:sideP b y=0
     ·have k2:=eq_true q2
      rw[if_pos ⟨q1,q2⟩]at hst
      have hHl:(mE b H P (k+1)).length=G.length+1:=by rw[hst];simp
      have hHx:((mE b H P (k+1)).map (·.2)).map eP=(G.map (·.2)).map eP++[eP y]:=by rw[hst];simp
      have hHy:((mE b H P (k+1)).map (·.1)).map eP=(G.map (·.1)).map eP++[eP x]:=by rw[hst];simp
      clear hst q1 q2
      repeat' (first|refine zg ?_|(refine AW.cond rfl ?_ ?_<;>intro hc<;>first|simp only[NM]at hc|omega|skip)|refine zr ?_|(first|refine callV.flat _ yfn_50 ca rfl rfl ?_|refine callV.flat _ yfn_50 cb rfl rfl ?_)|refine ⟨by omega,?_⟩|(refine zb ?_ ?_<;>intro hg<;>(try rw[hg])<;>try simp only[NM]at hg)|omega|simp -dsimp (disch:=try exact zo) only[go_sem,hPl,ea,ea2,hm,k1,k2,ZT,zl,hHa,hHb,eP_in]|contradiction|rfl)
      all_goals exact AW.stop ⟨⟨k+1,by omega⟩,(Weak.t4 (by refine ⟨?_,?_,?_,?_⟩<;>first|(simp -dsimp (disch:=try exact zo) only[go_sem,hHl,hHx,hHy,zl,ZC];done)|(simp -dsimp (disch:=try exact zo) only[go_sem,eS_in,eP_in,hHl,ZC];done))),by dsimp only;omega⟩
     ·have k2:=eq_false q2
      rw[if_neg (fun e=>q2 e.2),List.append_nil]at hst
      clear q1 q2
      repeat' (first|refine zg ?_|(refine AW.cond rfl ?_ ?_<;>intro hc<;>first|simp only[NM]at hc|omega|skip)|refine zr ?_|(first|refine callV.flat _ yfn_50 ca rfl rfl ?_|refine callV.flat _ yfn_50 cb rfl rfl ?_)|refine ⟨by omega,?_⟩|(refine zb ?_ ?_<;>intro hg<;>(try rw[hg])<;>try simp only[NM]at hg)|omega|simp -dsimp (disch:=try exact zo) only[go_sem,hPl,ea,ea2,hm,k1,k2,ZT,zl,hHa,hHb,eP_in]|contradiction|rfl)
      all_goals exact AW.stop ⟨⟨k+1,by omega⟩,(Weak.t4 (by refine ⟨?_,?_,?_,?_⟩<;>simp -dsimp (disch:=try exact zo) only[go_sem,eS_in,eP_in,hst,ZC])),by dsimp only;omega⟩
    ·have k1:=eq_false q1
     have k2:True:=trivial
     rw[if_neg (fun e=>q1 e.1),List.append_nil]at hst
     clear q1
     repeat' (first|refine zg ?_|(refine AW.cond rfl ?_ ?_<;>intro hc<;>first|simp only[NM]at hc|omega|skip)|refine zr ?_|(first|refine callV.flat _ yfn_50 ca rfl rfl ?_|refine callV.flat _ yfn_50 cb rfl rfl ?_)|refine ⟨by omega,?_⟩|(refine zb ?_ ?_<;>intro hg<;>(try rw[hg])<;>try simp only[NM]at hg)|omega|simp -dsimp (disch:=try exact zo) only[go_sem,hPl,ea,ea2,hm,k1,k2,ZT,zl,hHa,hHb,eP_in]|contradiction|rfl)
     all_goals exact AW.stop ⟨⟨k+1,by omega⟩,(Weak.t4 (by refine ⟨?_,?_,?_,?_⟩<;>simp -dsimp (disch:=try exact zo) only[go_sem,eS_in,eP_in,hst,ZC])),by dsimp only;omega⟩
   ·have hkl:k=P.length:=by omega
    subst hkl
    have hfB:bhR b (l.take (i+1))=B++[(sp,P)]:=hst0
    have hfH:onL b (esP (B++[(sp,P)]))=mE b H P P.length:=by rw[hfH0,mE_all]
    clear hPb hst0
    repeat' (first|refine zg ?_|(refine AW.cond rfl ?_ ?_<;>intro hc<;>first|simp only[NM]at hc|omega|skip)|refine zr ?_|refine ⟨by omega,?_⟩|(refine zb ?_ ?_<;>intro hg<;>(try rw[hg])<;>try simp only[NM]at hg)|omega|simp -dsimp (disch:=try exact zo) only[go_sem,hPl,zl]|contradiction|rfl)
    all_goals exact AW.stop ⟨⟨i+1,by omega⟩,(Weak.t4 (by refine ⟨?_,?_,?_,?_⟩<;>simp -dsimp (disch:=try exact zo) only[go_sem,eS_in,eP_in,hfH,hfB,ZC])),by dsimp only;omega⟩
  ·have k0:((P.length:Int)<3)=True:=eq_true (by omega)
   rw[if_neg h3,List.append_nil]at hst0
   have hst:=hst0
   clear hst0 hPb
   repeat' (first|refine zg ?_|(refine AW.cond rfl ?_ ?_<;>intro hc<;>first|simp only[NM]at hc|omega|skip)|refine zr ?_|(refine callV.plain _ yfn_214 cc (by simp -dsimp (disch:=try exact zo) only[go_sem,eP_in]) (by rw[In_sl,eP_in];trivial) ?_)|refine ⟨by omega,?_⟩|(refine zb ?_ ?_<;>intro hg<;>(try rw[hg])<;>try simp only[NM]at hg)|omega|simp -dsimp (disch:=try exact zo) only[go_sem,hl,es1,ZT,zl,eS_in,eP_in,k0,hBl,hBm]|contradiction|rfl)
   all_goals exact AW.stop ⟨⟨i+1,by omega⟩,(Weak.t4 (by refine ⟨?_,?_,?_,?_⟩<;>simp -dsimp (disch:=try exact zo) only[go_sem,eS_in,eP_in,hst,hHe,ZC])),by dsimp only;omega⟩
 ·have hil:i=l.length:=by omega
  subst hil
  rw[List.take_length]
  have hHn:=hEn l.length
  rw[List.take_length]at hHn
  rw[bhR_eq h hS]at hHn ⊢
  have C:=capF_of h hS
  have hbl:=bh_can (b:=b) h.toCanC
  have hBn:(bh b l).length≤l.length:=List.length_filterMap_le _ _
  have hcl:=C.cl
  have hnx:=C.nx
  have hne:=C.ne
  have hcap:capR b (bh b l)=runP' (nxP ((heP b l).map Geo.sw)) (heP b l).length (((heP b l).map (·.2)).headD P0):=rfl
  have hf0:=headD_mem (d:=P0) (show (heP b l).map (·.2)≠[] by simpa using hne)
  have hon:onL b (esP (bh b l))=heP b l:=rfl
  unfold bcellR
  rw[hon]at hHn ⊢
  rw[hcap]
  clear h hS hv hEn C hbl
  generalize nxP ((heP b l).map Geo.sw)=nx at *
  generalize heP b l=H at *
  generalize hfe:(H.map (·.2)).headD P0=f0 at *
  have ef0:((H.map (·.2)).map eP).getD 0 []=eP f0:=by
   cases H with
   | nil=>exact absurd rfl hne
   | cons e H=>rw[← hfe];rfl
  generalize bh b l=B at *
  have hBl:(eS B).length=B.length:=List.length_map _
  have hHa:((H.map (·.2)).map eP).length=H.length:=by rw[List.length_map,List.length_map]
  have hHb:((H.map (·.1)).map eP).length=H.length:=by rw[List.length_map,List.length_map]
  have hn0:0<H.length:=List.length_pos_iff.2 hne
  have k0:((H.length:Int)=0)=False:=eq_false (by omega)
  have hr1:runP' nx 1 f0=[f0]:=rfl
  simp only[eP,e4]at ef0
  repeat' (first|refine zg ?_|(refine AW.cond rfl ?_ ?_<;>intro hc<;>first|simp only[NM]at hc|omega|skip)|refine zr ?_|refine ⟨by omega,?_⟩|(refine zb ?_ ?_<;>intro hg<;>(try rw[hg])<;>try simp only[NM]at hg)|omega|simp -dsimp (disch:=try exact zo) only[go_sem,hHa,hHb,zl,k0,ef0,eP_in,hl]|contradiction|rfl)
  have hbB:eS (B++[(b,runP' nx H.length f0)])=eS B++[eG b (runP' nx H.length f0)]:=by rw[eS_app];rfl
  rw[hbB]
  clear hcap hon hfe ef0 hlt hi hb
  refine AW.loop (fun z:{j:Nat // 1≤j∧j≤H.length}=>⟨[(13,.ref 71 0 z.1 z.1),(6,.ref 14 0 (H).length (H).length),(7,.ref 15 0 (H).length (H).length),(2,.loc 8 0),(3,.loc 9 0),(4,.loc 10 0),(5,.loc 12 0)],[(71,.vec 8 ((runP' nx z.1 f0).map eP)),(12,.blk [.ref 19 0 (B).length (B).length]),(19,.vec 9 (eS (B))),(14,.vec 8 (((H).map (·.2)).map eP)),(15,.vec 8 (((H).map (·.1)).map eP)),(8,.blk [.sl (eS l)]),(9,.blk (eH b)),(10,.blk [.lit (.slice none 0 0)])],80⟩) (fun z=>H.length - z.1) ⟨1,Nat.le_refl _,hn0⟩ (Weak.t4 (by refine ⟨?_,?_,?_,?_⟩<;>simp -dsimp (disch:=try exact zo) only[go_sem,eP_in,eS_in,hr1,List.map_cons,List.map_nil,ZC])) ?_
  rintro ⟨j,hj1,hj⟩
  dsimp only
  have hRl:((runP' nx j f0).map eP).length=j:=by rw[List.length_map,runP'_length]
  by_cases hjt:j<H.length
  ·have hlm:itP nx (j - 1) f0∈H.map (·.2):=itP_mem hcl _ hf0
   have hRn:runP' nx (j+1) f0=runP' nx j f0++[nx (itP nx (j - 1) f0)]:=by
    have e1:=itP_succ nx (j - 1) f0
    rw[show j - 1+1=j by omega]at e1
    rw[runP'_succ,e1]
   have el:((runP' nx j f0).map eP).getD (j - 1) []=eP (itP nx (j - 1) f0):=by
    obtain ⟨q,rfl⟩:∃ q,j=q+1:=⟨j - 1,by omega⟩
    rw[runP'_succ,List.map_append,List.getD_eq_getElem?_getD,List.getElem?_append_right (by simp[runP'_length])]
    simp[runP'_length]
   have hj1':((j:Int) - 1).toNat=j - 1:=by omega
   generalize hRR:runP' nx j f0=R at *
   generalize itP nx (j - 1) f0=last at *
   simp only[eP,e4]at el
   clear hcl hf0 hbB
   repeat' (first|refine zg ?_|(refine AW.cond rfl ?_ ?_<;>intro hc<;>first|simp only[NM]at hc|omega|skip)|refine zr ?_|refine ⟨by omega,?_⟩|(refine zb ?_ ?_<;>intro hg<;>(try rw[hg])<;>try simp only[NM]at hg)|omega|simp -dsimp (disch:=try exact zo) only[go_sem,hHa,zl,hRl,k0]|contradiction|rfl)
   refine AW.loop (fun z:{i:Nat // i≤H.length∧∀ q,q<i→∀ h:q<H.length,H[q].2≠last}=>⟨[(14,.lit (.int .i64 z.1)),(13,.ref 71 0 j j),(6,.ref 14 0 (H).length (H).length),(7,.ref 15 0 (H).length (H).length),(2,.loc 8 0),(3,.loc 9 0),(4,.loc 10 0),(5,.loc 12 0)],[(71,.vec 8 (R.map eP)),(12,.blk [.ref 19 0 (B).length (B).length]),(19,.vec 9 (eS (B))),(14,.vec 8 (((H).map (·.2)).map eP)),(15,.vec 8 (((H).map (·.1)).map eP)),(8,.blk [.sl (eS l)]),(9,.blk (eH b)),(10,.blk [.lit (.slice none 0 0)])],100⟩) (fun z=>H.length - z.1) ⟨0,Nat.zero_le _,fun q hq=>by omega⟩ (Weak.t4 (by refine ⟨?_,?_,?_,?_⟩<;>simp -dsimp (disch:=try exact zo) only[go_sem,eP_in,eS_in,ZC])) ?_
   rintro ⟨i,hi,hbe⟩
   dsimp only
   by_cases hit:i<H.length
   ·have ea:((H.map (·.2)).map eP).getD i []=eP H[i].2:=by rw[eP_getD _ i (by simpa using hit),List.getElem_map]
    have et:((H.map (·.1)).map eP).getD i []=eP H[i].1:=by rw[eP_getD _ i (by simpa using hit),List.getElem_map]
    have hnxi:=hnx _ (List.getElem_mem hit)
    by_cases e:H[i].2=last
    ·have hRn2:runP' nx (j+1) f0=R++[H[i].1]:=by rw[hRn,← e,hnxi]
     have k1:(H[i].2.x=last.x∧H[i].2.y=last.y∧H[i].2.z=last.z∧H[i].2.w=last.w)=True:=eq_true (by rw[e];simp)
     have hRm:(runP' nx (j+1) f0).map eP=R.map eP++[eP H[i].1]:=by rw[hRn2];simp
     clear hbe hnx hnxi hRn hRn2 hlm e
     generalize H[i].2=u at *
     generalize H[i].1=w at *
     simp only[eP,e4]at ea et
     repeat' (first|refine zg ?_|(refine AW.cond rfl ?_ ?_<;>intro hc<;>first|simp only[NM]at hc|omega|skip)|refine zr ?_|refine ⟨by omega,?_⟩|(refine zb ?_ ?_<;>intro hg<;>(try rw[hg])<;>try simp only[NM]at hg)|omega|simp -dsimp (disch:=try exact zo) only[go_sem,hHa,hHb,hRl,zl,ea,el,et,hj1',k1,ZT,eP_in]|contradiction|rfl)
     all_goals exact AW.stop ⟨⟨j+1,by omega,by omega⟩,(Weak.t4 (by refine ⟨?_,?_,?_,?_⟩<;>first|(simp -dsimp (disch:=try exact zo) only[go_sem,hRm,hRl,zl,ZC];done)|(simp -dsimp (disch:=try exact zo) only[go_sem,eS_in,eP_in,ZC];done))),by dsimp only;omega⟩
    ·have k1:(H[i].2.x=last.x∧H[i].2.y=last.y∧H[i].2.z=last.z∧H[i].2.w=last.w)=False:=eq_false fun q=>e (pt_ext q)
     have hbe2:∀ q,q<i+1→∀ h:q<H.length,H[q].2≠last:=fun q hq h=>by
      by_cases q':q=i
      ·subst q';exact e
      ·exact hbe q (by omega) h
     clear hbe hnx hnxi hRn hlm e
     generalize H[i].2=u at *
     generalize H[i].1=w at *
     simp only[eP,e4]at ea et
     replace hbe2:=Hid.mk hbe2
     repeat' (first|refine zg ?_|(refine AW.cond rfl ?_ ?_<;>intro hc<;>first|simp only[NM]at hc|omega|skip)|refine zr ?_|refine ⟨by omega,?_⟩|(refine zb ?_ ?_<;>intro hg<;>(try rw[hg])<;>try simp only[NM]at hg)|omega|simp -dsimp (disch:=try exact zo) only[go_sem,hHa,hHb,hRl,zl,ea,el,et,hj1',k1,ZT,eP_in]|contradiction|rfl)
     all_goals exact AW.stop ⟨⟨i+1,by omega,hbe2.out⟩,(Weak.t4 (by refine ⟨?_,?_,?_,?_⟩<;>simp -dsimp (disch:=try exact zo) only[go_sem,eP_in,eS_in,ZC])),by dsimp only;omega⟩
   ·exfalso
    obtain ⟨e,he,q⟩:=List.mem_map.1 hlm
    obtain ⟨t,ht,rfl⟩:=List.mem_iff_getElem.1 he
    exact hbe t (by omega) ht q
  ·have hjl:j=H.length:=by omega
   subst hjl
   generalize runP' nx H.length f0=R at *
   refine AW.weak (Weak.freezeV 71 H.length 8 (R.map eP) (t:=[(13,.sl (R.map eP)),(6,.ref 14 0 (H).length (H).length),(7,.ref 15 0 (H).length (H).length),(2,.loc 8 0),(3,.loc 9 0),(4,.loc 10 0),(5,.loc 12 0)]) (o:=[(12,.blk [.ref 19 0 (B).length (B).length]),(19,.vec 9 (eS (B))),(14,.vec 8 (((H).map (·.2)).map eP)),(15,.vec 8 (((H).map (·.1)).map eP)),(8,.blk [.sl (eS l)]),(9,.blk (eH b)),(10,.blk [.lit (.slice none 0 0)])]) rfl hRl (by simp -dsimp (disch:=try exact zo) only[go_sem,and_self]) (by simp -dsimp (disch:=try exact zo) only[go_sem,and_self])) ?_
   clear hcl hnx hf0 hbB
   repeat' (first|refine zg ?_|(refine AW.cond rfl ?_ ?_<;>intro hc<;>first|simp only[NM]at hc|omega|skip)|refine zr ?_|refine ⟨by omega,?_⟩|(refine zb ?_ ?_<;>intro hg<;>(try rw[hg])<;>try simp only[NM]at hg)|omega|simp -dsimp (disch:=try exact zo) only[go_sem,hHa,hRl,zl,hBl,eP_in,List.take_of_length_le,Nat.zero_lt_succ]|contradiction|rfl)
end Go.Proofs.Vx
