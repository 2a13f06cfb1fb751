import Derived.Test.YtjlfgmhmalbiiaaGreatDoorW18
set_option linter.all false
set_option maxHeartbeats 40000000
open Array renaming toList → Ag
open Int renaming neg_neg → Ad, natCast_emod → Ak, natCast_add → Am
open List renaming map_append → Aa, getElem_mem → Ab, length_map → Ac, take_succ_eq_append_getElem → Ae, mem_cons → Ai, getElem_map → Al, length_nil → An, replicate → Ao, map_nil → Ap
open Nat renaming reduceAdd → Af, zero_le → Ah, mod_lt → Aj
namespace Go.Proofs.Vx
open Go Go.Sx Go.Proofs Tryz
attribute [local irreducible] fnT CallOK CallFr AW aI callV aL aJ aH aK gcaseP hid
theorem b8w:agT prog 159=some false∧agT prog 45=some false∧agT prog 58=some true∧arT prog 159=none∧arT prog 45=none∧byT prog 51=some 96∧fdT prog 58 0=some (0,8,true)∧fdT prog 58 1=some (8,1,false)∧plT prog 58=some [(0,8),(8,1)]∧slT prog 159=some (3,1)∧slT prog 45=some (51,8)∧bH prog 45=false∧szT prog 159=some 1∧szT prog 3=some 1∧szT prog 45=some 1∧szT prog 58=some 9∧zeT prog 58=some [.lit (.bool false),.lit (.string ⟨#[]⟩),.lit (.bool false),.lit (.string ⟨#[]⟩),.lit (.bool false),.lit (.string ⟨#[]⟩),.lit (.bool false),.lit (.string ⟨#[]⟩),.lit (.slice none 0 0)]:=by and_intros<;>kernel_rfl
attribute [go_sem] b8w
theorem fU (p:Pl) (vs:List Pt) (i:Nat) (hi:i<vs.length) (hn:vs.length≤268435456):CallOK prog 140 [.agg (eG p vs),.lit (.int .i64 i)] [] (.lit (.int .i64 (((i+1) % vs.length:Nat):Int))) []:=by
 refine fV func140 rfl 11 rfl rfl (by simp -dsimp (disch:=try exact zo)only[go_sem]) [.tmp 4] (congrArg Ag results140) ?_
 simp only[aD,Af]
 have h0:(0:Int)≤(i:Int)+1:=by omega
 have hm:((i:Int)+1) % (vs.length:Int)=(((i+1) % vs.length:Nat):Int):=by rw[Ak,Am];rfl
 have hl:(vs.map eP).length=vs.length:=Ac _
 exact z1
theorem wJ {c:Bool} (p:Pl) (vs:List Pt) (h:True):FlatS (if c then .agg (eG p vs)else .agg eG0):=by
 split
 ·intro c hc
  simp only[zM,or_false]at hc
  rcases hc with rfl|rfl|rfl|rfl|rfl|rfl|rfl|rfl|rfl<;>first|exact .inl (.lit _)|exact .inr ⟨_,rfl,oF vs⟩
 ·intro c hc
  simp only[zM,or_false]at hc
  rcases hc with rfl|rfl|rfl|rfl|rfl|rfl|rfl|rfl|rfl<;>exact .inl (.lit _)
theorem c139a (p b:Pl) (vs:List Pt) (hn:vs.length≤268435456) (hcan:∀ v∈vs,CanP v) (hv:∀ v∈vs,BPt 1073741824 v) (hb:BPl 1073741824 b):CallNw prog 139 [.lit (.int .i64 (-1)),.fp (eG p vs),.fp [.sl (aG .i64 (vs.map (aB b)))],.fp (eH b)] (if bF (-1) b vs vs.length then .agg (eG p (bC (-1) b vs))else .agg eG0):=by
 refine CallNw.flat func139 rfl 82 rfl rfl (wJ _ _ trivial) [.cell 5 58] (congrArg Ag results139) ?_
 simp only[aD,Af]
 have hl:(vs.map eP).length=vs.length:=Ac _
 have hl2:(aG .i64 (vs.map (aB b))).length=vs.length:=by rw[bT,Ac]
 repeat'(first|refine zk ?_|(refine zu ?_ ?_<;>intro hc)|(refine zv ?_ ?_<;>intro hg)|omega|simp -dsimp (disch:=try exact zo)only[go_sem,hl]|contradiction|rfl)
 refine AW.loop (fun z:{i:Nat // i≤vs.length}=>⟨[(19,.lit (.int .i64 z.1)),(18,.lit (.int .i64 vs.length)),(17,.sl (vs.map eP)),(7,.lit (.bool (bF (-1) b vs z.1))),(6,.loc 12 0),(5,.loc 8 0),(3,.fp (eH b)),(2,.fp [.sl (aG .i64 (vs.map (aB b)))]),(1,.fp (eG p vs)),(0,.lit (.int .i64 (-1)))],[(12,.blk [.lit (.bool (Zn p.a)),.lit (.string (Zm p.a)),.lit (.bool (Zn p.b)),.lit (.string (Zm p.b)),.lit (.bool (Zn p.c)),.lit (.string (Zm p.c)),.lit (.bool (Zn p.d)),.lit (.string (Zm p.d)),.ref 19 0 (aT (-1) b vs z.1).length (aT (-1) b vs z.1).length]),(19,.vec 8 ((aT (-1) b vs z.1).map eP)),(8,.blk eG0)],60⟩) (fun z=>vs.length - z.1) ⟨0,Ah _⟩ (Weak.trans (jT 12 8 8 _ (by decide) rfl (by simp) rfl (by simp)) (aQ (by refine⟨?_,?_,?_,?_⟩<;>simp -dsimp (disch:=try exact zo)only[go_sem,vI,a3g,Ap,An,ZC]))) ?_
 rintro⟨i,hi⟩
 dsimp only
 by_cases hlt:i<vs.length
 ·have hmod:(i+1) % vs.length<vs.length:=Aj _ (by omega)
  have ea:=cZ vs i hlt
  have ea2:=cZ vs _ hmod
  have sa:=vN .i64 (vs.map (aB b)) i (by simpa using hlt)
  have sa2:=vN .i64 (vs.map (aB b)) _ (by simpa using hmod)
  rw[Al]at sa sa2
  have hW:=vJ (-1) b vs i hlt
  have hS:=a3h (-1) b vs i hlt
  have hWn:=u6 (-1) b vs i
  have ha:=hv _ (Ab hlt)
  have ha2:=hv _ (Ab hmod)
  have haw:=(hcan _ (Ab hlt)).w
  have ha2w:=(hcan _ (Ab hmod)).w
  generalize vs[i]=a at *
  generalize vs[(i+1) % vs.length]=a2 at *
  generalize aT (-1) b vs i=W at *
  generalize bF (-1) b vs i=fl at *
  simp only[eP,e4]at ea ea2
  cases fl
  ·have hSo:bF (-1) b vs (i+1)=decide (aB b a=-1):=by rw[hS];simp
   have flr:True:=trivial
   clear hS
   by_cases q2:aB b a=1
   ·by_cases q3:aB b a*aB b a2<0
    ·skip
     have k2:(aB b a=1)=True:=eq_true q2
     have k3:(aB b a*aB b a2<0)=True:=eq_true q3
     have hpc:pc (-1) b a a2=[bO b a a2]:=by unfold pc;rw[Ad];rw[if_neg (fun h=>h q2),if_pos q3];rfl
     rw[hpc]at hW
     have hWl:(aT (-1) b vs (i+1)).length=W.length+1:=by rw[hW];simp
     have hWm:(aT (-1) b vs (i+1)).map eP=W.map eP++[eP (bO b a a2)]:=by rw[hW];simp
     clear hW hpc
     repeat'(first|refine zk ?_|(refine zu ?_ ?_<;>intro hc)|(refine zq (fU p vs i hlt hn) ?_)|(refine zf (gF b a a2 hb ha ha2 (gB q3) (fI haw ha2w q3)) ?_)|(refine zv ?_ ?_<;>intro hg)|omega|simp -dsimp (disch:=try exact zo)only[go_sem,hl,hl2,ea,ea2,sa,sa2,k2,k3,zl,eC,ZT,flr,Aa]|contradiction|rfl)
     all_goals exact AW.stop ⟨⟨i+1,by omega⟩,(aQ (by refine⟨?_,?_,?_,?_⟩<;>first|(simp -dsimp (disch:=try exact zo)only[go_sem,hWl,hWm,hSo,zl,ZC];done)|(simp -dsimp (disch:=try exact zo)only[go_sem,hWl,ZC];done))),by dsimp only;omega⟩
    ·skip
     have k2:(aB b a=1)=True:=eq_true q2
     have k3:(aB b a*aB b a2<0)=False:=eq_false q3
     have hpc:pc (-1) b a a2=[]:=by unfold pc;rw[Ad];rw[if_neg (fun h=>h q2),if_neg q3];rfl
     rw[hpc]at hW
     have hWl:(aT (-1) b vs (i+1)).length=W.length:=by rw[hW];simp
     have hWm:(aT (-1) b vs (i+1)).map eP=W.map eP:=by rw[hW];simp
     clear hW hpc
     repeat'(first|refine zk ?_|(refine zu ?_ ?_<;>intro hc)|(refine zq (fU p vs i hlt hn) ?_)|(refine zf (gF b a a2 hb ha ha2 (gB q3) (fI haw ha2w q3)) ?_)|(refine zv ?_ ?_<;>intro hg)|omega|simp -dsimp (disch:=try exact zo)only[go_sem,hl,hl2,ea,ea2,sa,sa2,k2,k3,zl,eC,ZT,flr,Aa]|contradiction|rfl)
     all_goals exact AW.stop ⟨⟨i+1,by omega⟩,(aQ (by refine⟨?_,?_,?_,?_⟩<;>first|(simp -dsimp (disch:=try exact zo)only[go_sem,hWl,hWm,hSo,zl,ZC];done)|(simp -dsimp (disch:=try exact zo)only[go_sem,hWl,ZC];done))),by dsimp only;omega⟩
   ·by_cases q3:aB b a*aB b a2<0
    ·skip
     have k2:(aB b a=1)=False:=eq_false q2
     have k3:(aB b a*aB b a2<0)=True:=eq_true q3
     have hpc:pc (-1) b a a2=[a,bO b a a2]:=by unfold pc;rw[Ad];rw[if_pos q2,if_pos q3];rfl
     rw[hpc]at hW
     have hWl:(aT (-1) b vs (i+1)).length=W.length+1+1:=by rw[hW];simp
     have hWm:(aT (-1) b vs (i+1)).map eP=W.map eP++[eP (a),eP (bO b a a2)]:=by rw[hW];simp
     clear hW hpc
     repeat'(first|refine zk ?_|(refine zu ?_ ?_<;>intro hc)|(refine zq (fU p vs i hlt hn) ?_)|(refine zf (gF b a a2 hb ha ha2 (gB q3) (fI haw ha2w q3)) ?_)|(refine zv ?_ ?_<;>intro hg)|omega|simp -dsimp (disch:=try exact zo)only[go_sem,hl,hl2,ea,ea2,sa,sa2,k2,k3,zl,eC,ZT,flr,Aa]|contradiction|rfl)
     all_goals exact AW.stop ⟨⟨i+1,by omega⟩,(aQ (by refine⟨?_,?_,?_,?_⟩<;>first|(simp -dsimp (disch:=try exact zo)only[go_sem,hWl,hWm,hSo,zl,ZC];done)|(simp -dsimp (disch:=try exact zo)only[go_sem,hWl,ZC];done))),by dsimp only;omega⟩
    ·skip
     have k2:(aB b a=1)=False:=eq_false q2
     have k3:(aB b a*aB b a2<0)=False:=eq_false q3
     have hpc:pc (-1) b a a2=[a]:=by unfold pc;rw[Ad];rw[if_pos q2,if_neg q3];rfl
     rw[hpc]at hW
     have hWl:(aT (-1) b vs (i+1)).length=W.length+1:=by rw[hW];simp
     have hWm:(aT (-1) b vs (i+1)).map eP=W.map eP++[eP (a)]:=by rw[hW];simp
     clear hW hpc
     repeat'(first|refine zk ?_|(refine zu ?_ ?_<;>intro hc)|(refine zq (fU p vs i hlt hn) ?_)|(refine zf (gF b a a2 hb ha ha2 (gB q3) (fI haw ha2w q3)) ?_)|(refine zv ?_ ?_<;>intro hg)|omega|simp -dsimp (disch:=try exact zo)only[go_sem,hl,hl2,ea,ea2,sa,sa2,k2,k3,zl,eC,ZT,flr,Aa]|contradiction|rfl)
     all_goals exact AW.stop ⟨⟨i+1,by omega⟩,(aQ (by refine⟨?_,?_,?_,?_⟩<;>first|(simp -dsimp (disch:=try exact zo)only[go_sem,hWl,hWm,hSo,zl,ZC];done)|(simp -dsimp (disch:=try exact zo)only[go_sem,hWl,ZC];done))),by dsimp only;omega⟩
  ·have hSo:bF (-1) b vs (i+1)=true:=by rw[hS];simp
   have flr:True:=trivial
   clear hS
   by_cases q2:aB b a=1
   ·by_cases q3:aB b a*aB b a2<0
    ·skip
     have k2:(aB b a=1)=True:=eq_true q2
     have k3:(aB b a*aB b a2<0)=True:=eq_true q3
     have hpc:pc (-1) b a a2=[bO b a a2]:=by unfold pc;rw[Ad];rw[if_neg (fun h=>h q2),if_pos q3];rfl
     rw[hpc]at hW
     have hWl:(aT (-1) b vs (i+1)).length=W.length+1:=by rw[hW];simp
     have hWm:(aT (-1) b vs (i+1)).map eP=W.map eP++[eP (bO b a a2)]:=by rw[hW];simp
     clear hW hpc
     repeat'(first|refine zk ?_|(refine zu ?_ ?_<;>intro hc)|(refine zq (fU p vs i hlt hn) ?_)|(refine zf (gF b a a2 hb ha ha2 (gB q3) (fI haw ha2w q3)) ?_)|(refine zv ?_ ?_<;>intro hg)|omega|simp -dsimp (disch:=try exact zo)only[go_sem,hl,hl2,ea,ea2,sa,sa2,k2,k3,zl,eC,ZT,flr,Aa]|contradiction|rfl)
     all_goals exact AW.stop ⟨⟨i+1,by omega⟩,(aQ (by refine⟨?_,?_,?_,?_⟩<;>first|(simp -dsimp (disch:=try exact zo)only[go_sem,hWl,hWm,hSo,zl,ZC];done)|(simp -dsimp (disch:=try exact zo)only[go_sem,hWl,ZC];done))),by dsimp only;omega⟩
    ·skip
     have k2:(aB b a=1)=True:=eq_true q2
     have k3:(aB b a*aB b a2<0)=False:=eq_false q3
     have hpc:pc (-1) b a a2=[]:=by unfold pc;rw[Ad];rw[if_neg (fun h=>h q2),if_neg q3];rfl
     rw[hpc]at hW
     have hWl:(aT (-1) b vs (i+1)).length=W.length:=by rw[hW];simp
     have hWm:(aT (-1) b vs (i+1)).map eP=W.map eP:=by rw[hW];simp
     clear hW hpc
     repeat'(first|refine zk ?_|(refine zu ?_ ?_<;>intro hc)|(refine zq (fU p vs i hlt hn) ?_)|(refine zf (gF b a a2 hb ha ha2 (gB q3) (fI haw ha2w q3)) ?_)|(refine zv ?_ ?_<;>intro hg)|omega|simp -dsimp (disch:=try exact zo)only[go_sem,hl,hl2,ea,ea2,sa,sa2,k2,k3,zl,eC,ZT,flr,Aa]|contradiction|rfl)
     all_goals exact AW.stop ⟨⟨i+1,by omega⟩,(aQ (by refine⟨?_,?_,?_,?_⟩<;>first|(simp -dsimp (disch:=try exact zo)only[go_sem,hWl,hWm,hSo,zl,ZC];done)|(simp -dsimp (disch:=try exact zo)only[go_sem,hWl,ZC];done))),by dsimp only;omega⟩
   ·by_cases q3:aB b a*aB b a2<0
    ·skip
     have k2:(aB b a=1)=False:=eq_false q2
     have k3:(aB b a*aB b a2<0)=True:=eq_true q3
     have hpc:pc (-1) b a a2=[a,bO b a a2]:=by unfold pc;rw[Ad];rw[if_pos q2,if_pos q3];rfl
     rw[hpc]at hW
     have hWl:(aT (-1) b vs (i+1)).length=W.length+1+1:=by rw[hW];simp
     have hWm:(aT (-1) b vs (i+1)).map eP=W.map eP++[eP (a),eP (bO b a a2)]:=by rw[hW];simp
     clear hW hpc
     repeat'(first|refine zk ?_|(refine zu ?_ ?_<;>intro hc)|(refine zq (fU p vs i hlt hn) ?_)|(refine zf (gF b a a2 hb ha ha2 (gB q3) (fI haw ha2w q3)) ?_)|(refine zv ?_ ?_<;>intro hg)|omega|simp -dsimp (disch:=try exact zo)only[go_sem,hl,hl2,ea,ea2,sa,sa2,k2,k3,zl,eC,ZT,flr,Aa]|contradiction|rfl)
     all_goals exact AW.stop ⟨⟨i+1,by omega⟩,(aQ (by refine⟨?_,?_,?_,?_⟩<;>first|(simp -dsimp (disch:=try exact zo)only[go_sem,hWl,hWm,hSo,zl,ZC];done)|(simp -dsimp (disch:=try exact zo)only[go_sem,hWl,ZC];done))),by dsimp only;omega⟩
    ·skip
     have k2:(aB b a=1)=False:=eq_false q2
     have k3:(aB b a*aB b a2<0)=False:=eq_false q3
     have hpc:pc (-1) b a a2=[a]:=by unfold pc;rw[Ad];rw[if_pos q2,if_neg q3];rfl
     rw[hpc]at hW
     have hWl:(aT (-1) b vs (i+1)).length=W.length+1:=by rw[hW];simp
     have hWm:(aT (-1) b vs (i+1)).map eP=W.map eP++[eP (a)]:=by rw[hW];simp
     clear hW hpc
     repeat'(first|refine zk ?_|(refine zu ?_ ?_<;>intro hc)|(refine zq (fU p vs i hlt hn) ?_)|(refine zf (gF b a a2 hb ha ha2 (gB q3) (fI haw ha2w q3)) ?_)|(refine zv ?_ ?_<;>intro hg)|omega|simp -dsimp (disch:=try exact zo)only[go_sem,hl,hl2,ea,ea2,sa,sa2,k2,k3,zl,eC,ZT,flr,Aa]|contradiction|rfl)
     all_goals exact AW.stop ⟨⟨i+1,by omega⟩,(aQ (by refine⟨?_,?_,?_,?_⟩<;>first|(simp -dsimp (disch:=try exact zo)only[go_sem,hWl,hWm,hSo,zl,ZC];done)|(simp -dsimp (disch:=try exact zo)only[go_sem,hWl,ZC];done))),by dsimp only;omega⟩
 ·have hil:i=vs.length:=by omega
  subst hil
  rw[vT]
  cases hfl:bF (-1) b vs vs.length
  ·have k1:True:=trivial
   rw[if_neg (by simp)]
   exact z1
  ·have k1:True:=trivial
   rw[if_pos rfl]
   exact z1
theorem c139b (p b:Pl) (vs:List Pt) (hn:vs.length≤268435456) (hcan:∀ v∈vs,CanP v) (hv:∀ v∈vs,BPt 1073741824 v) (hb:BPl 1073741824 b):CallNw prog 139 [.lit (.int .i64 (1)),.fp (eG p vs),.fp [.sl (aG .i64 (vs.map (aB b)))],.fp (eH b)] (if bF (1) b vs vs.length then .agg (eG p (bC (1) b vs))else .agg eG0):=by
 refine CallNw.flat func139 rfl 82 rfl rfl (wJ _ _ trivial) [.cell 5 58] (congrArg Ag results139) ?_
 simp only[aD,Af]
 have hl:(vs.map eP).length=vs.length:=Ac _
 have hl2:(aG .i64 (vs.map (aB b))).length=vs.length:=by rw[bT,Ac]
 repeat'(first|refine zk ?_|(refine zu ?_ ?_<;>intro hc)|(refine zv ?_ ?_<;>intro hg)|omega|simp -dsimp (disch:=try exact zo)only[go_sem,hl]|contradiction|rfl)
 refine AW.loop (fun z:{i:Nat // i≤vs.length}=>⟨[(19,.lit (.int .i64 z.1)),(18,.lit (.int .i64 vs.length)),(17,.sl (vs.map eP)),(7,.lit (.bool (bF (1) b vs z.1))),(6,.loc 12 0),(5,.loc 8 0),(3,.fp (eH b)),(2,.fp [.sl (aG .i64 (vs.map (aB b)))]),(1,.fp (eG p vs)),(0,.lit (.int .i64 (1)))],[(12,.blk [.lit (.bool (Zn p.a)),.lit (.string (Zm p.a)),.lit (.bool (Zn p.b)),.lit (.string (Zm p.b)),.lit (.bool (Zn p.c)),.lit (.string (Zm p.c)),.lit (.bool (Zn p.d)),.lit (.string (Zm p.d)),.ref 19 0 (aT (1) b vs z.1).length (aT (1) b vs z.1).length]),(19,.vec 8 ((aT (1) b vs z.1).map eP)),(8,.blk eG0)],60⟩) (fun z=>vs.length - z.1) ⟨0,Ah _⟩ (Weak.trans (jT 12 8 8 _ (by decide) rfl (by simp) rfl (by simp)) (aQ (by refine⟨?_,?_,?_,?_⟩<;>simp -dsimp (disch:=try exact zo)only[go_sem,vI,a3g,Ap,An,ZC]))) ?_
 rintro⟨i,hi⟩
 dsimp only
 by_cases hlt:i<vs.length
 ·have hmod:(i+1) % vs.length<vs.length:=Aj _ (by omega)
  have ea:=cZ vs i hlt
  have ea2:=cZ vs _ hmod
  have sa:=vN .i64 (vs.map (aB b)) i (by simpa using hlt)
  have sa2:=vN .i64 (vs.map (aB b)) _ (by simpa using hmod)
  rw[Al]at sa sa2
  have hW:=vJ (1) b vs i hlt
  have hS:=a3h (1) b vs i hlt
  have hWn:=u6 (1) b vs i
  have ha:=hv _ (Ab hlt)
  have ha2:=hv _ (Ab hmod)
  have haw:=(hcan _ (Ab hlt)).w
  have ha2w:=(hcan _ (Ab hmod)).w
  generalize vs[i]=a at *
  generalize vs[(i+1) % vs.length]=a2 at *
  generalize aT (1) b vs i=W at *
  generalize bF (1) b vs i=fl at *
  simp only[eP,e4]at ea ea2
  cases fl
  ·have hSo:bF (1) b vs (i+1)=decide (aB b a=1):=by rw[hS];simp
   have flr:True:=trivial
   clear hS
   by_cases q2:aB b a=-1
   ·by_cases q3:aB b a*aB b a2<0
    ·skip
     have k2:(aB b a=-1)=True:=eq_true q2
     have k3:(aB b a*aB b a2<0)=True:=eq_true q3
     have hpc:pc (1) b a a2=[bO b a a2]:=by unfold pc;rw[if_neg (fun h=>h q2),if_pos q3];rfl
     rw[hpc]at hW
     have hWl:(aT (1) b vs (i+1)).length=W.length+1:=by rw[hW];simp
     have hWm:(aT (1) b vs (i+1)).map eP=W.map eP++[eP (bO b a a2)]:=by rw[hW];simp
     clear hW hpc
     repeat'(first|refine zk ?_|(refine zu ?_ ?_<;>intro hc)|(refine zq (fU p vs i hlt hn) ?_)|(refine zf (gF b a a2 hb ha ha2 (gB q3) (fI haw ha2w q3)) ?_)|(refine zv ?_ ?_<;>intro hg)|omega|simp -dsimp (disch:=try exact zo)only[go_sem,hl,hl2,ea,ea2,sa,sa2,k2,k3,zl,eC,ZT,flr,Aa]|contradiction|rfl)
     all_goals exact AW.stop ⟨⟨i+1,by omega⟩,(aQ (by refine⟨?_,?_,?_,?_⟩<;>first|(simp -dsimp (disch:=try exact zo)only[go_sem,hWl,hWm,hSo,zl,ZC];done)|(simp -dsimp (disch:=try exact zo)only[go_sem,hWl,ZC];done))),by dsimp only;omega⟩
    ·skip
     have k2:(aB b a=-1)=True:=eq_true q2
     have k3:(aB b a*aB b a2<0)=False:=eq_false q3
     have hpc:pc (1) b a a2=[]:=by unfold pc;rw[if_neg (fun h=>h q2),if_neg q3];rfl
     rw[hpc]at hW
     have hWl:(aT (1) b vs (i+1)).length=W.length:=by rw[hW];simp
     have hWm:(aT (1) b vs (i+1)).map eP=W.map eP:=by rw[hW];simp
     clear hW hpc
     repeat'(first|refine zk ?_|(refine zu ?_ ?_<;>intro hc)|(refine zq (fU p vs i hlt hn) ?_)|(refine zf (gF b a a2 hb ha ha2 (gB q3) (fI haw ha2w q3)) ?_)|(refine zv ?_ ?_<;>intro hg)|omega|simp -dsimp (disch:=try exact zo)only[go_sem,hl,hl2,ea,ea2,sa,sa2,k2,k3,zl,eC,ZT,flr,Aa]|contradiction|rfl)
     all_goals exact AW.stop ⟨⟨i+1,by omega⟩,(aQ (by refine⟨?_,?_,?_,?_⟩<;>first|(simp -dsimp (disch:=try exact zo)only[go_sem,hWl,hWm,hSo,zl,ZC];done)|(simp -dsimp (disch:=try exact zo)only[go_sem,hWl,ZC];done))),by dsimp only;omega⟩
   ·by_cases q3:aB b a*aB b a2<0
    ·skip
     have k2:(aB b a=-1)=False:=eq_false q2
     have k3:(aB b a*aB b a2<0)=True:=eq_true q3
     have hpc:pc (1) b a a2=[a,bO b a a2]:=by unfold pc;rw[if_pos q2,if_pos q3];rfl
     rw[hpc]at hW
     have hWl:(aT (1) b vs (i+1)).length=W.length+1+1:=by rw[hW];simp
     have hWm:(aT (1) b vs (i+1)).map eP=W.map eP++[eP (a),eP (bO b a a2)]:=by rw[hW];simp
     clear hW hpc
     repeat'(first|refine zk ?_|(refine zu ?_ ?_<;>intro hc)|(refine zq (fU p vs i hlt hn) ?_)|(refine zf (gF b a a2 hb ha ha2 (gB q3) (fI haw ha2w q3)) ?_)|(refine zv ?_ ?_<;>intro hg)|omega|simp -dsimp (disch:=try exact zo)only[go_sem,hl,hl2,ea,ea2,sa,sa2,k2,k3,zl,eC,ZT,flr,Aa]|contradiction|rfl)
     all_goals exact AW.stop ⟨⟨i+1,by omega⟩,(aQ (by refine⟨?_,?_,?_,?_⟩<;>first|(simp -dsimp (disch:=try exact zo)only[go_sem,hWl,hWm,hSo,zl,ZC];done)|(simp -dsimp (disch:=try exact zo)only[go_sem,hWl,ZC];done))),by dsimp only;omega⟩
    ·skip
     have k2:(aB b a=-1)=False:=eq_false q2
     have k3:(aB b a*aB b a2<0)=False:=eq_false q3
     have hpc:pc (1) b a a2=[a]:=by unfold pc;rw[if_pos q2,if_neg q3];rfl
     rw[hpc]at hW
     have hWl:(aT (1) b vs (i+1)).length=W.length+1:=by rw[hW];simp
     have hWm:(aT (1) b vs (i+1)).map eP=W.map eP++[eP (a)]:=by rw[hW];simp
     clear hW hpc
     repeat'(first|refine zk ?_|(refine zu ?_ ?_<;>intro hc)|(refine zq (fU p vs i hlt hn) ?_)|(refine zf (gF b a a2 hb ha ha2 (gB q3) (fI haw ha2w q3)) ?_)|(refine zv ?_ ?_<;>intro hg)|omega|simp -dsimp (disch:=try exact zo)only[go_sem,hl,hl2,ea,ea2,sa,sa2,k2,k3,zl,eC,ZT,flr,Aa]|contradiction|rfl)
     all_goals exact AW.stop ⟨⟨i+1,by omega⟩,(aQ (by refine⟨?_,?_,?_,?_⟩<;>first|(simp -dsimp (disch:=try exact zo)only[go_sem,hWl,hWm,hSo,zl,ZC];done)|(simp -dsimp (disch:=try exact zo)only[go_sem,hWl,ZC];done))),by dsimp only;omega⟩
  ·have hSo:bF (1) b vs (i+1)=true:=by rw[hS];simp
   have flr:True:=trivial
   clear hS
   by_cases q2:aB b a=-1
   ·by_cases q3:aB b a*aB b a2<0
    ·skip
     have k2:(aB b a=-1)=True:=eq_true q2
     have k3:(aB b a*aB b a2<0)=True:=eq_true q3
     have hpc:pc (1) b a a2=[bO b a a2]:=by unfold pc;rw[if_neg (fun h=>h q2),if_pos q3];rfl
     rw[hpc]at hW
     have hWl:(aT (1) b vs (i+1)).length=W.length+1:=by rw[hW];simp
     have hWm:(aT (1) b vs (i+1)).map eP=W.map eP++[eP (bO b a a2)]:=by rw[hW];simp
     clear hW hpc
     repeat'(first|refine zk ?_|(refine zu ?_ ?_<;>intro hc)|(refine zq (fU p vs i hlt hn) ?_)|(refine zf (gF b a a2 hb ha ha2 (gB q3) (fI haw ha2w q3)) ?_)|(refine zv ?_ ?_<;>intro hg)|omega|simp -dsimp (disch:=try exact zo)only[go_sem,hl,hl2,ea,ea2,sa,sa2,k2,k3,zl,eC,ZT,flr,Aa]|contradiction|rfl)
     all_goals exact AW.stop ⟨⟨i+1,by omega⟩,(aQ (by refine⟨?_,?_,?_,?_⟩<;>first|(simp -dsimp (disch:=try exact zo)only[go_sem,hWl,hWm,hSo,zl,ZC];done)|(simp -dsimp (disch:=try exact zo)only[go_sem,hWl,ZC];done))),by dsimp only;omega⟩
    ·skip
     have k2:(aB b a=-1)=True:=eq_true q2
     have k3:(aB b a*aB b a2<0)=False:=eq_false q3
     have hpc:pc (1) b a a2=[]:=by unfold pc;rw[if_neg (fun h=>h q2),if_neg q3];rfl
     rw[hpc]at hW
     have hWl:(aT (1) b vs (i+1)).length=W.length:=by rw[hW];simp
     have hWm:(aT (1) b vs (i+1)).map eP=W.map eP:=by rw[hW];simp
     clear hW hpc
     repeat'(first|refine zk ?_|(refine zu ?_ ?_<;>intro hc)|(refine zq (fU p vs i hlt hn) ?_)|(refine zf (gF b a a2 hb ha ha2 (gB q3) (fI haw ha2w q3)) ?_)|(refine zv ?_ ?_<;>intro hg)|omega|simp -dsimp (disch:=try exact zo)only[go_sem,hl,hl2,ea,ea2,sa,sa2,k2,k3,zl,eC,ZT,flr,Aa]|contradiction|rfl)
     all_goals exact AW.stop ⟨⟨i+1,by omega⟩,(aQ (by refine⟨?_,?_,?_,?_⟩<;>first|(simp -dsimp (disch:=try exact zo)only[go_sem,hWl,hWm,hSo,zl,ZC];done)|(simp -dsimp (disch:=try exact zo)only[go_sem,hWl,ZC];done))),by dsimp only;omega⟩
   ·by_cases q3:aB b a*aB b a2<0
    ·skip
     have k2:(aB b a=-1)=False:=eq_false q2
     have k3:(aB b a*aB b a2<0)=True:=eq_true q3
     have hpc:pc (1) b a a2=[a,bO b a a2]:=by unfold pc;rw[if_pos q2,if_pos q3];rfl
     rw[hpc]at hW
     have hWl:(aT (1) b vs (i+1)).length=W.length+1+1:=by rw[hW];simp
     have hWm:(aT (1) b vs (i+1)).map eP=W.map eP++[eP (a),eP (bO b a a2)]:=by rw[hW];simp
     clear hW hpc
     repeat'(first|refine zk ?_|(refine zu ?_ ?_<;>intro hc)|(refine zq (fU p vs i hlt hn) ?_)|(refine zf (gF b a a2 hb ha ha2 (gB q3) (fI haw ha2w q3)) ?_)|(refine zv ?_ ?_<;>intro hg)|omega|simp -dsimp (disch:=try exact zo)only[go_sem,hl,hl2,ea,ea2,sa,sa2,k2,k3,zl,eC,ZT,flr,Aa]|contradiction|rfl)
     all_goals exact AW.stop ⟨⟨i+1,by omega⟩,(aQ (by refine⟨?_,?_,?_,?_⟩<;>first|(simp -dsimp (disch:=try exact zo)only[go_sem,hWl,hWm,hSo,zl,ZC];done)|(simp -dsimp (disch:=try exact zo)only[go_sem,hWl,ZC];done))),by dsimp only;omega⟩
    ·skip
     have k2:(aB b a=-1)=False:=eq_false q2
     have k3:(aB b a*aB b a2<0)=False:=eq_false q3
     have hpc:pc (1) b a a2=[a]:=by unfold pc;rw[if_pos q2,if_neg q3];rfl
     rw[hpc]at hW
     have hWl:(aT (1) b vs (i+1)).length=W.length+1:=by rw[hW];simp
     have hWm:(aT (1) b vs (i+1)).map eP=W.map eP++[eP (a)]:=by rw[hW];simp
     clear hW hpc
     repeat'(first|refine zk ?_|(refine zu ?_ ?_<;>intro hc)|(refine zq (fU p vs i hlt hn) ?_)|(refine zf (gF b a a2 hb ha ha2 (gB q3) (fI haw ha2w q3)) ?_)|(refine zv ?_ ?_<;>intro hg)|omega|simp -dsimp (disch:=try exact zo)only[go_sem,hl,hl2,ea,ea2,sa,sa2,k2,k3,zl,eC,ZT,flr,Aa]|contradiction|rfl)
     all_goals exact AW.stop ⟨⟨i+1,by omega⟩,(aQ (by refine⟨?_,?_,?_,?_⟩<;>first|(simp -dsimp (disch:=try exact zo)only[go_sem,hWl,hWm,hSo,zl,ZC];done)|(simp -dsimp (disch:=try exact zo)only[go_sem,hWl,ZC];done))),by dsimp only;omega⟩
 ·have hil:i=vs.length:=by omega
  subst hil
  rw[vT]
  cases hfl:bF (1) b vs vs.length
  ·have k1:True:=trivial
   rw[if_neg (by simp)]
   exact z1
  ·have k1:True:=trivial
   rw[if_pos rfl]
   exact z1
end Go.Proofs.Vx
namespace Go.Sx
set_option linter.unusedVariables false
set_option linter.unusedSimpArgs false
def subC (l L:Nat) (es:List (List AV)):List AV→List AV→Prop
 | [],[]=>True
 | a::r,b::s=>(a=b∨(a=.ref l 0 L L∧b=.sl es))∧subC l L es r s
 | _,_=>False
def subB (l L:Nat) (es:List (List AV)):AV→AV→Prop
 | .blk cs,.blk ds=>subC l L es cs ds
 | _,_=>False
def xU (l L:Nat) (es:List (List AV)) (s:List (Nat × AV)):List (Nat × AV)→Prop
 | []=>True
 | (i,a)::r=>(look s i=a∨(look s i=.ref l 0 L L∧a=.sl es))∧xU l L es s r
def xV (l L:Nat) (es:List (List AV)) (s:List (Nat × AV)):List (Nat × AV)→Prop
 | []=>True
 | (i,a)::r=>(i≠l∧(look s i=a∨subB l L es (look s i) a))∧xV l L es s r
theorem b5o {l L:Nat} {es:List (List AV)}:∀ {cs ds:List AV},subC l L es cs ds→ds.length=cs.length∧∀ i (h1:i<cs.length) (h2:i<ds.length),cs[i]=ds[i]∨(cs[i]=.ref l 0 L L∧ds[i]=.sl es):=by
 intro cs
 induction cs with
 | nil=>intro ds h;cases ds with
  | nil=>exact⟨rfl,fun i h1=>by simp at h1⟩
  | cons d ds=>exact h.elim
 | cons c cs ih=>intro ds h;cases ds with
  | nil=>exact h.elim
  | cons d ds =>
   obtain⟨h0,h⟩:=h
   obtain⟨h1,h2⟩:=ih h
   refine⟨by simp[h1],fun i a1 a2=>?_⟩
   cases i with
   | zero=>exact h0
   | succ i=>exact h2 i (by simpa using a1) (by simpa using a2)
theorem b3y {l L:Nat} {es:List (List AV)} {s:List (Nat × AV)}:∀ {t:List (Nat × AV)},xU l L es s t→∀ p∈t,look s p.1=p.2∨(look s p.1=.ref l 0 L L∧p.2=.sl es):=by
 intro t
 induction t with
 | nil=>intro _ p hp;simp at hp
 | cons q t ih =>
  intro h p hp
  obtain⟨i,a⟩:=q
  rcases Ai.1 hp with rfl|hp
  ·exact h.1
  ·exact ih h.2 p hp
theorem b3z {l L:Nat} {es:List (List AV)} {s:List (Nat × AV)}:∀ {t:List (Nat × AV)},xV l L es s t→∀ p∈t,p.1≠l∧(look s p.1=p.2∨subB l L es (look s p.1) p.2):=by
 intro t
 induction t with
 | nil=>intro _ p hp;simp at hp
 | cons q t ih =>
  intro h p hp
  obtain⟨i,a⟩:=q
  rcases Ai.1 hp with rfl|hp
  ·exact h.1
  ·exact ih h.2 p hp
theorem mI {S:AS} (l L k:Nat) (es:List (List AV)) {t o:List (Nat × AV)} (hob:look S.o l=.vec k es) (hL:es.length=L) (ht:xU l L es S.t t) (ho:xV l L es S.o o):Weak S ⟨t,o,S.nx⟩:=by
 intro c nt a w hs
 obtain⟨g,rfl,hg,htk,hsz,hu,hln,h8⟩:=hs
 have hev:=sO g l (look S.o l)
 have hfz:∀ {v:Value},Rel g (.ref l 0 L L) v→Rel (jZ g l (look S.o l)) (.sl es) v:=fun h=>by
  have:=a7i hg l h
  rw[show fzl l (look S.o l) (.ref l 0 L L)=.sl es by
   simp only[fzl,if_true]
   exact tU (ob:=fun _=>look S.o l) hob hL]at this
  exact this
 have hT:=b3y ht
 have hO:=b3z ho
 have hlo:∀ q,look o q=.any∨(q≠l∧(look S.o q=look o q∨subB l L es (look S.o q) (look o q))):=fun q=>by
  rcases @jV o q with h|h
  ·exact .inl h
  ·exact .inr (hO _ h)
 have hbl:∀ q b,aE (jZ g l (look S.o l)) q (look o q)=some b→q≠l∧aE g q (look S.o q)=some b:=by
  intro q b hb
  rcases hlo q with h|⟨hk,h|h⟩
  ·rw[h]at hb;simp[aE]at hb
  ·rw[← h]at hb
   refine⟨hk,?_⟩
   generalize look S.o q=x at hb ⊢
   cases x<;>exact hb
  ·refine⟨hk,?_⟩
   generalize look S.o q=x at h hb ⊢
   generalize look o q=y at h hb
   cases x<;>cases y<;>first|exact h.elim|exact hb
 refine⟨jZ g l (look S.o l),rfl,⟨hg.os,hg.tape,hg.output,hg.size,hg.old,fun b hb=>.inl (hg.fzo b hb),fun b hb=>?_,fun b hb=>?_,fun q=>?_,fun q b hb=>?_,fun q q' b hb hb'=>hg.dis q q' b (hbl q b hb).2 (hbl q' b hb').2⟩,⟨htk.1,fun q=>?_⟩,hsz,hu,hln.mono hev,h8⟩
 ·rcases hb with hb|hb
  ·exact hg.fzn b hb
  ·rcases (hg.own l b hb).1 with h|h
   ·exact .inr (.inl h)
   ·exact .inr (.inr h)
 ·rcases hb with hb|hb
  ·exact hg.fzx b hb
  ·exact (hg.obj l).lt hb
 ·show ObjOk _ q (look o q)
  have hok:=hg.obj q
  rcases hlo q with h|⟨hk,h|h⟩
  ·rw[h];trivial
  ·rw[← h]
   exact hok.keep hev ⟨rfl,rfl⟩ fun b hb=>rfl
  ·generalize look S.o q=x at h hok
   generalize look o q=y at h
   cases x<;>cases y<;>first|exact h.elim|skip
   rename_i cs ds
   obtain⟨s1,s2⟩:=b5o h
   obtain⟨h1,vs,e,h2,h3,h4,h5⟩:=hok
   refine⟨h1,vs,e,h2,by rw[h3,s1],h4,fun i i1 i2=>?_⟩
   have h6:=h5 i (by omega) i2
   rcases s2 i (by omega) i1 with s3|⟨s3,s4⟩
   ·rw[← s3];exact h6.mono hev
   ·rw[s4]
    rw[s3]at h6
    exact hfz h6
 ·obtain⟨hk,hb2⟩:=hbl q b hb
  refine⟨(hg.own q b hb2).1,?_⟩
  rintro (h|h)
  ·exact (hg.own q b hb2).2 h
  ·exact hk (hg.dis q l b hb2 h)
 ·show Rel _ (look t q) _
  rcases @jV t q with h|h
  ·rw[h];exact .any _
  ·rcases hT _ h with h1|⟨h1,h2⟩
   ·simp only at h1
    rw[← h1]
    exact (htk.2 q).mono hev
   ·simp only at h1 h2
    rw[h2]
    have:=htk.2 q
    rw[h1]at this
    exact hfz this
attribute [go_sem] subC subB xU xV
end Go.Sx
namespace Go.Proofs.Vx
open Go Go.Sx Go.Proofs Tryz
attribute [local irreducible] fnT CallOK CallFr AW aI callV aL aJ aH aK gcaseP hid
theorem b8v:byT prog 3=some 8∧zeT prog 159=some [.lit (.slice none 0 0)]∧zeT prog 3=some [.lit (.int .i64 0)]:=by and_intros<;>kernel_rfl
attribute [go_sem] b8v
theorem mV:fnT prog 139=true:=by kernel_rfl
def j3 (b:Pl) (vs:List Pt) (i:Nat):List Int:=(vs.take i).map (aB b)++Ao (vs.length - i) 0
theorem a2u (b:Pl) (vs:List Pt):j3 b vs 0=Ao vs.length 0:=by simp[j3]
theorem b4c (b:Pl) (vs:List Pt) (i:Nat) (h:i≤vs.length):(j3 b vs i).length=vs.length:=by simp[j3];omega
theorem b4d (b:Pl) (vs:List Pt):j3 b vs vs.length=vs.map (aB b):=by simp[j3]
theorem b3a (b:Pl) (vs:List Pt) (i:Nat) (h:i<vs.length):(j3 b vs i).set i (aB b vs[i])=j3 b vs (i+1):=by
 unfold j3
 have e1:((vs.take i).map (aB b)).length=i:=by simp;omega
 rw[List.set_append_right _ _ (by omega),e1,Nat.sub_self]
 rw[show vs.length - i=(vs.length - (i+1))+1 by omega,List.replicate_succ,List.set_cons_zero,Ae h,Aa,List.append_assoc]
 rfl
def prt (h:Int) (p b:Pl) (vs:List Pt):AV:=if bF h b vs vs.length then .agg (eG p (bC h b vs))else .agg eG0
theorem xH {K:Nat→Prop} (h:Int) (p b:Pl) (vs:List Pt):In K (prt h p b vs):=(wJ p (bC h b vs) trivial).in
theorem c70 (p b:Pl) (vs:List Pt) (hn:vs.length≤268435456) (hcan:∀ v∈vs,CanP v) (hv:∀ v∈vs,BPt 1073741824 v) (hb:BPl 1073741824 b):CallOK prog 70 [.agg (eG p vs),.agg (eH b)] [] (.tup [prt (-1) p b vs,prt 1 p b vs]) []:=by
 refine fV func70 rfl 34 rfl rfl (.tup _ (by
  intro c hc
  simp only[zM,or_false]at hc
  rcases hc with rfl|rfl<;>exact xH _ _ _ _)) [.cell 4 58,.cell 5 58] (congrArg Ag results70) ?_
 simp only[aD,Af]
 have hml:maxLen=9223372036854775807:=rfl
 have hl:(vs.map eP).length=vs.length:=Ac _
 repeat'(first|refine zk ?_|(refine zu ?_ ?_<;>intro hc)|(refine zv ?_ ?_<;>intro hg)|omega|simp -dsimp (disch:=try exact zo)only[go_sem,hl,a2u]|contradiction|rfl)
 refine AW.loop (fun z:{i:Nat // i≤vs.length}=>⟨[(17,.lit (.int .i64 z.1)),(16,.lit (.int .i64 vs.length)),(15,.sl (vs.map eP)),(6,.loc 16 0),(5,.loc 11 0),(4,.loc 10 0),(3,.loc 9 0),(2,.loc 8 0)],[(16,.blk [.ref 15 0 vs.length vs.length]),(15,.vec 1 (aG .i64 (j3 b vs z.1))),(8,.blk (eG p vs)),(9,.blk (eH b)),(10,.blk eG0),(11,.blk eG0)],40⟩) (fun z=>vs.length - z.1) ⟨0,Ah _⟩ (aQ (by refine⟨?_,?_,?_,?_⟩<;>simp -dsimp (disch:=try exact zo)only[go_sem,a2u,Nat.sub_zero,a5z,ZT,ZC])) ?_
 rintro⟨i,hi⟩
 dsimp only
 by_cases hlt:i<vs.length
 ·have ea:=cZ vs i hlt
  have hS:=b3a b vs i hlt
  have hX:=b4c b vs i hi
  have ha:=hv _ (Ab hlt)
  generalize vs[i]=a at *
  simp only[eP,e4]at ea
  repeat'(first|refine zk ?_|(refine zu ?_ ?_<;>intro hc)|(refine zf (c34 b a hb ha) ?_)|(refine zv ?_ ?_<;>intro hg)|omega|simp -dsimp (disch:=try exact zo)only[go_sem,hl,ea,zl,ZT,hX,hS]|contradiction|rfl)
  all_goals exact AW.stop ⟨⟨i+1,by omega⟩,zw,by dsimp only;omega⟩
 ·have hil:i=vs.length:=by omega
  subst hil
  rw[b4d]
  have hl2:(aG .i64 (vs.map (aB b))).length=vs.length:=by rw[bT,Ac]
  refine AW.weak (mI 15 vs.length 1 (aG .i64 (vs.map (aB b))) (t:=[(17,.lit (.int .i64 vs.length)),(16,.lit (.int .i64 vs.length)),(6,.loc 16 0),(5,.loc 11 0),(4,.loc 10 0),(3,.loc 9 0),(2,.loc 8 0)]) (o:=[(16,.blk [.sl (aG .i64 (vs.map (aB b)))]),(8,.blk (eG p vs)),(9,.blk (eH b)),(10,.blk eG0),(11,.blk eG0)]) rfl hl2 (by simp -dsimp (disch:=try exact zo)only[go_sem]) (by simp -dsimp (disch:=try exact zo)only[go_sem])) ?_
  have ca:=c139a p b vs hn hcan hv hb
  have cb:=c139b p b vs hn hcan hv hb
  have ia:In (fun _=>False) (prt (-1) p b vs):=xH _ _ _ _
  have ib:In (fun _=>False) (prt 1 p b vs):=xH _ _ _ _
  unfold prt at ia ib ⊢
  cases hA:bF (-1) b vs vs.length<;>cases hB:bF 1 b vs vs.length<;>simp only[hA,hB,reduceIte,Bool.false_eq_true]at ca cb ia ib ⊢
  ·repeat'(first|refine zk ?_|(refine zu ?_ ?_<;>intro hc)|(first|refine fY _ mV (by simp -dsimp (disch:=try exact zo)only[go_sem];exact ca) (by simp -dsimp (disch:=try exact zo)only[go_sem]) ia ?_|refine fY _ mV (by simp -dsimp (disch:=try exact zo)only[go_sem];exact cb) (by simp -dsimp (disch:=try exact zo)only[go_sem]) ib ?_)|(refine zv ?_ ?_<;>intro hg)|omega|simp -dsimp (disch:=try exact zo)only[go_sem,hl,zl]|contradiction|rfl)
  ·repeat'(first|refine zk ?_|(refine zu ?_ ?_<;>intro hc)|(first|refine fY _ mV (by simp -dsimp (disch:=try exact zo)only[go_sem];exact ca) (by simp -dsimp (disch:=try exact zo)only[go_sem]) ia ?_|refine fY _ mV (by simp -dsimp (disch:=try exact zo)only[go_sem];exact cb) (by simp -dsimp (disch:=try exact zo)only[go_sem]) ib ?_)|(refine zv ?_ ?_<;>intro hg)|omega|simp -dsimp (disch:=try exact zo)only[go_sem,hl,zl]|contradiction|rfl)
  ·repeat'(first|refine zk ?_|(refine zu ?_ ?_<;>intro hc)|(first|refine fY _ mV (by simp -dsimp (disch:=try exact zo)only[go_sem];exact ca) (by simp -dsimp (disch:=try exact zo)only[go_sem]) ia ?_|refine fY _ mV (by simp -dsimp (disch:=try exact zo)only[go_sem];exact cb) (by simp -dsimp (disch:=try exact zo)only[go_sem]) ib ?_)|(refine zv ?_ ?_<;>intro hg)|omega|simp -dsimp (disch:=try exact zo)only[go_sem,hl,zl]|contradiction|rfl)
  ·repeat'(first|refine zk ?_|(refine zu ?_ ?_<;>intro hc)|(first|refine fY _ mV (by simp -dsimp (disch:=try exact zo)only[go_sem];exact ca) (by simp -dsimp (disch:=try exact zo)only[go_sem]) ia ?_|refine fY _ mV (by simp -dsimp (disch:=try exact zo)only[go_sem];exact cb) (by simp -dsimp (disch:=try exact zo)only[go_sem]) ib ?_)|(refine zv ?_ ?_<;>intro hg)|omega|simp -dsimp (disch:=try exact zo)only[go_sem,hl,zl]|contradiction|rfl)
end Go.Proofs.Vx
namespace Go.Proofs.Vx
open Go Go.Sx Go.Proofs Tryz
attribute [local irreducible] fnT CallOK CallFr AW aI callV aL aJ aH aK gcaseP hid
theorem b8u:byT prog 138=some 192∧plT prog 138=some [(0,8),(8,8)]∧slT prog 135=some (138,16)∧zeT prog 138=some [.lit (.bool false),.lit (.string ⟨#[]⟩),.lit (.bool false),.lit (.string ⟨#[]⟩),.lit (.bool false),.lit (.string ⟨#[]⟩),.lit (.bool false),.lit (.string ⟨#[]⟩),.lit (.bool false),.lit (.string ⟨#[]⟩),.lit (.bool false),.lit (.string ⟨#[]⟩),.lit (.bool false),.lit (.string ⟨#[]⟩),.lit (.bool false),.lit (.string ⟨#[]⟩)]:=by and_intros<;>kernel_rfl
attribute [go_sem] b8u
abbrev eE (a b:Pt):List AV:=[.lit (.bool (Zn a.x)),.lit (.string (Zm a.x)),.lit (.bool (Zn a.y)),.lit (.string (Zm a.y)),.lit (.bool (Zn a.z)),.lit (.string (Zm a.z)),.lit (.bool (Zn a.w)),.lit (.string (Zm a.w)),.lit (.bool (Zn b.x)),.lit (.string (Zm b.x)),.lit (.bool (Zn b.y)),.lit (.string (Zm b.y)),.lit (.bool (Zn b.z)),.lit (.string (Zm b.z)),.lit (.bool (Zn b.w)),.lit (.string (Zm b.w))]
def eEs (l:List (Pt × Pt)):List (List AV):=l.map fun e=>eE e.1 e.2
theorem a6l (l:List (Pt × Pt)):∀ e∈eEs l,∀ c∈e,Flat c:=by
 intro e he c hc
 obtain⟨v,_,rfl⟩:=List.mem_map.1 he
 simp only[eE,Ai,List.not_mem_nil,or_false]at hc
 rcases hc with rfl|rfl|rfl|rfl|rfl|rfl|rfl|rfl|rfl|rfl|rfl|rfl|rfl|rfl|rfl|rfl<;>exact .lit _
theorem b0f {K:Nat→Prop} (l:List (Pt × Pt)):(∀ e∈eEs l,∀ c∈e,In K c)=True:=eq_true fun e he c hc=>(a6l l e he c hc).inn
theorem kQ (l:List (Pt × Pt)):(eEs l).length=l.length:=Ac _
theorem c2f (vs:List Pt) (i:Nat) (hi:i<vs.length):eEs ((Geo.edges vs).take i)++[eE vs[i] (vs[(i+1) % vs.length]'(Aj _ (by omega)))]=eEs ((Geo.edges vs).take (i+1)):=by
 have hl:i<(Geo.edges vs).length:=by rw[Geo.fN];exact hi
 rw[Ae hl,vY vs i hi hl]
 simp[eEs]
theorem b2h (vs:List Pt) (i:Nat) (hi:i≤vs.length):((Geo.edges vs).take i).length=i:=by
 rw[List.length_take,Geo.fN];omega
theorem a6k (l:List (Pt × Pt)) (i:Nat) (h:i<l.length):(eEs l).getD i []=eE l[i].1 l[i].2:=by
 rw[List.getD_eq_getElem?_getD,List.getElem?_eq_getElem (by rw[kQ];exact h)];simp[eEs]
attribute [go_sem] b0f
theorem c118f (p:Pl) (vs:List Pt) (hn:vs.length≤268435456):CallFr prog 118 [.agg (eG p vs)] 16 (eEs (Geo.edges vs)):=by
 refine CallFr.flat func118 rfl 31 rfl rfl (a6l _) [.tmp 2] (congrArg Ag results118) ?_
 simp only[aD,Af]
 have hml:maxLen=9223372036854775807:=rfl
 have hl:(vs.map eP).length=vs.length:=Ac _
 have eEs_nil:eEs []=[]:=rfl
 repeat'(first|refine zk ?_|(refine zu ?_ ?_<;>intro hc)|(refine zv ?_ ?_<;>intro hg)|omega|simp -dsimp (disch:=try exact zo)only[go_sem,hl]|contradiction|rfl)
 refine AW.loop (fun z:{i:Nat // i≤vs.length}=>⟨[(9,.lit (.int .i64 z.1)),(8,.lit (.int .i64 vs.length)),(7,.sl (vs.map eP)),(3,.ref 15 0 z.1 z.1),(1,.loc 8 0)],[(15,.vec 16 (eEs ((Geo.edges vs).take z.1))),(8,.blk (eG p vs))],40⟩) (fun z=>vs.length - z.1) ⟨0,Ah _⟩ (Weak.trans (Weak.nil 3 16 (by decide) rfl) zw) ?_
 rintro⟨i,hi⟩
 dsimp only
 have hel:((Geo.edges vs).take i).length=i:=b2h vs i hi
 by_cases hlt:i<vs.length
 ·have hmod:(i+1) % vs.length<vs.length:=Aj _ (by omega)
  have hm:((i:Int)+1) % (vs.length:Int)=(((i+1) % vs.length:Nat):Int):=by rw[Ak,Am];rfl
  have ea:=cZ vs i hlt
  have ea2:=cZ vs _ hmod
  have he:=c2f vs i hlt
  generalize vs[i]=a at *
  generalize vs[(i+1) % vs.length]=a2 at *
  simp only[eP,e4,eE]at ea ea2 he
  repeat'(first|refine zk ?_|(refine zu ?_ ?_<;>intro hc)|(refine zv ?_ ?_<;>intro hg)|omega|simp -dsimp (disch:=try exact zo)only[go_sem,hl,ea,ea2,hm,he,zl,ZT,kQ,hel]|contradiction|rfl)
  all_goals exact AW.stop ⟨⟨i+1,by omega⟩,zw,by dsimp only;omega⟩
 ·have hil:i=vs.length:=by omega
  subst hil
  have hall:(Geo.edges vs).take vs.length=Geo.edges vs:=List.take_of_length_le (by rw[Geo.fN];exact Nat.le_refl _)
  rw[hall]
  repeat'(first|refine zj ?_|(refine zu ?_ ?_<;>intro hc)|(refine AW.ret (qF ?_);simp -dsimp (disch:=try exact zo)only[go_sem,hl,zl,kQ,Geo.fN]<;>try (exact⟨_,rfl,rfl⟩))|(refine zv ?_ ?_<;>intro hg)|omega|simp -dsimp (disch:=try exact zo)only[go_sem,hl,zl,kQ,Geo.fN]|contradiction)
theorem c118 (p:Pl) (vs:List Pt) (hn:vs.length≤268435456):CallOK prog 118 [.agg (eG p vs)] [] (.sl (eEs (Geo.edges vs))) []:=(c118f p vs hn).ok
end Go.Proofs.Vx
