import Derived.Test.YtjlfgmhmalbiiaaGreatDoorV17
set_option linter.all false
set_option maxHeartbeats 40000000
namespace Go.Proofs.Vx
open Go Go.Sx Go.Proofs Tryz
attribute [local irreducible] fnT CallOK CallFr AW aO callV aP aN aM aQ gcaseP hid
theorem b5m:agT prog 159=some false∧agT prog 45=some false∧agT prog 58=some true∧arT prog 159=none∧arT prog 45=none∧byT prog 51=some 96∧fdT prog 58 0=some (0,8,true)∧fdT prog 58 1=some (8,1,false)∧plT prog 58=some [(0,8),(8,1)]∧slT prog 159=some (3,1)∧slT prog 45=some (51,8)∧bM prog 45=false∧szT prog 159=some 1∧szT prog 3=some 1∧szT prog 45=some 1∧szT prog 58=some 9∧zeT prog 58=some [.lit (.bool false),.lit (.string ⟨#[]⟩),.lit (.bool false),.lit (.string ⟨#[]⟩),.lit (.bool false),.lit (.string ⟨#[]⟩),.lit (.bool false),.lit (.string ⟨#[]⟩),.lit (.slice none 0 0)]:=by and_intros<;>kernel_rfl
attribute [go_sem] b5m
theorem gA (p:Pl) (vs:List Pt) (i:Nat) (hi:i<vs.length) (hn:vs.length≤268435456):CallOK prog 140 [.agg (eG p vs),.lit (.int .i64 i)] [] (.lit (.int .i64 (((i+1) % vs.length:Nat):Int))) []:=by
 refine fN func140 rfl 11 rfl rfl (by simp -dsimp (disch:=try exact zo)only[go_sem,aC]) [.tmp 4] (congrArg Array.toList results140) ?_
 simp only[aD,Nat.reduceAdd]
 have h0:(0:Int)≤(i:Int)+1:=by omega
 have hm:((i:Int)+1) % (vs.length:Int)=(((i+1) % vs.length:Nat):Int):=by rw[Int.natCast_emod,Int.natCast_add];rfl
 have hl:(vs.map eP).length=vs.length:=List.length_map _
 repeat'(first|refine zg ?_|(refine zc ?_ ?_<;>intro hc<;>try simp only[NM]at hc)|refine zr ?_|refine⟨by omega,?_⟩|(refine zb ?_ ?_<;>intro hg<;>(try rw[hg])<;>try simp only[NM]at hg)|omega|simp -dsimp (disch:=try exact zo)only[go_sem,hl,hm]|contradiction|rfl)
theorem uW {c:Bool} (p:Pl) (vs:List Pt) (h:True):FlatS (if c then .agg (eG p vs)else .agg eG0):=by
 split
 ·intro c hc
  simp only[zM,or_false]at hc
  rcases hc with rfl|rfl|rfl|rfl|rfl|rfl|rfl|rfl|rfl<;>first|exact .inl (.lit _)|exact .inr ⟨_,rfl,pI vs⟩
 ·intro c hc
  simp only[zM,or_false]at hc
  rcases hc with rfl|rfl|rfl|rfl|rfl|rfl|rfl|rfl|rfl<;>exact .inl (.lit _)
theorem c139a (p b:Pl) (vs:List Pt) (hn:vs.length≤268435456) (hcan:∀ v∈vs,CanP v) (hv:∀ v∈vs,BPt 1073741824 v) (hb:BPl 1073741824 b):CallNw prog 139 [.lit (.int .i64 (-1)),.fp (eG p vs),.fp [.sl (aJ .i64 (vs.map (aB b)))],.fp (eH b)] (if bG (-1) b vs vs.length then .agg (eG p (bD (-1) b vs))else .agg eG0):=by
 refine CallNw.flat func139 rfl 82 rfl rfl (uW _ _ trivial) [.cell 5 58] (congrArg Array.toList results139) ?_
 simp only[aD,Nat.reduceAdd]
 have hl:(vs.map eP).length=vs.length:=List.length_map _
 have hl2:(aJ .i64 (vs.map (aB b))).length=vs.length:=by rw[b5,List.length_map]
 repeat'(first|refine zg ?_|(refine zc ?_ ?_<;>intro hc<;>try simp only[NM]at hc)|refine zr ?_|refine⟨by omega,?_⟩|(refine zb ?_ ?_<;>intro hg<;>(try rw[hg])<;>try simp only[NM]at hg)|omega|simp -dsimp (disch:=try exact zo)only[go_sem,hl]|contradiction|rfl)
 refine AW.loop (fun z:{i:Nat // i≤vs.length}=>⟨[(19,.lit (.int .i64 z.1)),(18,.lit (.int .i64 vs.length)),(17,.sl (vs.map eP)),(7,.lit (.bool (bG (-1) b vs z.1))),(6,.loc 12 0),(5,.loc 8 0),(3,.fp (eH b)),(2,.fp [.sl (aJ .i64 (vs.map (aB b)))]),(1,.fp (eG p vs)),(0,.lit (.int .i64 (-1)))],[(12,.blk [.lit (.bool (Zn p.a)),.lit (.string (Zm p.a)),.lit (.bool (Zn p.b)),.lit (.string (Zm p.b)),.lit (.bool (Zn p.c)),.lit (.string (Zm p.c)),.lit (.bool (Zn p.d)),.lit (.string (Zm p.d)),.ref 19 0 (aY (-1) b vs z.1).length (aY (-1) b vs z.1).length]),(19,.vec 8 ((aY (-1) b vs z.1).map eP)),(8,.blk eG0)],60⟩) (fun z=>vs.length - z.1) ⟨0,Nat.zero_le _⟩ (Weak.trans (jK 12 8 8 _ (by decide) rfl (by simp) rfl (by simp)) (aH (by refine⟨?_,?_,?_,?_⟩<;>simp -dsimp (disch:=try exact zo)only[go_sem,uB,a0z,aC,List.map_nil,List.length_nil,aU,ZC]))) ?_
 rintro⟨i,hi⟩
 dsimp only
 by_cases hlt:i<vs.length
 ·have hmod:(i+1) % vs.length<vs.length:=Nat.mod_lt _ (by omega)
  have ea:=fB vs i hlt
  have ea2:=fB vs _ hmod
  have sa:=uG .i64 (vs.map (aB b)) i (by simpa using hlt)
  have sa2:=uG .i64 (vs.map (aB b)) _ (by simpa using hmod)
  rw[List.getElem_map]at sa sa2
  have hW:=uC (-1) b vs i hlt
  have hS:=a1a (-1) b vs i hlt
  have hWn:=tU (-1) b vs i
  have ha:=hv _ (List.getElem_mem hlt)
  have ha2:=hv _ (List.getElem_mem hmod)
  have haw:=(hcan _ (List.getElem_mem hlt)).w
  have ha2w:=(hcan _ (List.getElem_mem hmod)).w
  generalize vs[i]=a at *
  generalize vs[(i+1) % vs.length]=a2 at *
  generalize aY (-1) b vs i=W at *
  generalize bG (-1) b vs i=fl at *
  simp only[eP,e4]at ea ea2
  cases fl
  ·have hSo:bG (-1) b vs (i+1)=decide (aB b a=-1):=by rw[hS];simp
   have flr:True:=trivial
   clear hS
   by_cases q2:aB b a=1
   ·by_cases q3:aB b a*aB b a2<0
    ·skip
     have k2:(aB b a=1)=True:=eq_true q2
     have k3:(aB b a*aB b a2<0)=True:=eq_true q3
     have hpc:pc (-1) b a a2=[bW b a a2]:=by unfold pc;rw[Int.neg_neg];rw[if_neg (fun h=>h q2),if_pos q3];rfl
     rw[hpc]at hW
     have hWl:(aY (-1) b vs (i+1)).length=W.length+1:=by rw[hW];simp
     have hWm:(aY (-1) b vs (i+1)).map eP=W.map eP++[eP (bW b a a2)]:=by rw[hW];simp
     clear hW hpc
     repeat'(first|refine zg ?_|(refine zc ?_ ?_<;>intro hc<;>try simp only[NM]at hc)|refine zr ?_|(refine zp (gA p vs i hlt hn) (by simp -dsimp (disch:=try exact zo)only[go_sem,aC]) (.lit _) ?_)|(refine zf (f9 b a a2 hb ha ha2 (fU q3) (fE haw ha2w q3)) ?_)|refine⟨by omega,?_⟩|(refine zb ?_ ?_<;>intro hg<;>(try rw[hg])<;>try simp only[NM]at hg)|omega|simp -dsimp (disch:=try exact zo)only[go_sem,hl,hl2,ea,ea2,sa,sa2,k2,k3,zl,Sx.d7,ZT,flr,List.map_append,aC]|contradiction|rfl)
     all_goals exact AW.stop ⟨⟨i+1,by omega⟩,(aH (by refine⟨?_,?_,?_,?_⟩<;>first|(simp -dsimp (disch:=try exact zo)only[go_sem,hWl,hWm,hSo,zl,ZC];done)|(simp -dsimp (disch:=try exact zo)only[go_sem,aC,aU,hWl,ZC];done))),by dsimp only;omega⟩
    ·skip
     have k2:(aB b a=1)=True:=eq_true q2
     have k3:(aB b a*aB b a2<0)=False:=eq_false q3
     have hpc:pc (-1) b a a2=[]:=by unfold pc;rw[Int.neg_neg];rw[if_neg (fun h=>h q2),if_neg q3];rfl
     rw[hpc]at hW
     have hWl:(aY (-1) b vs (i+1)).length=W.length:=by rw[hW];simp
     have hWm:(aY (-1) b vs (i+1)).map eP=W.map eP:=by rw[hW];simp
     clear hW hpc
     repeat'(first|refine zg ?_|(refine zc ?_ ?_<;>intro hc<;>try simp only[NM]at hc)|refine zr ?_|(refine zp (gA p vs i hlt hn) (by simp -dsimp (disch:=try exact zo)only[go_sem,aC]) (.lit _) ?_)|(refine zf (f9 b a a2 hb ha ha2 (fU q3) (fE haw ha2w q3)) ?_)|refine⟨by omega,?_⟩|(refine zb ?_ ?_<;>intro hg<;>(try rw[hg])<;>try simp only[NM]at hg)|omega|simp -dsimp (disch:=try exact zo)only[go_sem,hl,hl2,ea,ea2,sa,sa2,k2,k3,zl,Sx.d7,ZT,flr,List.map_append,aC]|contradiction|rfl)
     all_goals exact AW.stop ⟨⟨i+1,by omega⟩,(aH (by refine⟨?_,?_,?_,?_⟩<;>first|(simp -dsimp (disch:=try exact zo)only[go_sem,hWl,hWm,hSo,zl,ZC];done)|(simp -dsimp (disch:=try exact zo)only[go_sem,aC,aU,hWl,ZC];done))),by dsimp only;omega⟩
   ·by_cases q3:aB b a*aB b a2<0
    ·skip
     have k2:(aB b a=1)=False:=eq_false q2
     have k3:(aB b a*aB b a2<0)=True:=eq_true q3
     have hpc:pc (-1) b a a2=[a,bW b a a2]:=by unfold pc;rw[Int.neg_neg];rw[if_pos q2,if_pos q3];rfl
     rw[hpc]at hW
     have hWl:(aY (-1) b vs (i+1)).length=W.length+1+1:=by rw[hW];simp
     have hWm:(aY (-1) b vs (i+1)).map eP=W.map eP++[eP (a),eP (bW b a a2)]:=by rw[hW];simp
     clear hW hpc
     repeat'(first|refine zg ?_|(refine zc ?_ ?_<;>intro hc<;>try simp only[NM]at hc)|refine zr ?_|(refine zp (gA p vs i hlt hn) (by simp -dsimp (disch:=try exact zo)only[go_sem,aC]) (.lit _) ?_)|(refine zf (f9 b a a2 hb ha ha2 (fU q3) (fE haw ha2w q3)) ?_)|refine⟨by omega,?_⟩|(refine zb ?_ ?_<;>intro hg<;>(try rw[hg])<;>try simp only[NM]at hg)|omega|simp -dsimp (disch:=try exact zo)only[go_sem,hl,hl2,ea,ea2,sa,sa2,k2,k3,zl,Sx.d7,ZT,flr,List.map_append,aC]|contradiction|rfl)
     all_goals exact AW.stop ⟨⟨i+1,by omega⟩,(aH (by refine⟨?_,?_,?_,?_⟩<;>first|(simp -dsimp (disch:=try exact zo)only[go_sem,hWl,hWm,hSo,zl,ZC];done)|(simp -dsimp (disch:=try exact zo)only[go_sem,aC,aU,hWl,ZC];done))),by dsimp only;omega⟩
    ·skip
     have k2:(aB b a=1)=False:=eq_false q2
     have k3:(aB b a*aB b a2<0)=False:=eq_false q3
     have hpc:pc (-1) b a a2=[a]:=by unfold pc;rw[Int.neg_neg];rw[if_pos q2,if_neg q3];rfl
     rw[hpc]at hW
     have hWl:(aY (-1) b vs (i+1)).length=W.length+1:=by rw[hW];simp
     have hWm:(aY (-1) b vs (i+1)).map eP=W.map eP++[eP (a)]:=by rw[hW];simp
     clear hW hpc
     repeat'(first|refine zg ?_|(refine zc ?_ ?_<;>intro hc<;>try simp only[NM]at hc)|refine zr ?_|(refine zp (gA p vs i hlt hn) (by simp -dsimp (disch:=try exact zo)only[go_sem,aC]) (.lit _) ?_)|(refine zf (f9 b a a2 hb ha ha2 (fU q3) (fE haw ha2w q3)) ?_)|refine⟨by omega,?_⟩|(refine zb ?_ ?_<;>intro hg<;>(try rw[hg])<;>try simp only[NM]at hg)|omega|simp -dsimp (disch:=try exact zo)only[go_sem,hl,hl2,ea,ea2,sa,sa2,k2,k3,zl,Sx.d7,ZT,flr,List.map_append,aC]|contradiction|rfl)
     all_goals exact AW.stop ⟨⟨i+1,by omega⟩,(aH (by refine⟨?_,?_,?_,?_⟩<;>first|(simp -dsimp (disch:=try exact zo)only[go_sem,hWl,hWm,hSo,zl,ZC];done)|(simp -dsimp (disch:=try exact zo)only[go_sem,aC,aU,hWl,ZC];done))),by dsimp only;omega⟩
  ·have hSo:bG (-1) b vs (i+1)=true:=by rw[hS];simp
   have flr:True:=trivial
   clear hS
   by_cases q2:aB b a=1
   ·by_cases q3:aB b a*aB b a2<0
    ·skip
     have k2:(aB b a=1)=True:=eq_true q2
     have k3:(aB b a*aB b a2<0)=True:=eq_true q3
     have hpc:pc (-1) b a a2=[bW b a a2]:=by unfold pc;rw[Int.neg_neg];rw[if_neg (fun h=>h q2),if_pos q3];rfl
     rw[hpc]at hW
     have hWl:(aY (-1) b vs (i+1)).length=W.length+1:=by rw[hW];simp
     have hWm:(aY (-1) b vs (i+1)).map eP=W.map eP++[eP (bW b a a2)]:=by rw[hW];simp
     clear hW hpc
     repeat'(first|refine zg ?_|(refine zc ?_ ?_<;>intro hc<;>try simp only[NM]at hc)|refine zr ?_|(refine zp (gA p vs i hlt hn) (by simp -dsimp (disch:=try exact zo)only[go_sem,aC]) (.lit _) ?_)|(refine zf (f9 b a a2 hb ha ha2 (fU q3) (fE haw ha2w q3)) ?_)|refine⟨by omega,?_⟩|(refine zb ?_ ?_<;>intro hg<;>(try rw[hg])<;>try simp only[NM]at hg)|omega|simp -dsimp (disch:=try exact zo)only[go_sem,hl,hl2,ea,ea2,sa,sa2,k2,k3,zl,Sx.d7,ZT,flr,List.map_append,aC]|contradiction|rfl)
     all_goals exact AW.stop ⟨⟨i+1,by omega⟩,(aH (by refine⟨?_,?_,?_,?_⟩<;>first|(simp -dsimp (disch:=try exact zo)only[go_sem,hWl,hWm,hSo,zl,ZC];done)|(simp -dsimp (disch:=try exact zo)only[go_sem,aC,aU,hWl,ZC];done))),by dsimp only;omega⟩
    ·skip
     have k2:(aB b a=1)=True:=eq_true q2
     have k3:(aB b a*aB b a2<0)=False:=eq_false q3
     have hpc:pc (-1) b a a2=[]:=by unfold pc;rw[Int.neg_neg];rw[if_neg (fun h=>h q2),if_neg q3];rfl
     rw[hpc]at hW
     have hWl:(aY (-1) b vs (i+1)).length=W.length:=by rw[hW];simp
     have hWm:(aY (-1) b vs (i+1)).map eP=W.map eP:=by rw[hW];simp
     clear hW hpc
     repeat'(first|refine zg ?_|(refine zc ?_ ?_<;>intro hc<;>try simp only[NM]at hc)|refine zr ?_|(refine zp (gA p vs i hlt hn) (by simp -dsimp (disch:=try exact zo)only[go_sem,aC]) (.lit _) ?_)|(refine zf (f9 b a a2 hb ha ha2 (fU q3) (fE haw ha2w q3)) ?_)|refine⟨by omega,?_⟩|(refine zb ?_ ?_<;>intro hg<;>(try rw[hg])<;>try simp only[NM]at hg)|omega|simp -dsimp (disch:=try exact zo)only[go_sem,hl,hl2,ea,ea2,sa,sa2,k2,k3,zl,Sx.d7,ZT,flr,List.map_append,aC]|contradiction|rfl)
     all_goals exact AW.stop ⟨⟨i+1,by omega⟩,(aH (by refine⟨?_,?_,?_,?_⟩<;>first|(simp -dsimp (disch:=try exact zo)only[go_sem,hWl,hWm,hSo,zl,ZC];done)|(simp -dsimp (disch:=try exact zo)only[go_sem,aC,aU,hWl,ZC];done))),by dsimp only;omega⟩
   ·by_cases q3:aB b a*aB b a2<0
    ·skip
     have k2:(aB b a=1)=False:=eq_false q2
     have k3:(aB b a*aB b a2<0)=True:=eq_true q3
     have hpc:pc (-1) b a a2=[a,bW b a a2]:=by unfold pc;rw[Int.neg_neg];rw[if_pos q2,if_pos q3];rfl
     rw[hpc]at hW
     have hWl:(aY (-1) b vs (i+1)).length=W.length+1+1:=by rw[hW];simp
     have hWm:(aY (-1) b vs (i+1)).map eP=W.map eP++[eP (a),eP (bW b a a2)]:=by rw[hW];simp
     clear hW hpc
     repeat'(first|refine zg ?_|(refine zc ?_ ?_<;>intro hc<;>try simp only[NM]at hc)|refine zr ?_|(refine zp (gA p vs i hlt hn) (by simp -dsimp (disch:=try exact zo)only[go_sem,aC]) (.lit _) ?_)|(refine zf (f9 b a a2 hb ha ha2 (fU q3) (fE haw ha2w q3)) ?_)|refine⟨by omega,?_⟩|(refine zb ?_ ?_<;>intro hg<;>(try rw[hg])<;>try simp only[NM]at hg)|omega|simp -dsimp (disch:=try exact zo)only[go_sem,hl,hl2,ea,ea2,sa,sa2,k2,k3,zl,Sx.d7,ZT,flr,List.map_append,aC]|contradiction|rfl)
     all_goals exact AW.stop ⟨⟨i+1,by omega⟩,(aH (by refine⟨?_,?_,?_,?_⟩<;>first|(simp -dsimp (disch:=try exact zo)only[go_sem,hWl,hWm,hSo,zl,ZC];done)|(simp -dsimp (disch:=try exact zo)only[go_sem,aC,aU,hWl,ZC];done))),by dsimp only;omega⟩
    ·skip
     have k2:(aB b a=1)=False:=eq_false q2
     have k3:(aB b a*aB b a2<0)=False:=eq_false q3
     have hpc:pc (-1) b a a2=[a]:=by unfold pc;rw[Int.neg_neg];rw[if_pos q2,if_neg q3];rfl
     rw[hpc]at hW
     have hWl:(aY (-1) b vs (i+1)).length=W.length+1:=by rw[hW];simp
     have hWm:(aY (-1) b vs (i+1)).map eP=W.map eP++[eP (a)]:=by rw[hW];simp
     clear hW hpc
     repeat'(first|refine zg ?_|(refine zc ?_ ?_<;>intro hc<;>try simp only[NM]at hc)|refine zr ?_|(refine zp (gA p vs i hlt hn) (by simp -dsimp (disch:=try exact zo)only[go_sem,aC]) (.lit _) ?_)|(refine zf (f9 b a a2 hb ha ha2 (fU q3) (fE haw ha2w q3)) ?_)|refine⟨by omega,?_⟩|(refine zb ?_ ?_<;>intro hg<;>(try rw[hg])<;>try simp only[NM]at hg)|omega|simp -dsimp (disch:=try exact zo)only[go_sem,hl,hl2,ea,ea2,sa,sa2,k2,k3,zl,Sx.d7,ZT,flr,List.map_append,aC]|contradiction|rfl)
     all_goals exact AW.stop ⟨⟨i+1,by omega⟩,(aH (by refine⟨?_,?_,?_,?_⟩<;>first|(simp -dsimp (disch:=try exact zo)only[go_sem,hWl,hWm,hSo,zl,ZC];done)|(simp -dsimp (disch:=try exact zo)only[go_sem,aC,aU,hWl,ZC];done))),by dsimp only;omega⟩
 ·have hil:i=vs.length:=by omega
  subst hil
  rw[uM]
  cases hfl:bG (-1) b vs vs.length
  ·have k1:True:=trivial
   rw[if_neg (by simp)]
   repeat'(first|refine zg ?_|(refine zc ?_ ?_<;>intro hc<;>try simp only[NM]at hc)|refine zn ?_|refine⟨by omega,?_⟩|(refine zb ?_ ?_<;>intro hg<;>(try rw[hg])<;>try simp only[NM]at hg)|omega|simp -dsimp (disch:=try exact zo)only[go_sem,hl,k1,zl]|contradiction|rfl)
  ·have k1:True:=trivial
   rw[if_pos rfl]
   repeat'(first|refine zg ?_|(refine zc ?_ ?_<;>intro hc<;>try simp only[NM]at hc)|refine zn ?_|refine⟨by omega,?_⟩|(refine zb ?_ ?_<;>intro hg<;>(try rw[hg])<;>try simp only[NM]at hg)|omega|simp -dsimp (disch:=try exact zo)only[go_sem,hl,k1,zl]|contradiction|rfl)
theorem c139b (p b:Pl) (vs:List Pt) (hn:vs.length≤268435456) (hcan:∀ v∈vs,CanP v) (hv:∀ v∈vs,BPt 1073741824 v) (hb:BPl 1073741824 b):CallNw prog 139 [.lit (.int .i64 (1)),.fp (eG p vs),.fp [.sl (aJ .i64 (vs.map (aB b)))],.fp (eH b)] (if bG (1) b vs vs.length then .agg (eG p (bD (1) b vs))else .agg eG0):=by
 refine CallNw.flat func139 rfl 82 rfl rfl (uW _ _ trivial) [.cell 5 58] (congrArg Array.toList results139) ?_
 simp only[aD,Nat.reduceAdd]
 have hl:(vs.map eP).length=vs.length:=List.length_map _
 have hl2:(aJ .i64 (vs.map (aB b))).length=vs.length:=by rw[b5,List.length_map]
 repeat'(first|refine zg ?_|(refine zc ?_ ?_<;>intro hc<;>try simp only[NM]at hc)|refine zr ?_|refine⟨by omega,?_⟩|(refine zb ?_ ?_<;>intro hg<;>(try rw[hg])<;>try simp only[NM]at hg)|omega|simp -dsimp (disch:=try exact zo)only[go_sem,hl]|contradiction|rfl)
 refine AW.loop (fun z:{i:Nat // i≤vs.length}=>⟨[(19,.lit (.int .i64 z.1)),(18,.lit (.int .i64 vs.length)),(17,.sl (vs.map eP)),(7,.lit (.bool (bG (1) b vs z.1))),(6,.loc 12 0),(5,.loc 8 0),(3,.fp (eH b)),(2,.fp [.sl (aJ .i64 (vs.map (aB b)))]),(1,.fp (eG p vs)),(0,.lit (.int .i64 (1)))],[(12,.blk [.lit (.bool (Zn p.a)),.lit (.string (Zm p.a)),.lit (.bool (Zn p.b)),.lit (.string (Zm p.b)),.lit (.bool (Zn p.c)),.lit (.string (Zm p.c)),.lit (.bool (Zn p.d)),.lit (.string (Zm p.d)),.ref 19 0 (aY (1) b vs z.1).length (aY (1) b vs z.1).length]),(19,.vec 8 ((aY (1) b vs z.1).map eP)),(8,.blk eG0)],60⟩) (fun z=>vs.length - z.1) ⟨0,Nat.zero_le _⟩ (Weak.trans (jK 12 8 8 _ (by decide) rfl (by simp) rfl (by simp)) (aH (by refine⟨?_,?_,?_,?_⟩<;>simp -dsimp (disch:=try exact zo)only[go_sem,uB,a0z,aC,List.map_nil,List.length_nil,aU,ZC]))) ?_
 rintro⟨i,hi⟩
 dsimp only
 by_cases hlt:i<vs.length
 ·have hmod:(i+1) % vs.length<vs.length:=Nat.mod_lt _ (by omega)
  have ea:=fB vs i hlt
  have ea2:=fB vs _ hmod
  have sa:=uG .i64 (vs.map (aB b)) i (by simpa using hlt)
  have sa2:=uG .i64 (vs.map (aB b)) _ (by simpa using hmod)
  rw[List.getElem_map]at sa sa2
  have hW:=uC (1) b vs i hlt
  have hS:=a1a (1) b vs i hlt
  have hWn:=tU (1) b vs i
  have ha:=hv _ (List.getElem_mem hlt)
  have ha2:=hv _ (List.getElem_mem hmod)
  have haw:=(hcan _ (List.getElem_mem hlt)).w
  have ha2w:=(hcan _ (List.getElem_mem hmod)).w
  generalize vs[i]=a at *
  generalize vs[(i+1) % vs.length]=a2 at *
  generalize aY (1) b vs i=W at *
  generalize bG (1) b vs i=fl at *
  simp only[eP,e4]at ea ea2
  cases fl
  ·have hSo:bG (1) b vs (i+1)=decide (aB b a=1):=by rw[hS];simp
   have flr:True:=trivial
   clear hS
   by_cases q2:aB b a=-1
   ·by_cases q3:aB b a*aB b a2<0
    ·skip
     have k2:(aB b a=-1)=True:=eq_true q2
     have k3:(aB b a*aB b a2<0)=True:=eq_true q3
     have hpc:pc (1) b a a2=[bW b a a2]:=by unfold pc;rw[if_neg (fun h=>h q2),if_pos q3];rfl
     rw[hpc]at hW
     have hWl:(aY (1) b vs (i+1)).length=W.length+1:=by rw[hW];simp
     have hWm:(aY (1) b vs (i+1)).map eP=W.map eP++[eP (bW b a a2)]:=by rw[hW];simp
     clear hW hpc
     repeat'(first|refine zg ?_|(refine zc ?_ ?_<;>intro hc<;>try simp only[NM]at hc)|refine zr ?_|(refine zp (gA p vs i hlt hn) (by simp -dsimp (disch:=try exact zo)only[go_sem,aC]) (.lit _) ?_)|(refine zf (f9 b a a2 hb ha ha2 (fU q3) (fE haw ha2w q3)) ?_)|refine⟨by omega,?_⟩|(refine zb ?_ ?_<;>intro hg<;>(try rw[hg])<;>try simp only[NM]at hg)|omega|simp -dsimp (disch:=try exact zo)only[go_sem,hl,hl2,ea,ea2,sa,sa2,k2,k3,zl,Sx.d7,ZT,flr,List.map_append,aC]|contradiction|rfl)
     all_goals exact AW.stop ⟨⟨i+1,by omega⟩,(aH (by refine⟨?_,?_,?_,?_⟩<;>first|(simp -dsimp (disch:=try exact zo)only[go_sem,hWl,hWm,hSo,zl,ZC];done)|(simp -dsimp (disch:=try exact zo)only[go_sem,aC,aU,hWl,ZC];done))),by dsimp only;omega⟩
    ·skip
     have k2:(aB b a=-1)=True:=eq_true q2
     have k3:(aB b a*aB b a2<0)=False:=eq_false q3
     have hpc:pc (1) b a a2=[]:=by unfold pc;rw[if_neg (fun h=>h q2),if_neg q3];rfl
     rw[hpc]at hW
     have hWl:(aY (1) b vs (i+1)).length=W.length:=by rw[hW];simp
     have hWm:(aY (1) b vs (i+1)).map eP=W.map eP:=by rw[hW];simp
     clear hW hpc
     repeat'(first|refine zg ?_|(refine zc ?_ ?_<;>intro hc<;>try simp only[NM]at hc)|refine zr ?_|(refine zp (gA p vs i hlt hn) (by simp -dsimp (disch:=try exact zo)only[go_sem,aC]) (.lit _) ?_)|(refine zf (f9 b a a2 hb ha ha2 (fU q3) (fE haw ha2w q3)) ?_)|refine⟨by omega,?_⟩|(refine zb ?_ ?_<;>intro hg<;>(try rw[hg])<;>try simp only[NM]at hg)|omega|simp -dsimp (disch:=try exact zo)only[go_sem,hl,hl2,ea,ea2,sa,sa2,k2,k3,zl,Sx.d7,ZT,flr,List.map_append,aC]|contradiction|rfl)
     all_goals exact AW.stop ⟨⟨i+1,by omega⟩,(aH (by refine⟨?_,?_,?_,?_⟩<;>first|(simp -dsimp (disch:=try exact zo)only[go_sem,hWl,hWm,hSo,zl,ZC];done)|(simp -dsimp (disch:=try exact zo)only[go_sem,aC,aU,hWl,ZC];done))),by dsimp only;omega⟩
   ·by_cases q3:aB b a*aB b a2<0
    ·skip
     have k2:(aB b a=-1)=False:=eq_false q2
     have k3:(aB b a*aB b a2<0)=True:=eq_true q3
     have hpc:pc (1) b a a2=[a,bW b a a2]:=by unfold pc;rw[if_pos q2,if_pos q3];rfl
     rw[hpc]at hW
     have hWl:(aY (1) b vs (i+1)).length=W.length+1+1:=by rw[hW];simp
     have hWm:(aY (1) b vs (i+1)).map eP=W.map eP++[eP (a),eP (bW b a a2)]:=by rw[hW];simp
     clear hW hpc
     repeat'(first|refine zg ?_|(refine zc ?_ ?_<;>intro hc<;>try simp only[NM]at hc)|refine zr ?_|(refine zp (gA p vs i hlt hn) (by simp -dsimp (disch:=try exact zo)only[go_sem,aC]) (.lit _) ?_)|(refine zf (f9 b a a2 hb ha ha2 (fU q3) (fE haw ha2w q3)) ?_)|refine⟨by omega,?_⟩|(refine zb ?_ ?_<;>intro hg<;>(try rw[hg])<;>try simp only[NM]at hg)|omega|simp -dsimp (disch:=try exact zo)only[go_sem,hl,hl2,ea,ea2,sa,sa2,k2,k3,zl,Sx.d7,ZT,flr,List.map_append,aC]|contradiction|rfl)
     all_goals exact AW.stop ⟨⟨i+1,by omega⟩,(aH (by refine⟨?_,?_,?_,?_⟩<;>first|(simp -dsimp (disch:=try exact zo)only[go_sem,hWl,hWm,hSo,zl,ZC];done)|(simp -dsimp (disch:=try exact zo)only[go_sem,aC,aU,hWl,ZC];done))),by dsimp only;omega⟩
    ·skip
     have k2:(aB b a=-1)=False:=eq_false q2
     have k3:(aB b a*aB b a2<0)=False:=eq_false q3
     have hpc:pc (1) b a a2=[a]:=by unfold pc;rw[if_pos q2,if_neg q3];rfl
     rw[hpc]at hW
     have hWl:(aY (1) b vs (i+1)).length=W.length+1:=by rw[hW];simp
     have hWm:(aY (1) b vs (i+1)).map eP=W.map eP++[eP (a)]:=by rw[hW];simp
     clear hW hpc
     repeat'(first|refine zg ?_|(refine zc ?_ ?_<;>intro hc<;>try simp only[NM]at hc)|refine zr ?_|(refine zp (gA p vs i hlt hn) (by simp -dsimp (disch:=try exact zo)only[go_sem,aC]) (.lit _) ?_)|(refine zf (f9 b a a2 hb ha ha2 (fU q3) (fE haw ha2w q3)) ?_)|refine⟨by omega,?_⟩|(refine zb ?_ ?_<;>intro hg<;>(try rw[hg])<;>try simp only[NM]at hg)|omega|simp -dsimp (disch:=try exact zo)only[go_sem,hl,hl2,ea,ea2,sa,sa2,k2,k3,zl,Sx.d7,ZT,flr,List.map_append,aC]|contradiction|rfl)
     all_goals exact AW.stop ⟨⟨i+1,by omega⟩,(aH (by refine⟨?_,?_,?_,?_⟩<;>first|(simp -dsimp (disch:=try exact zo)only[go_sem,hWl,hWm,hSo,zl,ZC];done)|(simp -dsimp (disch:=try exact zo)only[go_sem,aC,aU,hWl,ZC];done))),by dsimp only;omega⟩
  ·have hSo:bG (1) b vs (i+1)=true:=by rw[hS];simp
   have flr:True:=trivial
   clear hS
   by_cases q2:aB b a=-1
   ·by_cases q3:aB b a*aB b a2<0
    ·skip
     have k2:(aB b a=-1)=True:=eq_true q2
     have k3:(aB b a*aB b a2<0)=True:=eq_true q3
     have hpc:pc (1) b a a2=[bW b a a2]:=by unfold pc;rw[if_neg (fun h=>h q2),if_pos q3];rfl
     rw[hpc]at hW
     have hWl:(aY (1) b vs (i+1)).length=W.length+1:=by rw[hW];simp
     have hWm:(aY (1) b vs (i+1)).map eP=W.map eP++[eP (bW b a a2)]:=by rw[hW];simp
     clear hW hpc
     repeat'(first|refine zg ?_|(refine zc ?_ ?_<;>intro hc<;>try simp only[NM]at hc)|refine zr ?_|(refine zp (gA p vs i hlt hn) (by simp -dsimp (disch:=try exact zo)only[go_sem,aC]) (.lit _) ?_)|(refine zf (f9 b a a2 hb ha ha2 (fU q3) (fE haw ha2w q3)) ?_)|refine⟨by omega,?_⟩|(refine zb ?_ ?_<;>intro hg<;>(try rw[hg])<;>try simp only[NM]at hg)|omega|simp -dsimp (disch:=try exact zo)only[go_sem,hl,hl2,ea,ea2,sa,sa2,k2,k3,zl,Sx.d7,ZT,flr,List.map_append,aC]|contradiction|rfl)
     all_goals exact AW.stop ⟨⟨i+1,by omega⟩,(aH (by refine⟨?_,?_,?_,?_⟩<;>first|(simp -dsimp (disch:=try exact zo)only[go_sem,hWl,hWm,hSo,zl,ZC];done)|(simp -dsimp (disch:=try exact zo)only[go_sem,aC,aU,hWl,ZC];done))),by dsimp only;omega⟩
    ·skip
     have k2:(aB b a=-1)=True:=eq_true q2
     have k3:(aB b a*aB b a2<0)=False:=eq_false q3
     have hpc:pc (1) b a a2=[]:=by unfold pc;rw[if_neg (fun h=>h q2),if_neg q3];rfl
     rw[hpc]at hW
     have hWl:(aY (1) b vs (i+1)).length=W.length:=by rw[hW];simp
     have hWm:(aY (1) b vs (i+1)).map eP=W.map eP:=by rw[hW];simp
     clear hW hpc
     repeat'(first|refine zg ?_|(refine zc ?_ ?_<;>intro hc<;>try simp only[NM]at hc)|refine zr ?_|(refine zp (gA p vs i hlt hn) (by simp -dsimp (disch:=try exact zo)only[go_sem,aC]) (.lit _) ?_)|(refine zf (f9 b a a2 hb ha ha2 (fU q3) (fE haw ha2w q3)) ?_)|refine⟨by omega,?_⟩|(refine zb ?_ ?_<;>intro hg<;>(try rw[hg])<;>try simp only[NM]at hg)|omega|simp -dsimp (disch:=try exact zo)only[go_sem,hl,hl2,ea,ea2,sa,sa2,k2,k3,zl,Sx.d7,ZT,flr,List.map_append,aC]|contradiction|rfl)
     all_goals exact AW.stop ⟨⟨i+1,by omega⟩,(aH (by refine⟨?_,?_,?_,?_⟩<;>first|(simp -dsimp (disch:=try exact zo)only[go_sem,hWl,hWm,hSo,zl,ZC];done)|(simp -dsimp (disch:=try exact zo)only[go_sem,aC,aU,hWl,ZC];done))),by dsimp only;omega⟩
   ·by_cases q3:aB b a*aB b a2<0
    ·skip
     have k2:(aB b a=-1)=False:=eq_false q2
     have k3:(aB b a*aB b a2<0)=True:=eq_true q3
     have hpc:pc (1) b a a2=[a,bW b a a2]:=by unfold pc;rw[if_pos q2,if_pos q3];rfl
     rw[hpc]at hW
     have hWl:(aY (1) b vs (i+1)).length=W.length+1+1:=by rw[hW];simp
     have hWm:(aY (1) b vs (i+1)).map eP=W.map eP++[eP (a),eP (bW b a a2)]:=by rw[hW];simp
     clear hW hpc
     repeat'(first|refine zg ?_|(refine zc ?_ ?_<;>intro hc<;>try simp only[NM]at hc)|refine zr ?_|(refine zp (gA p vs i hlt hn) (by simp -dsimp (disch:=try exact zo)only[go_sem,aC]) (.lit _) ?_)|(refine zf (f9 b a a2 hb ha ha2 (fU q3) (fE haw ha2w q3)) ?_)|refine⟨by omega,?_⟩|(refine zb ?_ ?_<;>intro hg<;>(try rw[hg])<;>try simp only[NM]at hg)|omega|simp -dsimp (disch:=try exact zo)only[go_sem,hl,hl2,ea,ea2,sa,sa2,k2,k3,zl,Sx.d7,ZT,flr,List.map_append,aC]|contradiction|rfl)
     all_goals exact AW.stop ⟨⟨i+1,by omega⟩,(aH (by refine⟨?_,?_,?_,?_⟩<;>first|(simp -dsimp (disch:=try exact zo)only[go_sem,hWl,hWm,hSo,zl,ZC];done)|(simp -dsimp (disch:=try exact zo)only[go_sem,aC,aU,hWl,ZC];done))),by dsimp only;omega⟩
    ·skip
     have k2:(aB b a=-1)=False:=eq_false q2
     have k3:(aB b a*aB b a2<0)=False:=eq_false q3
     have hpc:pc (1) b a a2=[a]:=by unfold pc;rw[if_pos q2,if_neg q3];rfl
     rw[hpc]at hW
     have hWl:(aY (1) b vs (i+1)).length=W.length+1:=by rw[hW];simp
     have hWm:(aY (1) b vs (i+1)).map eP=W.map eP++[eP (a)]:=by rw[hW];simp
     clear hW hpc
     repeat'(first|refine zg ?_|(refine zc ?_ ?_<;>intro hc<;>try simp only[NM]at hc)|refine zr ?_|(refine zp (gA p vs i hlt hn) (by simp -dsimp (disch:=try exact zo)only[go_sem,aC]) (.lit _) ?_)|(refine zf (f9 b a a2 hb ha ha2 (fU q3) (fE haw ha2w q3)) ?_)|refine⟨by omega,?_⟩|(refine zb ?_ ?_<;>intro hg<;>(try rw[hg])<;>try simp only[NM]at hg)|omega|simp -dsimp (disch:=try exact zo)only[go_sem,hl,hl2,ea,ea2,sa,sa2,k2,k3,zl,Sx.d7,ZT,flr,List.map_append,aC]|contradiction|rfl)
     all_goals exact AW.stop ⟨⟨i+1,by omega⟩,(aH (by refine⟨?_,?_,?_,?_⟩<;>first|(simp -dsimp (disch:=try exact zo)only[go_sem,hWl,hWm,hSo,zl,ZC];done)|(simp -dsimp (disch:=try exact zo)only[go_sem,aC,aU,hWl,ZC];done))),by dsimp only;omega⟩
 ·have hil:i=vs.length:=by omega
  subst hil
  rw[uM]
  cases hfl:bG (1) b vs vs.length
  ·have k1:True:=trivial
   rw[if_neg (by simp)]
   repeat'(first|refine zg ?_|(refine zc ?_ ?_<;>intro hc<;>try simp only[NM]at hc)|refine zn ?_|refine⟨by omega,?_⟩|(refine zb ?_ ?_<;>intro hg<;>(try rw[hg])<;>try simp only[NM]at hg)|omega|simp -dsimp (disch:=try exact zo)only[go_sem,hl,k1,zl]|contradiction|rfl)
  ·have k1:True:=trivial
   rw[if_pos rfl]
   repeat'(first|refine zg ?_|(refine zc ?_ ?_<;>intro hc<;>try simp only[NM]at hc)|refine zn ?_|refine⟨by omega,?_⟩|(refine zb ?_ ?_<;>intro hg<;>(try rw[hg])<;>try simp only[NM]at hg)|omega|simp -dsimp (disch:=try exact zo)only[go_sem,hl,k1,zl]|contradiction|rfl)
end Go.Proofs.Vx
namespace Go.Sx
set_option linter.unusedVariables false
set_option linter.unusedSimpArgs false
def subC (l L:Nat) (es:List (List AV)):List AV→List AV→Prop
 | [],[]=>True
 | a::r,b::s=>(a=b∨(a=.ref l 0 L L∧b=.sl es))∧subC l L es r s
 | _,_=>False
def subB (l L:Nat) (es:List (List AV)):AV→AV→Prop
 | .blk cs,.blk ds=>subC l L es cs ds
 | _,_=>False
def vZ (l L:Nat) (es:List (List AV)) (s:List (Nat × AV)):List (Nat × AV)→Prop
 | []=>True
 | (i,a)::r=>(look s i=a∨(look s i=.ref l 0 L L∧a=.sl es))∧vZ l L es s r
def v8 (l L:Nat) (es:List (List AV)) (s:List (Nat × AV)):List (Nat × AV)→Prop
 | []=>True
 | (i,a)::r=>(i≠l∧(look s i=a∨subB l L es (look s i) a))∧v8 l L es s r
theorem b2h {l L:Nat} {es:List (List AV)}:∀ {cs ds:List AV},subC l L es cs ds→ds.length=cs.length∧∀ i (h1:i<cs.length) (h2:i<ds.length),cs[i]=ds[i]∨(cs[i]=.ref l 0 L L∧ds[i]=.sl es):=by
 intro cs
 induction cs with
 | nil=>intro ds h;cases ds with
  | nil=>exact⟨rfl,fun i h1=>by simp at h1⟩
  | cons d ds=>exact h.elim
 | cons c cs ih=>intro ds h;cases ds with
  | nil=>exact h.elim
  | cons d ds =>
   obtain⟨h0,h⟩:=h
   obtain⟨h1,h2⟩:=ih h
   refine⟨by simp[h1],fun i a1 a2=>?_⟩
   cases i with
   | zero=>exact h0
   | succ i=>exact h2 i (by simpa using a1) (by simpa using a2)
theorem b0u {l L:Nat} {es:List (List AV)} {s:List (Nat × AV)}:∀ {t:List (Nat × AV)},vZ l L es s t→∀ p∈t,look s p.1=p.2∨(look s p.1=.ref l 0 L L∧p.2=.sl es):=by
 intro t
 induction t with
 | nil=>intro _ p hp;simp at hp
 | cons q t ih =>
  intro h p hp
  obtain⟨i,a⟩:=q
  rcases List.mem_cons.1 hp with rfl|hp
  ·exact h.1
  ·exact ih h.2 p hp
theorem b0v {l L:Nat} {es:List (List AV)} {s:List (Nat × AV)}:∀ {t:List (Nat × AV)},v8 l L es s t→∀ p∈t,p.1≠l∧(look s p.1=p.2∨subB l L es (look s p.1) p.2):=by
 intro t
 induction t with
 | nil=>intro _ p hp;simp at hp
 | cons q t ih =>
  intro h p hp
  obtain⟨i,a⟩:=q
  rcases List.mem_cons.1 hp with rfl|hp
  ·exact h.1
  ·exact ih h.2 p hp
theorem lS {S:AS} (l L k:Nat) (es:List (List AV)) {t o:List (Nat × AV)} (hob:look S.o l=.vec k es) (hL:es.length=L) (ht:vZ l L es S.t t) (ho:v8 l L es S.o o):Weak S ⟨t,o,S.nx⟩:=by
 intro c nt a w hs
 obtain⟨g,rfl,hg,htk,hsz,hu,hln,h8⟩:=hs
 have hev:=rP g l (look S.o l)
 have hfz:∀ {v:Value},Rel g (.ref l 0 L L) v→Rel (jQ g l (look S.o l)) (.sl es) v:=fun h=>by
  have:=a4w hg l h
  rw[show fzl l (look S.o l) (.ref l 0 L L)=.sl es by
   simp only[fzl,if_true]
   exact sO (ob:=fun _=>look S.o l) hob hL]at this
  exact this
 have hT:=b0u ht
 have hO:=b0v ho
 have hlo:∀ q,look o q=.any∨(q≠l∧(look S.o q=look o q∨subB l L es (look S.o q) (look o q))):=fun q=>by
  rcases @jM o q with h|h
  ·exact .inl h
  ·exact .inr (hO _ h)
 have hbl:∀ q b,aE (jQ g l (look S.o l)) q (look o q)=some b→q≠l∧aE g q (look S.o q)=some b:=by
  intro q b hb
  rcases hlo q with h|⟨hk,h|h⟩
  ·rw[h]at hb;simp[aE]at hb
  ·rw[← h]at hb
   refine⟨hk,?_⟩
   generalize look S.o q=x at hb ⊢
   cases x<;>exact hb
  ·refine⟨hk,?_⟩
   generalize look S.o q=x at h hb ⊢
   generalize look o q=y at h hb
   cases x<;>cases y<;>first|exact h.elim|exact hb
 refine⟨jQ g l (look S.o l),rfl,⟨hg.os,hg.tape,hg.output,hg.size,hg.old,fun b hb=>.inl (hg.fzo b hb),fun b hb=>?_,fun b hb=>?_,fun q=>?_,fun q b hb=>?_,fun q q' b hb hb'=>hg.dis q q' b (hbl q b hb).2 (hbl q' b hb').2⟩,⟨htk.1,fun q=>?_⟩,hsz,hu,hln.mono hev,h8⟩
 ·rcases hb with hb|hb
  ·exact hg.fzn b hb
  ·rcases (hg.own l b hb).1 with h|h
   ·exact .inr (.inl h)
   ·exact .inr (.inr h)
 ·rcases hb with hb|hb
  ·exact hg.fzx b hb
  ·exact (hg.obj l).lt hb
 ·show ObjOk _ q (look o q)
  have hok:=hg.obj q
  rcases hlo q with h|⟨hk,h|h⟩
  ·rw[h];trivial
  ·rw[← h]
   exact hok.keep hev ⟨rfl,rfl⟩ fun b hb=>rfl
  ·generalize look S.o q=x at h hok
   generalize look o q=y at h
   cases x<;>cases y<;>first|exact h.elim|skip
   rename_i cs ds
   obtain⟨s1,s2⟩:=b2h h
   obtain⟨h1,vs,e,h2,h3,h4,h5⟩:=hok
   refine⟨h1,vs,e,h2,by rw[h3,s1],h4,fun i i1 i2=>?_⟩
   have h6:=h5 i (by omega) i2
   rcases s2 i (by omega) i1 with s3|⟨s3,s4⟩
   ·rw[← s3];exact h6.mono hev
   ·rw[s4]
    rw[s3]at h6
    exact hfz h6
 ·obtain⟨hk,hb2⟩:=hbl q b hb
  refine⟨(hg.own q b hb2).1,?_⟩
  rintro (h|h)
  ·exact (hg.own q b hb2).2 h
  ·exact hk (hg.dis q l b hb2 h)
 ·show Rel _ (look t q) _
  rcases @jM t q with h|h
  ·rw[h];exact .any _
  ·rcases hT _ h with h1|⟨h1,h2⟩
   ·simp only at h1
    rw[← h1]
    exact (htk.2 q).mono hev
   ·simp only at h1 h2
    rw[h2]
    have:=htk.2 q
    rw[h1]at this
    exact hfz this
attribute [go_sem] subC subB vZ v8
end Go.Sx
