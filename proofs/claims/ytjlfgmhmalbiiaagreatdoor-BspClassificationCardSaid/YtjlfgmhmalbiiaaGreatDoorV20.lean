import Derived.Test.YtjlfgmhmalbiiaaGreatDoorV19
set_option linter.all false
set_option maxHeartbeats 40000000
namespace Go.Proofs.Vx
open Go Go.Sx Go.Proofs Tryz
attribute [local irreducible] fnT CallOK CallFr AW aO callV aP aN aM aQ gcaseP hid
theorem b5j:agT prog 138=some true∧arT prog 135=none∧arT prog 31=none∧fdT prog 138 0=some (0,8,true)∧fdT prog 138 1=some (8,8,true)∧mpT prog 164=some (51,51)∧slT prog 164=none∧slT prog 31=some (58,9)∧bM prog 135=false∧bM prog 164=false∧bM prog 31=false∧szT prog 138=some 16∧zvT prog 51=some (.agg #[.bool false,.string ⟨#[]⟩,.bool false,.string ⟨#[]⟩,.bool false,.string ⟨#[]⟩,.bool false,.string ⟨#[]⟩]):=by and_intros<;>kernel_rfl
attribute [go_sem] b5j
theorem qS:WideMaps.KeyLaw prog 51:=deep_law_gate (by kernel_rfl) (of_decide_eq_true (by kernel_rfl)) (of_decide_eq_true (by kernel_rfl)) (by kernel_rfl) (by kernel_rfl)
theorem a6i:iX prog 24=some [(4,0),(9,1)]:=by kernel_rfl
theorem a6h:iX prog 51=some [(24,0),(24,2),(24,4),(24,6)]:=by kernel_rfl
theorem y7:Tryz.prog.cellsOf 24=2:=by kernel_rfl
theorem a6j:Tryz.prog.cellsOf 51=8:=by kernel_rfl
theorem a7s:Tryz.prog.cellsOf 4=1:=by kernel_rfl
theorem a7r:Tryz.prog.cellsOf 9=1:=by kernel_rfl
theorem yts:Tryz.prog.types.size=290:=by kernel_rfl
theorem c3m:boT prog 4=true:=by kernel_rfl
theorem c3g:bM prog 9=true:=by kernel_rfl
theorem kl24 (d:Nat) (b:Bool) (s:ByteArray) (h:s.size≤maxLen):Tryz.prog.keyLits (d+2) 24 [.bool b,.string s]=some [.bool b,.string s.data.toList]:=by
 rw[z7 a6i (by rw[y7];rfl)]
 simp only[List.mapM_cons,List.mapM_nil,a7s,a7r,List.drop_zero,List.drop_succ_cons,List.take_succ_cons,List.take_zero,Go.Sx.keyLits_bool b c3m,Go.Sx.b0c s c3g h]
 rfl
theorem tF (p:Pt) (h:BPt 1073741824 p):(keyOf prog 51 (pv p)).isSome=true:=by
 have hml:maxLen=9223372036854775807:=rfl
 have h1:=h.out.a
 have h2:=h.out.b
 have h3:=h.out.c
 have h4:=h.out.d
 refine a9r (L:=[.bool (Zn p.x),.string (Zm p.x).data.toList,.bool (Zn p.y),.string (Zm p.y).data.toList,.bool (Zn p.z),.string (Zm p.z).data.toList,.bool (Zn p.w),.string (Zm p.w).data.toList]) a6h (by kernel_rfl) (by rw[a6j];rfl) ?_
 rw[yts,z7 a6h (by rw[a6j];rfl)]
 simp only[List.mapM_cons,List.mapM_nil,y7,List.drop_zero,List.drop_succ_cons,List.take_succ_cons,List.take_zero,kl24 288 _ _ (show (Zm p.x).size≤maxLen by omega),kl24 288 _ _ (show (Zm p.y).size≤maxLen by omega),kl24 288 _ _ (show (Zm p.z).size≤maxLen by omega),kl24 288 _ _ (show (Zm p.w).size≤maxLen by omega)]
 rfl
theorem a7e {s:MS} (h:MInv 1073741824 s):p6 prog 51 (mPP s.1):=by
 refine⟨fun e he=>?_,?_⟩
 ·obtain⟨q,hq,rfl⟩:=List.mem_map.1 he
  exact tF q.1 (h.bt q hq).1
 ·rw[a3m]
  exact List.Pairwise.map _ (fun a b hab hp=>hab (pP hp)) h.nd
theorem c5l {m:List Pt} (hn:m.Nodup) (h:∀ p∈m,BPt 1073741824 p):p6 prog 51 (mPB m):=by
 refine⟨fun e he=>?_,?_⟩
 ·obtain⟨q,hq,rfl⟩:=List.mem_map.1 he
  exact tF q (h q hq)
 ·rw[a3n]
  exact List.Pairwise.map _ (fun a b hab hp=>hab (pP hp)) hn
theorem gG (p:Pl) (vs:List Pt):FlatS (.agg (eG p vs)):=by
 have:=uW (c:=true) p vs trivial
 rwa [if_pos rfl]at this
theorem lk51 (m:List (Pt × Pt)) (x:Pt):(fF (mPP m) (pv x)).getD (Value.agg #[.bool false,.string ⟨#[]⟩,.bool false,.string ⟨#[]⟩,.bool false,.string ⟨#[]⟩,.bool false,.string ⟨#[]⟩])=pv (nxP m x):=by
 rw[b7h]
 unfold nxP
 cases pS m x with
 | none =>
  simp only[Option.map_none,Option.getD_none,P0,pv,kQ,eD]
 | some y=>rfl
abbrev eS (l:List (Pl × List Pt)):List (List AV):=l.map fun s=>eG s.1 s.2
theorem eG_in {K:Nat→Prop} (p:Pl) (vs:List Pt):∀ c∈eG p vs,In K c:=by
 intro c hc
 simp only[zM,or_false]at hc
 rcases hc with rfl|rfl|rfl|rfl|rfl|rfl|rfl|rfl|rfl<;>first|exact .lit _|exact .sl _ fun e he c hc=>(pI vs e he c hc).inn
theorem aG {K:Nat→Prop} (l:List (Pl × List Pt)):(∀ e∈eS l,∀ c∈e,In K c)=True:=eq_true fun e he c hc=>by
 obtain⟨s,_,rfl⟩:=List.mem_map.1 he
 exact eG_in s.1 s.2 c hc
theorem sL (l:List (Pl × List Pt)) (i:Nat) (h:i<l.length):(eS l).getD i []=eG l[i].1 l[i].2:=by
 rw[List.getD_eq_getElem?_getD,List.getElem?_eq_getElem (by simpa using h)];simp
theorem b1k (b:Pl) (l:List (Pl × List Pt)) (i:Nat) (h:i<l.length):cU b (l.take (i+1))=bZ b (cU b (l.take i)) (Geo.edges l[i].2):=by
 unfold cU
 rw[List.take_succ_eq_append_getElem h,List.foldl_append]
 rfl
theorem b1l (b:Pl) (s:MS) (es:List (Pt × Pt)) (j:Nat) (h:j<es.length):bZ b s (es.take (j+1))=gS b (bZ b s (es.take j)) es[j]:=by
 rw[List.take_succ_eq_append_getElem h,b4b]
theorem a2g {k:Nat} {b:Pl} {es:List (Pt × Pt)}:∀ {s:MS},MInv k s→(∀ e∈es,BPt k e.1∧BPt k e.2)→MInv k (bZ b s es):=by
 induction es with
 | nil=>intro s h _;exact h
 | cons e es ih=>intro s h he;exact ih (h.step (he _ (by simp))) fun q hq=>he q (by simp[hq])
theorem a1h {k:Nat} {b:Pl} {l:List (Pl × List Pt)} (h:∀ s∈l,∀ v∈s.2,BPt k v):MInv k (cU b l):=by
 have key:∀ (l:List (Pl × List Pt)) (s:MS),MInv k s→(∀ x∈l,∀ v∈x.2,BPt k v)→MInv k (l.foldl (fun s x=>bZ b s (Geo.edges x.2)) s):=by
  intro l
  induction l with
  | nil=>intro s h _;exact h
  | cons x l ih =>
   intro s hs h
   exact ih _ (a2g hs fun e he=>⟨h x (by simp) _ (Geo.bL he),h x (by simp) _ (Geo.bU he)⟩) fun y hy=>h y (by simp[hy])
 exact key l _ ⟨by simp,by simp,vA k⟩ h
theorem b8h (p:Pt):∀ c∈eP p,Flat c:=by
 intro c hc
 simp only[eP,e4,List.mem_cons,List.not_mem_nil,or_false]at hc
 rcases hc with rfl|rfl|rfl|rfl|rfl|rfl|rfl|rfl<;>exact .lit _
theorem c71 (l:List (Pl × List Pt)) (b:Pl) (hb:BPl 1073741824 b) (hn:l.length≤1048576) (hv:∀ s∈l,s.2.length≤1048576∧∀ v∈s.2,BPt 1073741824 v) (hm:(cU b l).1.length≤268435456):CallNw prog 71 [.sl (eS l),.agg (eH b)] (.agg (eG b (b8 b l))):=by
 refine CallNw.flat func71 rfl 68 rfl rfl (gG _ _) [.cell 4 58] (congrArg Array.toList results71) ?_
 simp only[aD,Nat.reduceAdd]
 have hml:maxLen=9223372036854775807:=rfl
 have hl:(eS l).length=l.length:=List.length_map _
 repeat'(first|refine zg ?_|(refine zc ?_ ?_<;>intro hc<;>try simp only[NM]at hc)|refine zr ?_|refine⟨by omega,?_⟩|(refine zb ?_ ?_<;>intro hg<;>(try rw[hg])<;>try simp only[NM]at hg)|omega|simp -dsimp (disch:=try exact zo)only[go_sem,hl]|contradiction|rfl)
 have hf0:cU b []=([],P0):=rfl
 have hp0:mPP ([]:List (Pt × Pt))=[]:=rfl
 have hz:eP P0=[.lit (.bool false),.lit (.string ⟨#[]⟩),.lit (.bool false),.lit (.string ⟨#[]⟩),.lit (.bool false),.lit (.string ⟨#[]⟩),.lit (.bool false),.lit (.string ⟨#[]⟩)]:=by simp only[eP,e4,P0,kQ,eD]
 refine AW.loop (fun z:{i:Nat // i≤l.length}=>⟨[(18,.lit (.int .i64 z.1)),(17,.lit (.int .i64 l.length)),(16,.sl (eS l)),(7,.loc 16 0),(6,.mp 14),(5,.loc 12 0),(4,.loc 9 0),(3,.loc 8 0)],[(8,.blk (eH b)),(9,.blk eG0),(12,.blk [.lit (.bool (Zn b.a)),.lit (.string (Zm b.a)),.lit (.bool (Zn b.b)),.lit (.string (Zm b.b)),.lit (.bool (Zn b.c)),.lit (.string (Zm b.c)),.lit (.bool (Zn b.d)),.lit (.string (Zm b.d)),.lit (.slice none 0 0)]),(14,.mpo (mPP (cU b (l.take z.1)).1)),(16,.blk (eP (cU b (l.take z.1)).2))],60⟩) (fun z=>l.length - z.1) ⟨0,Nat.zero_le _⟩ (aH (by refine⟨?_,?_,?_,?_⟩<;>simp -dsimp (disch:=try exact zo)only[go_sem,aG,aC,List.take_zero,hf0,hp0,hz,ZC])) ?_
 rintro⟨i,hi⟩
 dsimp only
 by_cases hlt:i<l.length
 ·have es1:=sL l i hlt
  have hS1:=b1k b l i hlt
  have hvs:=hv _ (List.getElem_mem hlt)
  have hI:MInv 1073741824 (cU b (l.take i)):=a1h fun s hs=>(hv s (List.mem_of_mem_take hs)).2
  generalize l[i]=sd at *
  obtain⟨sp,svs⟩:=sd
  dsimp only at es1 hS1 hvs
  generalize cU b (l.take i)=S at *
  obtain⟨hvn0,hvb⟩:=hvs
  have hvn:svs.length≤268435456:=by omega
  have hbe:∀ e∈Geo.edges svs,BPt 1073741824 e.1∧BPt 1073741824 e.2:=fun e he=>⟨hvb _ (Geo.bL he),hvb _ (Geo.bU he)⟩
  have hel:(Geo.edges svs).length=svs.length:=Geo.gC _
  simp only[eG]at es1
  repeat'(first|refine zg ?_|(refine zc ?_ ?_<;>intro hc<;>try simp only[NM]at hc)|refine zr ?_|(refine zp (c118 sp svs hvn) (by simp -dsimp (disch:=try exact zo)only[go_sem,aC]) (by rw[gJ,nU];trivial) ?_)|refine⟨by omega,?_⟩|(refine zb ?_ ?_<;>intro hg<;>(try rw[hg])<;>try simp only[NM]at hg)|omega|simp -dsimp (disch:=try exact zo)only[go_sem,hl,es1,ZT,aG,aC,kC,zl]|contradiction|rfl)
  generalize hE:Geo.edges svs=es at *
  have hfe:bZ b S []=S:=rfl
  refine AW.loop (fun z:{j:Nat // j≤es.length}=>⟨[(25,.lit (.int .i64 z.1)),(24,.lit (.int .i64 es.length)),(23,.sl (eEs es)),(18,.lit (.int .i64 i)),(17,.lit (.int .i64 l.length)),(16,.sl (eS l)),(7,.loc 16 0),(6,.mp 14),(5,.loc 12 0),(4,.loc 9 0),(3,.loc 8 0)],[(8,.blk (eH b)),(9,.blk eG0),(12,.blk [.lit (.bool (Zn b.a)),.lit (.string (Zm b.a)),.lit (.bool (Zn b.b)),.lit (.string (Zm b.b)),.lit (.bool (Zn b.c)),.lit (.string (Zm b.c)),.lit (.bool (Zn b.d)),.lit (.string (Zm b.d)),.lit (.slice none 0 0)]),(14,.mpo (mPP (bZ b S (es.take z.1)).1)),(16,.blk (eP (bZ b S (es.take z.1)).2))],80⟩) (fun z=>es.length - z.1) ⟨0,Nat.zero_le _⟩ (aH (by refine⟨?_,?_,?_,?_⟩<;>simp -dsimp (disch:=try exact zo)only[go_sem,aG,aC,nU,List.take_zero,hfe,ZC])) ?_
  rintro⟨j,hj⟩
  dsimp only
  by_cases hjt:j<es.length
  ·have ee:=b8j es j hjt
   have hst0:=b1l b S es j hjt
   have hbe2:=hbe _ (List.getElem_mem hjt)
   have hI2:MInv 1073741824 (bZ b S (es.take j)):=a2g hI fun e he=>hbe e (List.mem_of_mem_take he)
   generalize es[j]=ed at *
   obtain⟨a,a2⟩:=ed
   dsimp only at ee hbe2
   generalize bZ b S (es.take j)=R at *
   obtain⟨ha,ha2⟩:=hbe2
   have hkey:=tF a2 ha2
   have hko:=a7e hI2
   have hput:=c1p R.1 a2 a
   simp only[eE]at ee
   simp only[pv]at hkey hput
   have hn2:True:=trivial
   by_cases q1:aB b a=0
   ·by_cases q2:aB b a2=0
    ·have k1:=eq_true q1
     have k2:=eq_true q2
     have hst:bZ b S (es.take (j+1))=(jX R.1 a2 a,a2):=by rw[hst0];unfold gS;rw[if_pos ⟨q1,q2⟩]
     clear hst0
     repeat'(first|refine zg ?_|(refine zc ?_ ?_<;>intro hc<;>first|simp only[NM]at hc|omega|skip)|refine zr ?_|(refine zf (c34 b _ hb (by assumption)) ?_)|refine⟨by omega,?_⟩|(refine zb ?_ ?_<;>intro hg<;>(try rw[hg])<;>try simp only[NM]at hg)|omega|simp -dsimp (disch:=try exact zo)only[go_sem,hl,ee,kC,k1,k2,qS,hkey,hko,hput,ZT,zl,hn2]|rfl)
     all_goals exact AW.stop ⟨⟨j+1,by omega⟩,(aH (by refine⟨?_,?_,?_,?_⟩<;>first|(simp -dsimp (disch:=try exact zo)only[go_sem,hst,ZC];done)|(simp -dsimp (disch:=try exact zo)only[go_sem,aG,aC,nU,ZC];done))),by dsimp only;omega⟩
    ·have k1:=eq_true q1
     have k2:=eq_false q2
     have hst:bZ b S (es.take (j+1))=R:=by rw[hst0];unfold gS;rw[if_neg (fun h=>q2 h.2)]
     clear hst0
     repeat'(first|refine zg ?_|(refine zc ?_ ?_<;>intro hc<;>first|simp only[NM]at hc|omega|skip)|refine zr ?_|(refine zf (c34 b _ hb (by assumption)) ?_)|refine⟨by omega,?_⟩|(refine zb ?_ ?_<;>intro hg<;>(try rw[hg])<;>try simp only[NM]at hg)|omega|simp -dsimp (disch:=try exact zo)only[go_sem,hl,ee,kC,k1,k2,qS,hkey,hko,hput,ZT,zl,hn2]|rfl)
     all_goals exact AW.stop ⟨⟨j+1,by omega⟩,(aH (by refine⟨?_,?_,?_,?_⟩<;>first|(simp -dsimp (disch:=try exact zo)only[go_sem,hst,ZC];done)|(simp -dsimp (disch:=try exact zo)only[go_sem,aG,aC,nU,ZC];done))),by dsimp only;omega⟩
   ·have k1:=eq_false q1
    have k2:True:=trivial
    have hst:bZ b S (es.take (j+1))=R:=by rw[hst0];unfold gS;rw[if_neg (fun h=>q1 h.1)]
    clear hst0
    repeat'(first|refine zg ?_|(refine zc ?_ ?_<;>intro hc<;>first|simp only[NM]at hc|omega|skip)|refine zr ?_|(refine zf (c34 b _ hb (by assumption)) ?_)|refine⟨by omega,?_⟩|(refine zb ?_ ?_<;>intro hg<;>(try rw[hg])<;>try simp only[NM]at hg)|omega|simp -dsimp (disch:=try exact zo)only[go_sem,hl,ee,kC,k1,k2,qS,hkey,hko,hput,ZT,zl,hn2]|rfl)
    all_goals exact AW.stop ⟨⟨j+1,by omega⟩,(aH (by refine⟨?_,?_,?_,?_⟩<;>first|(simp -dsimp (disch:=try exact zo)only[go_sem,hst,ZC];done)|(simp -dsimp (disch:=try exact zo)only[go_sem,aG,aC,nU,ZC];done))),by dsimp only;omega⟩
  ·have hjl:j=es.length:=by omega
   subst hjl
   rw[List.take_length]
   repeat'(first|refine zg ?_|(refine zc ?_ ?_<;>intro hc<;>first|simp only[NM]at hc|omega|skip)|refine zr ?_|refine⟨by omega,?_⟩|(refine zb ?_ ?_<;>intro hg<;>(try rw[hg])<;>try simp only[NM]at hg)|omega|simp -dsimp (disch:=try exact zo)only[go_sem,hl,kC,zl]|contradiction|rfl)
   all_goals exact AW.stop ⟨⟨i+1,by omega⟩,(aH (by refine⟨?_,?_,?_,?_⟩<;>simp -dsimp (disch:=try exact zo)only[go_sem,aG,aC,nU,hS1,ZC])),by dsimp only;omega⟩
 ·have hil:i=l.length:=by omega
  subst hil
  rw[List.take_length]
  have hI:MInv 1073741824 (cU b l):=a1h fun s hs=>(hv s hs).2
  unfold b8
  generalize cU b l=S at *
  obtain⟨m,f⟩:=S
  dsimp only at hm ⊢
  repeat'(first|refine zg ?_|(refine zc ?_ ?_<;>intro hc<;>try simp only[NM]at hc)|refine zr ?_|refine⟨by omega,?_⟩|(refine zb ?_ ?_<;>intro hg<;>(try rw[hg])<;>try simp only[NM]at hg)|omega|simp -dsimp (disch:=try exact zo)only[go_sem,hl,zl]|contradiction|rfl)
  refine AW.loop (fun z:{k:Nat // k≤m.length}=>⟨(12,.loc 62 0)::[(6,.mp 14),(5,.loc 12 0),(4,.loc 9 0)],(62,.blk (eP (itP (nxP m) z.1 f)))::[(12,.blk [.lit (.bool (Zn b.a)),.lit (.string (Zm b.a)),.lit (.bool (Zn b.b)),.lit (.string (Zm b.b)),.lit (.bool (Zn b.c)),.lit (.string (Zm b.c)),.lit (.bool (Zn b.d)),.lit (.string (Zm b.d)),.ref 64 0 z.1 z.1]),(64,.vec 8 ((bA (nxP m) z.1 f).map eP)),(14,.mpo (mPP m)),(9,.blk eG0)],70⟩) (fun z=>m.length - z.1) ⟨0,Nat.zero_le _⟩ (Weak.trans (jK 12 8 8 _ (by decide) rfl (by simp) rfl (by simp)) (aH (by refine⟨?_,?_,?_,?_⟩<;>simp -dsimp (disch:=try exact zo)only[go_sem,aC,bA,List.map_nil,itP,ZC]))) ?_
  rintro⟨k,hk⟩
  dsimp only
  have hko:=a7e hI
  have hrl:=oJ (nxP m) k f
  by_cases hkt:k<m.length
  ·have hit:=sD (nxP m) k f
   have hrs:=Sx.t8 (nxP m) k f
   have hx:BPt 1073741824 (itP (nxP m) k f):=it_bt hI.bt hI.fb k
   generalize itP (nxP m) k f=x at *
   generalize bA (nxP m) k f=W at *
   have hkey:=tF x hx
   have hlk:=lk51 m x
   generalize nxP m x=y at *
   simp only[pv]at hkey hlk
   have hWm:(bA (nxP m) (k+1) f).map eP=W.map eP++[eP x]:=by rw[hrs];simp
   repeat'(first|refine zg ?_|(refine zc ?_ ?_<;>intro hc<;>first|simp only[NM]at hc|omega|skip)|refine zr ?_|refine⟨by omega,?_⟩|(refine zb ?_ ?_<;>intro hg<;>(try rw[hg])<;>try simp only[NM]at hg)|omega|simp -dsimp (disch:=try exact zo)only[go_sem,List.toList_toArray,a1i,qS,hkey,hko,hlk,hrl,zl,ZT]|rfl)
   all_goals exact AW.stop ⟨⟨k+1,by omega⟩,c2v 84 62 12 70 (eP (itP (nxP m) (k+1) f)) rfl (by simp -dsimp (disch:=try exact zo)only[go_sem,hit,hWm,hrl]) (b8h _) (by decide) (by decide) (by decide) (by decide) (by simp -dsimp (disch:=try exact zo)only[go_sem,hit,hWm,hrl]) (by simp -dsimp (disch:=try exact zo)only[go_sem,hit,hWm,hrl]) (by simp -dsimp (disch:=try exact zo)only[go_sem,aC]) (by simp -dsimp (disch:=try exact zo)only[go_sem,aC]),by dsimp only;omega⟩
  ·have hkl:k=m.length:=by omega
   subst hkl
   repeat'(first|refine zg ?_|(refine zc ?_ ?_<;>intro hc<;>try simp only[NM]at hc)|refine zn ?_|refine⟨by omega,?_⟩|(refine zb ?_ ?_<;>intro hg<;>(try rw[hg])<;>try simp only[NM]at hg)|omega|simp -dsimp (disch:=try exact zo)only[go_sem,a1i,hrl,zl]|contradiction|rfl)
end Go.Proofs.Vx
namespace Go.Sx
set_option linter.unusedVariables false
set_option linter.unusedSimpArgs false
def rn1 (σ:Nat→Nat):AV→AV
 | .loc i o=>.loc (σ i) o
 | .ref i o n m=>.ref (σ i) o n m
 | .vp i j q m=>.vp (σ i) j q m
 | .bs i o k n=>.bs (σ i) o k n
 | .mp i=>.mp (σ i)
 | a=>a
def rnA (σ:Nat→Nat):AV→AV
 | .clo f cs=>.clo f (cs.map (rn1 σ))
 | a=>rn1 σ a
def fH (K:Nat→Prop):AV→Prop
 | .loc i _=>K i
 | .ref i _ _ _=>K i
 | .vp i _ _ _=>K i
 | .bs i _ _ _=>K i
 | .mp i=>K i
 | a=>In (fun _=>False) a
def gW (K:Nat→Prop):AV→Prop
 | .clo _ cs=>∀ c∈cs,fH K c
 | a=>fH K a
def rnC (σ:Nat→Nat):AV→AV
 | .blk cs=>.blk (cs.map (rnA σ))
 | .lpo L fn nt ps asg body ts=>.lpo L fn nt ps asg body (ts.map (rnA σ))
 | a=>a
def gK (K:Nat→Prop):AV→Prop
 | .blk cs=>∀ c∈cs,gW K c
 | .lpo _ _ _ _ _ _ ts=>∀ c∈ts,gW K c
 | a=>InC (fun _=>False) a
theorem a4v {σ:Nat→Nat} {K:Nat→Prop} {g G:Gh} (hf:∀ b,g.fz b→G.fz b∧G.w.heap[b]?=g.w.heap[b]?) (hn:∀ i,K i→G.us (σ i)∧G.blk (σ i)=g.blk i∧G.des (σ i)=g.des i∧G.len (σ i)=g.len i) {a:AV} {v:Value} (ht:fH K a) (h:Rel g a v):Rel G (rn1 σ a) v:=by
 have hcl:∀ {x:AV} {v:Value},Rel g x v→In (fun _=>False) x→Rel G x v:=fun hx hi=>cY (K:=fun _=>False) hf (fun l hl=>hl.elim) hx hi
 cases a with
 | loc i o =>
  obtain⟨h1,h2,h3,h4⟩:=hn i ht
  cases h with|loc _ _ hu=>rw[← h2];exact .loc (g:=G) (σ i) o h1
 | ref i o n m =>
  obtain⟨h1,h2,h3,h4⟩:=hn i ht
  cases h with|ref _ _ _ _ _ hu hm hc hv=>exact .ref (g:=G) (σ i) o n m _ h1 (by rw[h4];exact hm) hc (by rw[h4,h3];exact hv)
 | vp i j q m =>
  obtain⟨h1,h2,h3,h4⟩:=hn i ht
  cases h with|vp _ _ _ _ _ hu hm hc hv=>exact .vp (g:=G) (σ i) j q m _ h1 (by rw[h4];exact hm) hc (by rw[h4,h3];exact hv)
 | bs i o k n =>
  obtain⟨h1,h2,h3,h4⟩:=hn i ht
  cases h with|bs _ _ _ _ cap hu hc=>rw[← h2];exact .bs (g:=G) (σ i) o k n cap h1 hc
 | mp i =>
  obtain⟨h1,h2,h3,h4⟩:=hn i ht
  cases h with|mp _ hu=>rw[← h2];exact .mp (g:=G) (σ i) h1
 | _=>exact hcl h ht
theorem a6v {σ:Nat→Nat} {K:Nat→Prop} {g G:Gh} (hf:∀ b,g.fz b→G.fz b∧G.w.heap[b]?=g.w.heap[b]?) (hn:∀ i,K i→G.us (σ i)∧G.blk (σ i)=g.blk i∧G.des (σ i)=g.des i∧G.len (σ i)=g.len i) {a:AV} {v:Value} (ht:gW K a) (h:Rel g a v):Rel G (rnA σ a) v:=by
 cases a with
 | clo f cs =>
  cases h with
  | clo _ _ vs hs hh =>
   exact .clo _ _ _ (by simpa using hs) fun i h1 h2=>by
    simp only[List.getElem_map]
    exact a4v hf hn (ht _ (List.getElem_mem (by simpa using h1))) (hh i (by simpa using h1) h2)
 | _=>refine a4v hf hn ?_ h;exact ht
theorem a5p {f:AV→AV} (hf:f .any=.any) (ts:List AV) (t:Nat):(ts.map f).getD t .any=f (ts.getD t .any):=by
 rw[List.getD_eq_getElem?_getD,List.getD_eq_getElem?_getD,List.getElem?_map]
 cases ts[t]?<;>simp[hf]
theorem a1y {K:Nat→Prop} {ts:List AV} (h:∀ c∈ts,gW K c) (t:Nat):gW K (ts.getD t .any):=by
 rw[List.getD_eq_getElem?_getD]
 cases hq:ts[t]? with
 | none=>exact In.any
 | some c=>exact h _ (List.mem_of_getElem? hq)
theorem c5a {σ:Nat→Nat} {K:Nat→Prop} {g G:Gh} (hw:G.w=g.w) (hf:∀ b,g.fz b→G.fz b) (hn:∀ i,K i→G.us (σ i)∧G.blk (σ i)=g.blk i∧G.des (σ i)=g.des i∧G.len (σ i)=g.len i) {i:Nat} (hi:K i) {x:AV} (hx:gK K x) (h:ObjOk g i x):ObjOk G (σ i) (rnC σ x):=by
 have hf':∀ b,g.fz b→G.fz b∧G.w.heap[b]?=g.w.heap[b]?:=fun b hb=>⟨hf b hb,by rw[hw]⟩
 obtain⟨n1,n2,n3,n4⟩:=hn i hi
 cases x with
 | blk cs =>
  obtain⟨_,vs,e,k1,k2,k3,k4⟩:=h
  refine⟨n1,vs,e,by rw[hw,n2];exact k1,by simpa using k2,k3,fun j a1 a2=>?_⟩
  simp only[List.getElem_map]
  exact a6v hf' hn (hx _ (List.getElem_mem (by simpa using a1))) (k4 j (by simpa using a1) a2)
 | vec k es =>
  obtain⟨_,k1,k2,k3,k4,k5⟩:=h
  refine⟨n1,by rw[n3];exact k1,by rw[n4];exact k2,k3,k4,?_⟩
  rw[n3,hw]
  rcases k5 with k5|⟨b,vs,m1,m2,m3,m4,m5,m6,m7⟩
  ·exact .inl k5
  ·exact .inr ⟨b,vs,m1,m2,m3,m4,m5,m6,fun q a1 j a2 a3=>cY (K:=fun _=>False) hf' (fun l hl=>hl.elim) (m7 q a1 j a2 a3) (hx _ (List.getElem_mem a1) _ (List.getElem_mem a2))⟩
 | vcp k es cp =>
  obtain⟨⟨_,k1,k2,k3,k4,k5⟩,k6⟩:=h
  refine⟨⟨n1,by rw[n3];exact k1,by rw[n4];exact k2,k3,k4,?_⟩,by rw[n3];exact k6⟩
  rw[n3,hw]
  rcases k5 with k5|⟨b,vs,m1,m2,m3,m4,m5,m6,m7⟩
  ·exact .inl k5
  ·exact .inr ⟨b,vs,m1,m2,m3,m4,m5,m6,fun q a1 j a2 a3=>cY (K:=fun _=>False) hf' (fun l hl=>hl.elim) (m7 q a1 j a2 a3) (hx _ (List.getElem_mem a1) _ (List.getElem_mem a2))⟩
 | mpo es=>obtain⟨_,arr,clock,k1,k2⟩:=h;exact⟨n1,arr,clock,by rw[hw,n2];exact k1,k2⟩
 | lpo L fn nt ps asg body ts =>
  obtain⟨_,hL,tm,df,k1,k2,k3⟩:=h
  exact⟨n1,n2.trans hL,tm,df,by rw[hw];exact k1,k2,fun t=>by rw[a5p rfl];exact a6v hf' hn (a1y hx t) (k3 t)⟩
 | _=>trivial
theorem c6d {σ:Nat→Nat} {g G:Gh} {i:Nat} (h1:G.blk (σ i)=g.blk i) (h2:G.des (σ i)=g.des i) (x:AV):aE G (σ i) (rnC σ x)=aE g i x:=by
 cases x<;>simp[aE,rnC,h1,h2]
def rnL (σ:Nat→Nat) (l:List (Nat × AV)):List (Nat × AV):=l.map fun p=>(σ p.1,rnC σ p.2)
theorem a6p {σ τ:Nat→Nat} {i:Nat} (hi:τ (σ i)=i):∀ {l:List (Nat × AV)},(∀ p∈l,τ (σ p.1)=p.1)→upd aI (rnL σ l) (σ i)=rnC σ (upd aI l i):=by
 intro l
 induction l with
 | nil=>intro _;rfl
 | cons p l ih =>
  intro h
  obtain⟨j,a⟩:=p
  have hj:τ (σ j)=j:=h (j,a) (by simp)
  simp only[rnL,List.map_cons,upd]at ih ⊢
  by_cases e:j=i
  ·rw[if_pos e,if_pos (by rw[e])]
  ·rw[if_neg e,if_neg (fun e2=>e (hj.symm.trans ((congrArg τ e2).trans hi)))]
   exact ih fun p hp=>h p (by simp[hp])
theorem b0t {σ:Nat→Nat} {l:List (Nat × AV)} {j:Nat} (h:∀ p∈l,σ p.1≠j):upd aI (rnL σ l) j=.any:=by
 have:=gO (ob:=aI) (e:=rnL σ l) (l:=j) (by
  intro hm
  obtain⟨p,hp,e⟩:=List.mem_map.1 hm
  obtain⟨q,hq,rfl⟩:=List.mem_map.1 hp
  exact h q hq e)
 rw[this];rfl
theorem CallOK.renG {P : Program} {f : Nat} {args : List AV} {pre post : List (Nat × AV)} {r : AV} (σ τ : Nat → Nat) (h : CallOK P f args pre r post) (hτ : ∀ p ∈ pre, τ (σ p.1) = p.1) (hpre : ∀ p ∈ pre, gK (fun i => i ∈ pre.map (·.1)) p.2)
  (hpost:∀ p∈post,p.1∈pre.map (·.1)∧gK (fun i=>i∈pre.map (·.1)) p.2) (hr:In (fun _=>False) r) (hargs:∀ x∈args,gW (fun i=>i∈pre.map (·.1)) x) :
  CallOK P f (args.map (rnA σ)) (rnL σ pre) r (rnL σ post):=by
 intro g vals hus hg hrel
 let K:Nat→Prop:=fun i=>i∈pre.map (·.1)
 have hτK:∀ i,K i→τ (σ i)=i:=fun i hi=>by
  obtain⟨p,hp,rfl⟩:=List.mem_map.1 hi
  exact hτ p hp
 have hτpost:∀ p∈post,τ (σ p.1)=p.1:=fun p hp=>hτK _ (hpost p hp).1
 have hnm:∀ j,j∈(rnL σ pre).map (·.1)↔∃ i,K i∧σ i=j:=fun j=>by
  simp only[rnL,List.map_map,List.mem_map,K]
  constructor
  ·rintro⟨p,hp,rfl⟩;exact⟨p.1,⟨p,hp,rfl⟩,rfl⟩
  ·rintro⟨i,⟨p,hp,rfl⟩,rfl⟩;exact⟨p,hp,rfl⟩
 let g0:Gh:={ w:=g.w,fz:=g.fz,us:=K,blk:=fun i=>g.blk (σ i),des:=fun i=>g.des (σ i),len:=fun i=>g.len (σ i) }
 have husσ:∀ i,K i→g.us (σ i):=fun i hi=>(hus _).2 ((hnm _).2 ⟨i,hi,rfl⟩)
 have e0:∀ i,K i→upd aI (rnL σ pre) (σ i)=rnC σ (upd aI pre i):=fun i hi=>a6p (hτK i hi) hτ
 have n0:∀ i,¬ K i→upd aI pre i=.any:=fun i hi=>gO hi
 have back1:∀ {a:AV} {v:Value},fH K a→Rel g (rn1 σ a) v→Rel g0 a v:=by
  intro a v ht hv
  have hf:∀ b,g.fz b→g0.fz b∧g0.w.heap[b]?=g.w.heap[b]?:=fun b hb=>⟨hb,rfl⟩
  cases a with
  | loc i o=>simp only[rn1]at hv;cases hv with|loc _ _ hu=>exact .loc (g:=g0) i o ht
  | ref i o n m=>simp only[rn1]at hv;cases hv with|ref _ _ _ _ _ hu hm hc hv=>exact .ref (g:=g0) i o n m _ ht hm hc hv
  | vp i j q m=>simp only[rn1]at hv;cases hv with|vp _ _ _ _ _ hu hm hc hv=>exact .vp (g:=g0) i j q m _ ht hm hc hv
  | bs i o k n=>simp only[rn1]at hv;cases hv with|bs _ _ _ _ cap hu hc=>exact .bs (g:=g0) i o k n cap ht hc
  | mp i=>simp only[rn1]at hv;cases hv with|mp _ hu=>exact .mp (g:=g0) i ht
  | _=>exact cY (K:=fun _=>False) hf (fun l hl=>hl.elim) hv ht
 have back:∀ {a:AV} {v:Value},gW K a→Rel g (rnA σ a) v→Rel g0 a v:=by
  intro a v ht hv
  cases a with
  | clo f cs =>
   simp only[rnA]at hv
   cases hv with
   | clo _ _ vs hs hh =>
    exact .clo (g:=g0) _ _ _ (by simpa using hs) fun i h1 h2=>by
     have:=hh i (by simpa using h1) h2
     simp only[List.getElem_map]at this
     exact back1 (ht _ (List.getElem_mem h1)) this
  | _=>refine back1 ?_ hv;exact ht
 have topPre:∀ i,gK K (upd aI pre i):=fun i=>by
  by_cases hi:K i
  ·exact hpre _ (nN (ob:=aI) rfl hi)
  ·rw[n0 i hi];exact trivial
 have objBack:∀ i,K i→∀ x,gK K x→ObjOk g (σ i) (rnC σ x)→ObjOk g0 i x:=by
  intro i hi x hx hok
  cases x with
  | blk cs =>
   obtain⟨_,vs,e,k1,k2,k3,k4⟩:=hok
   refine⟨hi,vs,e,k1,by simpa using k2,k3,fun j a1 a2=>?_⟩
   have:=k4 j (by simpa using a1) a2
   simp only[List.getElem_map]at this
   exact back (hx _ (List.getElem_mem a1)) this
  | vec k es =>
   obtain⟨_,k1,k2,k3,k4,k5⟩:=hok
   refine⟨hi,k1,k2,k3,k4,?_⟩
   rcases k5 with k5|⟨b,vs,m1,m2,m3,m4,m5,m6,m7⟩
   ·exact .inl k5
   ·exact .inr ⟨b,vs,m1,m2,m3,m4,m5,m6,fun q a1 j a2 a3=>cY (g:=g) (g':=g0) (K:=fun _=>False) (fun b hb=>⟨hb,rfl⟩) (fun l hl=>hl.elim) (m7 q a1 j a2 a3) (hx _ (List.getElem_mem a1) _ (List.getElem_mem a2))⟩
  | vcp k es cp =>
   obtain⟨⟨_,k1,k2,k3,k4,k5⟩,k6⟩:=hok
   refine⟨⟨hi,k1,k2,k3,k4,?_⟩,k6⟩
   rcases k5 with k5|⟨b,vs,m1,m2,m3,m4,m5,m6,m7⟩
   ·exact .inl k5
   ·exact .inr ⟨b,vs,m1,m2,m3,m4,m5,m6,fun q a1 j a2 a3=>cY (g:=g) (g':=g0) (K:=fun _=>False) (fun b hb=>⟨hb,rfl⟩) (fun l hl=>hl.elim) (m7 q a1 j a2 a3) (hx _ (List.getElem_mem a1) _ (List.getElem_mem a2))⟩
  | mpo es=>obtain⟨_,arr,clock,k1,k2⟩:=hok;exact⟨hi,arr,clock,k1,k2⟩
  | lpo L fn nt ps asg body ts =>
   obtain⟨_,hL,tm,df,k1,k2,k3⟩:=hok
   exact⟨hi,hL,tm,df,k1,k2,fun t=>back (a1y hx t) (by have:=k3 t;rwa [a5p rfl]at this)⟩
  | _=>trivial
 have blkBack:∀ i x,aE g0 i x=aE g (σ i) (rnC σ x):=fun i x=>by cases x<;>simp[aE,rnC,g0]
 have b0:∀ i b,aE g0 i (upd aI pre i)=some b→K i∧aE g (σ i) (upd aI (rnL σ pre) (σ i))=some b:=by
  intro i b hb
  by_cases hi:K i
  ·exact⟨hi,by rw[e0 i hi,← blkBack];exact hb⟩
  ·rw[n0 i hi]at hb;simp[aE]at hb
 have inj:∀ i i',K i→K i'→σ i=σ i'→i=i':=fun i i' h1 h2 e=>by rw[← hτK i h1,← hτK i' h2,e]
 have hg0:GOk (bK P g0 (upd aI pre)) g0 (upd aI pre):=by
  refine⟨rfl,Tp.rfl,rfl,Nat.le_refl _,fun _ _ _=>rfl,fun b hb=>hb,fun b hb=>.inl hb,hg.fzx,fun i=>?_,fun i b hb=>⟨.inl ⟨i,hb⟩,(hg.own _ b (b0 i b hb).2).2⟩,fun i i' b h1 h2=>inj i i' (b0 i b h1).1 (b0 i' b h2).1 (hg.dis _ _ b (b0 i b h1).2 (b0 i' b h2).2)⟩
  by_cases hi:K i
  ·have:=hg.obj (σ i)
   rw[e0 i hi]at this
   exact objBack i hi _ (topPre i) this
  ·rw[n0 i hi];trivial
 have hrel0:RelL g0 args vals:=by
  refine⟨by simpa using hrel.1,fun i h1 h2=>?_⟩
  have h3:=hrel.2 i (by simpa using h1) h2
  simp only[List.getElem_map]at h3
  exact back (hargs _ (List.getElem_mem h1)) h3
 refine (h g0 vals (fun i=>Iff.rfl) hg0 hrel0).mono ?_
 rintro e w' ⟨v,g',rfl,rfl,he,hus',hg',hrr⟩
 let g1:Gh:={ w:=g'.w,fz:=g'.fz,us:=g.us,blk:=fun j=>g'.blk (τ j),des:=fun j=>g'.des (τ j),len:=fun j=>g'.len (τ j) }
 have hn:∀ i,K i→g1.us (σ i)∧g1.blk (σ i)=g'.blk i∧g1.des (σ i)=g'.des i∧g1.len (σ i)=g'.len i:=fun i hi=>by
  refine⟨husσ i hi,?_,?_,?_⟩<;>simp only[g1,hτK i hi]
 have e1:∀ i,K i→upd aI (rnL σ post) (σ i)=rnC σ (upd aI post i):=fun i hi=>a6p (hτK i hi) hτpost
 have topPost:∀ i,gK K (upd aI post i):=fun i=>by
  by_cases hi:i∈post.map (·.1)
  ·exact (hpost _ (nN (ob:=aI) rfl hi)).2
  ·rw[gO hi];exact trivial
 have nj:∀ j,(∃ i,K i∧σ i=j)∨upd aI (rnL σ post) j=.any:=fun j=>by
  by_cases hj:∃ i,K i∧σ i=j
  ·exact .inl hj
  ·exact .inr (b0t fun p hp e=>hj ⟨p.1,(hpost p hp).1,e⟩)
 have b1:∀ j b,aE g1 j (upd aI (rnL σ post) j)=some b→∃ i,K i∧σ i=j∧aE g' i (upd aI post i)=some b:=by
  intro j b hb
  rcases nj j with⟨i,hi,rfl⟩|hj
  ·refine⟨i,hi,rfl,?_⟩
   rw[e1 i hi]at hb
   rw[← c6d (σ:=σ) (g:=g') (G:=g1) (hn i hi).2.1 (hn i hi).2.2.1]
   exact hb
  ·rw[hj]at hb;simp[aE]at hb
 have hW:∀ b,(bK P g0 (upd aI pre)).W0 b→(bK P g (upd aI (rnL σ pre))).W0 b:=by
  rintro b ⟨i,hi⟩
  exact⟨σ i,(b0 i b hi).2⟩
 refine⟨v,g1,rfl,rfl,⟨he.fz,fun j hj=>?_⟩,fun i=>Iff.rfl,?_,?_⟩
 ·obtain⟨i,hi,rfl⟩:=(hnm j).1 ((hus j).1 hj)
  obtain⟨k1,k2,k3,k4⟩:=he.us i hi
  obtain⟨n1,n2,n3,n4⟩:=hn i hi
  exact⟨hj,by rw[n2];exact k2,by rw[n4];exact k3,fun e=>by rw[n3];exact k4 (by rw[← n4];exact e)⟩
 ·refine⟨hg'.os,hg'.tape,hg'.output,hg'.size,fun b hb hw=>hg'.old b hb (fun hw'=>hw (hW b hw')),hg'.fzo,fun b hb=>?_,hg'.fzx,fun j=>?_,fun j b hb=>?_,fun j j' b h1 h2=>?_⟩
  ·rcases hg'.fzn b hb with h|h|h
   ·exact .inl h
   ·exact .inr (.inl (hW b h))
   ·exact .inr (.inr h)
  ·show ObjOk g1 j _
   rcases nj j with⟨i,hi,rfl⟩|hj
   ·rw[e1 i hi]
    exact c5a (g:=g') (G:=g1) rfl (fun b hb=>hb) hn hi (topPost i) (hg'.obj i)
   ·rw[hj];trivial
  ·obtain⟨i,hi,rfl,k⟩:=b1 j b hb
   obtain⟨k1,k2⟩:=hg'.own i b k
   exact⟨k1.elim (fun h=>.inl (hW b h)) .inr,k2⟩
  ·obtain⟨i,hi,rfl,k⟩:=b1 j b h1
   obtain⟨i',hi',rfl,k'⟩:=b1 j' b h2
   rw[hg'.dis i i' b k k']
 ·exact cY (g:=g') (g':=g1) (K:=fun _=>False) (fun b hb=>⟨hb,rfl⟩) (fun l hl=>hl.elim) hrr hr
end Go.Sx
namespace Go.Sx
theorem kA {P : Program} {f : Nat} {args : List AV} {i : Nat} {ob : Nat → AV} {E : Eff → Prop} (pre : List (Nat × AV)) (r : AV) (post : List (Nat × AV)) (hf : fnT P f = true) (hc : CallOK P f args pre r post) (hob : ∀ p ∈ pre, ob p.1 = p.2) (hin : ∀ x ∈ args, In (fun k => k ∈ pre.map (·.1)) x)
  (ha:∀ p∈pre,InC (fun k=>k∈pre.map (·.1)) p.2) (hnd:(pre.map (·.1)).Nodup) (hr:In (fun _=>False) r) (hb:∀ p∈post,p.1∈pre.map (·.1)∧InC (fun k=>k∈pre.map (·.1)) p.2) (hall:(pre.map (·.1)).all (fun l=>(post.map (·.1)).contains l)=true)
  (hl:∀ p∈pre,p.2.live=true) (h:E ⟨r,post,pre.map (·.1)⟩):callV P f args i ob E:=by
 refine .inr (.inl ⟨pre,r,post,hf,hc,hob,hin,ha,hnd,hr,hb,hall,?_,h⟩)
 intro k hk
 obtain⟨p,hp,rfl⟩:=List.mem_map.1 hk
 rw[hob p hp]
 exact hl p hp
end Go.Sx
namespace Go.Proofs.Vx
open Go Go.Sx Go.Proofs Tryz
attribute [local irreducible] fnT CallOK CallFr AW aO callV aP aN aM aQ gcaseP hid
theorem b5i:agT prog 31=some false∧byT prog 58=some 120∧szT prog 31=some 1:=by and_intros<;>kernel_rfl
attribute [go_sem] b5i
theorem c69a (l:List (Pl × List Pt)) (hn:l.length≤1048576) (p:Pl) (vs:List Pt) (h0:vs≠[]) (hvn:vs.length≤268435456):CallOK prog 69 [.loc 0 0,.agg (eG p vs)] [(0,.blk [.ref 1 0 l.length l.length]),(1,.vec 9 (eS l))] (.tup []) [(0,.blk [.ref 1 0 (l++[(p,vs)]).length (l++[(p,vs)]).length]),(1,.vec 9 (eS (l++[(p,vs)])))]:=by
 refine e9 func69 rfl 16 rfl rfl (by simp) (.tup _ (by simp)) (by
  intro q hq
  simp only[zM,or_false]at hq
  rcases hq with rfl|rfl
  ·refine⟨by simp,fun c hc=>?_⟩
   simp only[zM,or_false]at hc
   subst hc
   exact .ref _ _ _ _ (by simp)
  ·exact⟨by simp,fun e he c hc=>of_eq_true (aG _) e he c hc⟩) [] (congrArg Array.toList results69) ?_
 simp only[aD,Nat.reduceAdd]
 have hml:maxLen=9223372036854775807:=rfl
 have hl1:(eS l).length=l.length:=List.length_map _
 have hl:(vs.map eP).length=vs.length:=List.length_map _
 have h1:0<vs.length:=List.length_pos_iff.2 h0
 have hl2:(l++[(p,vs)]).length=l.length+1:=by simp
 have hm2:eS (l++[(p,vs)])=eS l++[eG p vs]:=by simp[eS]
 repeat'(first|refine zg ?_|(refine zc ?_ ?_<;>intro hc<;>first|simp only[NM]at hc|omega|skip)|refine zr ?_|(refine AW.ret (b6 ?_ ?_)<;>simp -dsimp (disch:=try exact zo)only[go_sem,hl2,hm2])|(refine AW.nil (b6 ?_ ?_)<;>simp -dsimp (disch:=try exact zo)only[go_sem,hl2,hm2])|refine⟨by omega,?_⟩|(refine zb ?_ ?_<;>intro hg<;>(try rw[hg])<;>try simp only[NM]at hg)|omega|simp -dsimp (disch:=try exact zo)only[go_sem,hl,hl1,zl,hl2,hm2,aG,aC]|contradiction|rfl)
theorem c69b (l:List (Pl × List Pt)) (hn:l.length≤1048576)  : CallOK prog 69 [.loc 0 0,.agg eG0] [(0,.blk [.ref 1 0 l.length l.length]),(1,.vec 9 (eS l))] (.tup []) [(0,.blk [.ref 1 0 (l).length (l).length]),(1,.vec 9 (eS (l)))]:=by
 refine e9 func69 rfl 16 rfl rfl (by simp) (.tup _ (by simp)) (by
  intro q hq
  simp only[zM,or_false]at hq
  rcases hq with rfl|rfl
  ·refine⟨by simp,fun c hc=>?_⟩
   simp only[zM,or_false]at hc
   subst hc
   exact .ref _ _ _ _ (by simp)
  ·exact⟨by simp,fun e he c hc=>of_eq_true (aG _) e he c hc⟩) [] (congrArg Array.toList results69) ?_
 simp only[aD,Nat.reduceAdd]
 have hml:maxLen=9223372036854775807:=rfl
 have hl1:(eS l).length=l.length:=List.length_map _
 have hl:True:=trivial
 have hl2:True:=trivial
 have hm2:True:=trivial
 repeat'(first|refine zg ?_|(refine zc ?_ ?_<;>intro hc<;>first|simp only[NM]at hc|omega|skip)|refine zr ?_|(refine AW.ret (b6 ?_ ?_)<;>simp -dsimp (disch:=try exact zo)only[go_sem,hl2,hm2])|(refine AW.nil (b6 ?_ ?_)<;>simp -dsimp (disch:=try exact zo)only[go_sem,hl2,hm2])|refine⟨by omega,?_⟩|(refine zb ?_ ?_<;>intro hg<;>(try rw[hg])<;>try simp only[NM]at hg)|omega|simp -dsimp (disch:=try exact zo)only[go_sem,hl,hl1,zl,hl2,hm2,aG,aC]|contradiction|rfl)
end Go.Proofs.Vx
