import Derived.Test.YtjlfgmhmalbiiaaGreatDoorV18
set_option linter.all false
set_option maxHeartbeats 16000000
namespace Go.Proofs.Vx
open Go Go.Sx Go.Proofs Tryz
attribute [local irreducible] fnT CallOK CallFr AW aO callV aP aN aM aQ gcaseP hid
theorem b5l:byT prog 3=some 8∧zeT prog 159=some [.lit (.slice none 0 0)]∧zeT prog 3=some [.lit (.int .i64 0)]:=by and_intros<;>kernel_rfl
attribute [go_sem] b5l
theorem l9:fnT prog 139=true:=by kernel_rfl
def jU (b:Pl) (vs:List Pt) (i:Nat):List Int:=(vs.take i).map (aB b)++List.replicate (vs.length - i) 0
theorem a0n (b:Pl) (vs:List Pt):jU b vs 0=List.replicate vs.length 0:=by simp[jU]
theorem b0x (b:Pl) (vs:List Pt) (i:Nat) (h:i≤vs.length):(jU b vs i).length=vs.length:=by simp[jU];omega
theorem b0y (b:Pl) (vs:List Pt):jU b vs vs.length=vs.map (aB b):=by simp[jU]
theorem a9v (b:Pl) (vs:List Pt) (i:Nat) (h:i<vs.length):(jU b vs i).set i (aB b vs[i])=jU b vs (i+1):=by
 unfold jU
 have e1:((vs.take i).map (aB b)).length=i:=by simp;omega
 rw[List.set_append_right _ _ (by omega),e1,Nat.sub_self]
 rw[show vs.length - i=(vs.length - (i+1))+1 by omega,List.replicate_succ,List.set_cons_zero,List.take_succ_eq_append_getElem h,List.map_append,List.append_assoc]
 rfl
def prt (h:Int) (p b:Pl) (vs:List Pt):AV:=if bG h b vs vs.length then .agg (eG p (bD h b vs))else .agg eG0
theorem vO {K:Nat→Prop} (h:Int) (p b:Pl) (vs:List Pt):In K (prt h p b vs):=(uW p (bD h b vs) trivial).in
theorem c70 (p b:Pl) (vs:List Pt) (hn:vs.length≤268435456) (hcan:∀ v∈vs,CanP v) (hv:∀ v∈vs,BPt 1073741824 v) (hb:BPl 1073741824 b):CallOK prog 70 [.agg (eG p vs),.agg (eH b)] [] (.tup [prt (-1) p b vs,prt 1 p b vs]) []:=by
 refine fN func70 rfl 34 rfl rfl (.tup _ (by
  intro c hc
  simp only[zM,or_false]at hc
  rcases hc with rfl|rfl<;>exact vO _ _ _ _)) [.cell 4 58,.cell 5 58] (congrArg Array.toList results70) ?_
 simp only[aD,Nat.reduceAdd]
 have hml:maxLen=9223372036854775807:=rfl
 have hl:(vs.map eP).length=vs.length:=List.length_map _
 repeat'(first|refine zg ?_|(refine zc ?_ ?_<;>intro hc<;>try simp only[NM]at hc)|refine zr ?_|refine⟨by omega,?_⟩|(refine zb ?_ ?_<;>intro hg<;>(try rw[hg])<;>try simp only[NM]at hg)|omega|simp -dsimp (disch:=try exact zo)only[go_sem,hl,a0n]|contradiction|rfl)
 refine AW.loop (fun z:{i:Nat // i≤vs.length}=>⟨[(17,.lit (.int .i64 z.1)),(16,.lit (.int .i64 vs.length)),(15,.sl (vs.map eP)),(6,.loc 16 0),(5,.loc 11 0),(4,.loc 10 0),(3,.loc 9 0),(2,.loc 8 0)],[(16,.blk [.ref 15 0 vs.length vs.length]),(15,.vec 1 (aJ .i64 (jU b vs z.1))),(8,.blk (eG p vs)),(9,.blk (eH b)),(10,.blk eG0),(11,.blk eG0)],40⟩) (fun z=>vs.length - z.1) ⟨0,Nat.zero_le _⟩ (aH (by refine⟨?_,?_,?_,?_⟩<;>simp -dsimp (disch:=try exact zo)only[go_sem,a0n,Nat.sub_zero,aC,aU,a3q,ZT,ZC])) ?_
 rintro⟨i,hi⟩
 dsimp only
 by_cases hlt:i<vs.length
 ·have ea:=fB vs i hlt
  have hS:=a9v b vs i hlt
  have hX:=b0x b vs i hi
  have ha:=hv _ (List.getElem_mem hlt)
  generalize vs[i]=a at *
  simp only[eP,e4]at ea
  repeat'(first|refine zg ?_|(refine zc ?_ ?_<;>intro hc<;>try simp only[NM]at hc)|refine zr ?_|(refine zf (c34 b a hb ha) ?_)|refine⟨by omega,?_⟩|(refine zb ?_ ?_<;>intro hg<;>(try rw[hg])<;>try simp only[NM]at hg)|omega|simp -dsimp (disch:=try exact zo)only[go_sem,hl,ea,zl,ZT,aC,hX,hS]|contradiction|rfl)
  all_goals exact AW.stop ⟨⟨i+1,by omega⟩,(aH (by refine⟨?_,?_,?_,?_⟩<;>simp -dsimp (disch:=try exact zo)only[go_sem,aC,aU,ZC])),by dsimp only;omega⟩
 ·have hil:i=vs.length:=by omega
  subst hil
  rw[b0y]
  have hl2:(aJ .i64 (vs.map (aB b))).length=vs.length:=by rw[b5,List.length_map]
  refine AW.weak (lS 15 vs.length 1 (aJ .i64 (vs.map (aB b))) (t:=[(17,.lit (.int .i64 vs.length)),(16,.lit (.int .i64 vs.length)),(6,.loc 16 0),(5,.loc 11 0),(4,.loc 10 0),(3,.loc 9 0),(2,.loc 8 0)]) (o:=[(16,.blk [.sl (aJ .i64 (vs.map (aB b)))]),(8,.blk (eG p vs)),(9,.blk (eH b)),(10,.blk eG0),(11,.blk eG0)]) rfl hl2 (by simp -dsimp (disch:=try exact zo)only[go_sem,aC]) (by simp -dsimp (disch:=try exact zo)only[go_sem,aC])) ?_
  have ca:=c139a p b vs hn hcan hv hb
  have cb:=c139b p b vs hn hcan hv hb
  have ia:In (fun _=>False) (prt (-1) p b vs):=vO _ _ _ _
  have ib:In (fun _=>False) (prt 1 p b vs):=vO _ _ _ _
  unfold prt at ia ib ⊢
  cases hA:bG (-1) b vs vs.length<;>cases hB:bG 1 b vs vs.length<;>simp only[hA,hB,reduceIte,Bool.false_eq_true]at ca cb ia ib ⊢
  ·repeat'(first|refine zg ?_|(refine zc ?_ ?_<;>intro hc<;>try simp only[NM]at hc)|refine zr ?_|(first|refine fQ _ l9 (by simp -dsimp (disch:=try exact zo)only[go_sem];exact ca) (by simp -dsimp (disch:=try exact zo)only[go_sem,aC,aU]) ia ?_|refine fQ _ l9 (by simp -dsimp (disch:=try exact zo)only[go_sem];exact cb) (by simp -dsimp (disch:=try exact zo)only[go_sem,aC,aU]) ib ?_)|refine⟨by omega,?_⟩|(refine zb ?_ ?_<;>intro hg<;>(try rw[hg])<;>try simp only[NM]at hg)|omega|simp -dsimp (disch:=try exact zo)only[go_sem,hl,zl,aC]|contradiction|rfl)
  ·repeat'(first|refine zg ?_|(refine zc ?_ ?_<;>intro hc<;>try simp only[NM]at hc)|refine zr ?_|(first|refine fQ _ l9 (by simp -dsimp (disch:=try exact zo)only[go_sem];exact ca) (by simp -dsimp (disch:=try exact zo)only[go_sem,aC,aU]) ia ?_|refine fQ _ l9 (by simp -dsimp (disch:=try exact zo)only[go_sem];exact cb) (by simp -dsimp (disch:=try exact zo)only[go_sem,aC,aU]) ib ?_)|refine⟨by omega,?_⟩|(refine zb ?_ ?_<;>intro hg<;>(try rw[hg])<;>try simp only[NM]at hg)|omega|simp -dsimp (disch:=try exact zo)only[go_sem,hl,zl,aC]|contradiction|rfl)
  ·repeat'(first|refine zg ?_|(refine zc ?_ ?_<;>intro hc<;>try simp only[NM]at hc)|refine zr ?_|(first|refine fQ _ l9 (by simp -dsimp (disch:=try exact zo)only[go_sem];exact ca) (by simp -dsimp (disch:=try exact zo)only[go_sem,aC,aU]) ia ?_|refine fQ _ l9 (by simp -dsimp (disch:=try exact zo)only[go_sem];exact cb) (by simp -dsimp (disch:=try exact zo)only[go_sem,aC,aU]) ib ?_)|refine⟨by omega,?_⟩|(refine zb ?_ ?_<;>intro hg<;>(try rw[hg])<;>try simp only[NM]at hg)|omega|simp -dsimp (disch:=try exact zo)only[go_sem,hl,zl,aC]|contradiction|rfl)
  ·repeat'(first|refine zg ?_|(refine zc ?_ ?_<;>intro hc<;>try simp only[NM]at hc)|refine zr ?_|(first|refine fQ _ l9 (by simp -dsimp (disch:=try exact zo)only[go_sem];exact ca) (by simp -dsimp (disch:=try exact zo)only[go_sem,aC,aU]) ia ?_|refine fQ _ l9 (by simp -dsimp (disch:=try exact zo)only[go_sem];exact cb) (by simp -dsimp (disch:=try exact zo)only[go_sem,aC,aU]) ib ?_)|refine⟨by omega,?_⟩|(refine zb ?_ ?_<;>intro hg<;>(try rw[hg])<;>try simp only[NM]at hg)|omega|simp -dsimp (disch:=try exact zo)only[go_sem,hl,zl,aC]|contradiction|rfl)
end Go.Proofs.Vx
namespace Go.Proofs.Vx
open Go Go.Sx Go.Proofs Tryz
attribute [local irreducible] fnT CallOK CallFr AW aO callV aP aN aM aQ gcaseP hid
theorem b5k:byT prog 138=some 192∧plT prog 138=some [(0,8),(8,8)]∧slT prog 135=some (138,16)∧zeT prog 138=some [.lit (.bool false),.lit (.string ⟨#[]⟩),.lit (.bool false),.lit (.string ⟨#[]⟩),.lit (.bool false),.lit (.string ⟨#[]⟩),.lit (.bool false),.lit (.string ⟨#[]⟩),.lit (.bool false),.lit (.string ⟨#[]⟩),.lit (.bool false),.lit (.string ⟨#[]⟩),.lit (.bool false),.lit (.string ⟨#[]⟩),.lit (.bool false),.lit (.string ⟨#[]⟩)]:=by and_intros<;>kernel_rfl
attribute [go_sem] b5k
abbrev eE (a b:Pt):List AV:=[.lit (.bool (Zn a.x)),.lit (.string (Zm a.x)),.lit (.bool (Zn a.y)),.lit (.string (Zm a.y)),.lit (.bool (Zn a.z)),.lit (.string (Zm a.z)),.lit (.bool (Zn a.w)),.lit (.string (Zm a.w)),.lit (.bool (Zn b.x)),.lit (.string (Zm b.x)),.lit (.bool (Zn b.y)),.lit (.string (Zm b.y)),.lit (.bool (Zn b.z)),.lit (.string (Zm b.z)),.lit (.bool (Zn b.w)),.lit (.string (Zm b.w))]
def eEs (l:List (Pt × Pt)):List (List AV):=l.map fun e=>eE e.1 e.2
theorem a4b (l:List (Pt × Pt)):∀ e∈eEs l,∀ c∈e,Flat c:=by
 intro e he c hc
 obtain⟨v,_,rfl⟩:=List.mem_map.1 he
 simp only[eE,List.mem_cons,List.not_mem_nil,or_false]at hc
 rcases hc with rfl|rfl|rfl|rfl|rfl|rfl|rfl|rfl|rfl|rfl|rfl|rfl|rfl|rfl|rfl|rfl<;>exact .lit _
theorem nU {K:Nat→Prop} (l:List (Pt × Pt)):(∀ e∈eEs l,∀ c∈e,In K c)=True:=eq_true fun e he c hc=>(a4b l e he c hc).inn
theorem kC (l:List (Pt × Pt)):(eEs l).length=l.length:=List.length_map _
theorem b8i (vs:List Pt) (i:Nat) (hi:i<vs.length):eEs ((Geo.edges vs).take i)++[eE vs[i] (vs[(i+1) % vs.length]'(Nat.mod_lt _ (by omega)))]=eEs ((Geo.edges vs).take (i+1)):=by
 have hl:i<(Geo.edges vs).length:=by rw[Geo.gC];exact hi
 rw[List.take_succ_eq_append_getElem hl,xN vs i hi hl]
 simp[eEs]
theorem a9b (vs:List Pt) (i:Nat) (hi:i≤vs.length):((Geo.edges vs).take i).length=i:=by
 rw[List.length_take,Geo.gC];omega
theorem b8j (l:List (Pt × Pt)) (i:Nat) (h:i<l.length):(eEs l).getD i []=eE l[i].1 l[i].2:=by
 rw[List.getD_eq_getElem?_getD,List.getElem?_eq_getElem (by rw[kC];exact h)];simp[eEs]
theorem c118f (p:Pl) (vs:List Pt) (hn:vs.length≤268435456):CallFr prog 118 [.agg (eG p vs)] 16 (eEs (Geo.edges vs)):=by
 refine CallFr.flat func118 rfl 31 rfl rfl (a4b _) [.tmp 2] (congrArg Array.toList results118) ?_
 simp only[aD,Nat.reduceAdd]
 have hml:maxLen=9223372036854775807:=rfl
 have hl:(vs.map eP).length=vs.length:=List.length_map _
 have eEs_nil:eEs []=[]:=rfl
 repeat'(first|refine zg ?_|(refine zc ?_ ?_<;>intro hc<;>try simp only[NM]at hc)|refine zr ?_|refine⟨by omega,?_⟩|(refine zb ?_ ?_<;>intro hg<;>(try rw[hg])<;>try simp only[NM]at hg)|omega|simp -dsimp (disch:=try exact zo)only[go_sem,hl]|contradiction|rfl)
 refine AW.loop (fun z:{i:Nat // i≤vs.length}=>⟨[(9,.lit (.int .i64 z.1)),(8,.lit (.int .i64 vs.length)),(7,.sl (vs.map eP)),(3,.ref 15 0 z.1 z.1),(1,.loc 8 0)],[(15,.vec 16 (eEs ((Geo.edges vs).take z.1))),(8,.blk (eG p vs))],40⟩) (fun z=>vs.length - z.1) ⟨0,Nat.zero_le _⟩ (Weak.trans (Weak.nil 3 16 (by decide) rfl) (aH (by refine⟨?_,?_,?_,?_⟩<;>simp -dsimp (disch:=try exact zo)only[go_sem,aC,List.take_zero,eEs_nil,ZC]))) ?_
 rintro⟨i,hi⟩
 dsimp only
 have hel:((Geo.edges vs).take i).length=i:=a9b vs i hi
 by_cases hlt:i<vs.length
 ·have hmod:(i+1) % vs.length<vs.length:=Nat.mod_lt _ (by omega)
  have hm:((i:Int)+1) % (vs.length:Int)=(((i+1) % vs.length:Nat):Int):=by rw[Int.natCast_emod,Int.natCast_add];rfl
  have ea:=fB vs i hlt
  have ea2:=fB vs _ hmod
  have he:=b8i vs i hlt
  generalize vs[i]=a at *
  generalize vs[(i+1) % vs.length]=a2 at *
  simp only[eP,e4,eE]at ea ea2 he
  repeat'(first|refine zg ?_|(refine zc ?_ ?_<;>intro hc<;>try simp only[NM]at hc)|refine zr ?_|refine⟨by omega,?_⟩|(refine zb ?_ ?_<;>intro hg<;>(try rw[hg])<;>try simp only[NM]at hg)|omega|simp -dsimp (disch:=try exact zo)only[go_sem,hl,ea,ea2,hm,he,zl,ZT,aC,kC,hel]|contradiction|rfl)
  all_goals exact AW.stop ⟨⟨i+1,by omega⟩,(aH (by refine⟨?_,?_,?_,?_⟩<;>simp -dsimp (disch:=try exact zo)only[go_sem,aC,nU,he,ZC])),by dsimp only;omega⟩
 ·have hil:i=vs.length:=by omega
  subst hil
  have hall:(Geo.edges vs).take vs.length=Geo.edges vs:=List.take_of_length_le (by rw[Geo.gC];exact Nat.le_refl _)
  rw[hall]
  repeat'(first|refine zg ?_|(refine zc ?_ ?_<;>intro hc<;>try simp only[NM]at hc)|(refine AW.ret (pM ?_);simp -dsimp (disch:=try exact zo)only[go_sem,hl,zl,kC,Geo.gC]<;>try (exact⟨_,rfl,rfl⟩))|refine⟨by omega,?_⟩|(refine zb ?_ ?_<;>intro hg<;>(try rw[hg])<;>try simp only[NM]at hg)|omega|simp -dsimp (disch:=try exact zo)only[go_sem,hl,zl,kC,Geo.gC]|contradiction)
theorem c118 (p:Pl) (vs:List Pt) (hn:vs.length≤268435456):CallOK prog 118 [.agg (eG p vs)] [] (.sl (eEs (Geo.edges vs))) []:=(c118f p vs hn).ok
end Go.Proofs.Vx
namespace Go.Sx
set_option linter.unusedVariables false
set_option linter.unusedSimpArgs false
def iX (P:Program) (t:TypeId):Option (List (TypeId × Nat)):=match P.underlying t with
 | some (.struct fs)=>if fs.all (·.name != "_")=true then some (fs.toList.map fun f=>(f.type,f.offset))else none
 | _=>none
theorem a9q {α β γ:Type} (f:α→β) (g:β→Option γ) (l:List α):(l.map f).mapM g=l.mapM fun a=>g (f a):=by
 induction l with
 | nil=>rfl
 | cons a l ih=>simp only[List.map_cons,List.mapM_cons,ih]
theorem z7 {P : Program} {d : Nat} {t : TypeId} {ks : List (TypeId × Nat)} {cs : List Value} (hu : iX P t = some ks) (hl : cs.length = P.cellsOf t) :
  P.keyLits (d+1) t cs=(ks.mapM fun p=>P.keyLits d p.1 ((cs.drop p.2).take (P.cellsOf p.1))).map List.flatten:=by
 unfold iX at hu
 split at hu
 ·rename_i fs hs
  split at hu
  ·rename_i ha
   simp only[Option.some.injEq]at hu
   subst hu
   rw[a9q]
   conv=>lhs;unfold Program.keyLits
   rw[hs]
   cases cs with
   | nil=>simp only[hl,ha,and_self,if_true]
   | cons c cs=>cases cs with
    | nil=>cases c<;>simp only[hl,ha,and_self,if_true]
    | cons c' cs=>simp only[hl,ha,and_self,if_true]
  ·contradiction
 ·contradiction
theorem keyLits_bool {P:Program} {d:Nat} {t:TypeId} (b:Bool) (hu:boT P t=true):P.keyLits (d+1) t [.bool b]=some [.bool b]:=by
 unfold boT at hu
 split at hu<;>simp_all[Program.keyLits]
theorem b0c {P:Program} {d:Nat} {t:TypeId} (s:ByteArray) (hu:bM P t=true) (h:s.size≤maxLen):P.keyLits (d+1) t [.string s]=some [.string s.data.toList]:=by
 unfold bM at hu
 split at hu<;>simp_all[Program.keyLits]
theorem a9r {P:Program} {t:TypeId} {ks:List (TypeId × Nat)} {vs:Array Value} {L:List Lit} (hf:iX P t=some ks) (hk:P.keyType t=true) (hl:vs.size=P.cellsOf t) (h:P.keyLits (P.types.size+1) t vs.toList=some L):(keyOf P t (.agg vs)).isSome=true:=by
 unfold iX at hf
 split at hf
 ·rename_i fs hs
  unfold keyOf
  rw[hs]
  simp only[Value.formed,hs,hk,hl,BEq.rfl,Bool.and_self,if_true,Value.cells,h,Option.map_some,Option.isSome_some]
 ·contradiction
def pv (p:Pt):Value:=.agg #[.bool (Zn p.x),.string (Zm p.x),.bool (Zn p.y),.string (Zm p.y),.bool (Zn p.z),.string (Zm p.z),.bool (Zn p.w),.string (Zm p.w)]
theorem pP {p q:Pt} (h:pv p=pv q):p=q:=by
 unfold pv at h
 injection h with h
 have h:=congrArg Array.toList h
 simp only[List.cons.injEq,Value.bool.injEq,Value.string.injEq,and_true]at h
 obtain⟨a1,a2,a3,a4,a5,a6,a7,a8⟩:=h
 cases p;cases q
 simp only at *
 rw[pU a1 a2,pU a3 a4,pU a5 a6,pU a7 a8]
def mPP (m:List (Pt × Pt)):List (Value × Value):=m.map fun e=>(pv e.1,pv e.2)
def mPB (m:List Pt):List (Value × Value):=m.map fun e=>(pv e,.bool true)
def jX (m:List (Pt × Pt)) (k v:Pt):List (Pt × Pt):=if k∈m.map (·.1)then m.map (fun e=>if e.1=k then (k,v)else e)else m++[(k,v)]
def pS (m:List (Pt × Pt)) (k:Pt):Option Pt:=(m.find? fun e=>decide (e.1=k)).map (·.2)
theorem a3m (m:List (Pt × Pt)):(mPP m).map (·.1)=(m.map (·.1)).map pv:=by simp[mPP]
theorem zD {l:List Pt} {k:Pt}:pv k∈l.map pv↔k∈l:=by
 constructor
 ·intro h
  obtain⟨q,hq,e⟩:=List.mem_map.1 h
  rw[← pP e];exact hq
 ·exact List.mem_map_of_mem
theorem c1p (m:List (Pt × Pt)) (k v:Pt):fY (mPP m) (pv k) (pv v)=mPP (jX m k v):=by
 unfold fY jX
 rw[a3m]
 by_cases h:k∈m.map (·.1)
 ·rw[if_pos (zD.2 h),if_pos h]
  simp only[mPP,List.map_map]
  apply List.map_congr_left
  intro e he
  simp only[Function.comp]
  by_cases hk:e.1=k
  ·rw[if_pos (by rw[hk]),if_pos hk]
  ·rw[if_neg (fun h=>hk (pP h)),if_neg hk]
 ·rw[if_neg (fun h'=>h (zD.1 h')),if_neg h]
  simp[mPP]
theorem b7h (m:List (Pt × Pt)) (k:Pt):fF (mPP m) (pv k)=(pS m k).map pv:=by
 unfold fF pS mPP
 induction m with
 | nil=>rfl
 | cons e m ih =>
  simp only[List.map_cons,List.find?_cons]
  by_cases h:e.1=k
  ·simp[h]
  ·have h':¬ pv e.1=pv k:=fun h'=>h (pP h')
   simp only[h,h',decide_false]
   exact ih
theorem a3n (m:List Pt):(mPB m).map (·.1)=m.map pv:=by simp[mPB]
theorem c1q (m:List Pt) (k:Pt) (h:k∉m):fY (mPB m) (pv k) (.bool true)=mPB (m++[k]):=by
 unfold fY
 rw[a3n,if_neg (fun h'=>h (zD.1 h'))]
 simp[mPB]
theorem b7i (m:List Pt) (k:Pt):fF (mPB m) (pv k)=if k∈m then some (.bool true)else none:=by
 unfold fF mPB
 induction m with
 | nil=>rfl
 | cons e m ih =>
  simp only[List.map_cons,List.find?_cons]
  by_cases h:e=k
  ·simp[h]
  ·have h':¬ pv e=pv k:=fun h'=>h (pP h')
   simp only[h',decide_false,List.mem_cons]
   rw[ih]
   have h2:¬ k=e:=fun h2=>h h2.symm
   simp only[h2,false_or]
end Go.Sx
namespace Go.Sx
set_option linter.unusedVariables false
set_option linter.unusedSimpArgs false
def Mk (n M N:Nat):Nat→Prop:=fun k=>k<n∧k≠N∧k≠M
def oA (n M N:Nat):List (Nat × AV)→Prop
 | []=>True
 | (_,a)::l=>In (Mk n M N) a∧oA n M N l
def oB (n M N:Nat):List (Nat × AV)→Prop
 | []=>True
 | (i,a)::l=>(Mk n M N i∧InC (Mk n M N) a)∧oB n M N l
theorem a2n {n M N:Nat}:∀ {l:List (Nat × AV)},oA n M N l→∀ p∈l,In (Mk n M N) p.2:=by
 intro l
 induction l with
 | nil=>intro _ p hp;simp at hp
 | cons q l ih =>
  intro h p hp
  obtain⟨i,a⟩:=q
  rcases List.mem_cons.1 hp with rfl|hp
  ·exact h.1
  ·exact ih h.2 p hp
theorem a2o {n M N:Nat}:∀ {l:List (Nat × AV)},oB n M N l→∀ p∈l,Mk n M N p.1∧InC (Mk n M N) p.2:=by
 intro l
 induction l with
 | nil=>intro _ p hp;simp at hp
 | cons q l ih =>
  intro h p hp
  obtain⟨i,a⟩:=q
  rcases List.mem_cons.1 hp with rfl|hp
  ·exact h.1
  ·exact ih h.2 p hp
theorem c2v {S : AS} (N M d n : Nat) (cs : List AV) {t o : List (Nat × AV)} (hd : look S.t d = .loc N 0) (hN : look S.o N = .blk cs) (hcs : ∀ c ∈ cs, Flat c) (hN8 : 8 ≤ N) (hM8 : 8 ≤ M) (hMn : M < n) (h8 : 8 ≤ n)
  (ht:gL t S.t) (ho:gL o S.o) (it:oA n M N t) (io:oB n M N o):Weak S ⟨(d,.loc M 0)::t,(M,.blk cs)::o,n⟩:=by
 intro c nt a w hs
 obtain⟨g,rfl,hg,htk,hsz,hu,hln,_⟩:=hs
 let g':Gh:={ g with us:=fun l=>(g.us l∧Mk n M N l)∨l=M,blk:=fun l=>if l=M then g.blk N else g.blk l }
 have hK:∀ l,Mk n M N l→g.us l→g'.us l∧g'.blk l=g.blk l∧g'.des l=g.des l∧g'.len l=g.len l:=fun l hl hu=>⟨.inl ⟨hu,hl⟩,if_neg hl.2.2,rfl,rfl⟩
 have hcar:∀ {x:AV} {v:Value},Rel g x v→In (Mk n M N) x→Rel g' x v:=fun h hi=>cY (g:=g) (g':=g') (K:=Mk n M N) (fun b hb=>⟨hb,rfl⟩) hK h hi
 have hT:=lW ht
 have hO:=lW ho
 have iT:=a2n it
 have iO:=a2o io
 have hlo:∀ q,look o q=.any∨(Mk n M N q∧InC (Mk n M N) (look o q)∧look S.o q=look o q):=fun q=>by
  rcases @jM o q with h|h
  ·exact .inl h
  ·exact .inr ⟨(iO _ h).1,(iO _ h).2,hO _ h⟩
 have hokN:=hg.obj N
 have hownN:=hg.own N
 rw[hN]at hokN hownN
 have hbM:g'.blk M=g.blk N:=if_pos rfl
 have hbl:∀ q b,q≠M→aE g' q (look o q)=some b→q≠N∧aE g q (look S.o q)=some b:=by
  intro q b hq hb
  rcases hlo q with h|⟨k1,k2,k3⟩
  ·rw[h]at hb;simp[aE]at hb
  ·rw[k3]
   refine⟨k1.2.1,?_⟩
   generalize look o q=x at hb ⊢
   have e:g'.blk q=g.blk q:=if_neg hq
   cases x<;>simp only[aE]at hb ⊢<;>first|exact hb|(rw[← e];exact hb)
 have hl2:∀ q,look ((M,AV.blk cs)::o) q=if M=q then .blk cs else look o q:=fun q=>rfl
 have hblk2:∀ q b,aE g' q (look ((M,AV.blk cs)::o) q)=some b→(q=M∧b=g.blk N)∨(q≠M∧q≠N∧aE g q (look S.o q)=some b):=by
  intro q b hb
  rw[hl2]at hb
  by_cases hq:M=q
  ·rw[if_pos hq]at hb
   subst hq
   simp only[aE,Option.some.injEq]at hb
   exact .inl ⟨rfl,by rw[← hb];exact hbM⟩
  ·rw[if_neg hq]at hb
   obtain⟨k1,k2⟩:=hbl q b (fun e=>hq e.symm) hb
   exact .inr ⟨fun e=>hq e.symm,k1,k2⟩
 have hbN:aE g N (look S.o N)=some (g.blk N):=by rw[hN];rfl
 refine⟨g',rfl,⟨hg.os,hg.tape,hg.output,hg.size,hg.old,hg.fzo,hg.fzn,hg.fzx,fun q=>?_,fun q b hb=>?_,fun q q' b hb hb'=>?_⟩,⟨htk.1,fun q=>?_⟩,hsz,fun l hl=>?_,?_,h8⟩
 ·show ObjOk g' q (look ((M,AV.blk cs)::o) q)
  rw[hl2]
  by_cases hq:M=q
  ·rw[if_pos hq]
   subst hq
   obtain⟨h1,vs,e,h2,h3,h4,h5⟩:=hokN
   exact⟨.inr rfl,vs,e,by rw[hbM];exact h2,h3,h4,fun i i1 i2=>(h5 i i1 i2).flat (hcs _ (List.getElem_mem i1))⟩
  ·rw[if_neg hq]
   rcases hlo q with h|⟨k1,k2,k3⟩
   ·rw[h];trivial
   ·have:=hg.obj q
    rw[k3]at this
    exact rK (g:=g) (g':=g') (K:=Mk n M N) rfl (fun b hb=>hb) hK k1 k2 this
 ·rcases hblk2 q b hb with⟨rfl,rfl⟩|⟨_,_,h⟩
  ·exact hg.own N _ hbN
  ·exact hg.own q b h
 ·rcases hblk2 q b hb with⟨rfl,rfl⟩|⟨k1,k2,k3⟩<;>rcases hblk2 q' _ hb' with⟨e1,e2⟩|⟨l1,l2,l3⟩
  ·exact e1.symm
  ·exact absurd (hg.dis N q' _ hbN l3).symm l2
  ·subst e2
   exact absurd (hg.dis q N _ k3 hbN) k2
  ·exact hg.dis q q' b k3 l3
 ·show Rel g' (look ((d,AV.loc M 0)::t) q) _
  simp only[look]
  by_cases hq:d=q
  ·rw[if_pos hq]
   subst hq
   have:=htk.2 d
   rw[hd]at this
   generalize a.tmps.getD d undef=v at this
   cases this
   have h2:=Rel.loc (g:=g') M 0 (.inr rfl)
   rwa [hbM]at h2
  ·rw[if_neg hq]
   rcases @jM t q with h|h
   ·rw[h];exact .any _
   ·have h1:=hT _ h
    simp only at h1
    have h2:=htk.2 q
    rw[h1]at h2
    exact hcar h2 (iT _ h)
 ·rcases hl with⟨_,h⟩|rfl
  ·exact h.1
  ·exact hMn
 ·intro l hl
  obtain⟨h1,h2,h3⟩:=hln l hl
  have e1:l≠M:=by omega
  have e2:l≠N:=by omega
  refine⟨h1,.inl ⟨h2,by omega,e2,e1⟩,?_⟩
  have:g'.blk l=g.blk l:=if_neg e1
  first|exact h3|(rw[this];exact h3)|simpa [this]using h3
theorem c6m (n M N k:Nat):Mk n M N k=(k<n∧k≠N∧k≠M):=rfl
attribute [go_sem] c6m oA oB
end Go.Sx
namespace Go.Sx
set_option linter.unusedVariables false
set_option linter.unusedSimpArgs false
def P0:Pt:=⟨0,0,0,0⟩
abbrev MS:=List (Pt × Pt) × Pt
def gS (b:Pl) (s:MS) (e:Pt × Pt):MS:=if aB b e.1=0∧aB b e.2=0 then (jX s.1 e.2 e.1,e.2)else s
def bZ (b:Pl) (s:MS) (es:List (Pt × Pt)):MS:=es.foldl (gS b) s
def cU (b:Pl) (l:List (Pl × List Pt)):MS:=l.foldl (fun s x=>bZ b s (Geo.edges x.2)) ([],P0)
def nxP (m:List (Pt × Pt)) (k:Pt):Pt:=(pS m k).getD P0
def bA (nx:Pt→Pt):Nat→Pt→List Pt
 | 0,_=>[]
 | n+1,x=>x::bA nx n (nx x)
def itP (nx:Pt→Pt):Nat→Pt→Pt
 | 0,x=>x
 | n+1,x=>itP nx n (nx x)
theorem sD (nx:Pt→Pt) (n:Nat) (x:Pt):itP nx (n+1) x=nx (itP nx n x):=by
 induction n generalizing x with
 | zero=>rfl
 | succ n ih=>exact ih (nx x)
theorem t8 (nx:Pt→Pt) (n:Nat) (x:Pt):bA nx (n+1) x=bA nx n x++[itP nx n x]:=by
 induction n generalizing x with
 | zero=>rfl
 | succ n ih =>
  rw[bA,ih (nx x)]
  rfl
theorem oJ (nx:Pt→Pt) (n:Nat) (x:Pt):(bA nx n x).length=n:=by
 induction n generalizing x with
 | zero=>rfl
 | succ n ih=>simp[bA,ih]
def b8 (b:Pl) (l:List (Pl × List Pt)):List Pt:=bA (nxP (cU b l).1) (cU b l).1.length (cU b l).2
structure MInv (k:Nat) (s:MS):Prop where
 nd:(s.1.map (·.1)).Nodup
 bt:∀ e∈s.1,BPt k e.1∧BPt k e.2
 fb:BPt k s.2
theorem vA (k:Nat):BPt k P0:=by
 have:(Zm 0).size=0:=tV
 exact⟨⟨by show (Zm 0).size≤k;omega,by show (Zm 0).size≤k;omega,by show (Zm 0).size≤k;omega,by show (Zm 0).size≤k;omega⟩⟩
theorem c0y {m:List (Pt × Pt)} {k v:Pt} {e:Pt × Pt} (h:e∈jX m k v):e∈m∨e=(k,v):=by
 unfold jX at h
 split at h
 ·obtain⟨q,hq,rfl⟩:=List.mem_map.1 h
  split
  ·exact .inr rfl
  ·exact .inl hq
 ·rcases List.mem_append.1 h with h|h
  ·exact .inl h
  ·exact .inr (by simpa using h)
theorem b6o (m:List (Pt × Pt)) (k v:Pt):(jX m k v).map (·.1)=if k∈m.map (·.1)then m.map (·.1)else m.map (·.1)++[k]:=by
 unfold jX
 split
 ·rw[List.map_map]
  apply List.map_congr_left
  intro e _
  simp only[Function.comp]
  split
  ·rename_i h;exact h.symm
  ·rfl
 ·simp
theorem b2x {m:List (Pt × Pt)} {k v:Pt} (h:(m.map (·.1)).Nodup):((jX m k v).map (·.1)).Nodup:=by
 rw[b6o]
 split
 ·exact h
 ·rename_i hk
  rw[List.nodup_append]
  refine⟨h,by simp,fun a ha c hc=>?_⟩
  simp at hc
  subst hc
  exact fun e=>hk (e▸ha)
theorem MInv.step {k:Nat} {b:Pl} {s:MS} {e:Pt × Pt} (h:MInv k s) (he:BPt k e.1∧BPt k e.2):MInv k (gS b s e):=by
 unfold gS
 split
 ·exact⟨b2x h.nd,fun q hq=>(c0y hq).elim (h.bt q) (fun e=>by rw[e];exact⟨he.2,he.1⟩),he.2⟩
 ·exact h
theorem b4b (b:Pl) (s:MS) (es:List (Pt × Pt)) (e:Pt × Pt):bZ b s (es++[e])=gS b (bZ b s es) e:=by
 unfold bZ;rw[List.foldl_append];rfl
theorem a5s {k:Nat} {m:List (Pt × Pt)} {x:Pt} (h:∀ e∈m,BPt k e.1∧BPt k e.2):BPt k (nxP m x):=by
 unfold nxP pS
 cases hq:m.find? fun e=>decide (e.1=x)with
 | none=>exact vA k
 | some e=>exact (h e (List.mem_of_find?_eq_some hq)).2
theorem it_bt {k:Nat} {m:List (Pt × Pt)} {x:Pt} (h:∀ e∈m,BPt k e.1∧BPt k e.2) (hx:BPt k x) (n:Nat):BPt k (itP (nxP m) n x):=by
 cases n with
 | zero=>exact hx
 | succ n=>rw[sD];exact a5s h
theorem a1i (m:List (Pt × Pt)):(mPP m).length=m.length:=List.length_map _
theorem kQ:Zn 0=false:=kH (Int.le_refl 0)
end Go.Sx
