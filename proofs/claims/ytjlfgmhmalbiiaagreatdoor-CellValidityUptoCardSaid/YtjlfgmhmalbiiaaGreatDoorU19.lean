import Derived.Test.YtjlfgmhmalbiiaaGreatDoorProg
import Derived.Test.YtjlfgmhmalbiiaaGreatDoorU05
import Derived.Test.YtjlfgmhmalbiiaaGreatDoorU11
import Derived.Test.YtjlfgmhmalbiiaaGreatDoorU17
import Derived.Test.YtjlfgmhmalbiiaaGreatDoorU18
set_option linter.all false
namespace Go.Proofs.Vx
open Go Go.Sx Go.Proofs
attribute [local irreducible] fnT CallOK CallFr AW effV callV runP runO oneP oneO gcaseP hid
theorem yqq_Nx22:byT Tryz.prog 3=some 8∧zeT Tryz.prog 159=some [.lit (.slice none 0 0)]∧zeT Tryz.prog 3=some [.lit (.int .i64 0)]:=by and_intros<;>kernel_rfl
attribute [go_sem] yqq_Nx22
def sidesT (b:Pl) (vs:List Pt) (i:Nat):List Int:=(vs.take i).map (sideP b)++List.replicate (vs.length - i) 0
theorem sidesT_zero (b:Pl) (vs:List Pt):sidesT b vs 0=List.replicate vs.length 0:=by simp[sidesT]
theorem sidesT_len (b:Pl) (vs:List Pt) (i:Nat) (h:i≤vs.length):(sidesT b vs i).length=vs.length:=by simp[sidesT];omega
theorem sidesT_all (b:Pl) (vs:List Pt):sidesT b vs vs.length=vs.map (sideP b):=by simp[sidesT]
theorem sidesT_succ (b:Pl) (vs:List Pt) (i:Nat) (h:i<vs.length):(sidesT b vs i).set i (sideP b vs[i])=sidesT b vs (i+1):=by
 unfold sidesT
 have e1:((vs.take i).map (sideP b)).length=i:=by simp;omega
 rw[List.set_append_right _ _ (by omega),e1,Nat.sub_self]
 rw[show vs.length - i=(vs.length - (i+1))+1 by omega,List.replicate_succ,List.set_cons_zero,List.take_succ_eq_append_getElem h,List.map_append,List.append_assoc]
 rfl
def prt (h:Int) (p b:Pl) (vs:List Pt):AV:=if someT h b vs vs.length then .agg (eG p (partI h b vs))else .agg eG0
theorem prt_in {K:Nat→Prop} (h:Int) (p b:Pl) (vs:List Pt):In K (prt h p b vs):=(partFlat p (partI h b vs) trivial).in
set_option maxHeartbeats 16000000 in
theorem c70 (p b:Pl) (vs:List Pt) (hn:vs.length≤268435456) (hcan:∀ v∈vs,CanP v) (hv:∀ v∈vs,BPt 1073741824 v) (hb:BPl 1073741824 b):CallOK Tryz.prog 70 [.agg (eG p vs),.agg (eH b)] [] (.tup [prt (-1) p b vs,prt 1 p b vs]) []:=by
 refine CallOK.closed Tryz.func70 rfl 34 rfl rfl (.tup _ (by
  intro c hc
  simp only[List.mem_cons,List.not_mem_nil,or_false]at hc
  rcases hc with rfl|rfl<;>exact prt_in _ _ _ _)) [.cell 4 58,.cell 5 58] (congrArg Array.toList Tryz.results70) ?_
 simp only[startT,Nat.reduceAdd]
 have hml:maxLen=9223372036854775807:=rfl
 have hl:(vs.map eP).length=vs.length:=List.length_map _
 repeat' (first|refine zg ?_|(refine AW.cond rfl ?_ ?_<;>intro hc<;>try simp only[NM]at hc)|refine zr ?_|refine ⟨by omega,?_⟩|(refine zb ?_ ?_<;>intro hg<;>(try rw[hg])<;>try simp only[NM]at hg)|omega|simp -dsimp (disch:=try exact zo) only[go_sem,hl,sidesT_zero]|contradiction|rfl)
 refine AW.loop (fun z:{i:Nat // i≤vs.length}=>⟨[(17,.lit (.int .i64 z.1)),(16,.lit (.int .i64 vs.length)),(15,.sl (vs.map eP)),(6,.loc 16 0),(5,.loc 11 0),(4,.loc 10 0),(3,.loc 9 0),(2,.loc 8 0)],[(16,.blk [.ref 15 0 vs.length vs.length]),(15,.vec 1 (ints .i64 (sidesT b vs z.1))),(8,.blk (eG p vs)),(9,.blk (eH b)),(10,.blk eG0),(11,.blk eG0)],40⟩) (fun z=>vs.length - z.1) ⟨0,Nat.zero_le _⟩ (Weak.t4 (by refine ⟨?_,?_,?_,?_⟩<;>simp -dsimp (disch:=try exact zo) only[go_sem,sidesT_zero,Nat.sub_zero,eP_in,ints_in,ints_rep,ZT,ZC])) ?_
 rintro ⟨i,hi⟩
 dsimp only
 by_cases hlt:i<vs.length
 ·have ea:=eP_getD vs i hlt
  have hS:=sidesT_succ b vs i hlt
  have hX:=sidesT_len b vs i hi
  have ha:=hv _ (List.getElem_mem hlt)
  generalize vs[i]=a at *
  simp only[eP,e4]at ea
  repeat' (first|refine zg ?_|(refine AW.cond rfl ?_ ?_<;>intro hc<;>try simp only[NM]at hc)|refine zr ?_|(refine callV.flat _ yfn_34 (c34 b a hb ha) rfl rfl ?_)|refine ⟨by omega,?_⟩|(refine zb ?_ ?_<;>intro hg<;>(try rw[hg])<;>try simp only[NM]at hg)|omega|simp -dsimp (disch:=try exact zo) only[go_sem,hl,ea,zl,ZT,eP_in,hX,hS]|contradiction|rfl)
  all_goals exact AW.stop ⟨⟨i+1,by omega⟩,(Weak.t4 (by refine ⟨?_,?_,?_,?_⟩<;>simp -dsimp (disch:=try exact zo) only[go_sem,eP_in,ints_in,ZC])),by dsimp only;omega⟩
 ·have hil:i=vs.length:=by omega
  subst hil
  rw[sidesT_all]
  have hl2:(ints .i64 (vs.map (sideP b))).length=vs.length:=by rw[ints_length,List.length_map]
  refine AW.weak (Weak.freezeV 15 vs.length 1 (ints .i64 (vs.map (sideP b))) (t:=[(17,.lit (.int .i64 vs.length)),(16,.lit (.int .i64 vs.length)),(6,.loc 16 0),(5,.loc 11 0),(4,.loc 10 0),(3,.loc 9 0),(2,.loc 8 0)]) (o:=[(16,.blk [.sl (ints .i64 (vs.map (sideP b)))]),(8,.blk (eG p vs)),(9,.blk (eH b)),(10,.blk eG0),(11,.blk eG0)]) rfl hl2 (by simp -dsimp (disch:=try exact zo) only[go_sem,eP_in]) (by simp -dsimp (disch:=try exact zo) only[go_sem,eP_in])) ?_
  have ca:=c139a p b vs hn hcan hv hb
  have cb:=c139b p b vs hn hcan hv hb
  have ia:In (fun _=>False) (prt (-1) p b vs):=prt_in _ _ _ _
  have ib:In (fun _=>False) (prt 1 p b vs):=prt_in _ _ _ _
  unfold prt at ia ib ⊢
  cases hA:someT (-1) b vs vs.length<;>cases hB:someT 1 b vs vs.length<;>simp only[hA,hB,reduceIte,Bool.false_eq_true]at ca cb ia ib ⊢
  ·repeat' (first|refine zg ?_|(refine AW.cond rfl ?_ ?_<;>intro hc<;>try simp only[NM]at hc)|refine zr ?_|(first|refine callV.new _ yfn_139 (by simp -dsimp (disch:=try exact zo) only[go_sem];exact ca) (by simp -dsimp (disch:=try exact zo) only[go_sem,eP_in,ints_in]) ia ?_|refine callV.new _ yfn_139 (by simp -dsimp (disch:=try exact zo) only[go_sem];exact cb) (by simp -dsimp (disch:=try exact zo) only[go_sem,eP_in,ints_in]) ib ?_)|refine ⟨by omega,?_⟩|(refine zb ?_ ?_<;>intro hg<;>(try rw[hg])<;>try simp only[NM]at hg)|omega|simp -dsimp (disch:=try exact zo) only[go_sem,hl,zl,eP_in]|contradiction|rfl)
  ·repeat' (first|refine zg ?_|(refine AW.cond rfl ?_ ?_<;>intro hc<;>try simp only[NM]at hc)|refine zr ?_|(first|refine callV.new _ yfn_139 (by simp -dsimp (disch:=try exact zo) only[go_sem];exact ca) (by simp -dsimp (disch:=try exact zo) only[go_sem,eP_in,ints_in]) ia ?_|refine callV.new _ yfn_139 (by simp -dsimp (disch:=try exact zo) only[go_sem];exact cb) (by simp -dsimp (disch:=try exact zo) only[go_sem,eP_in,ints_in]) ib ?_)|refine ⟨by omega,?_⟩|(refine zb ?_ ?_<;>intro hg<;>(try rw[hg])<;>try simp only[NM]at hg)|omega|simp -dsimp (disch:=try exact zo) only[go_sem,hl,zl,eP_in]|contradiction|rfl)
  ·repeat' (first|refine zg ?_|(refine AW.cond rfl ?_ ?_<;>intro hc<;>try simp only[NM]at hc)|refine zr ?_|(first|refine callV.new _ yfn_139 (by simp -dsimp (disch:=try exact zo) only[go_sem];exact ca) (by simp -dsimp (disch:=try exact zo) only[go_sem,eP_in,ints_in]) ia ?_|refine callV.new _ yfn_139 (by simp -dsimp (disch:=try exact zo) only[go_sem];exact cb) (by simp -dsimp (disch:=try exact zo) only[go_sem,eP_in,ints_in]) ib ?_)|refine ⟨by omega,?_⟩|(refine zb ?_ ?_<;>intro hg<;>(try rw[hg])<;>try simp only[NM]at hg)|omega|simp -dsimp (disch:=try exact zo) only[go_sem,hl,zl,eP_in]|contradiction|rfl)
  ·repeat' (first|refine zg ?_|(refine AW.cond rfl ?_ ?_<;>intro hc<;>try simp only[NM]at hc)|refine zr ?_|(first|refine callV.new _ yfn_139 (by simp -dsimp (disch:=try exact zo) only[go_sem];exact ca) (by simp -dsimp (disch:=try exact zo) only[go_sem,eP_in,ints_in]) ia ?_|refine callV.new _ yfn_139 (by simp -dsimp (disch:=try exact zo) only[go_sem];exact cb) (by simp -dsimp (disch:=try exact zo) only[go_sem,eP_in,ints_in]) ib ?_)|refine ⟨by omega,?_⟩|(refine zb ?_ ?_<;>intro hg<;>(try rw[hg])<;>try simp only[NM]at hg)|omega|simp -dsimp (disch:=try exact zo) only[go_sem,hl,zl,eP_in]|contradiction|rfl)
end Go.Proofs.Vx
namespace Go.Proofs.Vx
open Go Go.Sx Go.Proofs
attribute [local irreducible] fnT CallOK CallFr AW effV callV runP runO oneP oneO gcaseP hid
theorem yqq_Nx23:byT Tryz.prog 138=some 192∧plT Tryz.prog 138=some [(0,8),(8,8)]∧slT Tryz.prog 135=some (138,16)∧zeT Tryz.prog 138=some [.lit (.bool false),.lit (.string ⟨#[]⟩),.lit (.bool false),.lit (.string ⟨#[]⟩),.lit (.bool false),.lit (.string ⟨#[]⟩),.lit (.bool false),.lit (.string ⟨#[]⟩),.lit (.bool false),.lit (.string ⟨#[]⟩),.lit (.bool false),.lit (.string ⟨#[]⟩),.lit (.bool false),.lit (.string ⟨#[]⟩),.lit (.bool false),.lit (.string ⟨#[]⟩)]:=by and_intros<;>kernel_rfl
attribute [go_sem] yqq_Nx23
theorem yfn_71:fnT Tryz.prog 71=true:=by kernel_rfl
theorem yfn_118:fnT Tryz.prog 118=true:=by kernel_rfl
abbrev eE (a b:Pt):List AV:=[.lit (.bool (Zn a.x)),.lit (.string (Zm a.x)),.lit (.bool (Zn a.y)),.lit (.string (Zm a.y)),.lit (.bool (Zn a.z)),.lit (.string (Zm a.z)),.lit (.bool (Zn a.w)),.lit (.string (Zm a.w)),.lit (.bool (Zn b.x)),.lit (.string (Zm b.x)),.lit (.bool (Zn b.y)),.lit (.string (Zm b.y)),.lit (.bool (Zn b.z)),.lit (.string (Zm b.z)),.lit (.bool (Zn b.w)),.lit (.string (Zm b.w))]
def eEs (l:List (Pt × Pt)):List (List AV):=l.map fun e=>eE e.1 e.2
theorem eEs_flat (l:List (Pt × Pt)):∀ e∈eEs l,∀ c∈e,Flat c:=by
 intro e he c hc
 obtain ⟨v,_,rfl⟩:=List.mem_map.1 he
 simp only[eE,List.mem_cons,List.not_mem_nil,or_false]at hc
 rcases hc with rfl|rfl|rfl|rfl|rfl|rfl|rfl|rfl|rfl|rfl|rfl|rfl|rfl|rfl|rfl|rfl<;>exact .lit _
theorem eEs_in {K:Nat→Prop} (l:List (Pt × Pt)):(∀ e∈eEs l,∀ c∈e,In K c)=True:=eq_true fun e he c hc=>(eEs_flat l e he c hc).inn
theorem eEs_length (l:List (Pt × Pt)):(eEs l).length=l.length:=List.length_map _
theorem eEs_take (vs:List Pt) (i:Nat) (hi:i<vs.length):eEs ((Geo.edges vs).take i)++[eE vs[i] (vs[(i+1) % vs.length]'(Nat.mod_lt _ (by omega)))]=eEs ((Geo.edges vs).take (i+1)):=by
 have hl:i<(Geo.edges vs).length:=by rw[Geo.edges_length];exact hi
 rw[List.take_succ_eq_append_getElem hl,edges_get vs i hi hl]
 simp[eEs]
theorem edges_take_length (vs:List Pt) (i:Nat) (hi:i≤vs.length):((Geo.edges vs).take i).length=i:=by
 rw[List.length_take,Geo.edges_length];omega
theorem eEs_getD (l:List (Pt × Pt)) (i:Nat) (h:i<l.length):(eEs l).getD i []=eE l[i].1 l[i].2:=by
 rw[List.getD_eq_getElem?_getD,List.getElem?_eq_getElem (by rw[eEs_length];exact h)];simp[eEs]
set_option maxHeartbeats 8000000 in
theorem c118f (p:Pl) (vs:List Pt) (hn:vs.length≤268435456):CallFr Tryz.prog 118 [.agg (eG p vs)] 16 (eEs (Geo.edges vs)):=by
 refine CallFr.flat Tryz.func118 rfl 31 rfl rfl (eEs_flat _) [.tmp 2] (congrArg Array.toList Tryz.results118) ?_
 simp only[startT,Nat.reduceAdd]
 have hml:maxLen=9223372036854775807:=rfl
 have hl:(vs.map eP).length=vs.length:=List.length_map _
 have eEs_nil:eEs []=[]:=rfl
 repeat' (first|refine zg ?_|(refine AW.cond rfl ?_ ?_<;>intro hc<;>try simp only[NM]at hc)|refine zr ?_|refine ⟨by omega,?_⟩|(refine zb ?_ ?_<;>intro hg<;>(try rw[hg])<;>try simp only[NM]at hg)|omega|simp -dsimp (disch:=try exact zo) only[go_sem,hl]|contradiction|rfl)
 refine AW.loop (fun z:{i:Nat // i≤vs.length}=>⟨[(9,.lit (.int .i64 z.1)),(8,.lit (.int .i64 vs.length)),(7,.sl (vs.map eP)),(3,.ref 15 0 z.1 z.1),(1,.loc 8 0)],[(15,.vec 16 (eEs ((Geo.edges vs).take z.1))),(8,.blk (eG p vs))],40⟩) (fun z=>vs.length - z.1) ⟨0,Nat.zero_le _⟩ (Weak.trans (Weak.nil 3 16 (by decide) rfl) (Weak.t4 (by refine ⟨?_,?_,?_,?_⟩<;>simp -dsimp (disch:=try exact zo) only[go_sem,eP_in,List.take_zero,eEs_nil,ZC]))) ?_
 rintro ⟨i,hi⟩
 dsimp only
 have hel:((Geo.edges vs).take i).length=i:=edges_take_length vs i hi
 by_cases hlt:i<vs.length
 ·have hmod:(i+1) % vs.length<vs.length:=Nat.mod_lt _ (by omega)
  have hm:((i:Int)+1) % (vs.length:Int)=(((i+1) % vs.length:Nat):Int):=by rw[Int.natCast_emod,Int.natCast_add];rfl
  have ea:=eP_getD vs i hlt
  have ea2:=eP_getD vs _ hmod
  have he:=eEs_take vs i hlt
  generalize vs[i]=a at *
  generalize vs[(i+1) % vs.length]=a2 at *
  simp only[eP,e4,eE]at ea ea2 he
  repeat' (first|refine zg ?_|(refine AW.cond rfl ?_ ?_<;>intro hc<;>try simp only[NM]at hc)|refine zr ?_|refine ⟨by omega,?_⟩|(refine zb ?_ ?_<;>intro hg<;>(try rw[hg])<;>try simp only[NM]at hg)|omega|simp -dsimp (disch:=try exact zo) only[go_sem,hl,ea,ea2,hm,he,zl,ZT,eP_in,eEs_length,hel]|contradiction|rfl)
  all_goals exact AW.stop ⟨⟨i+1,by omega⟩,(Weak.t4 (by refine ⟨?_,?_,?_,?_⟩<;>simp -dsimp (disch:=try exact zo) only[go_sem,eP_in,eEs_in,he,ZC])),by dsimp only;omega⟩
 ·have hil:i=vs.length:=by omega
  subst hil
  have hall:(Geo.edges vs).take vs.length=Geo.edges vs:=List.take_of_length_le (by rw[Geo.edges_length];exact Nat.le_refl _)
  rw[hall]
  repeat' (first|refine zg ?_|(refine AW.cond rfl ?_ ?_<;>intro hc<;>try simp only[NM]at hc)|(refine AW.ret (RetF.of ?_);simp -dsimp (disch:=try exact zo) only[go_sem,hl,zl,eEs_length,Geo.edges_length]<;>try (exact ⟨_,rfl,rfl⟩))|refine ⟨by omega,?_⟩|(refine zb ?_ ?_<;>intro hg<;>(try rw[hg])<;>try simp only[NM]at hg)|omega|simp -dsimp (disch:=try exact zo) only[go_sem,hl,zl,eEs_length,Geo.edges_length]|contradiction)
theorem c118 (p:Pl) (vs:List Pt) (hn:vs.length≤268435456):CallOK Tryz.prog 118 [.agg (eG p vs)] [] (.sl (eEs (Geo.edges vs))) []:=(c118f p vs hn).ok
end Go.Proofs.Vx
namespace Go.Sx
set_option linter.unusedVariables false
set_option linter.unusedSimpArgs false
def fldT (P:Program) (t:TypeId):Option (List (TypeId × Nat)):=match P.underlying t with
 | some (.struct fs)=>if fs.all (·.name != "_")=true then some (fs.toList.map fun f=>(f.type,f.offset))else none
 | _=>none
theorem mapM_map_opt {α β γ:Type} (f:α→β) (g:β→Option γ) (l:List α):(l.map f).mapM g=l.mapM fun a=>g (f a):=by
 induction l with
 | nil=>rfl
 | cons a l ih=>simp only[List.map_cons,List.mapM_cons,ih]
theorem keyLits_struct {P : Program} {d : Nat} {t : TypeId} {ks : List (TypeId × Nat)} {cs : List Value} (hu : fldT P t = some ks) (hl : cs.length = P.cellsOf t) :
  P.keyLits (d+1) t cs=(ks.mapM fun p=>P.keyLits d p.1 ((cs.drop p.2).take (P.cellsOf p.1))).map List.flatten:=by
 unfold fldT at hu
 split at hu
 ·rename_i fs hs
  split at hu
  ·rename_i ha
   simp only[Option.some.injEq]at hu
   subst hu
   rw[mapM_map_opt]
   conv=>lhs;unfold Program.keyLits
   rw[hs]
   cases cs with
   | nil=>simp only[hl,ha,and_self,if_true]
   | cons c cs=>cases cs with
    | nil=>cases c<;>simp only[hl,ha,and_self,if_true]
    | cons c' cs=>simp only[hl,ha,and_self,if_true]
  ·contradiction
 ·contradiction
theorem keyLits_bool {P:Program} {d:Nat} {t:TypeId} (b:Bool) (hu:boT P t=true):P.keyLits (d+1) t [.bool b]=some [.bool b]:=by
 unfold boT at hu
 split at hu<;>simp_all[Program.keyLits]
theorem keyLits_str {P:Program} {d:Nat} {t:TypeId} (s:ByteArray) (hu:strT P t=true) (h:s.size≤maxLen):P.keyLits (d+1) t [.string s]=some [.string s.data.toList]:=by
 unfold strT at hu
 split at hu<;>simp_all[Program.keyLits]
theorem keyOf_struct {P:Program} {t:TypeId} {ks:List (TypeId × Nat)} {vs:Array Value} {L:List Lit} (hf:fldT P t=some ks) (hk:P.keyType t=true) (hl:vs.size=P.cellsOf t) (h:P.keyLits (P.types.size+1) t vs.toList=some L):(keyOf P t (.agg vs)).isSome=true:=by
 unfold fldT at hf
 split at hf
 ·rename_i fs hs
  unfold keyOf
  rw[hs]
  simp only[Value.formed,hs,hk,hl,BEq.rfl,Bool.and_self,if_true,Value.cells,h,Option.map_some,Option.isSome_some]
 ·contradiction
def pv (p:Pt):Value:=.agg #[.bool (Zn p.x),.string (Zm p.x),.bool (Zn p.y),.string (Zm p.y),.bool (Zn p.z),.string (Zm p.z),.bool (Zn p.w),.string (Zm p.w)]
theorem pv_inj {p q:Pt} (h:pv p=pv q):p=q:=by
 unfold pv at h
 injection h with h
 have h:=congrArg Array.toList h
 simp only[List.cons.injEq,Value.bool.injEq,Value.string.injEq,and_true]at h
 obtain ⟨a1,a2,a3,a4,a5,a6,a7,a8⟩:=h
 cases p;cases q
 simp only at *
 rw[eZ_inj a1 a2,eZ_inj a3 a4,eZ_inj a5 a6,eZ_inj a7 a8]
def mPP (m:List (Pt × Pt)):List (Value × Value):=m.map fun e=>(pv e.1,pv e.2)
def mPB (m:List Pt):List (Value × Value):=m.map fun e=>(pv e,.bool true)
def putPP (m:List (Pt × Pt)) (k v:Pt):List (Pt × Pt):=if k∈m.map (·.1)then m.map (fun e=>if e.1=k then (k,v)else e)else m++[(k,v)]
def findPP (m:List (Pt × Pt)) (k:Pt):Option Pt:=(m.find? fun e=>decide (e.1=k)).map (·.2)
theorem mPP_keys (m:List (Pt × Pt)):(mPP m).map (·.1)=(m.map (·.1)).map pv:=by simp[mPP]
theorem pv_mem {l:List Pt} {k:Pt}:pv k∈l.map pv↔k∈l:=by
 constructor
 ·intro h
  obtain ⟨q,hq,e⟩:=List.mem_map.1 h
  rw[← pv_inj e];exact hq
 ·exact List.mem_map_of_mem
theorem mPP_put (m:List (Pt × Pt)) (k v:Pt):mput (mPP m) (pv k) (pv v)=mPP (putPP m k v):=by
 unfold mput putPP
 rw[mPP_keys]
 by_cases h:k∈m.map (·.1)
 ·rw[if_pos (pv_mem.2 h),if_pos h]
  simp only[mPP,List.map_map]
  apply List.map_congr_left
  intro e he
  simp only[Function.comp]
  by_cases hk:e.1=k
  ·rw[if_pos (by rw[hk]),if_pos hk]
  ·rw[if_neg (fun h=>hk (pv_inj h)),if_neg hk]
 ·rw[if_neg (fun h'=>h (pv_mem.1 h')),if_neg h]
  simp[mPP]
theorem mPP_find (m:List (Pt × Pt)) (k:Pt):mfind (mPP m) (pv k)=(findPP m k).map pv:=by
 unfold mfind findPP mPP
 induction m with
 | nil=>rfl
 | cons e m ih =>
  simp only[List.map_cons,List.find?_cons]
  by_cases h:e.1=k
  ·simp[h]
  ·have h':¬ pv e.1=pv k:=fun h'=>h (pv_inj h')
   simp only[h,h',decide_false]
   exact ih
theorem mPB_keys (m:List Pt):(mPB m).map (·.1)=m.map pv:=by simp[mPB]
theorem mPB_put (m:List Pt) (k:Pt) (h:k∉m):mput (mPB m) (pv k) (.bool true)=mPB (m++[k]):=by
 unfold mput
 rw[mPB_keys,if_neg (fun h'=>h (pv_mem.1 h'))]
 simp[mPB]
theorem mPB_find (m:List Pt) (k:Pt):mfind (mPB m) (pv k)=if k∈m then some (.bool true)else none:=by
 unfold mfind mPB
 induction m with
 | nil=>rfl
 | cons e m ih =>
  simp only[List.map_cons,List.find?_cons]
  by_cases h:e=k
  ·simp[h]
  ·have h':¬ pv e=pv k:=fun h'=>h (pv_inj h')
   simp only[h',decide_false,List.mem_cons]
   rw[ih]
   have h2:¬ k=e:=fun h2=>h h2.symm
   simp only[h2,false_or]
end Go.Sx
namespace Go.Sx
set_option linter.unusedVariables false
set_option linter.unusedSimpArgs false
def Mk (n M N:Nat):Nat→Prop:=fun k=>k<n∧k≠N∧k≠M
def inMT (n M N:Nat):List (Nat × AV)→Prop
 | []=>True
 | (_,a)::l=>In (Mk n M N) a∧inMT n M N l
def inMO (n M N:Nat):List (Nat × AV)→Prop
 | []=>True
 | (i,a)::l=>(Mk n M N i∧InC (Mk n M N) a)∧inMO n M N l
theorem inMT_spec {n M N:Nat}:∀ {l:List (Nat × AV)},inMT n M N l→∀ p∈l,In (Mk n M N) p.2:=by
 intro l
 induction l with
 | nil=>intro _ p hp;simp at hp
 | cons q l ih =>
  intro h p hp
  obtain ⟨i,a⟩:=q
  rcases List.mem_cons.1 hp with rfl|hp
  ·exact h.1
  ·exact ih h.2 p hp
theorem inMO_spec {n M N:Nat}:∀ {l:List (Nat × AV)},inMO n M N l→∀ p∈l,Mk n M N p.1∧InC (Mk n M N) p.2:=by
 intro l
 induction l with
 | nil=>intro _ p hp;simp at hp
 | cons q l ih =>
  intro h p hp
  obtain ⟨i,a⟩:=q
  rcases List.mem_cons.1 hp with rfl|hp
  ·exact h.1
  ·exact ih h.2 p hp
theorem Weak.mv {S : AS} (N M d n : Nat) (cs : List AV) {t o : List (Nat × AV)} (hd : look S.t d = .loc N 0) (hN : look S.o N = .blk cs) (hcs : ∀ c ∈ cs, Flat c) (hN8 : 8 ≤ N) (hM8 : 8 ≤ M) (hMn : M < n) (h8 : 8 ≤ n)
  (ht:subL t S.t) (ho:subL o S.o) (it:inMT n M N t) (io:inMO n M N o):Weak S ⟨(d,.loc M 0)::t,(M,.blk cs)::o,n⟩:=by
 intro c nt a w hs
 obtain ⟨g,rfl,hg,htk,hsz,hu,hln,_⟩:=hs
 let g':Gh:={ g with us:=fun l=>(g.us l∧Mk n M N l)∨l=M,blk:=fun l=>if l=M then g.blk N else g.blk l }
 have hK:∀ l,Mk n M N l→g.us l→g'.us l∧g'.blk l=g.blk l∧g'.des l=g.des l∧g'.len l=g.len l:=fun l hl hu=>⟨.inl ⟨hu,hl⟩,if_neg hl.2.2,rfl,rfl⟩
 have hcar:∀ {x:AV} {v:Value},Rel g x v→In (Mk n M N) x→Rel g' x v:=fun h hi=>Rel.carry (g:=g) (g':=g') (K:=Mk n M N) (fun b hb=>⟨hb,rfl⟩) hK h hi
 have hT:=subL_spec ht
 have hO:=subL_spec ho
 have iT:=inMT_spec it
 have iO:=inMO_spec io
 have hlo:∀ q,look o q=.any∨(Mk n M N q∧InC (Mk n M N) (look o q)∧look S.o q=look o q):=fun q=>by
  rcases @look_mem o q with h|h
  ·exact .inl h
  ·exact .inr ⟨(iO _ h).1,(iO _ h).2,hO _ h⟩
 have hokN:=hg.obj N
 have hownN:=hg.own N
 rw[hN]at hokN hownN
 have hbM:g'.blk M=g.blk N:=if_pos rfl
 have hbl:∀ q b,q≠M→blkOf g' q (look o q)=some b→q≠N∧blkOf g q (look S.o q)=some b:=by
  intro q b hq hb
  rcases hlo q with h|⟨k1,k2,k3⟩
  ·rw[h]at hb;simp[blkOf]at hb
  ·rw[k3]
   refine ⟨k1.2.1,?_⟩
   generalize look o q=x at hb ⊢
   have e:g'.blk q=g.blk q:=if_neg hq
   cases x<;>simp only[blkOf]at hb ⊢<;>first|exact hb|(rw[← e];exact hb)
 have hl2:∀ q,look ((M,AV.blk cs)::o) q=if M=q then .blk cs else look o q:=fun q=>rfl
 have hblk2:∀ q b,blkOf g' q (look ((M,AV.blk cs)::o) q)=some b→(q=M∧b=g.blk N)∨(q≠M∧q≠N∧blkOf g q (look S.o q)=some b):=by
  intro q b hb
  rw[hl2]at hb
  by_cases hq:M=q
  ·rw[if_pos hq]at hb
   subst hq
   simp only[blkOf,Option.some.injEq]at hb
   exact .inl ⟨rfl,by rw[← hb];exact hbM⟩
  ·rw[if_neg hq]at hb
   obtain ⟨k1,k2⟩:=hbl q b (fun e=>hq e.symm) hb
   exact .inr ⟨fun e=>hq e.symm,k1,k2⟩
 have hbN:blkOf g N (look S.o N)=some (g.blk N):=by rw[hN];rfl
 refine ⟨g',rfl,⟨hg.os,hg.tape,hg.output,hg.size,hg.old,hg.fzo,hg.fzn,hg.fzx,fun q=>?_,fun q b hb=>?_,fun q q' b hb hb'=>?_⟩,⟨htk.1,fun q=>?_⟩,hsz,fun l hl=>?_,?_,h8⟩
 ·show ObjOk g' q (look ((M,AV.blk cs)::o) q)
  rw[hl2]
  by_cases hq:M=q
  ·rw[if_pos hq]
   subst hq
   obtain ⟨h1,vs,e,h2,h3,h4,h5⟩:=hokN
   exact ⟨.inr rfl,vs,e,by rw[hbM];exact h2,h3,h4,fun i i1 i2=>(h5 i i1 i2).flat (hcs _ (List.getElem_mem i1))⟩
  ·rw[if_neg hq]
   rcases hlo q with h|⟨k1,k2,k3⟩
   ·rw[h];trivial
   ·have:=hg.obj q
    rw[k3]at this
    exact ObjOk.carry (g:=g) (g':=g') (K:=Mk n M N) rfl (fun b hb=>hb) hK k1 k2 this
 ·rcases hblk2 q b hb with ⟨rfl,rfl⟩|⟨_,_,h⟩
  ·exact hg.own N _ hbN
  ·exact hg.own q b h
 ·rcases hblk2 q b hb with ⟨rfl,rfl⟩|⟨k1,k2,k3⟩<;>rcases hblk2 q' _ hb' with ⟨e1,e2⟩|⟨l1,l2,l3⟩
  ·exact e1.symm
  ·exact absurd (hg.dis N q' _ hbN l3).symm l2
  ·subst e2
   exact absurd (hg.dis q N _ k3 hbN) k2
  ·exact hg.dis q q' b k3 l3
 ·show Rel g' (look ((d,AV.loc M 0)::t) q) _
  simp only[look]
  by_cases hq:d=q
  ·rw[if_pos hq]
   subst hq
   have:=htk.2 d
   rw[hd]at this
   generalize a.tmps.getD d undef=v at this
   cases this
   have h2:=Rel.loc (g:=g') M 0 (.inr rfl)
   rwa [hbM]at h2
  ·rw[if_neg hq]
   rcases @look_mem t q with h|h
   ·rw[h];exact .any _
   ·have h1:=hT _ h
    simp only at h1
    have h2:=htk.2 q
    rw[h1]at h2
    exact hcar h2 (iT _ h)
 ·rcases hl with ⟨_,h⟩|rfl
  ·exact h.1
  ·exact hMn
 ·intro l hl
  obtain ⟨h1,h2,h3⟩:=hln l hl
  have e1:l≠M:=by omega
  have e2:l≠N:=by omega
  refine ⟨h1,.inl ⟨h2,by omega,e2,e1⟩,?_⟩
  have:g'.blk l=g.blk l:=if_neg e1
  first|exact h3|(rw[this];exact h3)|simpa [this]using h3
theorem Mk_def (n M N k:Nat):Mk n M N k=(k<n∧k≠N∧k≠M):=rfl
attribute [go_sem] Mk_def inMT inMO
end Go.Sx
namespace Go.Sx
set_option linter.unusedVariables false
set_option linter.unusedSimpArgs false
def P0:Pt:=⟨0,0,0,0⟩
abbrev MS:=List (Pt × Pt) × Pt
def stepE (b:Pl) (s:MS) (e:Pt × Pt):MS:=if sideP b e.1=0∧sideP b e.2=0 then (putPP s.1 e.2 e.1,e.2)else s
def foldE (b:Pl) (s:MS) (es:List (Pt × Pt)):MS:=es.foldl (stepE b) s
def foldS (b:Pl) (l:List (Pl × List Pt)):MS:=l.foldl (fun s x=>foldE b s (Geo.edges x.2)) ([],P0)
def nxP (m:List (Pt × Pt)) (k:Pt):Pt:=(findPP m k).getD P0
def runP' (nx:Pt→Pt):Nat→Pt→List Pt
 | 0,_=>[]
 | n+1,x=>x::runP' nx n (nx x)
def itP (nx:Pt→Pt):Nat→Pt→Pt
 | 0,x=>x
 | n+1,x=>itP nx n (nx x)
theorem itP_succ (nx:Pt→Pt) (n:Nat) (x:Pt):itP nx (n+1) x=nx (itP nx n x):=by
 induction n generalizing x with
 | zero=>rfl
 | succ n ih=>exact ih (nx x)
theorem runP'_succ (nx:Pt→Pt) (n:Nat) (x:Pt):runP' nx (n+1) x=runP' nx n x++[itP nx n x]:=by
 induction n generalizing x with
 | zero=>rfl
 | succ n ih =>
  rw[runP',ih (nx x)]
  rfl
theorem runP'_length (nx:Pt→Pt) (n:Nat) (x:Pt):(runP' nx n x).length=n:=by
 induction n generalizing x with
 | zero=>rfl
 | succ n ih=>simp[runP',ih]
def capP (b:Pl) (l:List (Pl × List Pt)):List Pt:=runP' (nxP (foldS b l).1) (foldS b l).1.length (foldS b l).2
structure MInv (k:Nat) (s:MS):Prop where
 nd:(s.1.map (·.1)).Nodup
 bt:∀ e∈s.1,BPt k e.1∧BPt k e.2
 fb:BPt k s.2
theorem BPt_zero (k:Nat):BPt k P0:=by
 have:(Zm 0).size=0:=nb_zero_size
 exact ⟨⟨by show (Zm 0).size≤k;omega,by show (Zm 0).size≤k;omega,by show (Zm 0).size≤k;omega,by show (Zm 0).size≤k;omega⟩⟩
theorem put_mem {m:List (Pt × Pt)} {k v:Pt} {e:Pt × Pt} (h:e∈putPP m k v):e∈m∨e=(k,v):=by
 unfold putPP at h
 split at h
 ·obtain ⟨q,hq,rfl⟩:=List.mem_map.1 h
  split
  ·exact .inr rfl
  ·exact .inl hq
 ·rcases List.mem_append.1 h with h|h
  ·exact .inl h
  ·exact .inr (by simpa using h)
theorem put_keys (m:List (Pt × Pt)) (k v:Pt):(putPP m k v).map (·.1)=if k∈m.map (·.1)then m.map (·.1)else m.map (·.1)++[k]:=by
 unfold putPP
 split
 ·rw[List.map_map]
  apply List.map_congr_left
  intro e _
  simp only[Function.comp]
  split
  ·rename_i h;exact h.symm
  ·rfl
 ·simp
theorem put_nodup {m:List (Pt × Pt)} {k v:Pt} (h:(m.map (·.1)).Nodup):((putPP m k v).map (·.1)).Nodup:=by
 rw[put_keys]
 split
 ·exact h
 ·rename_i hk
  rw[List.nodup_append]
  refine ⟨h,by simp,fun a ha c hc=>?_⟩
  simp at hc
  subst hc
  exact fun e=>hk (e▸ha)
theorem MInv.step {k:Nat} {b:Pl} {s:MS} {e:Pt × Pt} (h:MInv k s) (he:BPt k e.1∧BPt k e.2):MInv k (stepE b s e):=by
 unfold stepE
 split
 ·exact ⟨put_nodup h.nd,fun q hq=>(put_mem hq).elim (h.bt q) (fun e=>by rw[e];exact ⟨he.2,he.1⟩),he.2⟩
 ·exact h
theorem fold_snoc (b:Pl) (s:MS) (es:List (Pt × Pt)) (e:Pt × Pt):foldE b s (es++[e])=stepE b (foldE b s es) e:=by
 unfold foldE;rw[List.foldl_append];rfl
theorem find_bt {k:Nat} {m:List (Pt × Pt)} {x:Pt} (h:∀ e∈m,BPt k e.1∧BPt k e.2):BPt k (nxP m x):=by
 unfold nxP findPP
 cases hq:m.find? fun e=>decide (e.1=x)with
 | none=>exact BPt_zero k
 | some e=>exact (h e (List.mem_of_find?_eq_some hq)).2
theorem it_bt {k:Nat} {m:List (Pt × Pt)} {x:Pt} (h:∀ e∈m,BPt k e.1∧BPt k e.2) (hx:BPt k x) (n:Nat):BPt k (itP (nxP m) n x):=by
 cases n with
 | zero=>exact hx
 | succ n=>rw[itP_succ];exact find_bt h
theorem mPP_length (m:List (Pt × Pt)):(mPP m).length=m.length:=List.length_map _
theorem Zn_zero:Zn 0=false:=Zn_false (Int.le_refl 0)
end Go.Sx
