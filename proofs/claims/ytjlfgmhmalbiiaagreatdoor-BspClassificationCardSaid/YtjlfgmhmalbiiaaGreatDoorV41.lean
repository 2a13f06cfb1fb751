import Derived.Deep.Slices
import Derived.OpenShut
import Derived.ReadAgain
import Derived.Deep.DeepHandedRow
import Derived.Test.YtjlfgmhmalbiiaaGreatDoorRows
import Derived.JoinedOf
import Derived.Test.YtjlfgmhmalbiiaaGreatDoorV40
set_option linter.all false
set_option maxHeartbeats 40000000
namespace Go.Proofs.Vx
open Go Go.Sx Go.Proofs Tryz
attribute [local irreducible] fnT CallOK CallFr AW aO callV aP aN aM aQ gcaseP hid
theorem c39x (k0:Int) (N:List RN) (hn:N.length≤14) (hs:nQ N) (hb:¬ (b7 (c6 N) [k0] []∧i4 N)):CallOK prog 39 [.agg (dH k0 N)] [] (.lit (.int .i64 3)) [] :=
 c39a k0 N (c104 k0 N hn hs false ⟨fun h=>(Bool.false_ne_true h).elim,fun h=>absurd h hb⟩)
theorem c39t {N:List TN} {k:Int} {T:BT} (h:TrB N k T):CallOK prog 39 [.agg (eTr k N)] [] (.lit (.int .i64 (if T.chk aX=true then 0 else 1))) [] :=
 c39b k N T h (by
  have:CallOK prog 104 [.agg [.lit (.int .i64 k),.sl (eRT (iF N))]] [] (.lit (.bool true)) []:=c104 k (iF N) (by unfold iF;rw[List.length_map];exact h.n) h.small true h.raw
  rw[a6y]at this
  exact this)
theorem b6a {k:Int} {N:List RN} (hn:N.length≤14) (hs:nQ N) (hb:b7 (c6 N) [k] []∧i4 N):∃ T,TrB (c6 N) k T∧eRT N=eTS (c6 N):=by
 obtain⟨T,h1,h2⟩:=a1o.1 hb.1
 refine⟨T,⟨⟨h1,h2⟩,fun n hn=>?_,by rw[rZ];exact hn,fun n hn=>?_⟩,?_⟩
 ·obtain⟨m,hm,rfl⟩:=List.mem_map.1 hn
  exact c5d (hb.2 m hm).1
 ·obtain⟨m,hm,rfl⟩:=List.mem_map.1 hn
  exact c1h (hs m hm) (hb.2 m hm).1
 ·unfold eRT c6 eTS
  rw[List.map_map]
  refine List.map_congr_left fun n hn=>?_
  have:=(hb.2 n hn).2
  show eRP n.1++[AV.lit (.int .i64 n.2.1),AV.lit (.int .i64 n.2.2)]=eH (eX n.1)++[AV.lit (.int .i64 n.2.1),AV.lit (.int .i64 n.2.2)]
  rw[this]
theorem a3d {N:List RN} (h:vM N):nQ N:=fun n hn=>by
 obtain⟨h1,h2,h3,h4⟩:=a4h (h.2 n hn)
 exact⟨by omega,by omega,by omega,by omega⟩
abbrev upP:Pl:=⟨0,0,1,0⟩
theorem c0e:CanH upP:=⟨by decide +kernel,by decide⟩
theorem tC {x y z:Int} (hx:-1000≤x∧x≤1000) (hy:-1000≤y∧y≤1000) (hz:-1000≤z∧z≤1000):BPt 268435456 ⟨x,y,z,1⟩:=by
 have key:∀ a:Int,-1000≤a∧a≤1000→(Zm a).size≤268435456:=fun a ha=>by
  refine (cI _ _).2 ?_
  have:a.natAbs<65536:=by omega
  exact Nat.lt_of_lt_of_le this (Nat.pow_le_pow_right (n:=256) (by decide) (show 2≤268435456 by decide))
 exact⟨⟨key _ hx,key _ hy,key _ hz,key 1 (by decide)⟩⟩
theorem c2a:TrB [] (-1) (.lf true):=⟨⟨rfl,.refl _⟩,by simp,by decide,by simp⟩
set_option maxRecDepth 20000 in
theorem c36  : CallOK prog 36 [] [] (.lit (.bool true)) []:=by
 refine zs func36 44 [.tmp 0] results36 ?_
 simp only[aD,Nat.reduceAdd]
 have hml:maxLen=9223372036854775807:=rfl
 have hT:TrB (iA upP) (iB upP) (fG upP):=b7w c0e ⟨⟨by rw[eD];decide,by rw[eD];decide,(cI _ _).2 (by decide),by rw[eD];decide⟩⟩
 have h46:CallOK prog 46 [.agg [.lit (.bool false),.lit (.string ⟨#[]⟩),.lit (.bool false),.lit (.string ⟨#[]⟩),.lit (.bool (Zn 1)),.lit (.string (Zm 1)),.lit (.bool false),.lit (.string ⟨#[]⟩)]] [] (.agg (eTr (iB upP) (iA upP))) []:=by
  have:=c46 upP ⟨⟨by rw[eD];decide,by rw[eD];decide,Nat.le_trans ((cI _ _).2 (show (1:Int).natAbs<256 ^ 1 by decide)) (by decide),by rw[eD];decide⟩⟩
  simp only[eH,e4,upP,kQ,eD]at this
  exact this
 have p1:=c99 0 0 (-1) (by decide) (by decide) (by decide)
 have p2:=c99 0 0 0 (by decide) (by decide) (by decide)
 have p3:=c99 0 0 1 (by decide) (by decide) (by decide)
 have p4:=c99 0 0 (-1000) (by decide) (by decide) (by decide)
 have q1:=c42 (iB upP) (iA upP) (fG upP) hT ⟨0,0,-1,1⟩ (tC (by decide) (by decide) (by decide))
 rw[show jH (fG upP) ⟨0,0,-1,1⟩=1 from by decide +kernel]at q1
 have q2:=c42 (iB upP) (iA upP) (fG upP) hT ⟨0,0,0,1⟩ (tC (by decide) (by decide) (by decide))
 rw[show jH (fG upP) ⟨0,0,0,1⟩=0 from by decide +kernel]at q2
 have q3:=c42 (iB upP) (iA upP) (fG upP) hT ⟨0,0,1,1⟩ (tC (by decide) (by decide) (by decide))
 rw[show jH (fG upP) ⟨0,0,1,1⟩=-1 from by decide +kernel]at q3
 have q4:=c42 (iB upP) (iA upP) (fG upP) hT ⟨0,0,-1000,1⟩ (tC (by decide) (by decide) (by decide))
 rw[show jH (fG upP) ⟨0,0,-1000,1⟩=0 from by decide +kernel]at q4
 have q5:=c42 (-1) [] (.lf true) c2a ⟨0,0,1,1⟩ (tC (by decide) (by decide) (by decide))
 rw[show jH (.lf true) ⟨0,0,1,1⟩=1 from by decide +kernel]at q5
 have h38:=c38b (iB upP) (iA upP) (fG upP) hT
 rw[if_pos (b3u upP)]at h38
 have h52:=c52 (iB upP) (iA upP) (fG upP) hT
 have hcl:(cL ((fG upP).cells aX)).length=1:=by
  rw[zN,BT.cells_len];decide +kernel
 clear hT
 generalize (fG upP).cells aX=L at *
 generalize fG upP=T at *
 generalize iB upP=K at *
 generalize iA upP=NN at *
 repeat'(first|refine zg ?_|(refine zc ?_ ?_<;>intro hc<;>first|simp only[NM]at hc|omega|skip)|refine zr ?_|(refine zf tL ?_)|(refine zp h46 (by simp -dsimp (disch:=try exact zo)only[go_sem]) (jF _ _) ?_)|(first|refine zf p1 ?_|refine zf p2 ?_|refine zf p3 ?_|refine zf p4 ?_)|(first|refine zp q1 (by simp -dsimp (disch:=try exact zo)only[go_sem,aL]) (.lit _) ?_|refine zp q2 (by simp -dsimp (disch:=try exact zo)only[go_sem,aL]) (.lit _) ?_|refine zp q3 (by simp -dsimp (disch:=try exact zo)only[go_sem,aL]) (.lit _) ?_|refine zp q4 (by simp -dsimp (disch:=try exact zo)only[go_sem,aL]) (.lit _) ?_|refine zp q5 (by simp -dsimp (disch:=try exact zo)only[go_sem,aL]) (.lit _) ?_)|(refine zp h38 (by simp -dsimp (disch:=try exact zo)only[go_sem,aL]) (.lit _) ?_)|(refine zp c49 (by simp) (jF _ _) ?_)|(refine zp h52 (by simp -dsimp (disch:=try exact zo)only[go_sem,aL]) (inCs _) ?_)|refine⟨by omega,?_⟩|(refine zb ?_ ?_<;>intro hg<;>(try rw[hg])<;>try simp only[NM]at hg)|omega|simp -dsimp (disch:=try exact zo)only[go_sem,aL,aG,fX,hcl]|contradiction|rfl)
set_option maxRecDepth 20000 in
theorem c6a (k:Int) (N:List RN) (h:¬ vM N):CallOK prog 40 [.agg (dH k N)] [] (.lit (.bool false)) []:=by
 refine zs func40 11 [.tmp 2] results40 ?_
 simp only[aD,Nat.reduceAdd]
 have cg:CallOK prog 37 [.agg (dH k N)] [] (.lit (.int .i64 1)) []:=by
  by_cases hn:N.length≤14
  ·have:=c37 k N hn false ⟨fun h=>(Bool.false_ne_true h).elim,fun hb=>absurd ⟨hn,hb⟩ h⟩
   rw[if_neg (by decide)]at this
   exact this
  ·exact c6b k N (by omega)
 have cc:True:=trivial
 clear h
 repeat'(first|refine zg ?_|(refine zc ?_ ?_<;>intro hc<;>first|simp only[NM]at hc|omega|skip)|refine zr ?_|(refine zp cg (by simp -dsimp (disch:=try exact zo)only[go_sem,aV,aL]) (.lit _) ?_)|(refine zp cc (by simp -dsimp (disch:=try exact zo)only[go_sem,aV,aL]) (.lit _) ?_)|refine⟨by omega,?_⟩|(refine zb ?_ ?_<;>intro hg<;>(try rw[hg])<;>try simp only[NM]at hg)|omega|simp -dsimp (disch:=try exact zo)only[go_sem,aV,aL]|contradiction|rfl)
theorem b8z (k:Int) (N:List RN) (h:vM N):CallOK prog 37 [.agg (dH k N)] [] (.lit (.int .i64 0)) []:=by
 have:=c37 k N h.1 true ⟨fun _=>h.2,fun _=>rfl⟩
 rw[if_pos rfl]at this
 exact this
set_option maxRecDepth 20000 in
theorem c40s (es:List (List AV)) (k v:Int) (b:Bool) (he:∀ e∈es,∀ c∈e,In (fun _=>False) c) (hb:(v=0)=(b=true)) (cg:CallOK prog 37 [.agg [.lit (.int .i64 k),.sl es]] [] (.lit (.int .i64 0)) []) (cc:CallOK prog 39 [.agg [.lit (.int .i64 k),.sl es]] [] (.lit (.int .i64 v)) []):CallOK prog 40 [.agg [.lit (.int .i64 k),.sl es]] [] (.lit (.bool b)) []:=by
 refine zs func40 11 [.tmp 2] results40 ?_
 simp only[aD,Nat.reduceAdd]
 replace he:=eq_true he
 cases b
 ·have hb:(v=0)=False:=by rw[hb];simp
  repeat'(first|refine zg ?_|(refine zc ?_ ?_<;>intro hc<;>first|simp only[NM]at hc|omega|skip)|refine zr ?_|(refine zp cg (by simp -dsimp (disch:=try exact zo)only[go_sem,he]) (.lit _) ?_)|(refine zp cc (by simp -dsimp (disch:=try exact zo)only[go_sem,he]) (.lit _) ?_)|refine⟨by omega,?_⟩|(refine zb ?_ ?_<;>intro hg<;>(try rw[hg])<;>try simp only[NM]at hg)|omega|simp -dsimp (disch:=try exact zo)only[go_sem,he,hb]|contradiction|rfl)
 ·have hb:(v=0)=True:=by rw[hb];simp
  repeat'(first|refine zg ?_|(refine zc ?_ ?_<;>intro hc<;>first|simp only[NM]at hc|omega|skip)|refine zr ?_|(refine zp cg (by simp -dsimp (disch:=try exact zo)only[go_sem,he]) (.lit _) ?_)|(refine zp cc (by simp -dsimp (disch:=try exact zo)only[go_sem,he]) (.lit _) ?_)|refine⟨by omega,?_⟩|(refine zb ?_ ?_<;>intro hg<;>(try rw[hg])<;>try simp only[NM]at hg)|omega|simp -dsimp (disch:=try exact zo)only[go_sem,he,hb]|contradiction|rfl)
theorem b1n (k:Int) (N:List RN):CallOK prog 40 [.agg (dH k N)] [] (.lit (.bool false)) []∨∃ N' T,TrB N' k T∧T.chk aX=true∧eRT N=eTS N'∧CallOK prog 40 [.agg (eTr k N')] [] (.lit (.bool true)) []:=by
 by_cases hs:vM N
 ·have cg:=b8z k N hs
  by_cases hb:b7 (c6 N) [k] []∧i4 N
  ·obtain⟨T,h1,h2⟩:=b6a hs.1 (a3d hs) hb
   have cc:=c39t h1
   rw[show dH k N=eTr k (c6 N) by rw[dH,h2]]at cg
   have:=c40s (eTS (c6 N)) k _ (T.chk aX) (of_eq_true (aL _)) (by cases T.chk aX<;>simp) cg cc
   cases hc:T.chk aX
   ·rw[hc]at this
    left
    rw[show dH k N=eTr k (c6 N) by rw[dH,h2]]
    exact this
   ·rw[hc]at this
    exact .inr ⟨c6 N,T,h1,hc,h2,this⟩
  ·exact .inl (c40s (eRT N) k 3 false (of_eq_true (aV _)) (by simp) cg (c39x k N hs.1 (a3d hs) hb))
 ·exact .inl (c6a k N hs)
set_option maxRecDepth 20000 in
theorem c7s (es:List (List AV)) (k v:Int) (he:∀ e∈es,∀ c∈e,In (fun _=>False) c) (cg:CallOK prog 37 [.agg [.lit (.int .i64 k),.sl es]] [] (.lit (.int .i64 0)) []) (c3:CallOK prog 38 [.agg [.lit (.int .i64 k),.sl es]] [] (.lit (.int .i64 v)) []) (cc:CallOK prog 39 [.agg [.lit (.int .i64 k),.sl es]] [] (.lit (.int .i64 v)) []):CallOK prog 7 [.agg [.lit (.int .i64 k),.sl es]] [] (.lit (.bool true)) []:=by
 refine zs func7 15 [.tmp 2] results7 ?_
 simp only[aD,Nat.reduceAdd]
 replace he:=eq_true he
 repeat'(first|refine zg ?_|(refine zc ?_ ?_<;>intro hc<;>first|simp only[NM]at hc|omega|skip)|refine zr ?_|(refine zf c36 ?_)|(refine zp cg (by simp -dsimp (disch:=try exact zo)only[go_sem,he]) (.lit _) ?_)|(refine zp c3 (by simp -dsimp (disch:=try exact zo)only[go_sem,he]) (.lit _) ?_)|(refine zp cc (by simp -dsimp (disch:=try exact zo)only[go_sem,he]) (.lit _) ?_)|refine⟨by omega,?_⟩|(refine zb ?_ ?_<;>intro hg<;>(try rw[hg])<;>try simp only[NM]at hg)|omega|simp -dsimp (disch:=try exact zo)only[go_sem,he]|contradiction|rfl)
set_option maxRecDepth 20000 in
theorem c8bad (k:Int) (N:List RN) (x:RP) (cf:CallOK prog 40 [.agg (dH k N)] [] (.lit (.bool false)) []):CallOK prog 8 [.agg (dH k N),.agg (eRP x)] [] (.lit (.bool true)) []:=by
 refine zs func8 24 [.tmp 4] results8 ?_
 simp only[aD,Nat.reduceAdd]
 repeat'(first|refine zg ?_|(refine zc ?_ ?_<;>intro hc<;>first|simp only[NM]at hc|omega|skip)|refine zr ?_|(refine zf c36 ?_)|(refine zp cf (by simp -dsimp (disch:=try exact zo)only[go_sem,aV,aL]) (.lit _) ?_)|refine⟨by omega,?_⟩|(refine zb ?_ ?_<;>intro hg<;>(try rw[hg])<;>try simp only[NM]at hg)|omega|simp -dsimp (disch:=try exact zo)only[go_sem,aV]|contradiction|rfl)
set_option maxRecDepth 20000 in
theorem c8big (k:Int) (N:List TN) (x:RP) (cf:CallOK prog 40 [.agg (eTr k N)] [] (.lit (.bool true)) []) (hx:gN x=true):CallOK prog 8 [.agg (eTr k N),.agg (eRP x)] [] (.lit (.bool true)) []:=by
 refine zs func8 24 [.tmp 4] results8 ?_
 simp only[aD,Nat.reduceAdd]
 have cg:=c41 x
 rw[if_pos hx]at cg
 clear hx
 simp only[eRP]at cg
 repeat'(first|refine zg ?_|(refine zc ?_ ?_<;>intro hc<;>first|simp only[NM]at hc|omega|skip)|refine zr ?_|(refine zf c36 ?_)|(refine zp cf (by simp -dsimp (disch:=try exact zo)only[go_sem,aV,aL]) (.lit _) ?_)|(refine zf cg ?_)|refine⟨by omega,?_⟩|(refine zb ?_ ?_<;>intro hg<;>(try rw[hg])<;>try simp only[NM]at hg)|omega|simp -dsimp (disch:=try exact zo)only[go_sem,aL]|contradiction|rfl)
set_option maxRecDepth 20000 in
theorem c8ok (k:Int) (N:List TN) (T:BT) (h:TrB N k T) (x:RP) (cf:CallOK prog 40 [.agg (eTr k N)] [] (.lit (.bool true)) []) (hx:¬ gN x=true):CallOK prog 8 [.agg (eTr k N),.agg (eRP x)] [] (.lit (.bool true)) []:=by
 refine zs func8 24 [.tmp 4] results8 ?_
 simp only[aD,Nat.reduceAdd]
 have cg:=c41 x
 rw[if_neg hx]at cg
 have cx:=c29x x hx
 have hb:=(c4w hx).mono (l:=268435456) (by decide)
 have c1:=c42 k N T h (ptR x) hb
 have c2:=c43 k N T h (ptR x) hb
 clear h hb hx
 generalize jH T (ptR x)=v at *
 generalize ptR x=p at *
 simp only[eRP]at cg
 simp only[eP,e4]at cx c1 c2
 repeat'(first|refine zg ?_|(refine zc ?_ ?_<;>intro hc<;>first|simp only[NM]at hc|omega|skip)|refine zr ?_|(refine zf c36 ?_)|(refine zp cf (by simp -dsimp (disch:=try exact zo)only[go_sem,aV,aL]) (.lit _) ?_)|(refine zf cg ?_)|(refine zf cx ?_)|(refine zp c1 (by simp -dsimp (disch:=try exact zo)only[go_sem,aV,aL]) (.lit _) ?_)|(refine zp c2 (by simp -dsimp (disch:=try exact zo)only[go_sem,aV,aL]) (.lit _) ?_)|refine⟨by omega,?_⟩|(refine zb ?_ ?_<;>intro hg<;>(try rw[hg])<;>try simp only[NM]at hg)|omega|simp -dsimp (disch:=try exact zo)only[go_sem,aL,aC]|contradiction|rfl)
theorem call8 (k:Int) (N:List RN) (x:RP):CallOK prog 8 [.agg (dH k N),.agg (eRP x)] [] (.lit (.bool true)) []:=by
 rcases b1n k N with cf|⟨N',T,h,_,he,cf⟩
 ·exact c8bad k N x cf
 ·rw[show dH k N=eTr k N' by rw[dH,he]]
  by_cases hx:gN x=true
  ·exact c8big k N' x cf hx
  ·exact c8ok k N' T h x cf hx
end Go.Proofs.Vx
namespace Go.Proofs.Vx
open Go Go.Sx Go.Proofs Go.ChangeShapes Go.WideShapes Go.Deep
theorem st_u4:Tryz.prog.underlying 4=some .bool:=by kernel_rfl
theorem st_u9:Tryz.prog.underlying 9=some .string:=by kernel_rfl
theorem c3w:Tryz.prog.underlying 22=some (.slice 26):=by kernel_rfl
theorem c3v:Tryz.prog.underlying 27=some (.array 1 26):=by kernel_rfl
theorem c4g:Tryz.prog.cellsOf 26=8:=by kernel_rfl
theorem c4f:Tryz.prog.cellsOf 27=8:=by kernel_rfl
theorem c4b:iX Tryz.prog 26=some [(24,0),(24,2),(24,4),(24,6)]:=by kernel_rfl
theorem sY {P:Program} {t:TypeId} {ks:List (TypeId × Nat)} (h:iX P t=some ks):∃ fs,P.underlying t=some (.struct fs)∧fs.toList.map (fun f=>(f.type,f.offset))=ks:=by
 unfold iX at h
 split at h
 ·rename_i fs hs
  split at h
  ·exact⟨fs,hs,Option.some.inj h⟩
  ·contradiction
 ·contradiction
theorem a8i {l:List Field} {a b c d:Nat} (h:l.map (fun f=>(f.type,f.offset))=[(a,b),(c,d)]):∃ f0 f1,l=[f0,f1]∧f0.type=a∧f0.offset=b∧f1.type=c∧f1.offset=d:=by
 rcases l with _|⟨f0,_|⟨f1,_|⟨f2,l⟩⟩⟩<;>simp at h
 exact⟨f0,f1,rfl,h.1.1,h.1.2,h.2.1,h.2.2⟩
theorem a8h {l:List Field} {a b c d a' b' c' d':Nat} (h:l.map (fun f=>(f.type,f.offset))=[(a,b),(c,d),(a',b'),(c',d')]):∃ f0 f1 f2 f3,l=[f0,f1,f2,f3]∧(f0.type=a∧f0.offset=b)∧(f1.type=c∧f1.offset=d)∧(f2.type=a'∧f2.offset=b')∧(f3.type=c'∧f3.offset=d'):=by
 rcases l with _|⟨f0,_|⟨f1,_|⟨f2,_|⟨f3,_|⟨f4,l⟩⟩⟩⟩⟩<;>simp at h
 exact⟨f0,f1,f2,f3,rfl,h.1,h.2.1,h.2.2.1,h.2.2.2⟩
structure TyOk (P:Program):Prop where
 u4:P.underlying 4=some .bool
 u9:P.underlying 9=some .string
 u22:P.underlying 22=some (.slice 26)
 u27:P.underlying 27=some (.array 1 26)
 n4:P.cellsOf 4=1
 n9:P.cellsOf 9=1
 n24:P.cellsOf 24=2
 n26:P.cellsOf 26=8
 n27:P.cellsOf 27=8
 s24:∃ f0 f1:Field,P.underlying 24=some (.struct #[f0,f1])∧f0.type=4∧f0.offset=0∧f1.type=9∧f1.offset=1
 s26:∃ f0 f1 f2 f3:Field,P.underlying 26=some (.struct #[f0,f1,f2,f3])∧(f0.type=24∧f0.offset=0)∧(f1.type=24∧f1.offset=2)∧(f2.type=24∧f2.offset=4)∧(f3.type=24∧f3.offset=6)
theorem tyOk:TyOk Tryz.prog:=by
 refine⟨st_u4,st_u9,c3w,c3v,a7s,a7r,y7,c4g,c4f,?_,?_⟩
 ·obtain⟨fs,hu,hk⟩:=sY a6i
  obtain⟨f0,f1,hf,r⟩:=a8i hk
  exact⟨f0,f1,by rw[hu,← Array.toArray_toList (xs:=fs),hf],r⟩
 ·obtain⟨fs,hu,hk⟩:=sY c4b
  obtain⟨f0,f1,f2,f3,hf,r⟩:=a8h hk
  exact⟨f0,f1,f2,f3,by rw[hu,← Array.toArray_toList (xs:=fs),hf],r⟩
section
variable {P:Program} {H:Type} {enc:TypeId × Value→H} {w:World} {base:Nat} {spare:Nat→Bool} {held:Bool}
def dI (b:Bool) (s:ByteArray):DataW H:=.agg [.lit (.bool b),.lit (.string s.data.toList)]
def dR (r:RP):DataW H:=.agg [dI r.n1 r.m1,dI r.n2 r.m2,dI r.n3 r.m3,dI r.n4 r.m4]
def cR (r:RP):List Value:=[.bool r.n1,.string r.m1,.bool r.n2,.string r.m2,.bool r.n3,.string r.m3,.bool r.n4,.string r.m4]
def wfR (r:RP):Prop:=r.m1.size≤maxLen∧r.m2.size≤maxLen∧r.m3.size≤maxLen∧r.m4.size≤maxLen
theorem vP (T:TyOk P) {fuel:Nat} {cs:List Value} {x:DataW H × List MemPlace} (h:DataW.trod enc P w base spare held fuel 24 cs=some x):∃ b s,cs=[.bool b,.string s]∧x=(dI b s,[])∧s.size≤maxLen:=by
 obtain⟨f0,f1,hu,t0,o0,t1,o1⟩:=T.s24
 obtain⟨xs,n,_,hx,hl,hxl,hf⟩:=DataW.trod_struct hu h
 rw[T.n24]at hl
 match xs,hxl,cs,hl with
 | [y0,y1],_,[v0,v1],_ =>
  have g0:=hf 0 f0 rfl
  have g1:=hf 1 f1 rfl
  simp[t0,o0,t1,o1,T.n4,T.n9]at g0 g1
  obtain⟨b,e0,e1⟩:=DataW.trod_bool T.u4 g0
  obtain⟨s,e2,e3,e4⟩:=DataW.trod_string T.u9 g1
  simp only[List.cons.injEq,and_true]at e0 e2
  subst e0 e2 e1 e3
  exact⟨b,s,rfl,by rw[hx];rfl,e4⟩
def S4 (P:Program) (t:TypeId):Prop:=∃ f0 f1 f2 f3:Field,P.underlying t=some (.struct #[f0,f1,f2,f3])∧(f0.type=24∧f0.offset=0)∧(f1.type=24∧f1.offset=2)∧(f2.type=24∧f2.offset=4)∧(f3.type=24∧f3.offset=6)
theorem a8e (T:TyOk P) {t:TypeId} (st:S4 P t) (ct:P.cellsOf t=8) {fuel:Nat} {cs:List Value} {x:DataW H × List MemPlace} (h:DataW.trod enc P w base spare held fuel t cs=some x):∃ r,wfR r∧cs=cR r∧x=(dR r,[]):=by
 obtain⟨f0,f1,f2,f3,hu,⟨t0,o0⟩,⟨t1,o1⟩,⟨t2,o2⟩,⟨t3,o3⟩⟩:=st
 obtain⟨xs,n,_,hx,hl,hxl,hf⟩:=DataW.trod_struct hu h
 rw[ct]at hl
 match xs,hxl,cs,hl with
 | [y0,y1,y2,y3],_,[v0,v1,v2,v3,v4,v5,v6,v7],_ =>
  have g0:=hf 0 f0 rfl
  have g1:=hf 1 f1 rfl
  have g2:=hf 2 f2 rfl
  have g3:=hf 3 f3 rfl
  simp[t0,o0,t1,o1,t2,o2,t3,o3,T.n24]at g0 g1 g2 g3
  obtain⟨b0,s0,a0,c0,d0⟩:=vP T g0
  obtain⟨b1,s1,a1,c1,d1⟩:=vP T g1
  obtain⟨b2,s2,a2,c2,d2⟩:=vP T g2
  obtain⟨b3,s3,a3,c3,d3⟩:=vP T g3
  simp only[List.cons.injEq,and_true]at a0 a1 a2 a3
  obtain⟨rfl,rfl⟩:=a0
  obtain⟨rfl,rfl⟩:=a1
  obtain⟨rfl,rfl⟩:=a2
  obtain⟨rfl,rfl⟩:=a3
  subst c0 c1 c2 c3
  exact⟨⟨b0,s0,b1,s1,b2,s2,b3,s3⟩,⟨d0,d1,d2,d3⟩,rfl,by rw[hx];rfl⟩
theorem a7m (r:RP) (j:Nat) (h:j<8):(eRP r)[j]'h=.lit ((cR r)[j]'h):=by
 match j,h with
 | 0,_=>rfl
 | 1,_=>rfl
 | 2,_=>rfl
 | 3,_=>rfl
 | 4,_=>rfl
 | 5,_=>rfl
 | 6,_=>rfl
 | 7,_=>rfl
theorem a7l (r:RP) (j:Nat) (h:j<8):((cR r)[j]'h).oneCell'=true:=by
 match j,h with
 | 0,_=>rfl
 | 1,_=>rfl
 | 2,_=>rfl
 | 3,_=>rfl
 | 4,_=>rfl
 | 5,_=>rfl
 | 6,_=>rfl
 | 7,_=>rfl
end
def g00 (W:World):Gh:=⟨W,fun b=>b<W.heap.size,fun _=>False,fun _=>0,fun _=>⟨none,0,0,0⟩,fun _=>0⟩
theorem c5r (W:World):GOk (bK Tryz.prog (g00 W) (upd aI [])) (g00 W) (upd aI []):=⟨rfl,Tp.rfl,rfl,Nat.le_refl _,fun _ _ _=>rfl,fun b hb=>hb,fun b hb=>.inl hb,fun b hb=>hb,fun l=>trivial,fun l b hb=>by simp[upd,aI,aE]at hb,fun l l' b hb=>by simp[upd,aI,aE]at hb⟩
theorem b1q {f : Nat} {args : List AV} {vals : List Value} {W : World} (h : CallOK Tryz.prog f args [] (.lit (.bool true)) []) (hr : RelL (g00 W) args vals) :
  Calls Tryz.prog f vals.toArray W fun e w'=>e=.returned (.bool true)∧w'.os=W.os∧w'.output=W.output∧W.heap.size≤w'.heap.size∧∀ b,b<W.heap.size→w'.heap[b]?=W.heap[b]?:=by
 refine (h (g00 W) vals (fun l=>by simp[g00]) (c5r W) hr).mono ?_
 rintro e w' ⟨v,g',rfl,rfl,_,_,hg,hv⟩
 cases hv
 exact⟨rfl,hg.os,hg.output,hg.size,fun b hb=>hg.old b hb (by rintro⟨l,hl⟩;simp[upd,aI,aE]at hl)⟩
end Go.Proofs.Vx
namespace Go.Proofs.Vx
open Go Go.Sx Go.Proofs Go.ChangeShapes Go.WideShapes Go.Deep
section
variable {P:Program} {H:Type} {enc:TypeId × Value→H}
theorem rel27 (g:Gh) (r:RP):Rel g (.agg (eRP r)) (.agg (cR r).toArray):=by
 refine .agg _ _ rfl (fun i h2=>?_) fun i h1 h2=>?_
 ·have:i<8:=h2
  exact a7l r i this
 ·have:i<8:=h1
  rw[a7m r i this]
  exact .lit _
theorem b1c {f : Func} {s : ChangeSpec} {apart fresh handsOn again : Bool} {W W' : World} {args : Array Value} {v : Value} {ds : List (DataW H)} {before : List MemPlace}
  (hvs:s.vars=[]) (hW:DataW.Whole enc P f.params.toList s.vars apart W args.toList ds [] before) (hos:W'.os=W.os) (hou:W'.output=W.output) (hold:∀ b,b<W.heap.size→W'.heap[b]?=W.heap[b]?)
  (hres:∀ (b:Nat) (sp:Nat→Bool) (hd:Bool),DataW.TrodAll enc P W' b sp hd f.resultTypes.toList (v.resultList f.resultTypes.size) (s.fn H ds).results [])
  (hargs:∀ sp:Nat→Bool,(∀ b,b<W.heap.size→sp b=true)→DataW.TrodAll enc P W' 0 sp true f.params.toList args.toList (s.fn H ds).args before) (hv0:(s.fn H ds).vars=[])
  (hok:∀ (j:Nat) (t:TypeId) (r:Value),f.resultTypes[j]?=some t→(v.resultList f.resultTypes.size)[j]?=some r→Value.okWide P W' .any 0 t r) :
  s.post enc P f apart fresh handsOn again W args v W':=by
 have hkept:W.keptBut W' (·∈before):=by
  refine⟨hos,hou,fun i hi=>?_⟩
  rw[hold i hi]
  split
  ·rename_i h1 h2
   rw[h1]at h2
   simp only[Option.some.injEq,Obj.cells.injEq]at h2
   obtain⟨rfl,rfl,rfl⟩:=h2
   exact⟨rfl,rfl,rfl,fun _ _=>rfl⟩
  ·rename_i h1 h2
   rw[h1]at h2
   simp only[Option.some.injEq,Obj.map.injEq]at h2
   obtain⟨rfl,rfl⟩:=h2
   exact .inr ⟨rfl,rfl⟩
  ·rfl
 have hvars:∀ sp:Nat→Bool,DataW.TrodVars enc P W' sp s.vars (s.fn H (ds++[])).vars []:=fun sp=>by rw[List.append_nil,hv0,hvs];rfl
 have hres':=hres
 have hargs':=hargs
 rw[← List.append_nil ds]at hres' hargs'
 refine⟨ds,[],before,[],before,[],hW,hres' _ _ _,hargs' _ (fun b hb=>by simpa using hb),hvars _,World.keptBut_mono (fun p hp=>⟨hp,Or.inr (Or.inl hp)⟩) hkept,fun _=>?_⟩
 obtain⟨_,_,_,_,_,hz,hn⟩:=id hW
 refine⟨hok,_,_,([]++before)++[],⟨[]++before,[],trodAll_append (hargs' _ (fun _ _=>rfl)) (hres' _ _ _),hvars _,rfl,?_,?_⟩,?_⟩
 ·intro b off hp
  have hp':MemPlace.cell b off∈before:=by simpa using hp
  have hb:b<W.heap.size:=hW.lt _ hp'
  have:=hz b off hp'
  unfold World.frozen? at this ⊢
  rw[hold b hb]
  exact this
 ·intro ha
  simpa using hn ha
 ·intro p hp _
  simpa using hp
end
end Go.Proofs.Vx
namespace Go.Proofs.Vx
open Go Go.Sx Go.Proofs Go.ChangeShapes Go.WideShapes Go.Deep
section
variable {P:Program} {H:Type} {enc:TypeId × Value→H}
theorem c4a:iX Tryz.prog 51=some [(24,0),(24,2),(24,4),(24,6)]:=by kernel_rfl
theorem c4e:Tryz.prog.cellsOf 51=8:=by kernel_rfl
theorem c3x:S4 Tryz.prog 51:=by
 obtain⟨fs,hu,hk⟩:=sY c4a
 obtain⟨f0,f1,f2,f3,hf,r⟩:=a8h hk
 exact⟨f0,f1,f2,f3,by rw[hu,← Array.toArray_toList (xs:=fs),hf],r⟩
theorem openS (T : TyOk P) {t : TypeId} (st : S4 P t) (ct : P.cellsOf t = 8) {W : World} {b0 : Nat} {v : Value} {d : DataW H} {p : List MemPlace} (hval : Value.okWide P W .any b0 t v) (h : DataW.Trod enc P W 0 (fun _ => true) true t v d p) :
  ∃ r:RP,wfR r∧v=.agg (cR r).toArray∧d=dR r∧p=[]:=by
 obtain⟨fuel,h⟩:=h
 obtain⟨f0,f1,f2,f3,hu,_⟩:=id st
 unfold Value.okWide at hval
 rw[hu]at hval
 obtain⟨cs,rfl,hs,_⟩:=hval
 obtain⟨r,hw,hcs,hd⟩:=a8e T st ct h
 injection hd with e1 e2
 refine⟨r,hw,?_,e1,e2⟩
 rw[← hcs]
 simp[Value.cells]
end
end Go.Proofs.Vx
namespace Go.Proofs.Vx
open Go Go.Sx Go.Proofs Go.ChangeShapes Go.WideShapes Go.Deep
structure RelC (g:Gh) (es:List AV) (cs:List Value):Prop where
 len:cs.length=es.length
 rel:∀ i (h1:i<es.length) (h2:i<cs.length),Rel g es[i] cs[i]
 one:∀ i (h2:i<cs.length),cs[i].oneCell'=true
theorem RelC.app {g:Gh} {es es':List AV} {cs cs':List Value} (h:RelC g es cs) (k:RelC g es' cs'):RelC g (es++es') (cs++cs'):=by
 refine⟨by rw[List.length_append,List.length_append,h.len,k.len],fun i h1 h2=>?_,fun i h2=>?_⟩
 ·by_cases q:i<cs.length
  ·rw[List.getElem_append_left q,List.getElem_append_left (by rw[← h.len];exact q)]
   exact h.rel i _ _
  ·have hq:es.length≤i:=by have:=h.len;omega
   have hq2:cs.length≤i:=by omega
   rw[List.length_append]at h1 h2
   rw[List.getElem_append_right hq,List.getElem_append_right hq2]
   have:=k.rel (i - es.length) (by omega) (by have:=h.len;omega)
   simpa only[h.len]using this
 ·by_cases q:i<cs.length
  ·rw[List.getElem_append_left q];exact h.one i _
  ·rw[List.getElem_append_right (by omega)];exact k.one _ _
theorem oU {g:Gh} {a:AV} {v:Value} (h:Rel g a v) (ho:v.oneCell'=true):RelC g [a] [v]:=by
 refine⟨rfl,fun i h1 h2=>?_,fun i h2=>?_⟩
 ·match i,h1 with
  | 0,_=>exact h
 ·match i,h2 with
  | 0,_=>exact ho
theorem b1v (g:Gh) (r:RP):RelC g (eRP r) (cR r):=⟨rfl,fun i h1 h2=>by rw[a7m r i h1];exact .lit _,fun i h=>a7l r i h⟩
theorem RelC.agg {g:Gh} {es:List AV} {cs:Array Value} (h:RelC g es cs.toList):Rel g (.agg es) (.agg cs):=by
 refine .agg _ _ h.len (fun i h2=>?_) fun i h1 h2=>?_
 ·have:=h.one i h2;simpa using this
 ·have:=h.rel i h1 h2;simpa using this
section
variable {P:Program} {H:Type} {enc:TypeId × Value→H}
theorem slR {W : World} {α : Type} [Inhabited α] {t e k : Nat} (ht : P.underlying t = some (.slice e)) (ce : P.cellsOf e = k) (hk : 0 < k) (E : α → List AV) (Q : Nat → α → Prop) (M : DataW H → Nat)
  (hQ:∀ {m n a},m≤n→Q m a→Q n a) (hM:∀ (es sp:List (DataW H)),∀ d∈es,M d≤M (.slice es sp))
  (el:∀ (fuel:Nat) (cs:List Value) (x:DataW H × List MemPlace),DataW.trod enc P W 0 (fun _=>true) true fuel e cs=some x→∃ a,RelC (g00 W) (E a) cs∧(E a).length=k∧Q (M x.1) a)
  {fuel:Nat} {cs:List Value} {x:DataW H × List MemPlace} (h:DataW.trod enc P W 0 (fun _=>true) true fuel t cs=some x) :
  ∃ l:List α,RelC (g00 W) [.sl (l.map E)] cs∧∀ a∈l,Q (M x.1) a:=by
 rcases open_slice ht h with⟨rfl,rfl⟩|⟨a,len,cap,m,n,D,Pl,rfl,_,hl,hm,hmm,rfl,hel⟩
 ·exact⟨[],oU .slnil rfl,by simp⟩
 ·simp only[if_true]at hmm
  subst hmm
  by_cases h0:m=0
  ·subst h0
   have:len=0:=by omega
   subst this
   exact⟨[],oU .slnil rfl,by simp⟩
  ·have each:∀ i,i<m→∃ a':α,(∃ cs',W.cells? 0 (a.add (i*k)) k=some cs'∧RelC (g00 W) (E a') cs'∧(E a').length=k)∧Q (M (D i)) a':=fun i hi=>by
    obtain⟨cs',h1,h2⟩:=hel i hi
    obtain⟨a',h3,h4,h5⟩:=el n cs' _ h2
    rw[ce]at h1
    exact⟨a',⟨cs',h1,h3,h4⟩,h5⟩
   obtain⟨R,hR⟩:=choose_lt each
   obtain⟨b,off,spot⟩:=a
   have hsp:spot=none∧∃ c e' fr,W.heap[b]?=some (.cells c e' fr):=by
    obtain⟨⟨cs0,hc0,hr0,hk0⟩,_⟩:=hR 0 (by omega)
    obtain⟨_,hlen,hcc⟩:=World.cells?_some hc0
    have h1:=hcc 0 hk
    rw[Nat.zero_mul,add_add]at h1
    have h2:(⟨b,off,spot⟩:Addr).add (0+0)=⟨b,off,spot⟩:=rfl
    rw[h2,List.getElem?_eq_getElem (by omega)]at h1
    unfold World.cell? at h1
    simp only at h1
    cases hb:W.heap[b]? with
    | none=>rw[hb]at h1;simp at h1
    | some o =>
     rw[hb]at h1
     cases o with
     | cells c e' fr =>
      refine⟨?_,c,e',fr,rfl⟩
      cases spot with
      | none=>rfl
      | some s=>simp at h1
     | _=>simp at h1
   obtain⟨rfl,c,e',fr,hb⟩:=hsp
   have hc:∀ i,i<m→∀ j (hj:j<k) (hj2:j<(E (R i)).length),∃ h2:off+i*k+j<c.size,Rel (g00 W) ((E (R i))[j]'hj2) c[off+i*k+j]∧c[off+i*k+j].oneCell'=true:=by
    intro i hi j hj hj2
    obtain⟨⟨cs',hc',hr',hk'⟩,_⟩:=hR i hi
    obtain⟨_,hlen,hcc⟩:=World.cells?_some hc'
    have h1:=hcc j hj
    rw[add_add,add_plain,List.getElem?_eq_getElem (by omega)]at h1
    unfold World.cell? at h1
    rw[hb]at h1
    simp only[Option.isSome_none,Bool.false_eq_true,if_false,← Nat.add_assoc]at h1
    obtain⟨h2,h3⟩:=Array.getElem?_eq_some_iff.1 h1
    refine⟨h2,?_⟩
    rw[h3]
    exact⟨hr'.rel j hj2 (by omega),hr'.one j (by omega)⟩
   have hkE:∀ i,i<m→(E (R i)).length=k:=fun i hi=>by obtain⟨⟨_,_,_,h⟩,_⟩:=hR i hi;exact h
   refine⟨(List.range len).map R,oU ?_ rfl,fun a ha=>?_⟩
   ·have hlen:(((List.range len).map R).map E).length=len:=by simp
    have hget:∀ i (hi:i<(((List.range len).map R).map E).length),(((List.range len).map R).map E)[i]=E (R i):=fun i hi=>by simp
    have key := Rel.sl (g := g00 W) (((List.range len).map R).map E) b off m k c e' fr (show b < W.heap.size from (Array.getElem?_eq_some_iff.1 hb).1) hb (by rw [hlen]; exact hl) (fun i hi => by rw [hget i hi]; exact hkE i (by rw [hlen] at hi; omega)) (fun hp => by
      rw[hlen]at hp ⊢
      obtain⟨h2,_⟩:=hc (len - 1) (by omega) (k - 1) (by omega) (by rw[hkE _ (by omega)];omega)
      have e1:(len - 1)*k+k=len*k:=by
       have:len=(len - 1)+1:=by omega
       conv=>rhs;rw[this,Nat.add_mul,Nat.one_mul]
      omega) (fun j h1 h2=>by
      rw[hlen]at h2
      have hj:j / k<len:=Nat.div_lt_of_lt_mul (by rw[Nat.mul_comm];exact h2)
      have hm2:=Nat.mod_lt j hk
      obtain⟨h3,_,h4⟩:=hc (j / k) (by omega) (j % k) hm2 (by rw[hkE _ (by omega)];exact hm2)
      have e1:off+j / k*k+j % k=off+j:=by rw[Nat.add_assoc,Nat.div_add_mod']
      simp only[e1]at h4
      exact h4) (fun i h1 j h2 h3=>by
      have h1':i<len:=by rw[hlen]at h1;exact h1
      have h2':j<(E (R i)).length:=by rw[hget i h1]at h2;exact h2
      have hjk:j<k:=by rw[hkE i (by omega)]at h2';exact h2'
      obtain⟨h4,h5,_⟩:=hc i (by omega) j hjk h2'
      simp only[hget i h1]
      exact h5)
    rw[hlen]at key
    exact key
   ·obtain⟨i,hi,rfl⟩:=List.mem_map.1 ha
    have hi:=List.mem_range.1 hi
    exact hQ (hM _ _ _ (List.mem_map.2 ⟨i,List.mem_range.2 hi,rfl⟩)) (hR i (by omega)).2
theorem b1s (K : Kids P (· < P.types.size)) (full : ∀ t e, t < P.types.size → P.underlying t = some (.slice e) → 0 < P.cellsOf e) {W W' : World} {sp : Nat → Bool} (hold : ∀ b, b < W.heap.size → W'.heap[b]? = W.heap[b]?) (hsp : ∀ b, b < W.heap.size → sp b = true) :
  ∀ {ts:List TypeId} {vs:List Value} {ds:List (DataW H)} {p:List MemPlace},(∀ t∈ts,t<P.types.size)→(∀ q∈p,q.block<W.heap.size)→DataW.TrodAll enc P W 0 (fun _=>true) true ts vs ds p→DataW.TrodAll enc P W' 0 sp true ts vs ds p:=by
 intro ts
 induction ts with
 | nil =>
  intro vs ds p _ _ h
  cases vs<;>cases ds<;>first|exact h|cases h
 | cons t ts ih =>
  intro vs ds p hT hlt h
  match vs,ds,h with
  | v::vs,d::ds,⟨p1,q1,h1,h2,e⟩ =>
   subst e
   have hlt1:∀ x∈p1,x.block<W.heap.size:=fun x hx=>hlt x (List.mem_append_left _ hx)
   obtain⟨n,hn⟩:=DataW.Trod.respare (spare':=sp) K full (hT t (by simp)) h1 fun x hx=>hsp _ (hlt1 x hx)
   refine⟨p1,q1,⟨n,DataW.trod_carry n _ _ _ hn fun x hx=>?_⟩,ih (fun u hu=>hT u (by simp[hu])) (fun x hx=>hlt x (List.mem_append_right _ hx)) h2,rfl⟩
   have hb:=hold _ (hlt1 x hx)
   cases x with
   | cell b off =>
    show W'.cell? ⟨b,off,none⟩=W.cell? ⟨b,off,none⟩
    unfold World.cell?
    rw[show W'.heap[b]?=W.heap[b]? from hb]
   | map b=>exact hb
end
end Go.Proofs.Vx
namespace Go.Proofs.Vx
open Go Go.Sx Go.Proofs Go.ChangeShapes Go.WideShapes Go.Deep Go.Proofs.YtjlfgmhmalbiiaaGreatDoor
theorem kidsT:Kids Tryz.prog (· < Tryz.prog.types.size):=kids_rows (by kernel_rfl) (by kernel_rfl)
theorem fullT:∀ t e,t<Tryz.prog.types.size→Tryz.prog.underlying t=some (.slice e)→0<Tryz.prog.cellsOf e:=slices_full_of _ (by kernel_rfl)
instance:Inhabited RP:=⟨⟨false,⟨#[]⟩,false,⟨#[]⟩,false,⟨#[]⟩,false,⟨#[]⟩⟩⟩
section
variable {H:Type} {enc:TypeId × Value→H}
end
end Go.Proofs.Vx
namespace Go.Proofs.Vx
open Go Go.Sx Go.Proofs Go.ChangeShapes Go.WideShapes Go.Deep Go.Proofs.YtjlfgmhmalbiiaaGreatDoor
theorem c3u:Tryz.prog.underlying 62=some (.slice 79):=by kernel_rfl
theorem zR:Tryz.prog.underlying 3=some (.int .i64):=by kernel_rfl
theorem c3z:iX Tryz.prog 64=some [(3,0),(62,1)]:=by kernel_rfl
theorem c3y:iX Tryz.prog 79=some [(26,0),(3,8),(3,9)]:=by kernel_rfl
theorem a7y:Tryz.prog.cellsOf 3=1:=by kernel_rfl
theorem c4d:Tryz.prog.cellsOf 62=1:=by kernel_rfl
theorem c4c:Tryz.prog.cellsOf 64=2:=by kernel_rfl
theorem a6q:Tryz.prog.cellsOf 79=10:=by kernel_rfl
instance:Inhabited RN:=⟨⟨default,0,0⟩⟩
section
variable {H:Type} {enc:TypeId × Value→H}
theorem el79 (T : TyOk Tryz.prog) {W : World} (fuel : Nat) (cs : List Value) (x : DataW H × List MemPlace) (h : DataW.trod enc Tryz.prog W 0 (fun _ => true) true fuel 79 cs = some x) :
  ∃ n:RN,RelC (g00 W) (eRN n) cs∧(eRN n).length=10∧True:=by
 obtain⟨fs,hu,hk⟩:=sY c3y
 have hf:∃ f0 f1 f2,fs.toList=[f0,f1,f2]∧(f0.type=26∧f0.offset=0)∧(f1.type=3∧f1.offset=8)∧(f2.type=3∧f2.offset=9):=by
  rcases hq:fs.toList with _|⟨f0,_|⟨f1,_|⟨f2,_|⟨f3,l⟩⟩⟩⟩<;>rw[hq]at hk<;>simp at hk
  exact⟨f0,f1,f2,rfl,hk.1,hk.2.1,hk.2.2⟩
 obtain⟨f0,f1,f2,hf,⟨t0,o0⟩,⟨t1,o1⟩,⟨t2,o2⟩⟩:=hf
 rw[← Array.toArray_toList (xs:=fs),hf]at hu
 obtain⟨xs,n,_,hx,hl,hxl,hfl⟩:=DataW.trod_struct hu h
 rw[a6q]at hl
 match xs,hxl with
 | [y0,y1,y2],_ =>
  have g0:=hfl 0 f0 rfl
  have g1:=hfl 1 f1 rfl
  have g2:=hfl 2 f2 rfl
  simp only[t0,o0,T.n26,t1,o1,t2,o2,a7y,List.drop_zero,List.getElem?_cons_zero,List.getElem?_cons_succ]at g0 g1 g2
  obtain⟨r,_,hc0,rfl⟩:=a8e T T.s26 T.n26 g0
  obtain⟨a,ha,_⟩:=DataW.trod_int zR g1
  obtain⟨b,hb,_⟩:=DataW.trod_int zR g2
  refine⟨(r,a,b),?_,rfl,trivial⟩
  have e:cs=cs.take 8++((cs.drop 8).take 1++(cs.drop 9).take 1):=by
   have e1:(cs.drop 9).take 1=cs.drop 9:=List.take_of_length_le (by rw[List.length_drop];omega)
   have e2:(cs.drop 8).take 1++cs.drop 9=cs.drop 8:=by
    have:=List.take_append_drop 1 (cs.drop 8)
    rwa [List.drop_drop]at this
   rw[e1,e2,List.take_append_drop]
  rw[e,hc0,ha,hb]
  exact (b1v _ r).app ((oU (.lit _) rfl).app (oU (.lit _) rfl))
set_option maxRecDepth 20000 in
theorem c4y (T : TyOk Tryz.prog) {W : World} {b0 : Nat} {v : Value} {d : DataW H} {p : List MemPlace} (hval : Value.okWide Tryz.prog W .any b0 64 v) (h : DataW.Trod enc Tryz.prog W 0 (fun _ => true) true 64 v d p) :
  ∃ (k:Int) (N:List RN),Rel (g00 W) (.agg (dH k N)) v:=by
 obtain⟨fuel,h⟩:=h
 obtain⟨fs,hu,hk⟩:=sY c3z
 obtain⟨f0,f1,hf,t0,o0,t1,o1⟩:=a8i hk
 rw[← Array.toArray_toList (xs:=fs),hf]at hu
 unfold Value.okWide at hval
 rw[hu]at hval
 obtain⟨cs,rfl,hs,_⟩:=hval
 obtain⟨xs,n,_,hx,hl,hxl,hfl⟩:=DataW.trod_struct hu h
 rw[c4c]at hl
 match xs,hxl with
 | [y0,y1],_ =>
  have g0:=hfl 0 f0 rfl
  have g1:=hfl 1 f1 rfl
  simp only[t0,o0,t1,o1,a7y,c4d,List.drop_zero,List.getElem?_cons_zero,List.getElem?_cons_succ]at g0 g1
  obtain⟨k,hk,_⟩:=DataW.trod_int zR g0
  obtain⟨l,hlr,_⟩:=slR (α:=RN) c3u a6q (by decide) eRN (fun _ _=>True) (fun _=>0) (fun _ h=>h) (fun _ _ _ _=>Nat.le_refl _) (fun fuel cs x h=>el79 T fuel cs x h) g1
  refine⟨k,l,RelC.agg ?_⟩
  have e:(Value.agg cs).cells.toList=((Value.agg cs).cells.toList.take 1)++((Value.agg cs).cells.toList.drop 1).take 1:=by
   rw[List.take_of_length_le (l:=List.drop 1 _) (by rw[List.length_drop];omega),List.take_append_drop]
  have ec:(Value.agg cs).cells.toList=cs.toList:=rfl
  rw[ec]at e g0 g1 hk
  rw[e,hk]
  exact (oU (.lit _) rfl).app hlr
set_option maxRecDepth 20000 in
theorem c4z (T : TyOk Tryz.prog) {W : World} {b0 : Nat} {v : Value} {d : DataW H} {p : List MemPlace} (hval : Value.okWide Tryz.prog W .any b0 51 v) (h : DataW.Trod enc Tryz.prog W 0 (fun _ => true) true 51 v d p) :
  ∃ r:RP,Rel (g00 W) (.agg (eRP r)) v:=by
 obtain⟨r,_,rfl,_,_⟩:=openS T c3x c4e hval h
 exact⟨r,rel27 _ r⟩
end
end Go.Proofs.Vx
namespace Go.Proofs.YtjlfgmhmalbiiaaGreatDoor
open Go Go.Proofs
theorem zand {a b:Bool} (h:a=true) (k:b=true):(a&&b)=true:=by rw[h,k];rfl
set_option maxRecDepth 100000 in
theorem fa8:joinedFacts Tryz.prog 8 Tryz.f8 Rows.bspClassificationSpec Rows.bspClassificationRow=true:=by
 unfold joinedFacts
 repeat' with_reducible refine zand ?_ ?_
 all_goals decide +kernel
end Go.Proofs.YtjlfgmhmalbiiaaGreatDoor
