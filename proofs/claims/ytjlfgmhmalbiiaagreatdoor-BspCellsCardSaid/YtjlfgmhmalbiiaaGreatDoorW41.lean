import Derived.Test.YtjlfgmhmalbiiaaGreatDoorW40
set_option linter.all false
set_option maxHeartbeats 40000000
open Bool renaming false_ne_true → An
open Int renaming reduceToNat → Ac
open List renaming length_append → Aa, length_cons → Ad, length_nil → Ag, getD_eq_getElem?_getD → Ah, length_map → Aj, length_set → Ak, replicate → Am, append_assoc → Ao, getElem?_eq_getElem → Ap, getElem_mem → Aq, take_of_length_le → Ar, countP_eq_zero → At, getElem_of_mem → Au, mem_singleton → Av, map_replicate → Aw, mem_map → Ax, map_append → Ay
open Nat renaming add_sub_cancel → Ab, add_zero → Ae, zero_add → Af, reduceAdd → Ai, le_trans → Al, lt_or_ge → Az, zero_le → A3, le_refl → A4
open Rat renaming intCast_inj → As
namespace Go.Proofs.Vx
open Go Go.Sx Go.Proofs Tryz
attribute [local irreducible] fnT CallOK CallFr AW aI callV aL aJ aH aK gcaseP hid
def fJ (p:Pl):BT:=if (aP p aN).1=[]then .lf false else if (aP p aN).2=[]then .lf true else .nd 0 p (.lf true) (.lf false)
theorem zC:aN≠[]:=jD.ne
theorem d0k {p:Pl} (h:CanH p):(tH p).n≠⟨0,0,0⟩:=by
 intro e
 refine h.ne ?_
 have ex:=congrArg Geo.V.x e
 have ey:=congrArg Geo.V.y e
 have ez:=congrArg Geo.V.z e
 unfold tH at ex ey ez
 simp only at ex ey ez
 exact⟨As.1 ex,As.1 ey,As.1 ez⟩
theorem TrB.nz {N:List TN} {k:Int} {T:BT} (h:TrB N k T):T.nz:=fun p hp=>by
 obtain⟨n,hn,rfl⟩:=a7f h.rep p hp
 exact d0k (h.can n hn)
theorem TrB.pl {N:List TN} {k:Int} {T:BT} (h:TrB N k T):∀ p∈T.pls,BPl 6 p∧CanH p:=fun p hp=>by
 obtain⟨n,hn,rfl⟩:=a7f h.rep p hp
 exact⟨(h.b n hn).mono (by decide),h.can n hn⟩
theorem b7c (p:Pl):(fJ p).chk aN=true:=by
 unfold fJ
 split
 ·simp[BT.chk,zC]
 ·split
  ·simp[BT.chk,zC]
  ·rename_i h1 h2
   exact BT.chk_nd.2 ⟨zC,by simp[BT.chk,h1],by simp[BT.chk,h2]⟩
theorem c1p {p:Pl} (hc:CanH p) (hb:BPl 6 p):TrB (iI p) (iJ p) (fJ p):=by
 unfold iI iJ fJ
 by_cases h1:(aP p aN).1=[]
 ·rw[if_pos h1,if_pos h1,if_pos h1]
  exact⟨⟨rfl,.refl _⟩,by simp,by decide,by simp⟩
 ·rw[if_neg h1,if_neg h1,if_neg h1]
  by_cases h2:(aP p aN).2=[]
  ·rw[if_pos h2,if_pos h2,if_pos h2]
   exact⟨⟨rfl,.refl _⟩,by simp,by decide,by simp⟩
  ·rw[if_neg h2,if_neg h2,if_neg h2]
   refine⟨⟨⟨rfl,(p,-1,0),rfl,rfl,rfl,rfl⟩,.refl _⟩,fun n hn=>?_,by simp,fun n hn=>?_⟩
   all_goals obtain rfl:=Av.1 hn
   ·exact hc
   ·exact hb
theorem zO (T:BT) {x:Pt} (hw:0<x.w) (b:Bool):mL T x (lfv b)=true↔T.reach b (tv x):=by
 unfold mL
 rw[decide_eq_true_eq]
 exact BT.leaves_iff T hw b
theorem zT {x:Pt} (hw:0<x.w):(cD x=-1↔¬ Geo.Cl (sds aN) (tv x))∧(cD x=1↔Geo.Inn (sds aN) (tv x))∧(cD x=-1∨cD x=0∨cD x=1):=by
 rw[← c2d];exact xA jD hw
def rM (l:List aC) (x:Pt):Bool:=l.any fun c=>decide (cJ c x≠-1)
theorem b6p {N:List TN} {k:Int} {T:BT} (h:TrB N k T) (hc:T.chk aN=true) {x:Pt} (hx:0<x.w):rM (T.cells aN) x=true↔mL T x (-1)=true∧cD x≠-1:=by
 have hcl:=BT.cells_cl (tv x) jD h.nz hc
 have ho:=BT.cells_ok jD h.nz hc
 rw[show mL T x (-1)=mL T x (lfv true)from rfl,zO T hx true]
 have he:cD x≠-1↔Geo.Cl (sds aN) (tv x):=by
  have:=(zT hx).1
  constructor
  ·intro q;exact Classical.byContradiction fun k=>q (this.2 k)
  ·intro q k;exact this.1 k q
 rw[he,hcl]
 unfold rM
 rw[List.any_eq_true]
 constructor
 ·rintro⟨c,hc,hd⟩
  refine⟨c,hc,Classical.byContradiction fun q=>(of_decide_eq_true hd) ((xA (ho c hc) hx).1.2 q)⟩
 ·rintro⟨c,hc,hd⟩
  exact⟨c,hc,decide_eq_true fun q=>(xA (ho c hc) hx).1.1 q hd⟩
theorem b6y {N : List TN} {k : Int} {T : BT} (h : TrB N k T) (hc : T.chk aN = true) {x : Pt} (hx : 0 < x.w) :
  (T.cells aN).countP (fun c=>decide (cJ c x=1))≤1∧(rM (T.cells aN) x=false↔iP T x=-1)∧((T.cells aN).countP (fun c=>decide (cJ c x=1))=0∨iP T x=1):=by
 have ho:=BT.cells_ok jD h.nz hc
 have hin:∀ c∈T.cells aN,cJ c x=1→InnP c (tv x):=fun c hm e=>⟨(ho c hm).ne,(xA (ho c hm) hx).2.1.1 e⟩
 have m1:=b6p h hc hx
 have hm:rM (T.cells aN) x=false↔iP T x=-1:=by
  rw[b0h]
  rcases (zT hx).2.2 with e|e|e<;>rw[e]at m1 ⊢<;>cases u:mL T x (-1)<;>cases v:mL T x 0<;>simp[u]at m1 ⊢<;>simp[m1]
 refine⟨?_,hm,?_⟩
 ·have hp:=BT.cells_one (tv x) jD h.nz hc
  have key:∀ l:List aC,(∀ c∈l,cJ c x=1→InnP c (tv x))→l.Pairwise (fun d e=>¬ (InnP d (tv x)∧InnP e (tv x)))→l.countP (fun c=>decide (cJ c x=1))≤1:=by
   intro l
   induction l with
   | nil=>intro _ _;exact A3 _
   | cons c l ih =>
    intro h1 h2
    obtain⟨h3,h4⟩:=List.pairwise_cons.1 h2
    rw[List.countP_cons]
    by_cases q:cJ c x=1
    ·have:l.countP (fun c=>decide (cJ c x=1))=0:=by
      rw[At]
      intro d hd he
      exact h3 d hd ⟨h1 c (by simp) q,h1 d (by simp[hd]) (of_decide_eq_true he)⟩
     rw[this];split<;>omega
    ·have:=ih (fun d hd=>h1 d (by simp[hd])) h4
     rw[if_neg (by simpa using q)]
     exact this
  exact key _ hin hp
 ·by_cases q:(T.cells aN).countP (fun c=>decide (cJ c x=1))=0
  ·exact .inl q
  ·right
   have:∃ c∈T.cells aN,cJ c x=1:=by
    apply Classical.byContradiction
    intro hn
    refine q (At.2 fun c hm he=>hn ⟨c,hm,of_decide_eq_true he⟩)
   obtain⟨c,hm',e⟩:=this
   have hi:=hin c hm' e
   obtain⟨r1,r2⟩:=BT.cells_inn jD h.nz hc c hm' hi
   have e1:cD x=1:=(zT hx).2.1.2 r2.inn
   have z0:mL T x 0=false:=by
    rw[← Bool.not_eq_true,show mL T x 0=mL T x (lfv false)from rfl,zO _ hx];exact r1
   have z1:mL T x (-1)=true:=by
    rw[show mL T x (-1)=mL T x (lfv true)from rfl,zO _ hx]
    exact (BT.reach_any T (tv x)).elim id fun k=>absurd k r1
   rw[b0h,e1,z0,z1];decide
theorem c6s {T:BT}:∀ {c:aC},jC c→(∀ p∈T.pls,CanH p)→∀ d∈T.cells c,jC d:=by
 induction T with
 | lf b=>intro c hc _ d hd;cases b<;>simp[BT.cells]at hd;subst hd;exact hc
 | nd k p l r hl hr =>
  intro c hc hp d hd
  obtain⟨s1,s2⟩:=c4l hc (hp p (by simp[BT.pls]))
  simp only[BT.cells,List.mem_append]at hd
  rcases hd with hd|hd
  ·exact hl s1 (fun q hq=>hp q (by simp[BT.pls,hq])) d hd
  ·exact hr s2 (fun q hq=>hp q (by simp[BT.pls,hq])) d hd
end Go.Proofs.Vx
namespace Go.Proofs.Vx
open Go Go.Sx Go.Proofs Tryz
attribute [local irreducible] fnT CallOK CallFr AW aI callV aL aJ aH aK gcaseP hid
def oI (b:Bool):Int:=if b=true then 1 else 0
def cS (M:List Bool):List (List AV):=M.map fun b=>[.lit (.int .i64 (oI b))]
theorem b0i (M:List Bool):(cS M).length=M.length:=Aj _
theorem a0r (M:List Bool) (i:Nat) (h:i<M.length):(cS M).getD i []=[.lit (.int .i64 (oI M[i]))]:=by
 unfold cS
 rw[Ah,List.getElem?_map,Ap h];rfl
theorem cS_in {K:Nat→Prop} (M:List Bool):(∀ e∈cS M,∀ c∈e,In K c)=True:=eq_true fun e he c hc=>by
 obtain⟨n,_,rfl⟩:=Ax.1 he
 obtain rfl:=Av.1 hc
 exact .lit _
theorem b3s {S T:AS} (l k:Nat) (es:List (List AV)) (cp:Nat) (h:Sx.look S.o l=AV.vcp k es cp) (hw:Weak { t:=S.t,o:=(l,.vec k es)::S.o,nx:=S.nx } T):Weak S T:=fun c nt a w hs=>hw c nt a w (b4z l k es cp h c nt a w hs)
structure FJ (N:List RN) (b:Bool) (pre ks:List Int) (M:List Bool):Prop where
 eq:b=true↔bV (bZ N) ks (mtB M)∧iR N
 len:M.length=N.length
 bd:pre.length+ks.length+2*M.count false≤29
theorem FJ.leaf {N:List RN} {b:Bool} {pre ks:List Int} {k:Int} {M:List Bool} (h:FJ N b pre (k::ks) M) (hk:k=-1∨k=0):FJ N b (pre++[k]) ks M :=
 ⟨by rw[h.eq,a3c hk],h.len,by have:=h.bd;rw[Aa,List.length_singleton];rw[Ad]at this;omega⟩
theorem FJ.bad {N:List RN} {b:Bool} {pre ks:List Int} {k:Int} {M:List Bool} (h:FJ N b pre (k::ks) M) (hk:k < -1∨N.length<k∨(1≤k∧(k - 1).toNat<M.length∧M.getD (k - 1).toNat false=true)):b=false:=by
 cases hb:b
 ·rfl
 ·refine absurd (h.eq.1 hb).1 (a3x ?_)
  rw[sY]
  rcases hk with hk|hk|⟨h1,h2,h3⟩
  ·exact .inl hk
  ·exact .inr (.inl hk)
  ·exact .inr (.inr ⟨h1,oC.2 ⟨h2,h3⟩⟩)
theorem FJ.node {N:List RN} {b:Bool} {pre ks:List Int} {M:List Bool} {j:Nat} (hj:j<N.length) (h:FJ N b pre (((j:Int)+1)::ks) M) (hm:M.getD j false=false):FJ N b (pre++[(j:Int)+1]) (ks++[N[j].2.1,N[j].2.2]) (M.set j true)∧FJ N b [] (ks++[N[j].2.1,N[j].2.2]) (M.set j true):=by
 have hjM:j<M.length:=by rw[h.len];exact hj
 have h1:=w9 hjM hm
 have hbd:=h.bd
 have he:b=true↔bV (bZ N) (ks++[N[j].2.1,N[j].2.2]) (mtB (M.set j true))∧iR N:=by
  rw[h.eq,a3b (a5h hj),a3u]
  exact and_congr (vE (.refl _) (a7u hjM hm).symm) Iff.rfl
 refine⟨⟨he,by rw[Ak];exact h.len,?_⟩,⟨he,by rw[Ak];exact h.len,?_⟩⟩<;>simp only[Aa,Ad,Ag]at hbd ⊢<;>omega
theorem FJ.done {N:List RN} {b:Bool} {pre:List Int} {M:List Bool} (h:FJ N b pre [] M):b=true↔(∀ j (h:j<M.length),M[j]=true)∧∀ j (h:j<N.length),j8 N[j].1:=by
 rw[h.eq,a3w (by rw[sY];exact h.len)]
 constructor
 ·rintro⟨h1,h2⟩
  exact⟨fun j h=>h1 _ (Aq h),fun j h=>h2 _ (Aq h)⟩
 ·rintro⟨h1,h2⟩
  refine⟨fun x hx=>?_,fun n hn=>?_⟩
  ·obtain⟨j,hj,rfl⟩:=Au hx;exact h1 j hj
  ·obtain⟨j,hj,rfl⟩:=Au hn;exact h2 j hj
theorem FJ.zero {N:List RN} {b:Bool} {k:Int} (hn:N.length≤14) (hb:b=true↔bV (bZ N) [k] []∧iR N):FJ N b [] [k] (Am N.length false):=by
 refine⟨by rw[a7v];exact hb,List.length_replicate,?_⟩
 rw[List.count_replicate];simp only[Ad,Ag];split<;>omega
attribute [go_sem] cS_in
set_option maxRecDepth 20000 in
theorem c104 (k0:Int) (N:List RN) (hn:N.length≤14) (hs:oM N) (b:Bool) (hb:b=true↔bV (bZ N) [k0] []∧iR N):CallOK prog 104 [.agg (b5 k0 N)] [] (.lit (.bool b)) []:=by
 refine zs func104 100 [.tmp 2] results104 ?_
 simp only[aD,Ai]
 have hml:maxLen=9223372036854775807:=rfl
 have hl:(eRT N).length=N.length:=Aj _
 have hz:=FJ.zero hn hb
 have hrep:aG .i64 (Am N.length 0)=cS (Am N.length false):=by unfold aG cS;rw[Aw,Aw];rfl
 have hone:[[AV.lit (.int .i64 k0)]]=kS [k0]:=rfl
 replace hs:=Hid.mk hs
 replace hz:=Hid.mk hz
 clear hb
 repeat'(first|refine zk ?_|(refine zu ?_ ?_<;>intro hc)|(refine zv ?_ ?_<;>intro hg)|omega|simp -dsimp (disch:=try exact zo)only[go_sem,hl,hrep,hone]|contradiction|rfl)
 refine AW.loop (fun z:{z:Bool × List Int × List Int × List Bool // (z.1=true→z.2.2.1=[])∧Hid (FJ N b z.2.1 z.2.2.1 z.2.2.2)}=>match z.1.1 with|true=>⟨[(4,.zs),(3,.ref 13 0 N.length N.length),(1,.loc 8 0)],[(13,.vec 1 (cS z.1.2.2.2)),(8,.blk [.lit (.int .i64 k0),.sl (eRT N)])],60⟩|false=>⟨[(4,.ref 17 z.1.2.1.length z.1.2.2.1.length (z.1.2.1++z.1.2.2.1).length),(3,.ref 13 0 N.length N.length),(1,.loc 8 0)],[(17,.vec 1 (kS (z.1.2.1++z.1.2.2.1))),(13,.vec 1 (cS z.1.2.2.2)),(8,.blk [.lit (.int .i64 k0),.sl (eRT N)])],60⟩) (fun z=>z.1.2.2.1.length+2*z.1.2.2.2.count false) ⟨(false,[],[k0],Am N.length false),fun h=>(by cases h),hz⟩ zw ?_
 rintro⟨⟨zb,pre,ks,M⟩,hzb,hI⟩
 dsimp only at hzb hI ⊢
 have hbd:=hI.out.bd
 have hMl:(cS M).length=N.length:=(b0i M).trans hI.out.len
 have hMM:=hI.out.len
 cases ks with
 | nil =>
  have hd:=Hid.mk hI.out.done
  have hk0:(([]:List Int).length:Int)=0:=rfl
  have hVn:(kS (pre++[])).length=(pre++[]).length:=fQ _
  clear hI hz hbd hzb
  cases zb<;>dsimp only
  rotate_left
  all_goals try generalize kS (pre++[])=V at *
  all_goals repeat'(first|refine zk ?_|(refine zu ?_ ?_<;>intro hc)|(refine zv ?_ ?_<;>intro hg)|omega|simp -dsimp (disch:=try exact zo)only[go_sem,hl,hMl,hk0,hVn]|contradiction|rfl)
  all_goals refine AW.loop (fun z:{i:Nat // i≤N.length∧Hid (∀ j (h:j<M.length) (h':j<N.length),j<i→M[j]=true∧j8 N[j].1)}=>⟨[(6,.lit (.int .i64 z.1)),(3,.ref 13 0 N.length N.length),(1,.loc 8 0)],[(13,.vec 1 (cS M)),(8,.blk [.lit (.int .i64 k0),.sl (eRT N)])],90⟩) (fun z=>N.length - z.1) ⟨0,A3 _,Hid.mk (fun j _ _ h=>absurd h (Nat.not_lt_zero _))⟩ zw ?_
  all_goals
   rintro⟨i,hi,hJ⟩
   dsimp only
   by_cases hlt:i<N.length
   ·have hiM:i<M.length:=by omega
    have es1:=wN N i hlt
    have em:=a0r M i hiM
    have hs1:=hs.out _ (Aq hlt)
    have hJ1:=Hid.mk (show M[i]=true∧j8 N[i].1→∀ j (h:j<M.length) (h':j<N.length),j<i+1→M[j]=true∧j8 N[j].1 from fun hx j h h' h2=>by
     by_cases q:j=i
     ·subst q;exact hx
     ·exact hJ.out j h h' (by omega))
    have hb1:M[i]=false→b=false:=fun hx=>by
     cases hq:b
     ·rfl
     ·have:=(hd.out.1 hq).1 i hiM;rw[hx]at this;cases this
    have hb2:¬ j8 N[i].1→b=false:=fun hx=>by
     cases hq:b
     ·rfl
     ·exact absurd ((hd.out.1 hq).2 i hlt) hx
    generalize M[i]=u at *
    generalize N[i]=nd at *
    obtain⟨r,a,c⟩:=nd
    dsimp only at hs1 hJ1 hb2
    have cn:=True.intro
    have sz:=(show r.m1.size≤268435456∧r.m2.size≤268435456∧r.m3.size≤268435456∧r.m4.size≤268435456 from⟨Al hs1.a (by decide),Al hs1.b (by decide),Al hs1.c (by decide),Al hs1.d (by decide)⟩)
    cases u
    ·rw[hb1 rfl]
     have k1:(oI false=1)=False:=eq_false (by decide)
     by_cases hzr:j6 r
     ·replace cn:=b1x r sz.1 sz.2.1 sz.2.2.1 sz.2.2.2 hzr
      clear hb1 hb2 hJ1 hzr sz
      simp only[eRP,eH,e4]at cn
      exact z1
     ·replace cn:=b1y r sz.1 sz.2.1 sz.2.2.1 sz.2.2.2 hzr
      clear hb1 hb2 hJ1 hzr sz
      generalize eY r=p at *
      simp only[eRP,eH,e4]at cn
      exact z1
    ·have k1:(oI true=1)=True:=eq_true (by decide)
     by_cases hzr:j6 r
     ·replace cn:=b1x r sz.1 sz.2.1 sz.2.2.1 sz.2.2.2 hzr
      rw[hb2 fun h=>h.1 hzr]
      clear hb1 hb2 hJ1 hzr sz
      simp only[eRP,eH,e4]at cn
      exact z1
     ·replace cn:=b1y r sz.1 sz.2.1 sz.2.2.1 sz.2.2.2 hzr
      by_cases hc:eRP r=eH (eY r)
      ·replace hJ1:=Hid.mk (hJ1.out ⟨rfl,hzr,hc⟩)
       have es2:eRN (r,a,c)=eRP r++[.lit (.int .i64 a),.lit (.int .i64 c)]:=rfl
       rw[es2,hc]at es1
       rw[hc]at cn
       clear hb1 hb2 hc hzr es2 sz
       generalize eY r=p at *
       simp only[eH,e4,List.cons_append,List.nil_append]at cn es1
       repeat'(first|refine zk ?_|(refine zu ?_ ?_<;>intro hc)|(refine zf cn ?_)|(refine zv ?_ ?_<;>intro hg)|omega|simp -dsimp (disch:=try exact zo)only[go_sem,hl,hMl,es1,em,k1,ZT]|contradiction|rfl)
       all_goals exact AW.stop ⟨⟨i+1,by omega,hJ1⟩,zw,by dsimp only;omega⟩
      ·rw[hb2 fun h=>hc h.2]
       clear hb1 hb2 hJ1 sz
       generalize eY r=q at *
       have hne:¬ (Zn q.a=r.n1∧Zm q.a=r.m1∧Zn q.b=r.n2∧Zm q.b=r.m2∧Zn q.c=r.n3∧Zm q.c=r.m3∧Zn q.d=r.n4∧Zm q.d=r.m4):=fun h=>hc (by
        unfold eRP eH e4
        obtain⟨h1,h2,h3,h4,h5,h6,h7,h8⟩:=h
        rw[h1,h2,h3,h4,h5,h6,h7,h8])
       clear hc
       simp only[eRP,eH,e4]at cn
       exact z1
   ·have hil:i=N.length:=by omega
    subst hil
    rw[hd.out.2 ⟨fun j h=>(hJ.out j h (by omega) (by omega)).1,fun j h=>(hJ.out j (by omega) h h).2⟩]
    clear hd hJ
    exact z1
 | cons k qs =>
  obtain rfl:zb=false:=by
   cases zb
   ·rfl
   ·exact absurd (hzb rfl) (List.cons_ne_nil _ _)
  clear hzb
  dsimp only
  have hV:(kS (pre++k::qs)).length=pre.length+(qs.length+1):=by rw[fQ,Aa];rfl
  have hVl:(kS (pre++k::qs)).getD pre.length []=[.lit (.int .i64 k)]:=by
   unfold kS
   rw[Ay,Ah,List.getElem?_append_right (by rw[Aj];exact A4 _),Aj,Nat.sub_self];rfl
  have hVt:(kS (pre++k::qs)).take (pre.length+1+qs.length)=kS ((pre++[k])++qs):=by
   rw[Ar (by rw[hV];omega),Ao];rfl
  have hVd:((kS (pre++k::qs)).drop (pre.length+1)).take qs.length=kS qs:=by
   have e:kS (pre++k::qs)=kS (pre++[k])++kS qs:=by unfold kS;rw[← Ay,Ao];rfl
   rw[e,List.drop_left' (by rw[fQ,Aa];rfl),Ar (by rw[fQ];exact A4 _)]
  have hVe:kS (pre++k::qs)=kS ((pre++[k])++qs):=by rw[Ao];rfl
  have hVf:=p8 (pre++k::qs)
  have hn1:(pre++k::qs).length=pre.length+(qs.length+1):=by rw[Aa];rfl
  rw[hn1]
  rw[Ad]at hbd ⊢
  generalize kS (pre++k::qs)=V at *
  have k1:True:=trivial;have k2:True:=trivial;have k3:True:=trivial;have k5:True:=trivial;have p1:True:=trivial;have p2:True:=trivial;have q1:True:=trivial;have q2:True:=trivial;have es1:True:=trivial;have em:True:=trivial;have hMs:True:=trivial;have hMg:True:=trivial;have hql:True:=trivial;have hwr:True:=trivial;have hMl2:True:=trivial
  all_goals repeat'(first|refine c7i 5 17 rfl rfl ?_|refine zk ?_|(refine zu ?_ ?_<;>intro hc)|(refine zv ?_ ?_<;>intro hg)|omega|simp -dsimp (disch:=try exact zo)only[go_sem,hl,hV,hVl,hMl,hMs,hMg,es1,em,ZT,Ac,Ab,Ae,Af,k1,k2,k3,k5,p1,p2,q1,q2,hVt,hVd,hql,hwr,hMl2]|contradiction|rfl)
  all_goals intro cp hcl
  have hcase:(∃ _:pre.length+1<cp,True)∨(cp≤pre.length+1∧qs=[]):=by
   rcases Az (pre.length+1) cp with h|h
   ·exact .inl ⟨h,trivial⟩
   ·exact .inr ⟨h,List.eq_nil_of_length_eq_zero (by omega)⟩
  by_cases q0:k < -1
  ·rw[hI.out.bad (.inl q0)]
   have k1:(k < -1)=True:=eq_true q0
   have k2:True:=trivial;have k3:True:=trivial;have k5:True:=trivial;have q1:True:=trivial;have q2:True:=trivial;have es1:True:=trivial;have em:True:=trivial;have hMs:True:=trivial;have hMg:True:=trivial;have hwr:True:=trivial;have hMl2:True:=trivial
   clear hI hz
   rcases hcase with⟨hcp,_⟩|⟨hcp,hq0⟩
   ·have p1:(pre.length+1<cp)=True:=eq_true hcp
    have p2:(cp≤pre.length+1)=False:=eq_false (by omega)
    have hql:True:=trivial
    repeat'(first|refine fun (_:True)=>?_|refine zk ?_|(refine zu ?_ ?_<;>intro hc)|(refine zv ?_ ?_<;>intro hg)|omega|simp -dsimp (disch:=try exact zo)only[go_sem,hl,hV,hVl,hMl,hMs,hMg,es1,em,ZT,Ac,Ab,Ae,Af,k1,k2,k3,k5,p1,p2,q1,q2,hVt,hVd,hql,hwr,hMl2]|contradiction|rfl)
   ·have p1:(pre.length+1<cp)=False:=eq_false (by omega)
    have p2:(cp≤pre.length+1)=True:=eq_true hcp
    have hql:qs.length=0:=by rw[hq0];rfl
    have hzs:In (fun k=>k<60) AV.zs=True:=eq_true .zs
    repeat'(first|refine fun (_:True)=>?_|refine zk ?_|(refine zu ?_ ?_<;>intro hc)|(refine zv ?_ ?_<;>intro hg)|omega|simp -dsimp (disch:=try exact zo)only[go_sem,hl,hV,hVl,hMl,hMs,hMg,es1,em,ZT,Ac,Ab,Ae,Af,k1,k2,k3,k5,p1,p2,q1,q2,hVt,hVd,hql,hwr,hMl2]|contradiction|rfl)
  ·have k1:(k < -1)=False:=eq_false q0
   by_cases q3:(N.length:Int)<k
   ·rw[hI.out.bad (.inr (.inl q3))]
    have k2:((N.length:Int)<k)=True:=eq_true q3
    have k3:True:=trivial;have k5:True:=trivial;have q1:True:=trivial;have q2:True:=trivial;have es1:True:=trivial;have em:True:=trivial;have hMs:True:=trivial;have hMg:True:=trivial;have hwr:True:=trivial;have hMl2:True:=trivial
    clear hI hz
    rcases hcase with⟨hcp,_⟩|⟨hcp,hq0⟩
    ·have p1:(pre.length+1<cp)=True:=eq_true hcp
     have p2:(cp≤pre.length+1)=False:=eq_false (by omega)
     have hql:True:=trivial
     repeat'(first|refine fun (_:True)=>?_|refine zk ?_|(refine zu ?_ ?_<;>intro hc)|(refine zv ?_ ?_<;>intro hg)|omega|simp -dsimp (disch:=try exact zo)only[go_sem,hl,hV,hVl,hMl,hMs,hMg,es1,em,ZT,Ac,Ab,Ae,Af,k1,k2,k3,k5,p1,p2,q1,q2,hVt,hVd,hql,hwr,hMl2]|contradiction|rfl)
    ·have p1:(pre.length+1<cp)=False:=eq_false (by omega)
     have p2:(cp≤pre.length+1)=True:=eq_true hcp
     have hql:qs.length=0:=by rw[hq0];rfl
     have hzs:In (fun k=>k<60) AV.zs=True:=eq_true .zs
     repeat'(first|refine fun (_:True)=>?_|refine zk ?_|(refine zu ?_ ?_<;>intro hc)|(refine zv ?_ ?_<;>intro hg)|omega|simp -dsimp (disch:=try exact zo)only[go_sem,hl,hV,hVl,hMl,hMs,hMg,es1,em,ZT,Ac,Ab,Ae,Af,k1,k2,k3,k5,p1,p2,q1,q2,hVt,hVd,hql,hwr,hMl2]|contradiction|rfl)
   ·have k2:((N.length:Int)<k)=False:=eq_false q3
    by_cases q4:k<1
    ·have hI1:=Hid.mk (hI.out.leaf (by omega:k=-1∨k=0))
     have k3:(k<1)=True:=eq_true q4
     have k5:True:=trivial;have q1:True:=trivial;have q2:True:=trivial;have es1:True:=trivial;have em:True:=trivial;have hMs:True:=trivial;have hMg:True:=trivial;have hwr:True:=trivial;have hMl2:True:=trivial
     clear hI hz
     rcases hcase with⟨hcp,_⟩|⟨hcp,hq0⟩
     ·have p1:(pre.length+1<cp)=True:=eq_true hcp
      have p2:(cp≤pre.length+1)=False:=eq_false (by omega)
      have hql:True:=trivial
      repeat'(first|refine fun (_:True)=>?_|refine zk ?_|(refine zu ?_ ?_<;>intro hc)|(refine zv ?_ ?_<;>intro hg)|omega|simp -dsimp (disch:=try exact zo)only[go_sem,hl,hV,hVl,hMl,hMs,hMg,es1,em,ZT,Ac,Ab,Ae,Af,k1,k2,k3,k5,p1,p2,q1,q2,hVt,hVd,hql,hwr,hMl2]|contradiction|rfl)
      all_goals refine AW.stop ⟨⟨(false,pre++[k],qs,M),(fun h=>by cases h),hI1⟩,?_,by show qs.length+2*M.count false<qs.length+1+2*M.count false;omega⟩
      all_goals refine b3s 17 1 V cp rfl ?_
      all_goals dsimp only
      all_goals exact wP 17 17 4 60 _ (pre++[k]).length qs.length _ ((pre++[k]).length+qs.length) _ 1 V _ rfl (by simp) rfl (by rw[hV]) (by rw[fQ,Aa]) rfl hVe hVf (by decide) (by decide) (by decide) (by decide) (by refine⟨?_,?_,?_,?_⟩<;>(try dsimp only)<;>simp -dsimp (disch:=try exact zo)only[go_sem,hMs])
     ·have p1:(pre.length+1<cp)=False:=eq_false (by omega)
      have p2:(cp≤pre.length+1)=True:=eq_true hcp
      have hql:qs.length=0:=by rw[hq0];rfl
      have hzs:In (fun k=>k<60) AV.zs=True:=eq_true .zs
      repeat'(first|refine fun (_:True)=>?_|refine zk ?_|(refine zu ?_ ?_<;>intro hc)|(refine zv ?_ ?_<;>intro hg)|omega|simp -dsimp (disch:=try exact zo)only[go_sem,hl,hV,hVl,hMl,hMs,hMg,es1,em,ZT,Ac,Ab,Ae,Af,k1,k2,k3,k5,p1,p2,q1,q2,hVt,hVd,hql,hwr,hMl2]|contradiction|rfl)
      all_goals exact AW.stop ⟨⟨(true,pre++[k],[],M),(fun _=>rfl),by rw[hq0]at hI1;exact hI1⟩,zw,by show ([]:List Int).length+2*M.count false<_;rw[Ag];omega⟩
    ·have k3:(k<1)=False:=eq_false q4
     obtain⟨j,rfl⟩:∃ j:Nat,k=(j:Int)+1:=⟨(k - 1).toNat,by omega⟩
     have hj:j<N.length:=by omega
     have hjM:j<M.length:=by omega
     have k5:((j:Int)+1 - 1)=(j:Int):=by omega
     have em:=a0r M j hjM
     have eM:M.getD j false=M[j]:=by rw[Ah,Ap hjM];rfl
     have es1:=wN N j hj
     cases hm:M[j]
     ·rw[hm]at em eM
      have hwr:IntKind.i64.wrap (oI false+1)=1:=by decide
      have hMs:(cS M).set j [.lit (.int .i64 1)]=cS (M.set j true):=by unfold cS;rw[List.map_set];rfl
      have hMl2:(cS (M.set j true)).length=N.length:=(b0i _).trans (by rw[Ak];exact hMM)
      have hMg:(cS (M.set j true)).getD j []=[.lit (.int .i64 1)]:=by
       rw[a0r _ _ (by rw[Ak];exact hjM),List.getElem_set_self];rfl
      obtain⟨hI2,hI3⟩:=hI.out.node hj eM
      replace hI2:=Hid.mk hI2
      replace hI3:=Hid.mk hI3
      have hcn:=w9 hjM eM
      clear hI hz hm
      generalize N[j]=nd at *
      obtain⟨r,a,c⟩:=nd
      dsimp only at hI2 hI3
      dsimp only[eRN]at es1
      rcases hcase with⟨hcp,_⟩|⟨hcp,hq0⟩
      ·have p1:(pre.length+1<cp)=True:=eq_true hcp
       have p2:(cp≤pre.length+1)=False:=eq_false (by omega)
       have hql:True:=trivial
       rcases Az cp (pre.length+1+qs.length+2)with hcq|hcq
       ·have q1:(pre.length+1+qs.length+2≤cp)=False:=eq_false (by omega)
        have q2:(cp<pre.length+1+qs.length+2)=True:=eq_true hcq
        repeat'(first|refine fun (_:True)=>?_|refine zk ?_|(refine zu ?_ ?_<;>intro hc)|(refine zv ?_ ?_<;>intro hg)|omega|simp -dsimp (disch:=try exact zo)only[go_sem,hl,hV,hVl,hMl,hMs,hMg,es1,em,ZT,Ac,Ab,Ae,Af,k1,k2,k3,k5,p1,p2,q1,q2,hVt,hVd,hql,hwr,hMl2]|contradiction|rfl)
        all_goals refine AW.stop ⟨⟨(false,[],qs++[a,c],M.set j true),(fun h=>by cases h),hI3⟩,?_,by show (qs++[a,c]).length+2*(M.set j true).count false<_;rw[Aa];simp only[Ad,Ag];omega⟩
        all_goals dsimp only
        all_goals exact wP 111 17 4 60 _ ([]:List Int).length (qs++[a,c]).length _ (([]:List Int).length+(qs++[a,c]).length) _ 1 _ (kS ([]++(qs++[a,c]))) rfl rfl (by rw[Aa];rfl) (by simp only[Aa,fQ,Ad,Ag];try omega) (by rw[fQ,Aa]) rfl (by simp[kS]) (fl2 (p8 qs) (fun e he=>he)) (by decide) (by decide) (by decide) (by decide) (by refine⟨?_,?_,?_,?_⟩<;>simp -dsimp (disch:=try exact zo)only[go_sem,hMs])
       ·have q1:(pre.length+1+qs.length+2≤cp)=True:=eq_true hcq
        have q2:(cp<pre.length+1+qs.length+2)=False:=eq_false (by omega)
        repeat'(first|refine fun (_:True)=>?_|refine zk ?_|(refine zu ?_ ?_<;>intro hc)|(refine zv ?_ ?_<;>intro hg)|omega|simp -dsimp (disch:=try exact zo)only[go_sem,hl,hV,hVl,hMl,hMs,hMg,es1,em,ZT,Ac,Ab,Ae,Af,k1,k2,k3,k5,p1,p2,q1,q2,hVt,hVd,hql,hwr,hMl2]|contradiction|rfl)
        all_goals refine AW.stop ⟨⟨(false,pre++[(j:Int)+1],qs++[a,c],M.set j true),(fun h=>by cases h),hI2⟩,?_,by show (qs++[a,c]).length+2*(M.set j true).count false<_;rw[Aa];simp only[Ad,Ag];omega⟩
        all_goals dsimp only
        all_goals exact wP 17 17 4 60 _ (pre++[(j:Int)+1]).length (qs++[a,c]).length _ ((pre++[(j:Int)+1]).length+(qs++[a,c]).length) _ 1 _ _ rfl (by simp) (by simp) (by simp only[Aa,fQ,Ad,Ag];try omega) (by rw[fQ,Aa]) rfl (by simp[kS]) (fl2 (p8 _) (fun e he=>he)) (by decide) (by decide) (by decide) (by decide) (by refine⟨?_,?_,?_,?_⟩<;>simp -dsimp (disch:=try exact zo)only[go_sem,hMs])
      ·have p1:(pre.length+1<cp)=False:=eq_false (by omega)
       have p2:(cp≤pre.length+1)=True:=eq_true hcp
       have hql:qs.length=0:=by rw[hq0];rfl
       have hzs:In (fun k=>k<60) AV.zs=True:=eq_true .zs
       have q1:True:=trivial
       have q2:True:=trivial
       repeat'(first|refine fun (_:True)=>?_|refine zk ?_|(refine zu ?_ ?_<;>intro hc)|(refine zv ?_ ?_<;>intro hg)|omega|simp -dsimp (disch:=try exact zo)only[go_sem,hl,hV,hVl,hMl,hMs,hMg,es1,em,ZT,Ac,Ab,Ae,Af,k1,k2,k3,k5,p1,p2,q1,q2,hVt,hVd,hql,hwr,hMl2]|contradiction|rfl)
       all_goals refine AW.stop ⟨⟨(false,[],qs++[a,c],M.set j true),(fun h=>by cases h),hI3⟩,?_,by show (qs++[a,c]).length+2*(M.set j true).count false<_;rw[Aa];simp only[Ad,Ag];omega⟩
       all_goals dsimp only
       all_goals exact wP 111 17 4 60 _ ([]:List Int).length (qs++[a,c]).length _ (([]:List Int).length+(qs++[a,c]).length) _ 1 _ (kS ([]++(qs++[a,c]))) rfl rfl (by rw[hq0];rfl) rfl (by rw[fQ,Aa]) rfl (by rw[hq0];rfl) (fl2 (V:=[]) (X:=[]) (fun e he=>by cases he) (fun e he=>he)) (by decide) (by decide) (by decide) (by decide) (by refine⟨?_,?_,?_,?_⟩<;>simp -dsimp (disch:=try exact zo)only[go_sem,hMs])
     ·rw[hm]at em eM
      rw[hI.out.bad (.inr (.inr ⟨by omega,by rw[k5];exact hjM,by rw[k5];exact eM⟩))]
      have hMs:True:=trivial
      have hwr:IntKind.i64.wrap (oI true+1)=2:=by decide
      have hMg:((cS M).set j [.lit (.int .i64 2)]).getD j []=[.lit (.int .i64 2)]:=by
       rw[Ah,List.getElem?_set_self (by rw[hMl];exact hj)];rfl
      clear hI hz hm
      have q1:True:=trivial;have q2:True:=trivial
      rcases hcase with⟨hcp,_⟩|⟨hcp,hq0⟩
      ·have p1:(pre.length+1<cp)=True:=eq_true hcp
       have p2:(cp≤pre.length+1)=False:=eq_false (by omega)
       have hql:True:=trivial
       repeat'(first|refine fun (_:True)=>?_|refine zk ?_|(refine zu ?_ ?_<;>intro hc)|(refine zv ?_ ?_<;>intro hg)|omega|simp -dsimp (disch:=try exact zo)only[go_sem,hl,hV,hVl,hMl,hMs,hMg,es1,em,ZT,Ac,Ab,Ae,Af,k1,k2,k3,k5,p1,p2,q1,q2,hVt,hVd,hql,hwr,hMl2]|contradiction|rfl)
      ·have p1:(pre.length+1<cp)=False:=eq_false (by omega)
       have p2:(cp≤pre.length+1)=True:=eq_true hcp
       have hql:qs.length=0:=by rw[hq0];rfl
       have hzs:In (fun k=>k<60) AV.zs=True:=eq_true .zs
       repeat'(first|refine fun (_:True)=>?_|refine zk ?_|(refine zu ?_ ?_<;>intro hc)|(refine zv ?_ ?_<;>intro hg)|omega|simp -dsimp (disch:=try exact zo)only[go_sem,hl,hV,hVl,hMl,hMs,hMg,es1,em,ZT,Ac,Ab,Ae,Af,k1,k2,k3,k5,p1,p2,q1,q2,hVt,hVd,hql,hwr,hMl2]|contradiction|rfl)
end Go.Proofs.Vx
namespace Go.Proofs.Vx
open Go Go.Sx Go.Proofs Tryz
attribute [local irreducible] fnT CallOK CallFr AW aI callV aL aJ aH aK gcaseP hid
theorem c39x (k0:Int) (N:List RN) (hn:N.length≤14) (hs:oM N) (hb:¬ (bV (bZ N) [k0] []∧iR N)):CallOK prog 39 [.agg (b5 k0 N)] [] (.lit (.int .i64 3)) [] :=
 c39a k0 N (c104 k0 N hn hs false ⟨fun h=>(An h).elim,fun h=>absurd h hb⟩)
theorem c39t {N:List TN} {k:Int} {T:BT} (h:TrB N k T):CallOK prog 39 [.agg (eTr k N)] [] (.lit (.int .i64 (if T.chk aN=true then 0 else 1))) [] :=
 c39b k N T h (by
  have:CallOK prog 104 [.agg [.lit (.int .i64 k),.sl (eRT (iL N))]] [] (.lit (.bool true)) []:=c104 k (iL N) (by unfold iL;rw[Aj];exact h.n) h.small true h.raw
  rw[a9q]at this
  exact this)
theorem a5i {k:Int} {N:List RN} (hn:N.length≤14) (hs:oM N) (hb:bV (bZ N) [k] []∧iR N):∃ T,TrB (bZ N) k T∧eRT N=eTS (bZ N):=by
 obtain⟨T,h1,h2⟩:=a3v.1 hb.1
 refine⟨T,⟨⟨h1,h2⟩,fun n hn=>?_,by rw[sY];exact hn,fun n hn=>?_⟩,?_⟩
 ·obtain⟨m,hm,rfl⟩:=Ax.1 hn
  exact c9l (hb.2 m hm).1
 ·obtain⟨m,hm,rfl⟩:=Ax.1 hn
  exact c5h (hs m hm) (hb.2 m hm).1
 ·unfold eRT bZ eTS
  rw[List.map_map]
  refine List.map_congr_left fun n hn=>?_
  have:=(hb.2 n hn).2
  show eRP n.1++[AV.lit (.int .i64 n.2.1),AV.lit (.int .i64 n.2.2)]=eH (eY n.1)++[AV.lit (.int .i64 n.2.1),AV.lit (.int .i64 n.2.2)]
  rw[this]
theorem tC {N:List RN} (h:qK N):oM N:=fun n hn=>by
 obtain⟨h1,h2,h3,h4⟩:=a6t (h.2 n hn)
 exact⟨by omega,by omega,by omega,by omega⟩
abbrev upP:Pl:=⟨0,0,1,0⟩
theorem c4c:CanH upP:=⟨by decide +kernel,by decide⟩
theorem uJ {x y z:Int} (hx:-1000≤x∧x≤1000) (hy:-1000≤y∧y≤1000) (hz:-1000≤z∧z≤1000):BPt 268435456 ⟨x,y,z,1⟩:=by
 have key:∀ a:Int,-1000≤a∧a≤1000→(Zm a).size≤268435456:=fun a ha=>by
  refine (cO _ _).2 ?_
  have:a.natAbs<65536:=by omega
  exact Nat.lt_of_lt_of_le this (Nat.pow_le_pow_right (n:=256) (by decide) (show 2≤268435456 by decide))
 exact⟨⟨key _ hx,key _ hy,key _ hz,key 1 (by decide)⟩⟩
theorem c6e:TrB [] (-1) (.lf true):=⟨⟨rfl,.refl _⟩,by simp,by decide,by simp⟩
set_option maxRecDepth 20000 in
theorem c36  : CallOK prog 36 [] [] (.lit (.bool true)) []:=by
 refine zs func36 44 [.tmp 0] results36 ?_
 simp only[aD,Ai]
 have hml:maxLen=9223372036854775807:=rfl
 have hT:TrB (iI upP) (iJ upP) (fJ upP):=c1p c4c ⟨⟨by rw[dY];decide,by rw[dY];decide,(cO _ _).2 (by decide),by rw[dY];decide⟩⟩
 have h46:CallOK prog 46 [.agg [.lit (.bool false),.lit (.string ⟨#[]⟩),.lit (.bool false),.lit (.string ⟨#[]⟩),.lit (.bool (Zn 1)),.lit (.string (Zm 1)),.lit (.bool false),.lit (.string ⟨#[]⟩)]] [] (.agg (eTr (iJ upP) (iI upP))) []:=by
  have:=c46 upP ⟨⟨by rw[dY];decide,by rw[dY];decide,Al ((cO _ _).2 (show (1:Int).natAbs<256 ^ 1 by decide)) (by decide),by rw[dY];decide⟩⟩
  simp only[eH,e4,upP,lI,dY]at this
  exact this
 have p1:=c99 0 0 (-1) (by decide) (by decide) (by decide)
 have p2:=c99 0 0 0 (by decide) (by decide) (by decide)
 have p3:=c99 0 0 1 (by decide) (by decide) (by decide)
 have p4:=c99 0 0 (-1000) (by decide) (by decide) (by decide)
 have q1:=c42 (iJ upP) (iI upP) (fJ upP) hT ⟨0,0,-1,1⟩ (uJ (by decide) (by decide) (by decide))
 rw[show iP (fJ upP) ⟨0,0,-1,1⟩=1 from by decide +kernel]at q1
 have q2:=c42 (iJ upP) (iI upP) (fJ upP) hT ⟨0,0,0,1⟩ (uJ (by decide) (by decide) (by decide))
 rw[show iP (fJ upP) ⟨0,0,0,1⟩=0 from by decide +kernel]at q2
 have q3:=c42 (iJ upP) (iI upP) (fJ upP) hT ⟨0,0,1,1⟩ (uJ (by decide) (by decide) (by decide))
 rw[show iP (fJ upP) ⟨0,0,1,1⟩=-1 from by decide +kernel]at q3
 have q4:=c42 (iJ upP) (iI upP) (fJ upP) hT ⟨0,0,-1000,1⟩ (uJ (by decide) (by decide) (by decide))
 rw[show iP (fJ upP) ⟨0,0,-1000,1⟩=0 from by decide +kernel]at q4
 have q5:=c42 (-1) [] (.lf true) c6e ⟨0,0,1,1⟩ (uJ (by decide) (by decide) (by decide))
 rw[show iP (.lf true) ⟨0,0,1,1⟩=1 from by decide +kernel]at q5
 have h38:=c38b (iJ upP) (iI upP) (fJ upP) hT
 rw[if_pos (b7c upP)]at h38
 have h52:=c52 (iJ upP) (iI upP) (fJ upP) hT
 have hcl:(cL ((fJ upP).cells aN)).length=1:=by
  rw[xP,BT.cells_len];decide +kernel
 clear hT
 generalize (fJ upP).cells aN=L at *
 generalize fJ upP=T at *
 generalize iJ upP=K at *
 generalize iI upP=NN at *
 have zh0:=uT
 have zh1:=c49
 exact z1
set_option maxRecDepth 20000 in
theorem d0m (k:Int) (N:List RN) (h:¬ qK N):CallOK prog 40 [.agg (b5 k N)] [] (.lit (.bool false)) []:=by
 refine zs func40 11 [.tmp 2] results40 ?_
 simp only[aD,Ai]
 have cg:CallOK prog 37 [.agg (b5 k N)] [] (.lit (.int .i64 1)) []:=by
  by_cases hn:N.length≤14
  ·have:=c37 k N hn false ⟨fun h=>(An h).elim,fun hb=>absurd ⟨hn,hb⟩ h⟩
   rw[if_neg (by decide)]at this
   exact this
  ·exact b0l k N (by omega)
 have cc:True:=trivial
 clear h
 exact z1
theorem a6q (k:Int) (N:List RN) (h:qK N):CallOK prog 37 [.agg (b5 k N)] [] (.lit (.int .i64 0)) []:=by
 have:=c37 k N h.1 true ⟨fun _=>h.2,fun _=>rfl⟩
 rw[if_pos rfl]at this
 exact this
theorem c6v (k:Int) (N:List RN) (h:¬ qK N):CallOK prog 37 [.agg (b5 k N)] [] (.lit (.int .i64 1)) []:=by
 by_cases hn:N.length≤14
 ·have:=c37 k N hn false ⟨fun h=>(An h).elim,fun hb=>absurd ⟨hn,hb⟩ h⟩
  rw[if_neg (by decide)]at this
  exact this
 ·exact b0l k N (by omega)
set_option maxRecDepth 20000 in
theorem c40s (es:List (List AV)) (k v:Int) (b:Bool) (he:∀ e∈es,∀ c∈e,In (fun _=>False) c) (hb:(v=0)=(b=true)) (cg:CallOK prog 37 [.agg [.lit (.int .i64 k),.sl es]] [] (.lit (.int .i64 0)) []) (cc:CallOK prog 39 [.agg [.lit (.int .i64 k),.sl es]] [] (.lit (.int .i64 v)) []):CallOK prog 40 [.agg [.lit (.int .i64 k),.sl es]] [] (.lit (.bool b)) []:=by
 refine zs func40 11 [.tmp 2] results40 ?_
 simp only[aD,Ai]
 replace he:=eq_true he
 cases b
 ·have hb:(v=0)=False:=by rw[hb];simp
  repeat'(first|refine zk ?_|(refine zu ?_ ?_<;>intro hc)|(refine zp cg (by simp -dsimp (disch:=try exact zo)only[go_sem,he]) (.lit _) ?_)|(refine zp cc (by simp -dsimp (disch:=try exact zo)only[go_sem,he]) (.lit _) ?_)|(refine zv ?_ ?_<;>intro hg)|omega|simp -dsimp (disch:=try exact zo)only[go_sem,he,hb]|contradiction|rfl)
 ·have hb:(v=0)=True:=by rw[hb];simp
  repeat'(first|refine zk ?_|(refine zu ?_ ?_<;>intro hc)|(refine zp cg (by simp -dsimp (disch:=try exact zo)only[go_sem,he]) (.lit _) ?_)|(refine zp cc (by simp -dsimp (disch:=try exact zo)only[go_sem,he]) (.lit _) ?_)|(refine zv ?_ ?_<;>intro hg)|omega|simp -dsimp (disch:=try exact zo)only[go_sem,he,hb]|contradiction|rfl)
theorem b4t (k:Int) (N:List RN):CallOK prog 40 [.agg (b5 k N)] [] (.lit (.bool false)) []∨∃ N' T,TrB N' k T∧T.chk aN=true∧eRT N=eTS N'∧CallOK prog 40 [.agg (eTr k N')] [] (.lit (.bool true)) []:=by
 by_cases hs:qK N
 ·have cg:=a6q k N hs
  by_cases hb:bV (bZ N) [k] []∧iR N
  ·obtain⟨T,h1,h2⟩:=a5i hs.1 (tC hs) hb
   have cc:=c39t h1
   rw[show b5 k N=eTr k (bZ N) by rw[b5,h2]]at cg
   have:=c40s (eTS (bZ N)) k _ (T.chk aN) (of_eq_true (uF _)) (by cases T.chk aN<;>simp) cg cc
   cases hc:T.chk aN
   ·rw[hc]at this
    left
    rw[show b5 k N=eTr k (bZ N) by rw[b5,h2]]
    exact this
   ·rw[hc]at this
    exact .inr ⟨bZ N,T,h1,hc,h2,this⟩
  ·exact .inl (c40s (eRT N) k 3 false (of_eq_true (a1m _)) (by simp) cg (c39x k N hs.1 (tC hs) hb))
 ·exact .inl (d0m k N hs)
set_option maxRecDepth 20000 in
theorem c7big (k:Int) (N:List RN) (cg:CallOK prog 37 [.agg (b5 k N)] [] (.lit (.int .i64 1)) []):CallOK prog 7 [.agg (b5 k N)] [] (.lit (.bool true)) []:=by
 refine zs func7 15 [.tmp 2] results7 ?_
 simp only[aD,Ai]
 have c3:True:=trivial
 have cc:True:=trivial
 have zh0:=c36
 exact z1
set_option maxRecDepth 20000 in
theorem c7s (es:List (List AV)) (k v:Int) (he:∀ e∈es,∀ c∈e,In (fun _=>False) c) (cg:CallOK prog 37 [.agg [.lit (.int .i64 k),.sl es]] [] (.lit (.int .i64 0)) []) (c3:CallOK prog 38 [.agg [.lit (.int .i64 k),.sl es]] [] (.lit (.int .i64 v)) []) (cc:CallOK prog 39 [.agg [.lit (.int .i64 k),.sl es]] [] (.lit (.int .i64 v)) []):CallOK prog 7 [.agg [.lit (.int .i64 k),.sl es]] [] (.lit (.bool true)) []:=by
 refine zs func7 15 [.tmp 2] results7 ?_
 simp only[aD,Ai]
 replace he:=eq_true he
 repeat'(first|refine zk ?_|(refine zu ?_ ?_<;>intro hc)|(refine zf c36 ?_)|(refine zp cg (by simp -dsimp (disch:=try exact zo)only[go_sem,he]) (.lit _) ?_)|(refine zp c3 (by simp -dsimp (disch:=try exact zo)only[go_sem,he]) (.lit _) ?_)|(refine zp cc (by simp -dsimp (disch:=try exact zo)only[go_sem,he]) (.lit _) ?_)|(refine zv ?_ ?_<;>intro hg)|omega|simp -dsimp (disch:=try exact zo)only[go_sem,he]|contradiction|rfl)
theorem call7 (k:Int) (N:List RN):CallOK prog 7 [.agg (b5 k N)] [] (.lit (.bool true)) []:=by
 by_cases hs:qK N
 ·have cg:=a6q k N hs
  by_cases hb:bV (bZ N) [k] []∧iR N
  ·obtain⟨T,h1,h2⟩:=a5i hs.1 (tC hs) hb
   rw[show b5 k N=eTr k (bZ N) by rw[b5,h2]]at cg ⊢
   exact c7s (eTS (bZ N)) k _ (of_eq_true (uF _)) cg (c38b k (bZ N) T h1) (c39t h1)
  ·exact c7s (eRT N) k 3 (of_eq_true (a1m _)) cg (c38a k N hs.1 (tC hs) hb) (c39x k N hs.1 (tC hs) hb)
 ·exact c7big k N (c6v k N hs)
end Go.Proofs.Vx
