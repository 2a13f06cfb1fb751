import Derived.Test.YtjlfgmhmalbiiaaGreatDoorV14
set_option linter.all false
set_option maxHeartbeats 8000000
namespace Go.Proofs.Vx
open Go Go.Sx Go.Proofs Tryz
attribute [local irreducible] fnT CallOK CallFr AW aO callV aP aN aM aQ gcaseP hid
theorem b5t:arT prog 112=none∧slT prog 112=some (24,2)∧bM prog 112=false:=by and_intros<;>kernel_rfl
attribute [go_sem] b5t
theorem qI (a b:ByteArray) (ha:a.size<274877906944) (hb:b.size<274877906944) (h:nv b≠0):CallOK prog 191 [.lit (.string a),.lit (.string b)] [] (.tup [.lit (.string (nb (nv a / nv b))),.lit (.string (nb (nv a % nv b))),.lit (.bool true)]) []:=by
 have:=c191 a b ha hb
 rwa [if_neg h,decide_eq_true h]at this
theorem c191f (a b:ByteArray) (ha:a.size<274877906944) (hb:b.size<274877906944) (h:nv b=0):CallOK prog 191 [.lit (.string a),.lit (.string b)] [] (.tup [.lit (.string ⟨#[]⟩),.lit (.string ⟨#[]⟩),.lit (.bool false)]) []:=by
 have:=c191 a b ha hb
 rwa [if_pos h,h,Nat.div_zero,dG,decide_eq_false (by simp)]at this
theorem ed {x y q r:Int} (hy:y≠0) (h:r+y*q=x) (h0:0≤r) (h1:r<y.natAbs):x / y=q∧x % y=r:=by
 by_cases hp:0<y
 ·exact (Int.ediv_emod_unique hp).2 ⟨h,h0,by omega⟩
 ·have hn:0 < -y:=by omega
  have:=(Int.ediv_emod_unique (a:=x) (b:=-y) (r:=r) (q:=-q) hn).2 ⟨by rw[Int.neg_mul_neg];exact h,h0,by omega⟩
  rw[Int.ediv_neg,Int.emod_neg]at this
  exact⟨by omega,this.2⟩
theorem dm (A B:Nat) (hB:B≠0):((A % B:Nat):Int)+(B:Int)*((A / B:Nat):Int)=A∧((A % B:Nat):Int)<B:=by
 have h1:=Nat.mod_add_div A B
 have h2:=Nat.mod_lt A (Nat.pos_of_ne_zero hB)
 exact⟨by exact_mod_cast h1,by omega⟩
theorem dpp {x y:Int} (hx:0≤x) (hy:0<y):x / y=((x.natAbs / y.natAbs:Nat):Int)∧x % y=((x.natAbs % y.natAbs:Nat):Int):=by
 obtain⟨h1,h2⟩:=dm x.natAbs y.natAbs (by omega)
 exact ed (by omega) (by rw[show (y.natAbs:Int)=y by omega]at h1;omega) (by omega) h2
theorem dpn {x y:Int} (hx:0≤x) (hy:y<0):x / y=-((x.natAbs / y.natAbs:Nat):Int)∧x % y=((x.natAbs % y.natAbs:Nat):Int):=by
 obtain⟨h1,h2⟩:=dm x.natAbs y.natAbs (by omega)
 refine ed (by omega) ?_ (by omega) h2
 rw[show (y.natAbs:Int)=-y by omega,Int.neg_mul]at h1
 rw[Int.mul_neg];omega
theorem dnp0 {x y:Int} (hx:x<0) (hy:0<y) (h0:x.natAbs % y.natAbs=0):x / y=-((x.natAbs / y.natAbs:Nat):Int)∧x % y=((x.natAbs % y.natAbs:Nat):Int):=by
 obtain⟨h1,h2⟩:=dm x.natAbs y.natAbs (by omega)
 refine ed (by omega) ?_ (by omega) h2
 rw[h0]at h1 ⊢
 rw[show (y.natAbs:Int)=y by omega]at h1
 rw[Int.mul_neg];omega
theorem dnn0 {x y:Int} (hx:x<0) (hy:y<0) (h0:x.natAbs % y.natAbs=0):x / y=((x.natAbs / y.natAbs:Nat):Int)∧x % y=((x.natAbs % y.natAbs:Nat):Int):=by
 obtain⟨h1,h2⟩:=dm x.natAbs y.natAbs (by omega)
 refine ed (by omega) ?_ (by omega) h2
 rw[h0]at h1 ⊢
 rw[show (y.natAbs:Int)=-y by omega,Int.neg_mul]at h1
 omega
theorem dnp1 {x y:Int} (hx:x<0) (hy:0<y) (h0:x.natAbs % y.natAbs≠0):x / y=-((x.natAbs / y.natAbs+1:Nat):Int)∧x % y=((y.natAbs - x.natAbs % y.natAbs:Nat):Int):=by
 obtain⟨h1,h2⟩:=dm x.natAbs y.natAbs (by omega)
 have h3:((y.natAbs - x.natAbs % y.natAbs:Nat):Int)=y.natAbs - (x.natAbs % y.natAbs:Nat):=by omega
 refine ed (by omega) ?_ (by omega) (by omega)
 rw[h3]
 rw[show (y.natAbs:Int)=y by omega]at h1 ⊢
 rw[Int.natCast_add,Int.mul_neg,Int.mul_add];omega
theorem dnn1 {x y:Int} (hx:x<0) (hy:y<0) (h0:x.natAbs % y.natAbs≠0):x / y=((x.natAbs / y.natAbs+1:Nat):Int)∧x % y=((y.natAbs - x.natAbs % y.natAbs:Nat):Int):=by
 obtain⟨h1,h2⟩:=dm x.natAbs y.natAbs (by omega)
 have h3:((y.natAbs - x.natAbs % y.natAbs:Nat):Int)=y.natAbs - (x.natAbs % y.natAbs:Nat):=by omega
 refine ed (by omega) ?_ (by omega) (by omega)
 rw[h3]
 rw[show (y.natAbs:Int)=-y by omega,Int.neg_mul]at h1
 rw[show (y.natAbs:Int)=-y by omega,Int.natCast_add,Int.mul_add];omega
theorem c165 (n:Bool) (m:ByteArray) (n':Bool) (m':ByteArray) (hm:m.size<68719476736) (hm':m'.size<68719476736):CallOK prog 165 [.agg (eI n m),.agg (eI n' m')] [] (if iv n' m'=0 then .tup [.agg (eZ 0),.agg (eZ 0),.lit (.bool false)]else .tup [.agg (eZ (iv n m / iv n' m')),.agg (eZ (iv n m % iv n' m')),.lit (.bool true)]) []:=by
 refine CallOK.flat func165 rfl 53 rfl rfl (by split<;>rfl) [.cell 4 24,.cell 5 24,.tmp 6] (congrArg Array.toList results165) ?_
 simp only[aD,Nat.reduceAdd]
 have sx:=dL n m
 have sy:=dL n' m'
 generalize hx:iv n m=x at *
 generalize hy:iv n' m'=y at *
 by_cases hy0:y=0
 ·rw[if_pos hy0]
  have e0:eZ 0=[.lit (.bool false),.lit (.string ⟨#[]⟩)]:=by simp[eZ,Zn,Zm,dG]
  rw[e0]
  repeat'(first|refine zg ?_|(refine zc ?_ ?_<;>intro hc<;>try simp only[NM]at hc)|refine zr ?_|(first|refine callV.flat (.agg (eZ x)) bP (hx▸bN n m (by omega)) rfl rfl ?_|refine callV.flat (.agg (eZ y)) bP (hy▸bN n' m' (by omega)) rfl rfl ?_)|(refine zf (c191f (Zm x) (Zm y) (by omega) (by omega) (by rw[aT];omega)) ?_)|refine⟨by omega,?_⟩|(refine zb ?_ ?_<;>intro hg<;>(try rw[hg])<;>try simp only[NM]at hg)|omega|simp -dsimp (disch:=try exact zo)only[go_sem]|contradiction|rfl)
 ·rw[if_neg hy0]
  have s1:(nb 1).size≤1:=(cD _ _).2 (by decide)
  have s2:(nb (nv (Zm x) / nv (Zm y))).size≤(Zm x).size:=(cD _ _).2 (Nat.lt_of_le_of_lt (Nat.div_le_self _ _) (eO _))
  have s3:(nb (nv (Zm x) % nv (Zm y))).size≤(Zm x).size:=(cD _ _).2 (Nat.lt_of_le_of_lt (Nat.mod_le _ _) (eO _))
  have s4:(nb (nv (Zm y))).size≤(Zm y).size:=(cD _ _).2 (eO _)
  by_cases hxs:x<0
  ·by_cases hr0:x.natAbs % y.natAbs=0
   ·by_cases hys:y<0
    ·have hzx:Zn x=true:=nM hxs
     have hzy:Zn y=true:=nM hys
     have d:=dnn0 hxs hys hr0
     have hr:(nb (nv (Zm x) % nv (Zm y))=⟨#[]⟩)=True:=eq_true ((fO _).2 (by rw[aT,aT];exact hr0))
     repeat'(first|refine zg ?_|(refine zc ?_ ?_<;>intro hc<;>try simp only[NM]at hc)|refine zr ?_|(first|refine callV.flat (.agg (eZ x)) bP (hx▸bN n m (by omega)) rfl rfl ?_|refine callV.flat (.agg (eZ y)) bP (hy▸bN n' m' (by omega)) rfl rfl ?_)|(refine zf (qI (Zm x) (Zm y) (by omega) (by omega) (by rw[aT];omega)) ?_)|(refine zf (eY (Zm y) (by omega)) ?_)|(refine callV.flat (.lit (.string (nb 1))) kK (j5 1 (by omega)) rfl rfl ?_)|(refine zf (lI (nb (nv (Zm x) / nv (Zm y))) (nb 1) (by omega) (by omega)) ?_)|(refine zf (kY (nb (nv (Zm y))) (nb (nv (Zm x) % nv (Zm y))) (by omega) (by omega) (by rw[aZ,aZ];exact Nat.le_of_lt (Nat.mod_lt _ (by rw[aT];omega)))) ?_)|(first|refine callV.flat (.agg (eZ (x / y))) cC (cF _ _ _ (by simp only[reduceIte,Bool.false_eq_true,aZ,aT];first|exact d.1|exact d.2)) rfl rfl ?_|refine callV.flat (.agg (eZ (x % y))) cC (cF _ _ _ (by simp only[reduceIte,Bool.false_eq_true,aZ,aT];first|exact d.1|exact d.2)) rfl rfl ?_)|refine⟨by omega,?_⟩|(refine zb ?_ ?_<;>intro hg<;>(try rw[hg])<;>try simp only[NM]at hg)|omega|simp -dsimp (disch:=try exact zo)only[go_sem,hzx,hzy,hr]|contradiction|rfl)
    ·have hys:0<y:=by omega
     have hzx:Zn x=true:=nM hxs
     have hzy:Zn y=false:=kH (Int.le_of_lt hys)
     have d:=dnp0 hxs hys hr0
     have hr:(nb (nv (Zm x) % nv (Zm y))=⟨#[]⟩)=True:=eq_true ((fO _).2 (by rw[aT,aT];exact hr0))
     repeat'(first|refine zg ?_|(refine zc ?_ ?_<;>intro hc<;>try simp only[NM]at hc)|refine zr ?_|(first|refine callV.flat (.agg (eZ x)) bP (hx▸bN n m (by omega)) rfl rfl ?_|refine callV.flat (.agg (eZ y)) bP (hy▸bN n' m' (by omega)) rfl rfl ?_)|(refine zf (qI (Zm x) (Zm y) (by omega) (by omega) (by rw[aT];omega)) ?_)|(refine zf (eY (Zm y) (by omega)) ?_)|(refine callV.flat (.lit (.string (nb 1))) kK (j5 1 (by omega)) rfl rfl ?_)|(refine zf (lI (nb (nv (Zm x) / nv (Zm y))) (nb 1) (by omega) (by omega)) ?_)|(refine zf (kY (nb (nv (Zm y))) (nb (nv (Zm x) % nv (Zm y))) (by omega) (by omega) (by rw[aZ,aZ];exact Nat.le_of_lt (Nat.mod_lt _ (by rw[aT];omega)))) ?_)|(first|refine callV.flat (.agg (eZ (x / y))) cC (cF _ _ _ (by simp only[reduceIte,Bool.false_eq_true,aZ,aT];first|exact d.1|exact d.2)) rfl rfl ?_|refine callV.flat (.agg (eZ (x % y))) cC (cF _ _ _ (by simp only[reduceIte,Bool.false_eq_true,aZ,aT];first|exact d.1|exact d.2)) rfl rfl ?_)|refine⟨by omega,?_⟩|(refine zb ?_ ?_<;>intro hg<;>(try rw[hg])<;>try simp only[NM]at hg)|omega|simp -dsimp (disch:=try exact zo)only[go_sem,hzx,hzy,hr]|contradiction|rfl)
   ·by_cases hys:y<0
    ·have hzx:Zn x=true:=nM hxs
     have hzy:Zn y=true:=nM hys
     have d:=dnn1 hxs hys hr0
     have hr:(nb (nv (Zm x) % nv (Zm y))=⟨#[]⟩)=False:=eq_false fun h=>hr0 (by have:=(fO _).1 h;rwa [aT,aT]at this)
     repeat'(first|refine zg ?_|(refine zc ?_ ?_<;>intro hc<;>try simp only[NM]at hc)|refine zr ?_|(first|refine callV.flat (.agg (eZ x)) bP (hx▸bN n m (by omega)) rfl rfl ?_|refine callV.flat (.agg (eZ y)) bP (hy▸bN n' m' (by omega)) rfl rfl ?_)|(refine zf (qI (Zm x) (Zm y) (by omega) (by omega) (by rw[aT];omega)) ?_)|(refine zf (eY (Zm y) (by omega)) ?_)|(refine callV.flat (.lit (.string (nb 1))) kK (j5 1 (by omega)) rfl rfl ?_)|(refine zf (lI (nb (nv (Zm x) / nv (Zm y))) (nb 1) (by omega) (by omega)) ?_)|(refine zf (kY (nb (nv (Zm y))) (nb (nv (Zm x) % nv (Zm y))) (by omega) (by omega) (by rw[aZ,aZ];exact Nat.le_of_lt (Nat.mod_lt _ (by rw[aT];omega)))) ?_)|(first|refine callV.flat (.agg (eZ (x / y))) cC (cF _ _ _ (by simp only[reduceIte,Bool.false_eq_true,aZ,aT];first|exact d.1|exact d.2)) rfl rfl ?_|refine callV.flat (.agg (eZ (x % y))) cC (cF _ _ _ (by simp only[reduceIte,Bool.false_eq_true,aZ,aT];first|exact d.1|exact d.2)) rfl rfl ?_)|refine⟨by omega,?_⟩|(refine zb ?_ ?_<;>intro hg<;>(try rw[hg])<;>try simp only[NM]at hg)|omega|simp -dsimp (disch:=try exact zo)only[go_sem,hzx,hzy,hr]|contradiction|rfl)
    ·have hys:0<y:=by omega
     have hzx:Zn x=true:=nM hxs
     have hzy:Zn y=false:=kH (Int.le_of_lt hys)
     have d:=dnp1 hxs hys hr0
     have hr:(nb (nv (Zm x) % nv (Zm y))=⟨#[]⟩)=False:=eq_false fun h=>hr0 (by have:=(fO _).1 h;rwa [aT,aT]at this)
     repeat'(first|refine zg ?_|(refine zc ?_ ?_<;>intro hc<;>try simp only[NM]at hc)|refine zr ?_|(first|refine callV.flat (.agg (eZ x)) bP (hx▸bN n m (by omega)) rfl rfl ?_|refine callV.flat (.agg (eZ y)) bP (hy▸bN n' m' (by omega)) rfl rfl ?_)|(refine zf (qI (Zm x) (Zm y) (by omega) (by omega) (by rw[aT];omega)) ?_)|(refine zf (eY (Zm y) (by omega)) ?_)|(refine callV.flat (.lit (.string (nb 1))) kK (j5 1 (by omega)) rfl rfl ?_)|(refine zf (lI (nb (nv (Zm x) / nv (Zm y))) (nb 1) (by omega) (by omega)) ?_)|(refine zf (kY (nb (nv (Zm y))) (nb (nv (Zm x) % nv (Zm y))) (by omega) (by omega) (by rw[aZ,aZ];exact Nat.le_of_lt (Nat.mod_lt _ (by rw[aT];omega)))) ?_)|(first|refine callV.flat (.agg (eZ (x / y))) cC (cF _ _ _ (by simp only[reduceIte,Bool.false_eq_true,aZ,aT];first|exact d.1|exact d.2)) rfl rfl ?_|refine callV.flat (.agg (eZ (x % y))) cC (cF _ _ _ (by simp only[reduceIte,Bool.false_eq_true,aZ,aT];first|exact d.1|exact d.2)) rfl rfl ?_)|refine⟨by omega,?_⟩|(refine zb ?_ ?_<;>intro hg<;>(try rw[hg])<;>try simp only[NM]at hg)|omega|simp -dsimp (disch:=try exact zo)only[go_sem,hzx,hzy,hr]|contradiction|rfl)
  ·have hxs:0≤x:=by omega
   by_cases hys:y<0
   ·have hzx:Zn x=false:=kH hxs
    have hzy:Zn y=true:=nM hys
    have d:=dpn hxs hys
    have hr:True:=trivial
    repeat'(first|refine zg ?_|(refine zc ?_ ?_<;>intro hc<;>try simp only[NM]at hc)|refine zr ?_|(first|refine callV.flat (.agg (eZ x)) bP (hx▸bN n m (by omega)) rfl rfl ?_|refine callV.flat (.agg (eZ y)) bP (hy▸bN n' m' (by omega)) rfl rfl ?_)|(refine zf (qI (Zm x) (Zm y) (by omega) (by omega) (by rw[aT];omega)) ?_)|(refine zf (eY (Zm y) (by omega)) ?_)|(refine callV.flat (.lit (.string (nb 1))) kK (j5 1 (by omega)) rfl rfl ?_)|(refine zf (lI (nb (nv (Zm x) / nv (Zm y))) (nb 1) (by omega) (by omega)) ?_)|(refine zf (kY (nb (nv (Zm y))) (nb (nv (Zm x) % nv (Zm y))) (by omega) (by omega) (by rw[aZ,aZ];exact Nat.le_of_lt (Nat.mod_lt _ (by rw[aT];omega)))) ?_)|(first|refine callV.flat (.agg (eZ (x / y))) cC (cF _ _ _ (by simp only[reduceIte,Bool.false_eq_true,aZ,aT];first|exact d.1|exact d.2)) rfl rfl ?_|refine callV.flat (.agg (eZ (x % y))) cC (cF _ _ _ (by simp only[reduceIte,Bool.false_eq_true,aZ,aT];first|exact d.1|exact d.2)) rfl rfl ?_)|refine⟨by omega,?_⟩|(refine zb ?_ ?_<;>intro hg<;>(try rw[hg])<;>try simp only[NM]at hg)|omega|simp -dsimp (disch:=try exact zo)only[go_sem,hzx,hzy,hr]|contradiction|rfl)
   ·have hys:0<y:=by omega
    have hzx:Zn x=false:=kH hxs
    have hzy:Zn y=false:=kH (Int.le_of_lt hys)
    have d:=dpp hxs hys
    have hr:True:=trivial
    repeat'(first|refine zg ?_|(refine zc ?_ ?_<;>intro hc<;>try simp only[NM]at hc)|refine zr ?_|(first|refine callV.flat (.agg (eZ x)) bP (hx▸bN n m (by omega)) rfl rfl ?_|refine callV.flat (.agg (eZ y)) bP (hy▸bN n' m' (by omega)) rfl rfl ?_)|(refine zf (qI (Zm x) (Zm y) (by omega) (by omega) (by rw[aT];omega)) ?_)|(refine zf (eY (Zm y) (by omega)) ?_)|(refine callV.flat (.lit (.string (nb 1))) kK (j5 1 (by omega)) rfl rfl ?_)|(refine zf (lI (nb (nv (Zm x) / nv (Zm y))) (nb 1) (by omega) (by omega)) ?_)|(refine zf (kY (nb (nv (Zm y))) (nb (nv (Zm x) % nv (Zm y))) (by omega) (by omega) (by rw[aZ,aZ];exact Nat.le_of_lt (Nat.mod_lt _ (by rw[aT];omega)))) ?_)|(first|refine callV.flat (.agg (eZ (x / y))) cC (cF _ _ _ (by simp only[reduceIte,Bool.false_eq_true,aZ,aT];first|exact d.1|exact d.2)) rfl rfl ?_|refine callV.flat (.agg (eZ (x % y))) cC (cF _ _ _ (by simp only[reduceIte,Bool.false_eq_true,aZ,aT];first|exact d.1|exact d.2)) rfl rfl ?_)|refine⟨by omega,?_⟩|(refine zb ?_ ?_<;>intro hg<;>(try rw[hg])<;>try simp only[NM]at hg)|omega|simp -dsimp (disch:=try exact zo)only[go_sem,hzx,hzy,hr]|contradiction|rfl)
theorem gI (a b:Int) (ha:(Zm a).size<68719476736) (hb:(Zm b).size<68719476736) (h:b≠0):CallOK prog 165 [.agg (eZ a),.agg (eZ b)] [] (.tup [.agg (eZ (a / b)),.agg (eZ (a % b)),.lit (.bool true)]) []:=by
 have:=c165 (Zn a) (Zm a) (Zn b) (Zm b) ha hb
 rwa [bB,bB,if_neg h]at this
abbrev RI:=Bool × ByteArray
def ris (l:List RI):List (List AV):=l.map fun p=>eI p.1 p.2
def iW (l:List RI):Nat:=l.foldl (fun g p=>Nat.gcd g (nv p.2)) 0
theorem xB (l:List RI):(ris l).length=l.length:=by simp[ris]
theorem b6j (l:List RI) (i:Nat) (h:i<l.length):(ris l).getD i []=eI (l.getD i (false,⟨#[]⟩)).1 (l.getD i (false,⟨#[]⟩)).2:=by
 simp[ris,List.getD_eq_getElem?_getD,h]
theorem a6u {K:Nat→Prop} (l:List RI):(∀ e∈ris l,∀ c∈e,In K c)=True:=by
 apply eq_true
 intro e he c hc
 obtain⟨p,_,rfl⟩:=List.mem_map.1 he
 simp only[zM,or_false]at hc
 rcases hc with rfl|rfl<;>exact .lit _
theorem b3v (l:List RI) (i:Nat) (h:i<l.length):iW (l.take (i+1))=Nat.gcd (iW (l.take i)) (nv (l.getD i (false,⟨#[]⟩)).2):=by
 unfold iW
 rw[List.take_add_one,List.foldl_append,List.getElem?_eq_getElem h]
 simp[List.getD_eq_getElem?_getD,h]
theorem c167 (l:List RI) (h:∀ p∈l,p.2.size<68719476736) (hn:l.length<1099511627776):CallOK prog 167 [.sl (ris l)] [] (.agg (eZ (iW l:Int))) []:=by
 refine zs func167 19 [.cell 2 24] results167 ?_
 simp only[aD,Nat.reduceAdd]
 repeat'(first|refine zg ?_|(refine zc ?_ ?_<;>intro hc<;>try simp only[NM]at hc)|refine zr ?_|refine⟨by omega,?_⟩|(refine zb ?_ ?_<;>intro hg<;>(try rw[hg])<;>try simp only[NM]at hg)|omega|simp -dsimp (disch:=try exact zo)only[go_sem,xB]|contradiction|rfl)
 refine AW.loop (fun z:{p:Nat × Nat // p.1≤l.length∧p.2=iW (l.take p.1)∧(nb p.2).size<68719476736}=>⟨[(8,.lit (.int .i64 z.1.1)),(7,.lit (.int .i64 l.length)),(6,.sl (ris l)),(3,.lit (.string (nb z.1.2))),(2,.loc 8 0)],[(8,.blk [.lit (.bool false),.lit (.string ⟨#[]⟩)])],20⟩) (fun z=>l.length - z.1.1) ⟨(0,0),Nat.zero_le _,rfl,by rw[tV];omega⟩ (aH (by refine⟨?_,?_,?_,?_⟩<;>simp -dsimp (disch:=try exact zo)only[go_sem,dG,a6u,ZC])) ?_
 rintro⟨⟨i,g⟩,hi,hg,hs⟩
 dsimp only at hi hg hs ⊢
 by_cases hlt:i<l.length
 ·have hp:=h (l.getD i (false,⟨#[]⟩)) (by rw[List.getD_eq_getElem?_getD,List.getElem?_eq_getElem hlt];exact List.getElem_mem _)
  have eg:=b6j l i hlt
  have hgs:(nb (Nat.gcd g (nv (l.getD i (false,⟨#[]⟩)).2))).size<68719476736:=by
   by_cases h0:g=0
   ·subst h0
    rw[Nat.gcd_zero_left]
    have:=dF (l.getD i (false,⟨#[]⟩)).2
    omega
   ·have:(nb (Nat.gcd g (nv (l.getD i (false,⟨#[]⟩)).2))).size≤(nb g).size:=(cD _ _).2 (Nat.lt_of_le_of_lt (Nat.le_of_dvd (by omega) (Nat.gcd_dvd_left _ _)) ((cD _ _).1 (Nat.le_refl _)))
    omega
  generalize hq:l.getD i (false,⟨#[]⟩)=q at *
  have hgt:=b3v l i hlt
  rw[hq,← hg]at hgt
  repeat'(first|refine zg ?_|(refine zc ?_ ?_<;>intro hc<;>try simp only[NM]at hc)|refine zr ?_|(refine zf (tN _ _ (by omega) (by omega)) ?_)|refine⟨by omega,?_⟩|(refine zb ?_ ?_<;>intro hg<;>(try rw[hg])<;>try simp only[NM]at hg)|omega|simp -dsimp (disch:=try exact zo)only[go_sem,xB,eg,aZ]|contradiction|rfl)
  all_goals exact AW.stop ⟨⟨(i+1,Nat.gcd g (nv q.2)),by dsimp only;omega,hgt.symm,hgs⟩,(aH (by refine⟨?_,?_,?_,?_⟩<;>simp -dsimp (disch:=try exact zo)only[go_sem,dG,a6u,ZC])),by dsimp only;omega⟩
 ·have hil:i=l.length:=by omega
  subst hil
  rw[List.take_length]at hg
  subst hg
  repeat'(first|refine zg ?_|(refine zc ?_ ?_<;>intro hc<;>try simp only[NM]at hc)|refine zr ?_|(refine callV.flat (.agg (eZ (iW l:Int))) cC (cF false (iW l) _ rfl) rfl rfl ?_)|refine⟨by omega,?_⟩|(refine zb ?_ ?_<;>intro hg<;>(try rw[hg])<;>try simp only[NM]at hg)|omega|simp -dsimp (disch:=try exact zo)only[go_sem,xB]|contradiction|rfl)
  all_goals skip
end Go.Proofs.Vx
namespace Go.Sx
set_option linter.unusedVariables false
def Qd (q:Rat):ByteArray:=if q.den=1 then ⟨#[]⟩else nb q.den
abbrev eQ (q:Rat):List AV:=[.lit (.bool (Zn q.num)),.lit (.string (Zm q.num)),.lit (.string (Qd q))]
theorem sT:nb 1=⟨#[1]⟩:=by
 unfold nb
 rw[pD (by decide),kE]
 rfl
theorem a2f (k:Nat):(nb k=⟨#[1]⟩)↔k=1:=by
 constructor
 ·intro h;rw[← sT]at h;exact pQ h
 ·rintro rfl;exact sT
theorem zH {n d:Int} (hd:d≠0):d.natAbs / Nat.gcd n.natAbs d.natAbs=(Rat.divInt n d).den:=by
 rw[Rat.den_divInt,if_neg hd]
 congr 1
 rw[Int.gcd,Nat.gcd_comm]
theorem vS {n d:Int} (hd:d≠0):n.natAbs / Nat.gcd n.natAbs d.natAbs=(Rat.divInt n d).num.natAbs:=by
 rw[Rat.num_divInt]
 have hg:(d.gcd n:Int)∣n:=Int.gcd_dvd_right ..
 have e:d.gcd n=Nat.gcd n.natAbs d.natAbs:=by rw[Int.gcd,Nat.gcd_comm]
 rw[← e]
 have h1:(d.gcd n:Int)∣d.sign*n:=Int.dvd_trans hg (Int.dvd_mul_left ..)
 rw[Int.natAbs_ediv_of_dvd h1,Int.natAbs_mul,Int.natAbs_sign_of_ne_zero hd,Nat.one_mul,Int.natAbs_natCast]
theorem a7d {n d:Int} (hn:n≠0) (hd:d≠0):(!decide (Zn n=Zn d))=Zn (Rat.divInt n d).num:=by
 rw[Rat.num_divInt]
 have hgp:0<d.gcd n:=Int.gcd_pos_of_ne_zero_left _ hd
 obtain⟨k,hk⟩:(d.gcd n:Int)∣n:=Int.gcd_dvd_right ..
 have e:d.sign*n / (d.gcd n:Int)=d.sign*k:=by
  have:d.sign*n=(d.gcd n:Int)*(d.sign*k):=by
   conv=>lhs;rw[hk]
   rw[Int.mul_left_comm]
  rw[this,Int.mul_ediv_cancel_left _ (by omega)]
 rw[e]
 have hkn:(n<0↔k<0):=by
  constructor
  ·intro h
   apply Int.not_le.1
   intro h2
   have:=Int.mul_nonneg (show (0:Int)≤(d.gcd n:Int) by omega) h2
   omega
  ·intro h
   have:=Int.mul_neg_of_pos_of_neg (show (0:Int)<(d.gcd n:Int) by omega) h
   omega
 have hk0:k≠0:=by intro h;rw[h]at hk;omega
 unfold Zn
 by_cases h1:n<0<;>by_cases h2:d<0
 ·rw[Int.sign_eq_neg_one_of_neg h2];simp[h1,h2];omega
 ·rw[Int.sign_eq_one_of_pos (by omega)];simp[h1,h2];omega
 ·rw[Int.sign_eq_neg_one_of_neg h2];simp[h1,h2];omega
 ·rw[Int.sign_eq_one_of_pos (by omega)];simp[h1,h2];omega
structure Qs (k:Nat) (q:Rat):Prop where
 num:(Zm q.num).size≤k
 den:(nb q.den).size≤k
theorem Qs.mono {k l:Nat} {q:Rat} (h:Qs k q) (hl:k≤l):Qs l q:=⟨Nat.le_trans h.num hl,Nat.le_trans h.den hl⟩
theorem Qs.divInt {n d:Int} {k:Nat} (hd:d≠0) (h1:(Zm n).size≤k) (h2:(Zm d).size≤k):Qs k (Rat.divInt n d):=by
 constructor
 ·refine Nat.le_trans (g9 ?_) h1
  rw[← vS hd];exact Nat.div_le_self _ _
 ·rw[cD]
  rw[← zH hd]
  exact Nat.lt_of_le_of_lt (Nat.div_le_self _ _) ((cI _ _).1 h2)
theorem jB (k:Nat):Zm (k:Int)=nb k:=c3e k
theorem a8d (a b:Rat):Rat.divInt (a.num*b.den+b.num*a.den) ((a.den:Int)*b.den)=a+b:=by
 rw[Rat.add_def',← Rat.divInt_ofNat];congr 1
theorem a8a (a b:Rat):Rat.divInt (a.num*b.num) ((a.den:Int)*b.den)=a*b:=by
 rw[Rat.mul_def',← Rat.divInt_ofNat];congr 1
theorem q_neg (a:Rat):Rat.divInt (-a.num) (a.den:Int)=-a:=by
 rw[← Rat.neg_divInt,Rat.num_divInt_den]
theorem a6z (a:Rat):Rat.divInt a.num (a.den:Int)=a:=Rat.num_divInt_den a
theorem a8c (a b:Rat):Rat.divInt (a.num*b.den) ((a.den:Int)*b.num)=a / b:=by
 rw[Rat.div_def,Rat.inv_def]
 conv=>rhs;lhs;rw[← Rat.num_divInt_den a]
 rw[Rat.divInt_mul_divInt]
theorem Qs.add {a b:Rat} {k l:Nat} (ha:Qs k a) (hb:Qs l b):Qs (k+l+1) (a+b):=by
 rw[← a8d]
 have hd:(a.den:Int)*b.den≠0:=by
  have:=Int.mul_pos (show (0:Int)<a.den by have:=a.den_nz;omega) (show (0:Int)<b.den by have:=b.den_nz;omega)
  omega
 refine Qs.divInt hd ?_ ?_
 ·have h1:=aR a.num b.den ha.num (by rw[jB];exact hb.den)
  have h2:=aR b.num a.den hb.num (by rw[jB];exact ha.den)
  exact gH _ _ h1 (by omega)
 ·have:=aR a.den b.den (by rw[jB];exact ha.den) (by rw[jB];exact hb.den)
  omega
theorem Qs.mul {a b:Rat} {k l:Nat} (ha:Qs k a) (hb:Qs l b):Qs (k+l) (a*b):=by
 rw[← a8a]
 have hd:(a.den:Int)*b.den≠0:=by
  have:=Int.mul_pos (show (0:Int)<a.den by have:=a.den_nz;omega) (show (0:Int)<b.den by have:=b.den_nz;omega)
  omega
 exact Qs.divInt hd (aR _ _ ha.num hb.num) (aR _ _ (by rw[jB];exact ha.den) (by rw[jB];exact hb.den))
theorem Qs.neg {a:Rat} {k:Nat} (ha:Qs k a):Qs k (-a):=⟨by rw[Rat.neg_num,iN];exact ha.num,ha.den⟩
theorem Qs.sub {a b:Rat} {k l:Nat} (ha:Qs k a) (hb:Qs l b):Qs (k+l+1) (a - b):=by
 rw[Rat.sub_eq_add_neg];exact ha.add hb.neg
theorem Qs.div {a b:Rat} {k l:Nat} (ha:Qs k a) (hb:Qs l b) (h0:b≠0):Qs (k+l) (a / b):=by
 rw[← a8c]
 have hb0:b.num≠0:=fun h=>h0 (Rat.num_eq_zero.1 h)
 have hd:(a.den:Int)*b.num≠0:=Int.mul_ne_zero (by have:=a.den_nz;omega) hb0
 exact Qs.divInt hd (aR _ _ ha.num (by rw[jB];exact hb.den)) (aR _ _ (by rw[jB];exact ha.den) hb.num)
theorem yU:eQ 0=[.lit (.bool false),.lit (.string ⟨#[]⟩),.lit (.string ⟨#[]⟩)]:=by simp[eQ,Zn,Zm,dG,Qd]
end Go.Sx
namespace Go.Proofs.Vx
open Go Go.Sx Go.Proofs Tryz
attribute [local irreducible] fnT CallOK CallFr AW aO callV aP aN aM aQ gcaseP hid
theorem b5s:agT prog 41=some true∧fdT prog 41 0=some (0,1,false)∧fdT prog 41 1=some (1,1,false)∧fdT prog 41 2=some (2,1,false)∧plT prog 41=some [(0,1),(1,1),(2,1)]∧szT prog 41=some 3∧zeT prog 41=some [.lit (.bool false),.lit (.string ⟨#[]⟩),.lit (.string ⟨#[]⟩)]∧zeT prog 9=some [.lit (.string ⟨#[]⟩)]:=by and_intros<;>kernel_rfl
attribute [go_sem] b5s
theorem a6f:fnT prog 81=true:=by kernel_rfl
theorem yfn_144:fnT prog 144=true:=by kernel_rfl
theorem vB:fnT prog 189=true:=by kernel_rfl
theorem l8:fnT prog 190=true:=by kernel_rfl
theorem a8b (z:Int):Rat.divInt z 1=(z:Rat):=by rw[show (1:Int)=((1:Nat):Int)from rfl,Rat.divInt_ofNat];exact Rat.mkRat_self (z:Rat)
theorem c6i (k:Nat):Zn (k:Int)=false:=kH (by omega)
theorem nT (k:Nat):eZ (k:Int)=[.lit (.bool false),.lit (.string (nb k))]:=by simp[eZ,c6i,jB]
theorem mV (m g:ByteArray) (hm:m.size<68719476736) (hg:g.size<68719476736):CallOK prog 190 [.lit (.string m),.fp [.lit (.string g)]] [] (.lit (.string (nb (nv m / nv g)))) []:=by
 refine zs func190 15 [.tmp 3] results190 ?_
 simp only[aD,Nat.reduceAdd]
 repeat'(first|refine zg ?_|(refine zc ?_ ?_<;>intro hc<;>try simp only[NM]at hc)|refine zr ?_|(refine zf (c191 m g (by omega) (by omega)) ?_)|refine⟨by omega,?_⟩|(refine zb ?_ ?_<;>intro hg<;>(try rw[hg])<;>try simp only[NM]at hg)|omega|simp -dsimp (disch:=try exact zo)only[go_sem]|contradiction|rfl)
theorem c144 (n d:Int) (hn:(Zm n).size<68719476736) (hd:(Zm d).size<68719476736):CallOK prog 144 [.agg (eZ n),.agg (eZ d)] [] (if d=0 then .tup [.agg (eQ 0),.lit (.bool false)]else .tup [.agg (eQ (Rat.divInt n d)),.lit (.bool true)]) []:=by
 refine CallOK.flat func144 rfl 42 rfl rfl (by split<;>rfl) [.cell 4 41,.tmp 5] (congrArg Array.toList results144) ?_
 simp only[aD,Nat.reduceAdd]
 by_cases h0:d=0
 ·rw[if_pos h0,yU]
  have hs1:(sg d=0)=True:=eq_true (fT.2 h0)
  have hs2:True:=trivial
  have hd1:True:=trivial
  have e3:True:=trivial
  repeat'(first|refine zg ?_|(refine zc ?_ ?_<;>intro hc<;>try simp only[NM]at hc)|refine zr ?_|(first|refine zf (fK d (by omega)) ?_|refine zf (fK n (by omega)) ?_)|(refine callV.flat (.lit (.string (nb G))) vB (hG▸tN (Zm n) (Zm d) (by omega) (by omega)) rfl rfl ?_)|(first|refine dB (.lit (.string (Zm (Rat.divInt n d).num))) l8 (by simp -dsimp (disch:=try exact zo)only[go_sem];exact e1▸mV (Zm n) (nb G) (by omega) (by omega)) (by simp -dsimp (disch:=try exact zo)only[go_sem]) (.lit _) ?_|refine dB (.lit (.string (nb (Rat.divInt n d).den))) l8 (by simp -dsimp (disch:=try exact zo)only[go_sem];exact e2▸mV (Zm d) (nb G) (by omega) (by omega)) (by simp -dsimp (disch:=try exact zo)only[go_sem]) (.lit _) ?_)|refine⟨by omega,?_⟩|(refine zb ?_ ?_<;>intro hg<;>(try rw[hg])<;>try simp only[NM]at hg)|omega|simp -dsimp (disch:=try exact zo)only[go_sem,hs1,hs2,hd1,e3]|contradiction|rfl)
 ·rw[if_neg h0]
  have hs1:(sg d=0)=False:=eq_false fun h=>h0 (fT.1 h)
  by_cases hn0:n=0
  ·have e0:Rat.divInt n d=0:=by rw[hn0,Rat.zero_divInt]
   rw[e0,yU]
   have hs2:(sg n=0)=True:=eq_true (fT.2 hn0)
   have hd1:True:=trivial
   have e3:True:=trivial
   repeat'(first|refine zg ?_|(refine zc ?_ ?_<;>intro hc<;>try simp only[NM]at hc)|refine zr ?_|(first|refine zf (fK d (by omega)) ?_|refine zf (fK n (by omega)) ?_)|(refine callV.flat (.lit (.string (nb G))) vB (hG▸tN (Zm n) (Zm d) (by omega) (by omega)) rfl rfl ?_)|(first|refine dB (.lit (.string (Zm (Rat.divInt n d).num))) l8 (by simp -dsimp (disch:=try exact zo)only[go_sem];exact e1▸mV (Zm n) (nb G) (by omega) (by omega)) (by simp -dsimp (disch:=try exact zo)only[go_sem]) (.lit _) ?_|refine dB (.lit (.string (nb (Rat.divInt n d).den))) l8 (by simp -dsimp (disch:=try exact zo)only[go_sem];exact e2▸mV (Zm d) (nb G) (by omega) (by omega)) (by simp -dsimp (disch:=try exact zo)only[go_sem]) (.lit _) ?_)|refine⟨by omega,?_⟩|(refine zb ?_ ?_<;>intro hg<;>(try rw[hg])<;>try simp only[NM]at hg)|omega|simp -dsimp (disch:=try exact zo)only[go_sem,hs1,hs2,hd1,e3]|contradiction|rfl)
  ·have hs2:(sg n=0)=False:=eq_false fun h=>hn0 (fT.1 h)
   generalize hG:Nat.gcd (nv (Zm n)) (nv (Zm d))=G
   have hGp:(nb G).size≤(Zm n).size:=by
    rw[cD]
    rw[aT,aT]at hG
    have:=rG n
    have h2:G≤n.natAbs:=by rw[← hG];exact Nat.le_of_dvd (by omega) (Nat.gcd_dvd_left _ _)
    omega
   have e1:nb (nv (Zm n) / nv (nb G))=Zm (Rat.divInt n d).num:=by
    rw[aZ,← hG,aT,aT,vS h0];rfl
   have e2:nb (nv (Zm d) / nv (nb G))=nb (Rat.divInt n d).den:=by
    rw[aZ,← hG,aT,aT,zH h0]
   have e3:(!(Zn n == Zn d))=Zn (Rat.divInt n d).num:=by have:=a7d hn0 h0;rwa [← Bool.beq_eq_decide_eq]at this
   by_cases h1:(Rat.divInt n d).den=1
   ·have hd1:(nb (Rat.divInt n d).den=⟨#[1]⟩)=True:=eq_true ((a2f _).2 h1)
    have hq:eQ (Rat.divInt n d)=[.lit (.bool (Zn (Rat.divInt n d).num)),.lit (.string (Zm (Rat.divInt n d).num)),.lit (.string (⟨#[]⟩))]:=by show [_,_,_]=_;rw[show Qd (Rat.divInt n d)=⟨#[]⟩from if_pos h1]
    rw[hq]
    repeat'(first|refine zg ?_|(refine zc ?_ ?_<;>intro hc<;>try simp only[NM]at hc)|refine zr ?_|(first|refine zf (fK d (by omega)) ?_|refine zf (fK n (by omega)) ?_)|(refine callV.flat (.lit (.string (nb G))) vB (hG▸tN (Zm n) (Zm d) (by omega) (by omega)) rfl rfl ?_)|(first|refine dB (.lit (.string (Zm (Rat.divInt n d).num))) l8 (by simp -dsimp (disch:=try exact zo)only[go_sem];exact e1▸mV (Zm n) (nb G) (by omega) (by omega)) (by simp -dsimp (disch:=try exact zo)only[go_sem]) (.lit _) ?_|refine dB (.lit (.string (nb (Rat.divInt n d).den))) l8 (by simp -dsimp (disch:=try exact zo)only[go_sem];exact e2▸mV (Zm d) (nb G) (by omega) (by omega)) (by simp -dsimp (disch:=try exact zo)only[go_sem]) (.lit _) ?_)|refine⟨by omega,?_⟩|(refine zb ?_ ?_<;>intro hg<;>(try rw[hg])<;>try simp only[NM]at hg)|omega|simp -dsimp (disch:=try exact zo)only[go_sem,hs1,hs2,hd1,e3]|contradiction|rfl)
   ·have hd1:(nb (Rat.divInt n d).den=⟨#[1]⟩)=False:=eq_false fun h=>h1 ((a2f _).1 h)
    have hq:eQ (Rat.divInt n d)=[.lit (.bool (Zn (Rat.divInt n d).num)),.lit (.string (Zm (Rat.divInt n d).num)),.lit (.string (nb (Rat.divInt n d).den))]:=by show [_,_,_]=_;rw[show Qd (Rat.divInt n d)=nb (Rat.divInt n d).den from if_neg h1]
    rw[hq]
    repeat'(first|refine zg ?_|(refine zc ?_ ?_<;>intro hc<;>try simp only[NM]at hc)|refine zr ?_|(first|refine zf (fK d (by omega)) ?_|refine zf (fK n (by omega)) ?_)|(refine callV.flat (.lit (.string (nb G))) vB (hG▸tN (Zm n) (Zm d) (by omega) (by omega)) rfl rfl ?_)|(first|refine dB (.lit (.string (Zm (Rat.divInt n d).num))) l8 (by simp -dsimp (disch:=try exact zo)only[go_sem];exact e1▸mV (Zm n) (nb G) (by omega) (by omega)) (by simp -dsimp (disch:=try exact zo)only[go_sem]) (.lit _) ?_|refine dB (.lit (.string (nb (Rat.divInt n d).den))) l8 (by simp -dsimp (disch:=try exact zo)only[go_sem];exact e2▸mV (Zm d) (nb G) (by omega) (by omega)) (by simp -dsimp (disch:=try exact zo)only[go_sem]) (.lit _) ?_)|refine⟨by omega,?_⟩|(refine zb ?_ ?_<;>intro hg<;>(try rw[hg])<;>try simp only[NM]at hg)|omega|simp -dsimp (disch:=try exact zo)only[go_sem,hs1,hs2,hd1,e3]|contradiction|rfl)
theorem wG (n d:Int) (hn:(Zm n).size<68719476736) (hd:(Zm d).size<68719476736) (h:d≠0):CallOK prog 144 [.agg (eZ n),.agg (eZ d)] [] (.tup [.agg (eQ (Rat.divInt n d)),.lit (.bool true)]) []:=by
 have:=c144 n d hn hd
 rwa [if_neg h]at this
theorem c75 (q:Rat) (h:Qs 68719476735 q):CallOK prog 75 [.agg (eQ q)] [] (.tup [.agg (eZ q.num),.agg (eZ (q.den:Int))]) []:=by
 refine zs func75 20 [.cell 2 24,.cell 3 24] results75 ?_
 simp only[aD,Nat.reduceAdd]
 have h1:=h.num
 have h2:=h.den
 rw[nT]
 have e142:iv (Zn q.num) (Zm q.num)=q.num:=bB _
 by_cases hd:q.den=1
 ·have hq:Qd q=⟨#[]⟩:=if_pos hd
  have e:nb (nv (Qd q))=⟨#[]⟩:=by rw[hq,← dG,aZ]
  have e67:eZ 1=[.lit (.bool false),.lit (.string (nb q.den))]:=by rw[hd];simp[eZ,Zn,Zm]
  have eT:True:=trivial
  have qs:(Qd q).size=0:=by rw[hq];rfl
  repeat'(first|refine zg ?_|(refine zc ?_ ?_<;>intro hc<;>try simp only[NM]at hc)|refine zr ?_|(refine zf (e▸eY (Qd q) (by omega)) ?_)|(refine zf (e67▸c67 1 (by omega)) ?_)|(refine callV.flat (.agg (eZ q.num)) bP (a8x q.num (by omega)) rfl rfl ?_)|refine⟨by omega,?_⟩|(refine zb ?_ ?_<;>intro hg<;>(try rw[hg])<;>try simp only[NM]at hg)|omega|simp -dsimp (disch:=try exact zo)only[go_sem,eT]|contradiction|rfl)
 ·have hq:Qd q=nb q.den:=if_neg hd
  have e:nb (nv (Qd q))=nb q.den:=by rw[hq,aZ]
  have eT:(nb q.den=⟨#[]⟩)=False:=eq_false fun h=>q.den_nz ((fO _).1 h)
  have qs:(Qd q).size≤68719476735:=by rw[hq];exact h2
  have e67:True:=trivial
  repeat'(first|refine zg ?_|(refine zc ?_ ?_<;>intro hc<;>try simp only[NM]at hc)|refine zr ?_|(refine zf (e▸eY (Qd q) (by omega)) ?_)|(refine zf (e67▸c67 1 (by omega)) ?_)|(refine callV.flat (.agg (eZ q.num)) bP (a8x q.num (by omega)) rfl rfl ?_)|refine⟨by omega,?_⟩|(refine zb ?_ ?_<;>intro hg<;>(try rw[hg])<;>try simp only[NM]at hg)|omega|simp -dsimp (disch:=try exact zo)only[go_sem,eT]|contradiction|rfl)
theorem c81 (n d:Int) (hn:(Zm n).size<68719476736) (hd:(Zm d).size<68719476736) (h:d≠0):CallOK prog 81 [.agg (eZ n),.agg (eZ d)] [] (.agg (eQ (Rat.divInt n d))) []:=by
 refine zs func81 14 [.cell 4 41] results81 ?_
 simp only[aD,Nat.reduceAdd]
 repeat'(first|refine zg ?_|(refine zc ?_ ?_<;>intro hc<;>try simp only[NM]at hc)|refine zr ?_|(refine zf (wG (n) (d) (by omega) (by omega) h) ?_)|refine⟨by omega,?_⟩|(refine zb ?_ ?_<;>intro hg<;>(try rw[hg])<;>try simp only[NM]at hg)|omega|simp -dsimp (disch:=try exact zo)only[go_sem]|contradiction|rfl)
theorem fW (q:Rat):(q.den:Int)≠0:=by have:=q.den_nz;omega
theorem a5u (a b:Rat):(a.den:Int)*(b.den:Int)≠0:=Int.mul_ne_zero (fW a) (fW b)
theorem _root_.Go.Sx.Qs.den' {k:Nat} {q:Rat} (h:Qs k q):(Zm (q.den:Int)).size≤k:=by rw[jB];exact h.den
theorem c215 (a:Rat) (hsa:Qs 68719476735 a):CallOK prog 215 [.agg (eQ a)] [] (.agg (eQ a)) []:=by
 refine zs func215 8 [.cell 2 41] results215 ?_
 simp only[aD,Nat.reduceAdd]
 have s1:=hsa.num
 have s2:=hsa.den'
 repeat'(first|refine zg ?_|(refine zc ?_ ?_<;>intro hc<;>try simp only[NM]at hc)|refine zr ?_|(first|refine zf (c75 a (by first|exact hsa|exact Qs.mono hsa (by omega))) ?_)|(refine callV.flat (.agg (eQ a)) a6f (by have:=c81 a.num (a.den:Int) (by omega) (by omega) (fW a);rw[a6z]at this;exact this) rfl rfl ?_)|refine⟨by omega,?_⟩|(refine zb ?_ ?_<;>intro hg<;>(try rw[hg])<;>try simp only[NM]at hg)|omega|simp -dsimp (disch:=try exact zo)only[go_sem]|contradiction|rfl)
theorem c164 (a:Rat) (hsa:Qs 68719476735 a):CallOK prog 164 [.agg (eQ a)] [] (.tup [.agg (eZ a.num),.agg (eZ (a.den:Int))]) []:=by
 refine zs func164 9 [.cell 2 24,.cell 3 24] results164 ?_
 simp only[aD,Nat.reduceAdd]
 repeat'(first|refine zg ?_|(refine zc ?_ ?_<;>intro hc<;>try simp only[NM]at hc)|refine zr ?_|(refine zf (c215 a hsa) ?_)|(first|refine zf (c75 a (by first|exact hsa|exact Qs.mono hsa (by omega))) ?_)|refine⟨by omega,?_⟩|(refine zb ?_ ?_<;>intro hg<;>(try rw[hg])<;>try simp only[NM]at hg)|omega|simp -dsimp (disch:=try exact zo)only[go_sem]|contradiction|rfl)
theorem c68 (z:Int) (h:-9223372036854775808≤z∧z<9223372036854775808):CallOK prog 68 [.lit (.int .i64 z)] [] (.agg (eQ (z:Rat))) []:=by
 refine zs func68 7 [.cell 2 41] results68 ?_
 simp only[aD,Nat.reduceAdd]
 have s1:(Zm z).size≤8:=by rw[cI];omega
 have s2:(Zm 1).size≤8:=by rw[cI];decide
 repeat'(first|refine zg ?_|(refine zc ?_ ?_<;>intro hc<;>try simp only[NM]at hc)|refine zr ?_|(first|refine zf (c67 z (by omega)) ?_|refine zf (c67 1 (by omega)) ?_)|(refine callV.flat (.agg (eQ ((z:Rat)))) a6f (a8b z▸c81 (z) (1) (by omega) (by omega) (by omega)) rfl rfl ?_)|refine⟨by omega,?_⟩|(refine zb ?_ ?_<;>intro hg<;>(try rw[hg])<;>try simp only[NM]at hg)|omega|simp -dsimp (disch:=try exact zo)only[go_sem]|contradiction|rfl)
end Go.Proofs.Vx
