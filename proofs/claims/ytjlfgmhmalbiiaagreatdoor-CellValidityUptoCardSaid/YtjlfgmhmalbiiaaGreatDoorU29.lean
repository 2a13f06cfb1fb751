import Derived.Test.YtjlfgmhmalbiiaaGreatDoorProg
import Derived.Test.YtjlfgmhmalbiiaaGreatDoorU11
import Derived.Test.YtjlfgmhmalbiiaaGreatDoorU17
import Derived.Test.YtjlfgmhmalbiiaaGreatDoorU28
set_option linter.all false
namespace Go.Proofs.Vx
open Go Go.Sx Go.Proofs
attribute [local irreducible] fnT CallOK CallFr AW effV callV runP runO oneP oneO gcaseP hid
theorem yqq_Nx40:arT Tryz.prog 209=none∧szT Tryz.prog 5=some 1:=by and_intros<;>kernel_rfl
attribute [go_sem] yqq_Nx40
theorem yfn_155:fnT Tryz.prog 155=true:=by kernel_rfl
theorem yfn_156:fnT Tryz.prog 156=true:=by kernel_rfl
set_option maxHeartbeats 8000000 in
theorem c208 (a:ByteArray) (n:Int) (hn:0≤n∧n<256) (ha:a.size<1099511627776):CallOK Tryz.prog 208 [.lit (.string a),.lit (.int .i64 n)] [] (.lit (.string (nb (nv a*n.toNat)))) []:=by
 refine CallOK.flat Tryz.func208 rfl 11 rfl rfl rfl [.tmp 4] (congrArg Array.toList Tryz.results208) ?_
 simp only[startT,Nat.reduceAdd]
 have hml:maxLen=9223372036854775807:=rfl
 have wn:IntKind.u8.wrap n=n:=wrapu8 hn.1 hn.2
 have dn:Dig8 [n]:=fun x hx=>by
  obtain rfl:x=n:=by simpa using hx
  exact hn
 have hfin:nv ⟨(ofI [n]).toArray⟩=n.toNat:=by
  have:=str_nv [n] dn
  simp only[w8]at this
  omega
 repeat' (first|refine zg ?_|(refine AW.cond rfl ?_ ?_<;>intro hc<;>first|simp only[NM]at hc|omega|skip)|refine zr ?_|refine ⟨by omega,?_⟩|(refine zb ?_ ?_<;>intro hg<;>(try rw[hg])<;>try simp only[NM]at hg)|omega|simp -dsimp (disch:=try exact zo) only[go_sem]|contradiction|rfl)
 all_goals
  refine ⟨ofI [n],by first|exact ints_enc8 _ dn|(rw[wn];exact ints_enc8 [n] dn),?_⟩
  repeat' (first|refine zg ?_|(refine AW.cond rfl ?_ ?_<;>intro hc<;>first|simp only[NM]at hc|omega|skip)|refine zr ?_|(refine callV.flat _ yfn_173 (c173 a _ ha (by rw[str_size];simp)) rfl rfl ?_)|refine ⟨by omega,?_⟩|(refine zb ?_ ?_<;>intro hg<;>(try rw[hg])<;>try simp only[NM]at hg)|omega|simp -dsimp (disch:=try exact zo) only[go_sem,hfin]|contradiction|rfl)
set_option maxHeartbeats 16000000 in
theorem c156 (a b:ByteArray) (ha:a.size<1073741824) (hb:b.size<1073741824) (h0:nv b≠0):CallOK Tryz.prog 156 [.lit (.string a),.lit (.string b)] [] (.tup [.lit (.string (nb (nv a / nv b))),.lit (.string (nb (nv a % nv b))),.lit (.bool true)]) []:=by
 refine CallOK.flat Tryz.func156 rfl 68 rfl rfl rfl [.tmp 4,.tmp 5,.tmp 6] (congrArg Array.toList Tryz.results156) ?_
 simp only[startT,Nat.reduceAdd]
 have hml:maxLen=9223372036854775807:=rfl
 have cb:=c153 b (by omega)
 have hb1:(nb (nv b)=⟨#[]⟩)=False:=eq_false (fun h=>h0 ((nb_eq_empty _).1 h))
 have hrs0:nb (highN a a.size % nv b)=⟨#[]⟩:=by rw[highN_all (Nat.le_refl _),Nat.zero_mod,nb_zero]
 repeat' (first|refine zg ?_|(refine AW.cond rfl ?_ ?_<;>intro hc<;>first|simp only[NM]at hc|omega|skip)|refine zr ?_|(refine callV.flat _ yfn_153 cb rfl rfl ?_)|refine ⟨by omega,?_⟩|(refine zb ?_ ?_<;>intro hg<;>(try rw[hg])<;>try simp only[NM]at hg)|omega|simp -dsimp (disch:=try exact zo) only[go_sem,hb1]|contradiction|rfl)
 have hsb:∀ r:Nat,r<nv b→(nb r).size≤b.size:=fun r hr=>(nb_size _ _).2 (Nat.lt_trans hr (nv_lt b))
 generalize hB:nv b=B at *
 have hB0:0<B:=by omega
 refine AW.loop (fun z:{p:Nat × List Int // p.1≤a.size∧Dig8 p.2∧p.2.length=a.size∧(∀ q,q<p.1→p.2.getD q 0=0)∧w8 p.2=((highN a p.1 / B:Nat):Int)*256 ^ p.1}=>⟨[(9,.lit (.int .i64 ((z.1.1:Int) - 1))),(8,.lit (.string (nb (highN a z.1.1 % B)))),(7,.ref 16 0 a.size a.size),(0,.lit (.string a)),(1,.lit (.string b))],[(16,.vec 1 (ints .u8 z.1.2))],60⟩) (fun z=>z.1.1) ⟨(a.size,List.replicate a.size 0),Nat.le_refl _,fun x hx=>by have:=List.eq_of_mem_replicate hx;omega,by simp,fun q hq=>by dsimp only;rw[List.getD_eq_getElem?_getD,List.getElem?_replicate];split<;>rfl,by dsimp only;rw[w8_rep,highN_all (Nat.le_refl _)];simp⟩ (Weak.t4 (by refine ⟨?_,?_,?_,?_⟩<;>simp -dsimp (disch:=try exact zo) only[go_sem,ints_in,hrs0,ZC])) ?_
 rintro ⟨⟨j,Q⟩,hj,dQ,hQ,hz,hv⟩
 dsimp only at hj dQ hQ hz hv ⊢
 cases j with
 | zero =>
  have hfin:nb (nv ⟨(ofI Q).toArray⟩)=nb (nv a / B):=by
   congr 1
   have h1:=str_nv Q dQ
   rw[highN_zero]at hv
   simp only[Int.pow_zero,Int.mul_one]at hv
   omega
  have hrs:highN a 0=nv a:=highN_zero a
  clear hv hz
  rw[hrs]
  repeat' (first|refine zg ?_|(refine AW.cond rfl ?_ ?_<;>intro hc<;>first|simp only[NM]at hc|omega|skip)|refine zr ?_|refine ⟨by omega,?_⟩|(refine zb ?_ ?_<;>intro hg<;>(try rw[hg])<;>try simp only[NM]at hg)|omega|simp -dsimp (disch:=try exact zo) only[go_sem,hQ,ints_length]|contradiction|rfl)
  all_goals
   refine ⟨ofI Q,by first|exact ints_enc8 _ dQ|(rw[List.take_of_length_le (by first|omega|(rw[ints_length];omega))];exact ints_enc8 _ dQ),?_⟩
   repeat' (first|refine zg ?_|(refine AW.cond rfl ?_ ?_<;>intro hc<;>first|simp only[NM]at hc|omega|skip)|refine zr ?_|(refine callV.flat _ yfn_153 (c153 _ (by rw[str_size];omega)) rfl rfl ?_)|refine ⟨by omega,?_⟩|(refine zb ?_ ?_<;>intro hg<;>(try rw[hg])<;>try simp only[NM]at hg)|omega|simp -dsimp (disch:=try exact zo) only[go_sem,hfin]|contradiction|rfl)
 | succ j =>
  have hH:=highN_succ a j
  have hbt:=bt_nat a j
  have hr0:=Nat.mod_lt (highN a (j+1)) hB0
  have hdm:=Nat.div_add_mod (highN a (j+1)) B
  have hcat:=nv_cat (m:=a) (r:=nb (highN a (j+1) % B)) (j:=j) (by omega)
  rw[nv_nb]at hcat
  have hcs:=cat_size (m:=a) (r:=nb (highN a (j+1) % B)) (j:=j) (by omega)
  have hsz:=hsb _ hr0
  have e1:((j+1:Nat):Int) - 1=(j:Int):=by omega
  have e2:((j:Int)+1).toNat=j+1:=by omega
  have hz0:=hz j (by omega)
  have hz1:∀ q,q<j→∀ d:Int,(Q.set j d).getD q 0=0:=fun q hq d=>by
   have:=hz q (by omega)
   simp only[List.getD_eq_getElem?_getD]at this ⊢
   rw[List.getElem?_set_ne (by omega)];exact this
  have hws:=w8_set (xs:=Q) (i:=j) (by omega)
  obtain ⟨v,hvv⟩:∃ v,v=(bt a j).toNat+256*(highN a (j+1) % B):=⟨_,rfl⟩
  have hv256:v<256*B:=by
   have:=Nat.mul_le_mul_left 256 (show highN a (j+1) % B+1≤B by omega)
   omega
  have hnew:highN a j=B*(256*(highN a (j+1) / B))+v:=by
   rw[hH,hvv]
   generalize highN a (j+1) / B=q at *
   generalize highN a (j+1) % B=r at *
   rw[← hdm]
   have:B*(256*q)=256*(B*q):=Nat.mul_left_comm _ _ _
   omega
  have hdiv:highN a j / B=256*(highN a (j+1) / B)+v / B:=by rw[hnew,Nat.mul_add_div hB0]
  have hmod:highN a j % B=v % B:=by rw[hnew,Nat.mul_add_mod]
  have hvB:v / B<256:=(Nat.div_lt_iff_lt_mul hB0).2 hv256
  have hw:Hid (w8 (Q.set j ((v / B:Nat):Int))=((highN a j / B:Nat):Int)*256 ^ j):=Hid.mk (by
   rw[hws,hz0,hv,hdiv,p256_succ,Int.natCast_add,Int.natCast_mul]
   generalize ((highN a (j+1) / B:Nat):Int)=q
   generalize ((v / B:Nat):Int)=d
   have:((256:Nat):Int)=256:=rfl
   rw[this]
   grind)
  have dQ2:∀ d:Nat,d<256→Dig8 (Q.set j (d:Int)):=fun d hd=>dig8_set dQ (by omega)
  have dQ2:=dQ2 (v / B) hvB
  have hdv:=Nat.div_add_mod v B
  have hvm:=Nat.mod_lt v hB0
  rw[← hvv]at hcat
  clear hv hws hz hnew hdiv hH hdm hvv
  generalize hR:highN a (j+1) % B=r at *
  have cn:=c153 (a.extract j (j+1)++nb r) (by omega)
  rw[hcat]at cn
  have hvs:(nb v).size≤b.size+1:=by
   refine (nb_size _ _).2 (Nat.lt_of_lt_of_le hv256 ?_)
   have:=nv_lt b
   rw[hB]at this
   rw[Nat.pow_succ]
   omega
  have hes:(a.extract j (j+1)).size=1:=by rw[ByteArray.size_extract];omega
  clear hcat hcs
  repeat' (first|refine zg ?_|(refine AW.cond rfl ?_ ?_<;>intro hc<;>first|simp only[NM]at hc|omega|skip)|refine zr ?_|(refine callV.flat _ yfn_153 cn rfl rfl ?_)|refine ⟨by omega,?_⟩|(refine zb ?_ ?_<;>intro hg<;>(try rw[hg])<;>try simp only[NM]at hg)|omega|simp -dsimp (disch:=try exact zo) only[go_sem,e1,e2,ZT]|contradiction|rfl)
  refine AW.loop (fun z:{p:Nat × Nat // p.1≤p.2∧p.2≤255∧B*p.1≤v∧v<B*(p.2+1)}=>⟨[(10,.lit (.int .i64 z.1.1)),(11,.lit (.int .i64 z.1.2)),(9,.lit (.int .i64 j)),(8,.lit (.string (nb v))),(7,.ref 16 0 a.size a.size),(0,.lit (.string a)),(1,.lit (.string b))],[(16,.vec 1 (ints .u8 Q))],90⟩) (fun z=>z.1.2 - z.1.1) ⟨(0,255),by decide,by decide,by simp,by dsimp only;omega⟩ (Weak.t4 (by refine ⟨?_,?_,?_,?_⟩<;>simp -dsimp (disch:=try exact zo) only[go_sem,ints_in,hQ,Int.cast_ofNat_Int,Int.natCast_zero,Int.ofNat_zero,Int.natCast_add])) ?_
  rintro ⟨⟨lo,hi⟩,h1,h2,h3,h4⟩
  dsimp only at h1 h2 h3 h4 ⊢
  by_cases hlt:lo<hi
  ·obtain ⟨mid,hmid⟩:∃ mid,mid=(lo+hi+1) / 2:=⟨_,rfl⟩
   have em:((lo:Int)+(hi:Int)+1) / 2=(mid:Int):=by omega
   have hm1:lo<mid∧mid≤hi:=by omega
   have cs:=c208 b (mid:Int) (by omega) (by omega)
   rw[hB,Int.toNat_natCast]at cs
   have hms:(nb (B*mid)).size≤b.size+1:=by
    refine (nb_size _ _).2 ?_
    have:=nv_lt b
    rw[hB]at this
    rw[Nat.pow_succ]
    have h6:B*mid≤B*255:=Nat.mul_le_mul_left _ (by omega)
    omega
   have cc:=c207 (nb (B*mid)) (nb v) (by omega) (by omega)
   rw[nv_nb,nv_nb]at cc
   by_cases q:B*mid≤v
   ·have hq:cmpN (B*mid) v≤0:=by unfold cmpN;split<;>(try split)<;>omega
    generalize cmpN (B*mid) v=cm at *
    have k1:=eq_true hq
    have hh:Hid (B*mid≤v∧v<B*(hi+1)):=Hid.mk ⟨q,h4⟩
    clear h3 h4 q hv256 hdv hmid hvm hw
    repeat' (first|refine zg ?_|(refine AW.cond rfl ?_ ?_<;>intro hc<;>first|simp only[NM]at hc|omega|skip)|refine zr ?_|(refine callV.flat _ yfn_208 cs rfl rfl ?_)|(refine callV.flat _ yfn_207 cc rfl rfl ?_)|refine ⟨by omega,?_⟩|(refine zb ?_ ?_<;>intro hg<;>(try rw[hg])<;>try simp only[NM]at hg)|omega|simp -dsimp (disch:=try exact zo) only[go_sem,em,k1]|contradiction|rfl)
    all_goals exact AW.stop ⟨⟨(mid,hi),by dsimp only;omega,by dsimp only;omega,hh.out.1,hh.out.2⟩,(Weak.t4 (by refine ⟨?_,?_,?_,?_⟩<;>simp -dsimp (disch:=try exact zo) only[go_sem,ints_in,hQ,Int.cast_ofNat_Int,Int.natCast_zero,Int.ofNat_zero,Int.natCast_add])),by dsimp only;omega⟩
   ·have hq:¬ cmpN (B*mid) v≤0:=by unfold cmpN;rw[if_neg (by omega),if_neg (by omega)];omega
    generalize cmpN (B*mid) v=cm at *
    have k1:=eq_false hq
    have hh:Hid (B*lo≤v∧v<B*(mid - 1+1)):=Hid.mk ⟨h3,by rw[show mid - 1+1=mid by omega];omega⟩
    have em1:((mid - 1:Nat):Int)=(mid:Int) - 1:=by omega
    clear h3 h4 q hv256 hdv hmid hvm hw
    repeat' (first|refine zg ?_|(refine AW.cond rfl ?_ ?_<;>intro hc<;>first|simp only[NM]at hc|omega|skip)|refine zr ?_|(refine callV.flat _ yfn_208 cs rfl rfl ?_)|(refine callV.flat _ yfn_207 cc rfl rfl ?_)|refine ⟨by omega,?_⟩|(refine zb ?_ ?_<;>intro hg<;>(try rw[hg])<;>try simp only[NM]at hg)|omega|simp -dsimp (disch:=try exact zo) only[go_sem,em,k1]|contradiction|rfl)
    all_goals exact AW.stop ⟨⟨(lo,mid - 1),by dsimp only;omega,by dsimp only;omega,hh.out.1,hh.out.2⟩,(Weak.t4 (by refine ⟨?_,?_,?_,?_⟩<;>simp -dsimp (disch:=try exact zo) only[go_sem,ints_in,hQ,em1,ZC])),by dsimp only;omega⟩
  ·have hlh:hi=lo:=by omega
   subst hlh
   have hlo:v / B=hi:=by
    rw[Nat.div_eq_iff hB0]
    have:B*(hi+1)=B*hi+B:=by rw[Nat.mul_add,Nat.mul_one]
    rw[Nat.mul_comm hi B]
    omega
   have hrest:v - B*hi=v % B:=by rw[hlo]at hdv;omega
   have cs:=c208 b (hi:Int) (by omega) (by omega)
   rw[hB,Int.toNat_natCast]at cs
   have hms:(nb (B*hi)).size≤b.size+1:=by
    refine (nb_size _ _).2 ?_
    have:=nv_lt b
    rw[hB]at this
    rw[Nat.pow_succ]
    have h6:B*hi≤B*255:=Nat.mul_le_mul_left _ (by omega)
    omega
   have cq:=c175 (nb v) (nb (B*hi)) (by omega) (by omega) (by rw[nv_nb,nv_nb];exact h3)
   rw[nv_nb,nv_nb,hrest,← hmod]at cq
   have wh:IntKind.u8.wrap (hi:Int)=(hi:Int):=wrapu8 (by omega) (by omega)
   rw[hlo]at hw dQ2
   have hlQ:(Q.set j (hi:Int)).length=a.size:=by rw[List.length_set];exact hQ
   have hz2:∀ q,q<j→(Q.set j (hi:Int)).getD q 0=0:=fun q hq=>hz1 q hq _
   clear h3 h4 hv256 hdv hvm hz1 hrest hlo hmod hz0 hvB
   generalize hr2:highN a j % B=r2 at *
   repeat' (first|refine zg ?_|(refine AW.cond rfl ?_ ?_<;>intro hc<;>first|simp only[NM]at hc|omega|skip)|refine zr ?_|(refine callV.flat _ yfn_208 cs rfl rfl ?_)|(refine callV.flat _ yfn_175 cq rfl rfl ?_)|refine ⟨by omega,?_⟩|(refine zb ?_ ?_<;>intro hg<;>(try rw[hg])<;>try simp only[NM]at hg)|omega|simp -dsimp (disch:=try exact zo) only[go_sem,wh,ZT,ints_length,hQ]|contradiction|rfl)
   all_goals exact AW.stop ⟨⟨(j,Q.set j (hi:Int)),by dsimp only;omega,dQ2,hlQ,hz2,hw.out⟩,(Weak.t4 (by refine ⟨?_,?_,?_,?_⟩<;>simp -dsimp (disch:=try exact zo) only[go_sem,ints_in,hr2,ZC])),by dsimp only;omega⟩
end Go.Proofs.Vx
namespace Go.Proofs.Vx
open Go Go.Sx Go.Proofs
attribute [local irreducible] fnT CallOK CallFr AW effV callV runP runO oneP oneO gcaseP hid
theorem yfn_86:fnT Tryz.prog 86=true:=by kernel_rfl
theorem yfn_88:fnT Tryz.prog 88=true:=by kernel_rfl
theorem yfn_90:fnT Tryz.prog 90=true:=by kernel_rfl
theorem yfn_109:fnT Tryz.prog 109=true:=by kernel_rfl
theorem yfn_152:fnT Tryz.prog 152=true:=by kernel_rfl
theorem nb_mono {p q:Nat} (h:p≤q):(nb p).size≤(nb q).size:=(nb_size _ _).2 (Nat.lt_of_le_of_lt h ((nb_size q _).1 (Nat.le_refl _)))
set_option maxHeartbeats 8000000 in
theorem c155 (a b:ByteArray) (ha:a.size<1073741824) (hb:b.size<1073741824):CallOK Tryz.prog 155 [.lit (.string a),.lit (.string b)] [] (.lit (.string (nb (Nat.gcd (nv a) (nv b))))) []:=by
 refine CallOK.flat Tryz.func155 rfl 26 rfl rfl rfl [.tmp 4] (congrArg Array.toList Tryz.results155) ?_
 simp only[startT,Nat.reduceAdd]
 have hml:maxLen=9223372036854775807:=rfl
 have ca:=c153 a (by omega)
 have cb:=c153 b (by omega)
 have sa:=can_size a
 have sb:=can_size b
 repeat' (first|refine zg ?_|(refine AW.cond rfl ?_ ?_<;>intro hc<;>first|simp only[NM]at hc|omega|skip)|refine zr ?_|(first|refine callV.flat _ yfn_153 ca rfl rfl ?_|refine callV.flat _ yfn_153 cb rfl rfl ?_)|refine ⟨by omega,?_⟩|(refine zb ?_ ?_<;>intro hg<;>(try rw[hg])<;>try simp only[NM]at hg)|omega|simp -dsimp (disch:=try exact zo) only[go_sem]|contradiction|rfl)
 refine AW.loop (fun z:{p:Nat × Nat // Nat.gcd p.1 p.2=Nat.gcd (nv a) (nv b)∧(nb p.1).size<1073741824∧(nb p.2).size<1073741824}=>⟨[(5,.lit (.string (nb z.1.1))),(6,.lit (.string (nb z.1.2)))],[],40⟩) (fun z=>z.1.2) ⟨(nv a,nv b),rfl,by dsimp only;omega,by dsimp only;omega⟩ (Weak.t4 (by refine ⟨?_,?_,?_,?_⟩<;>simp -dsimp (disch:=try exact zo) only[go_sem,ZC])) ?_
 rintro ⟨⟨p,q⟩,hg,hp,hq1⟩
 dsimp only at hg hp hq1 ⊢
 by_cases h0:q=0
 ·subst h0
  have hr:nb (Nat.gcd (nv a) (nv b))=nb p:=by rw[← hg,Nat.gcd_zero_right]
  rw[hr]
  repeat' (first|refine zg ?_|(refine AW.cond rfl ?_ ?_<;>intro hc<;>first|simp only[NM]at hc|omega|skip)|refine zr ?_|refine ⟨by omega,?_⟩|(refine zb ?_ ?_<;>intro hg<;>(try rw[hg])<;>try simp only[NM]at hg)|omega|simp -dsimp (disch:=try exact zo) only[go_sem,nb_zero]|contradiction|rfl)
 ·have hq:(nb q=⟨#[]⟩)=False:=eq_false fun h=>h0 ((nb_eq_empty _).1 h)
  have cd:=c156 (nb p) (nb q) hp hq1 (by rw[nv_nb];exact h0)
  rw[nv_nb,nv_nb]at cd
  have hlt:=Nat.mod_lt p (show 0<q by omega)
  have hs:=nb_mono (Nat.le_of_lt hlt)
  have hg2:Nat.gcd q (p % q)=Nat.gcd (nv a) (nv b):=by rw[← hg,Nat.gcd_comm p q,Nat.gcd_rec q p,Nat.gcd_comm]
  generalize p % q=r at *
  repeat' (first|refine zg ?_|(refine AW.cond rfl ?_ ?_<;>intro hc<;>first|simp only[NM]at hc|omega|skip)|refine zr ?_|(refine callV.flat _ yfn_156 cd rfl rfl ?_)|refine ⟨by omega,?_⟩|(refine zb ?_ ?_<;>intro hg<;>(try rw[hg])<;>try simp only[NM]at hg)|omega|simp -dsimp (disch:=try exact zo) only[go_sem,hq]|contradiction|rfl)
  all_goals exact AW.stop ⟨⟨(q,r),hg2,hq1,by dsimp only;omega⟩,(Weak.t4 (by refine ⟨?_,?_,?_,?_⟩<;>simp -dsimp (disch:=try exact zo) only[go_sem,ZC])),by dsimp only;omega⟩
set_option maxHeartbeats 8000000 in
theorem c152 (n:Bool) (m:ByteArray) (hm:m.size<4611686018427387904):CallOK Tryz.prog 152 [.lit (.bool n),.lit (.string m)] [] (.agg (eZ (iv n m))) []:=by
 refine CallOK.flat Tryz.func152 rfl 15 rfl rfl rfl [.cell 4 24] (congrArg Array.toList Tryz.results152) ?_
 simp only[startT,Nat.reduceAdd]
 have hz:iv n m=if n then -((nv m:Nat):Int)else ((nv m:Nat):Int):=rfl
 rw[← eZ_of n (nv m) hz]
 cases n
 ·simp only[Bool.false_and]
  repeat' (first|refine zg ?_|(refine AW.cond rfl ?_ ?_<;>intro hc<;>first|simp only[NM]at hc|omega|skip)|refine zr ?_|(refine callV.flat _ yfn_153 (c153 m (by omega)) rfl rfl ?_)|refine ⟨by omega,?_⟩|(refine zb ?_ ?_<;>intro hg<;>(try rw[hg])<;>try simp only[NM]at hg)|omega|simp -dsimp (disch:=try exact zo) only[go_sem]|contradiction|rfl)
 ·simp only[Bool.true_and]
  repeat' (first|refine zg ?_|(refine AW.cond rfl ?_ ?_<;>intro hc<;>first|simp only[NM]at hc|omega|skip)|refine zr ?_|(refine callV.flat _ yfn_153 (c153 m (by omega)) rfl rfl ?_)|refine ⟨by omega,?_⟩|(refine zb ?_ ?_<;>intro hg<;>(try rw[hg])<;>try simp only[NM]at hg)|omega|simp -dsimp (disch:=try exact zo) only[go_sem]|contradiction|rfl)
set_option maxHeartbeats 8000000 in
theorem c86 (n:Bool) (m:ByteArray) (hm:m.size<4611686018427387904):CallOK Tryz.prog 86 [.agg [.lit (.bool n),.lit (.string m)]] [] (.lit (.int .i64 (sg (iv n m)))) []:=by
 refine CallOK.flat Tryz.func86 rfl 9 rfl rfl rfl [.tmp 2] (congrArg Array.toList Tryz.results86) ?_
 simp only[startT,Nat.reduceAdd]
 by_cases h0:nv m=0
 ·have hr:sg (iv n m)=0:=by rw[sg_zero];unfold iv;split<;>omega
  have k1:(nb (nv m)=⟨#[]⟩)=True:=eq_true ((nb_eq_empty _).2 h0)
  rw[hr]
  repeat' (first|refine zg ?_|(refine AW.cond rfl ?_ ?_<;>intro hc<;>first|simp only[NM]at hc|omega|skip)|refine zr ?_|(refine callV.flat _ yfn_153 (c153 m (by omega)) rfl rfl ?_)|refine ⟨by omega,?_⟩|(refine zb ?_ ?_<;>intro hg<;>(try rw[hg])<;>try simp only[NM]at hg)|omega|simp -dsimp (disch:=try exact zo) only[go_sem,k1]|contradiction|rfl)
 ·have k1:(nb (nv m)=⟨#[]⟩)=False:=eq_false fun h=>h0 ((nb_eq_empty _).1 h)
  cases n
  ·have hr:sg (iv false m)=1:=by unfold sg iv;simp only[Bool.false_eq_true,if_false];rw[if_neg (by omega),if_neg (by omega)]
   rw[hr]
   repeat' (first|refine zg ?_|(refine AW.cond rfl ?_ ?_<;>intro hc<;>first|simp only[NM]at hc|omega|skip)|refine zr ?_|(refine callV.flat _ yfn_153 (c153 m (by omega)) rfl rfl ?_)|refine ⟨by omega,?_⟩|(refine zb ?_ ?_<;>intro hg<;>(try rw[hg])<;>try simp only[NM]at hg)|omega|simp -dsimp (disch:=try exact zo) only[go_sem,k1]|contradiction|rfl)
  ·have hr:sg (iv true m)=-1:=by unfold sg iv;simp only[if_true];rw[if_pos (by omega)]
   rw[hr]
   repeat' (first|refine zg ?_|(refine AW.cond rfl ?_ ?_<;>intro hc<;>first|simp only[NM]at hc|omega|skip)|refine zr ?_|(refine callV.flat _ yfn_153 (c153 m (by omega)) rfl rfl ?_)|refine ⟨by omega,?_⟩|(refine zb ?_ ?_<;>intro hg<;>(try rw[hg])<;>try simp only[NM]at hg)|omega|simp -dsimp (disch:=try exact zo) only[go_sem,k1]|contradiction|rfl)
end Go.Proofs.Vx
namespace Go.Proofs.Vx
open Go Go.Sx Go.Proofs
attribute [local irreducible] fnT CallOK CallFr AW effV callV runP runO oneP oneO gcaseP hid
theorem yfn_44:fnT Tryz.prog 44=true:=by kernel_rfl
abbrev RawI:=Bool × ByteArray
abbrev eR (l:List RawI):List (List AV):=l.map fun r=>eI r.1 r.2
def gT (l:List RawI) (i:Nat):Nat:=(l.take i).foldl (fun g r=>Nat.gcd g (nv r.2)) 0
theorem gT_zero (l:List RawI):gT l 0=0:=rfl
theorem gT_succ (l:List RawI) (i:Nat) (h:i<l.length):gT l (i+1)=Nat.gcd (gT l i) (nv l[i].2):=by
 unfold gT
 rw[List.take_succ_eq_append_getElem h,List.foldl_append]
 rfl
theorem gcd_size {p q:Nat} {k:Nat} (hp:(nb p).size≤k) (hq:(nb q).size≤k):(nb (Nat.gcd p q)).size≤k:=by
 by_cases h:q=0
 ·subst h;rw[Nat.gcd_zero_right];exact hp
 ·exact Nat.le_trans (nb_mono (Nat.le_of_dvd (by omega) (Nat.gcd_dvd_right p q))) hq
theorem gT_size {l:List RawI} {k:Nat} (h:∀ r∈l,r.2.size≤k) (i:Nat) (hi:i≤l.length):(nb (gT l i)).size≤k:=by
 induction i with
 | zero=>rw[gT_zero,nb_zero_size];exact Nat.zero_le _
 | succ i ih =>
  rw[gT_succ l i hi]
  exact gcd_size (ih (by omega)) (Nat.le_trans (can_size _) (h _ (List.getElem_mem hi)))
theorem eR_in {K:Nat→Prop} (l:List RawI):(∀ e∈eR l,∀ c∈e,In K c)=True:=eq_true fun e he c hc=>by
 obtain ⟨r,_,rfl⟩:=List.mem_map.1 he
 simp only[eI,List.mem_cons,List.not_mem_nil,or_false]at hc
 rcases hc with rfl|rfl<;>exact .lit _
theorem eR_getD (l:List RawI) (i:Nat) (h:i<l.length):(eR l).getD i []=eI l[i].1 l[i].2:=by
 rw[List.getD_eq_getElem?_getD,List.getElem?_eq_getElem (by simpa using h)];simp
theorem iv_false (m:ByteArray):iv false m=(nv m:Int):=rfl
set_option maxHeartbeats 8000000 in
theorem c88 (l:List RawI) (hn:l.length≤268435456) (hs:∀ r∈l,r.2.size≤268435456):CallOK Tryz.prog 88 [.sl (eR l)] [] (.agg (eZ ((gT l l.length:Nat):Int))) []:=by
 refine CallOK.flat Tryz.func88 rfl 20 rfl rfl rfl [.cell 2 24] (congrArg Array.toList Tryz.results88) ?_
 simp only[startT,Nat.reduceAdd]
 have hml:maxLen=9223372036854775807:=rfl
 have hl:(eR l).length=l.length:=List.length_map _
 repeat' (first|refine zg ?_|(refine AW.cond rfl ?_ ?_<;>intro hc<;>first|simp only[NM]at hc|omega|skip)|refine zr ?_|refine ⟨by omega,?_⟩|(refine zb ?_ ?_<;>intro hg<;>(try rw[hg])<;>try simp only[NM]at hg)|omega|simp -dsimp (disch:=try exact zo) only[go_sem,hl]|contradiction|rfl)
 refine AW.loop (fun z:{i:Nat // i≤l.length}=>⟨[(4,.lit (.int .i64 z.1)),(3,.lit (.string (nb (gT l z.1)))),(2,.loc 8 0),(0,.sl (eR l))],[(8,.blk [.lit (.bool false),.lit (.string ⟨#[]⟩)])],40⟩) (fun z=>l.length - z.1) ⟨0,Nat.zero_le _⟩ (Weak.t4 (by refine ⟨?_,?_,?_,?_⟩<;>simp -dsimp (disch:=try exact zo) only[go_sem,gT_zero,nb_zero,eR_in,ZC])) ?_
 rintro ⟨i,hi⟩
 dsimp only
 have hsz:=gT_size hs i hi
 by_cases hlt:i<l.length
 ·have es1:=eR_getD l i hlt
  have hst:=gT_succ l i hlt
  have hr:=hs _ (List.getElem_mem hlt)
  generalize l[i]=r at *
  obtain ⟨rn,rm⟩:=r
  dsimp only at es1 hst hr
  simp only[eI]at es1
  have cg:=c155 (nb (gT l i)) rm (by omega) (by omega)
  rw[nv_nb,← hst]at cg
  clear hst hs
  generalize gT l i=g at *
  repeat' (first|refine zg ?_|(refine AW.cond rfl ?_ ?_<;>intro hc<;>first|simp only[NM]at hc|omega|skip)|refine zr ?_|(refine callV.flat _ yfn_155 cg rfl rfl ?_)|refine ⟨by omega,?_⟩|(refine zb ?_ ?_<;>intro hg<;>(try rw[hg])<;>try simp only[NM]at hg)|omega|simp -dsimp (disch:=try exact zo) only[go_sem,hl,es1,ZT]|contradiction|rfl)
  all_goals exact AW.stop ⟨⟨i+1,by omega⟩,(Weak.t4 (by refine ⟨?_,?_,?_,?_⟩<;>simp -dsimp (disch:=try exact zo) only[go_sem,eR_in,ZC])),by dsimp only;omega⟩
 ·have hil:i=l.length:=by omega
  subst hil
  have co:=c152 false (nb (gT l l.length)) (by omega)
  rw[iv_false,nv_nb]at co
  clear hs
  generalize gT l l.length=g at *
  repeat' (first|refine zg ?_|(refine AW.cond rfl ?_ ?_<;>intro hc<;>first|simp only[NM]at hc|omega|skip)|refine zr ?_|(refine callV.flat _ yfn_152 co rfl rfl ?_)|refine ⟨by omega,?_⟩|(refine zb ?_ ?_<;>intro hg<;>(try rw[hg])<;>try simp only[NM]at hg)|omega|simp -dsimp (disch:=try exact zo) only[go_sem,hl]|contradiction|rfl)
theorem iv_div {n:Bool} {m:ByteArray} {g:Nat} (hd:g∣nv m):iv n (nb (nv m / g))=iv n m / (g:Int):=by
 unfold iv
 rw[nv_nb]
 cases n
 ·simp only[Bool.false_eq_true,if_false];rw[Int.natCast_ediv]
 ·simp only[if_true]
  rw[Int.natCast_ediv,Int.neg_ediv_of_dvd (Int.ofNat_dvd.2 hd)]
theorem ne_false (n:Bool):(decide (n=false))=!n:=by cases n<;>rfl
set_option maxHeartbeats 8000000 in
theorem c90 (n:Bool) (m:ByteArray) (g:Nat) (hg:0<g) (hd:g∣nv m) (hm:m.size≤268435456) (hgs:(nb g).size≤268435456):CallOK Tryz.prog 90 [.agg [.lit (.bool n),.lit (.string m)],.agg [.lit (.bool false),.lit (.string (nb g))]] [] (.tup [.agg (eZ (iv n m / (g:Int))),.agg (eZ 0),.lit (.bool true)]) []:=by
 refine CallOK.flat Tryz.func90 rfl 55 rfl rfl rfl [.cell 4 24,.cell 5 24,.tmp 6] (congrArg Array.toList Tryz.results90) ?_
 simp only[startT,Nat.reduceAdd]
 have hml:maxLen=9223372036854775807:=rfl
 have cd:=c156 m (nb g) (by omega) (by omega) (by rw[nv_nb];omega)
 rw[nv_nb,Nat.mod_eq_zero_of_dvd hd,nb_zero]at cd
 have hq:=nb_mono (Nat.div_le_self (nv m) g)
 have hcs:=can_size m
 have c1:=c152 n ⟨#[]⟩ (by decide)
 have hz1:iv n ⟨#[]⟩=0:=by unfold iv;split<;>rfl
 rw[hz1]at c1
 have c2:=c152 n (nb (nv m / g)) (by omega)
 rw[iv_div hd]at c2
 have c3:=c86 (Zn 0) (Zm 0) (by rw[Zm_zero];decide)
 have hz2:sg (iv (Zn 0) (Zm 0))=0:=by rw[iv_Z];rfl
 rw[hz2]at c3
 have hne:=ne_false n
 generalize iv n m / (g:Int)=w at *
 generalize nb (nv m / g)=qs at *
 cases n
 ·simp only[decide_true,Bool.not_false,Bool.not_true,decide_false]at hne
  repeat' (first|refine zg ?_|(refine AW.cond rfl ?_ ?_<;>intro hc<;>first|simp only[NM]at hc|omega|skip)|refine zr ?_|(refine callV.flat _ yfn_156 cd rfl rfl ?_)|(first|refine callV.flat _ yfn_152 c1 rfl rfl ?_|refine callV.flat _ yfn_152 c2 rfl rfl ?_)|(refine callV.flat _ yfn_86 c3 rfl rfl ?_)|refine ⟨by omega,?_⟩|(refine zb ?_ ?_<;>intro hg<;>(try rw[hg])<;>try simp only[NM]at hg)|omega|simp -dsimp (disch:=try exact zo) only[go_sem,nb_zero,hne]|contradiction|rfl)
 ·simp only[decide_true,Bool.not_false,Bool.not_true,decide_false]at hne
  repeat' (first|refine zg ?_|(refine AW.cond rfl ?_ ?_<;>intro hc<;>first|simp only[NM]at hc|omega|skip)|refine zr ?_|(refine callV.flat _ yfn_156 cd rfl rfl ?_)|(first|refine callV.flat _ yfn_152 c1 rfl rfl ?_|refine callV.flat _ yfn_152 c2 rfl rfl ?_)|(refine callV.flat _ yfn_86 c3 rfl rfl ?_)|refine ⟨by omega,?_⟩|(refine zb ?_ ?_<;>intro hg<;>(try rw[hg])<;>try simp only[NM]at hg)|omega|simp -dsimp (disch:=try exact zo) only[go_sem,nb_zero,hne]|contradiction|rfl)
end Go.Proofs.Vx
namespace Go.Proofs.Vx
open Go Go.Sx Go.Proofs
attribute [local irreducible] fnT CallOK CallFr AW effV callV runP runO oneP oneO gcaseP hid
theorem gT4 (n1 n2 n3 n4:Bool) (m1 m2 m3 m4:ByteArray):gT [(n1,m1),(n2,m2),(n3,m3),(n4,m4)] 4=g4 (iv n1 m1) (iv n2 m2) (iv n3 m3) (iv n4 m4):=by
 show Nat.gcd (Nat.gcd (Nat.gcd (Nat.gcd 0 (nv m1)) (nv m2)) (nv m3)) (nv m4)=_
 rw[Nat.gcd_zero_left]
 unfold g4
 simp only[natAbs_iv]
theorem c88x (n1 n2 n3 n4 : Bool) (m1 m2 m3 m4 : ByteArray) (h1 : m1.size ≤ 268435456) (h2 : m2.size ≤ 268435456) (h3 : m3.size ≤ 268435456) (h4 : m4.size ≤ 268435456) :
  CallOK Tryz.prog 88 [.sl [eI n1 m1,eI n2 m2,eI n3 m3,eI n4 m4]] [] (.agg [.lit (.bool false),.lit (.string (nb (g4 (iv n1 m1) (iv n2 m2) (iv n3 m3) (iv n4 m4))))]) []:=by
 have h:=c88 [(n1,m1),(n2,m2),(n3,m3),(n4,m4)] (by simp) (by
  intro r hr
  simp only[List.mem_cons,List.not_mem_nil,or_false]at hr
  rcases hr with rfl|rfl|rfl|rfl<;>assumption)
 have e:([(n1,m1),(n2,m2),(n3,m3),(n4,m4)]:List RawI).length=4:=rfl
 rw[e,gT4]at h
 have e2:∀ G:Nat,eZ (G:Int)=[.lit (.bool false),.lit (.string (nb G))]:=fun G=>by unfold eZ;rw[Zn_false (Int.natCast_nonneg _),Zm_nat]
 rw[e2]at h
 exact h
set_option maxHeartbeats 8000000 in
theorem c109 (n:Bool) (m:ByteArray) (g:Nat) (hg:0<g) (hd:g∣nv m) (hm:m.size≤268435456) (hgs:(nb g).size≤268435456):CallOK Tryz.prog 109 [.agg [.lit (.bool n),.lit (.string m)],.agg [.lit (.bool false),.lit (.string (nb g))]] [] (.agg (eZ (iv n m / (g:Int)))) []:=by
 refine CallOK.flat Tryz.func109 rfl 16 rfl rfl rfl [.cell 4 24] (congrArg Array.toList Tryz.results109) ?_
 simp only[startT,Nat.reduceAdd]
 have hml:maxLen=9223372036854775807:=rfl
 repeat' (first|refine zg ?_|(refine AW.cond rfl ?_ ?_<;>intro hc<;>first|simp only[NM]at hc|omega|skip)|refine zr ?_|(refine callV.flat _ yfn_90 (c90 n m g hg hd hm hgs) rfl rfl ?_)|refine ⟨by omega,?_⟩|(refine zb ?_ ?_<;>intro hg<;>(try rw[hg])<;>try simp only[NM]at hg)|omega|simp -dsimp (disch:=try exact zo) only[go_sem]|contradiction|rfl)
set_option maxHeartbeats 8000000 in
theorem c44b (n1 n2 n3 n4:Bool) (m1 m2 m3 m4:ByteArray) (h1:m1.size≤268435456) (h2:m2.size≤268435456) (h3:m3.size≤268435456) (h4:m4.size≤268435456) (hz:iv n1 m1=0∧iv n2 m2=0∧iv n3 m3=0):CallOK Tryz.prog 44 [.agg [.lit (.bool n1),.lit (.string m1),.lit (.bool n2),.lit (.string m2),.lit (.bool n3),.lit (.string m3),.lit (.bool n4),.lit (.string m4)]] [] (.tup [.agg [.lit (.bool false),.lit (.string ⟨#[]⟩),.lit (.bool false),.lit (.string ⟨#[]⟩),.lit (.bool false),.lit (.string ⟨#[]⟩),.lit (.bool false),.lit (.string ⟨#[]⟩)],.lit (.bool false)]) []:=by
 refine CallOK.flat Tryz.func44 rfl 49 rfl rfl rfl [.cell 2 26,.tmp 3] (congrArg Array.toList Tryz.results44) ?_
 simp only[startT,Nat.reduceAdd]
 have hml:maxLen=9223372036854775807:=rfl
 have s1:=c86 n1 m1 (by omega)
 have s2:=c86 n2 m2 (by omega)
 have s3:=c86 n3 m3 (by omega)
 obtain ⟨z1,z2,z3⟩:=hz
 rw[z1]at s1
 rw[z2]at s2
 rw[z3]at s3
 have k1:sg 0=0:=rfl
 have k2:True:=trivial
 have k3:True:=trivial
 repeat' (first|refine zg ?_|(refine AW.cond rfl ?_ ?_<;>intro hc<;>first|simp only[NM]at hc|omega|skip)|refine zr ?_|(first|refine callV.flat _ yfn_86 s1 rfl rfl ?_|refine callV.flat _ yfn_86 s2 rfl rfl ?_|refine callV.flat _ yfn_86 s3 rfl rfl ?_)|refine ⟨by omega,?_⟩|(refine zb ?_ ?_<;>intro hg<;>(try rw[hg])<;>try simp only[NM]at hg)|omega|simp -dsimp (disch:=try exact zo) only[go_sem,k1]|contradiction|rfl)
set_option maxHeartbeats 16000000 in
theorem c44a (n1 n2 n3 n4:Bool) (m1 m2 m3 m4:ByteArray) (h1:m1.size≤268435456) (h2:m2.size≤268435456) (h3:m3.size≤268435456) (h4:m4.size≤268435456) (hz:¬ (iv n1 m1=0∧iv n2 m2=0∧iv n3 m3=0)):CallOK Tryz.prog 44 [.agg [.lit (.bool n1),.lit (.string m1),.lit (.bool n2),.lit (.string m2),.lit (.bool n3),.lit (.string m3),.lit (.bool n4),.lit (.string m4)]] [] (.tup [.agg (eH (pnrm (iv n1 m1) (iv n2 m2) (iv n3 m3) (iv n4 m4))),.lit (.bool true)]) []:=by
 refine CallOK.flat Tryz.func44 rfl 49 rfl rfl rfl [.cell 2 26,.tmp 3] (congrArg Array.toList Tryz.results44) ?_
 simp only[startT,Nat.reduceAdd]
 have hml:maxLen=9223372036854775807:=rfl
 have s1:=c86 n1 m1 (by omega)
 have s2:=c86 n2 m2 (by omega)
 have s3:=c86 n3 m3 (by omega)
 have cg:=c88x n1 n2 n3 n4 m1 m2 m3 m4 h1 h2 h3 h4
 obtain ⟨d1,d2,d3,d4⟩:=g4_dvd (iv n1 m1) (iv n2 m2) (iv n3 m3) (iv n4 m4)
 have hG:0<g4 (iv n1 m1) (iv n2 m2) (iv n3 m3) (iv n4 m4):=by
  apply Nat.pos_of_ne_zero
  intro h0
  rw[h0]at d1 d2 d3
  exact hz ⟨by simpa using d1,by simpa using d2,by simpa using d3⟩
 have hGs:(nb (g4 (iv n1 m1) (iv n2 m2) (iv n3 m3) (iv n4 m4))).size≤268435456:=by
  unfold g4
  simp only[natAbs_iv]
  exact gcd_size (gcd_size (gcd_size (Nat.le_trans (can_size _) h1) (Nat.le_trans (can_size _) h2)) (Nat.le_trans (can_size _) h3)) (Nat.le_trans (can_size _) h4)
 have e:∀ (n:Bool) (m:ByteArray),(g4 (iv n1 m1) (iv n2 m2) (iv n3 m3) (iv n4 m4):Int)∣iv n m→g4 (iv n1 m1) (iv n2 m2) (iv n3 m3) (iv n4 m4)∣nv m:=fun n m h=>by
  rw[← natAbs_iv n m];exact Int.ofNat_dvd_left.1 h
 unfold pnrm
 have p1:=c109 n1 m1 _ hG (e n1 m1 d1) h1 hGs
 have p2:=c109 n2 m2 _ hG (e n2 m2 d2) h2 hGs
 have p3:=c109 n3 m3 _ hG (e n3 m3 d3) h3 hGs
 have p4:=c109 n4 m4 _ hG (e n4 m4 d4) h4 hGs
 clear e d1 d2 d3 d4 hG hGs
 generalize g4 (iv n1 m1) (iv n2 m2) (iv n3 m3) (iv n4 m4)=G at *
 by_cases q1:sg (iv n1 m1)=0
 ·by_cases q2:sg (iv n2 m2)=0
  ·have q3:sg (iv n3 m3)≠0:=fun q3=>hz ⟨sg_zero.1 q1,sg_zero.1 q2,sg_zero.1 q3⟩
   have k1:=eq_true q1
   have k2:=eq_true q2
   have k3:=eq_false q3
   clear hz
   repeat' (first|refine zg ?_|(refine AW.cond rfl ?_ ?_<;>intro hc<;>first|simp only[NM]at hc|omega|skip)|refine zr ?_|(first|refine callV.flat _ yfn_86 s1 rfl rfl ?_|refine callV.flat _ yfn_86 s2 rfl rfl ?_|refine callV.flat _ yfn_86 s3 rfl rfl ?_)|(refine callV.lend1 _ yfn_88 cg rfl rfl (by simp -dsimp (disch:=try exact zo) only[go_sem]) (.agg _ (by intro c hc;simp only[List.mem_cons,List.not_mem_nil,or_false]at hc;rcases hc with rfl|rfl<;>exact .lit _)) ?_)|(first|refine callV.flat _ yfn_109 p1 rfl rfl ?_|refine callV.flat _ yfn_109 p2 rfl rfl ?_|refine callV.flat _ yfn_109 p3 rfl rfl ?_|refine callV.flat _ yfn_109 p4 rfl rfl ?_)|refine ⟨by omega,?_⟩|(refine zb ?_ ?_<;>intro hg<;>(try rw[hg])<;>try simp only[NM]at hg)|omega|simp -dsimp (disch:=try exact zo) only[go_sem,k1,k2,k3]|contradiction|rfl)
  ·have k1:=eq_true q1
   have k2:=eq_false q2
   have k3:True:=trivial
   clear hz
   repeat' (first|refine zg ?_|(refine AW.cond rfl ?_ ?_<;>intro hc<;>first|simp only[NM]at hc|omega|skip)|refine zr ?_|(first|refine callV.flat _ yfn_86 s1 rfl rfl ?_|refine callV.flat _ yfn_86 s2 rfl rfl ?_|refine callV.flat _ yfn_86 s3 rfl rfl ?_)|(refine callV.lend1 _ yfn_88 cg rfl rfl (by simp -dsimp (disch:=try exact zo) only[go_sem]) (.agg _ (by intro c hc;simp only[List.mem_cons,List.not_mem_nil,or_false]at hc;rcases hc with rfl|rfl<;>exact .lit _)) ?_)|(first|refine callV.flat _ yfn_109 p1 rfl rfl ?_|refine callV.flat _ yfn_109 p2 rfl rfl ?_|refine callV.flat _ yfn_109 p3 rfl rfl ?_|refine callV.flat _ yfn_109 p4 rfl rfl ?_)|refine ⟨by omega,?_⟩|(refine zb ?_ ?_<;>intro hg<;>(try rw[hg])<;>try simp only[NM]at hg)|omega|simp -dsimp (disch:=try exact zo) only[go_sem,k1,k2,k3]|contradiction|rfl)
 ·have k1:=eq_false q1
  have k2:True:=trivial
  have k3:True:=trivial
  clear hz
  repeat' (first|refine zg ?_|(refine AW.cond rfl ?_ ?_<;>intro hc<;>first|simp only[NM]at hc|omega|skip)|refine zr ?_|(first|refine callV.flat _ yfn_86 s1 rfl rfl ?_|refine callV.flat _ yfn_86 s2 rfl rfl ?_|refine callV.flat _ yfn_86 s3 rfl rfl ?_)|(refine callV.lend1 _ yfn_88 cg rfl rfl (by simp -dsimp (disch:=try exact zo) only[go_sem]) (.agg _ (by intro c hc;simp only[List.mem_cons,List.not_mem_nil,or_false]at hc;rcases hc with rfl|rfl<;>exact .lit _)) ?_)|(first|refine callV.flat _ yfn_109 p1 rfl rfl ?_|refine callV.flat _ yfn_109 p2 rfl rfl ?_|refine callV.flat _ yfn_109 p3 rfl rfl ?_|refine callV.flat _ yfn_109 p4 rfl rfl ?_)|refine ⟨by omega,?_⟩|(refine zb ?_ ?_<;>intro hg<;>(try rw[hg])<;>try simp only[NM]at hg)|omega|simp -dsimp (disch:=try exact zo) only[go_sem,k1,k2,k3]|contradiction|rfl)
end Go.Proofs.Vx
namespace Go.Proofs.Vx
open Go Go.Sx Go.Proofs
attribute [local irreducible] fnT CallOK CallFr AW effV callV runP runO oneP oneO gcaseP hid
theorem yfn_18:fnT Tryz.prog 18=true:=by kernel_rfl
theorem yfn_26:fnT Tryz.prog 26=true:=by kernel_rfl
theorem yfn_66:fnT Tryz.prog 66=true:=by kernel_rfl
structure RP where
 n1:Bool
 m1:ByteArray
 n2:Bool
 m2:ByteArray
 n3:Bool
 m3:ByteArray
 n4:Bool
 m4:ByteArray
abbrev eRP (r:RP):List AV:=[.lit (.bool r.n1),.lit (.string r.m1),.lit (.bool r.n2),.lit (.string r.m2),.lit (.bool r.n3),.lit (.string r.m3),.lit (.bool r.n4),.lit (.string r.m4)]
def zeroR (r:RP):Prop:=iv r.n1 r.m1=0∧iv r.n2 r.m2=0∧iv r.n3 r.m3=0
instance (r:RP):Decidable (zeroR r):=by unfold zeroR;infer_instance
def wideR (r:RP):Prop:=6<r.m1.size∨6<r.m2.size∨6<r.m3.size∨6<r.m4.size∨zeroR r
instance (r:RP):Decidable (wideR r):=by unfold wideR;infer_instance
def nrmR (r:RP):Pl:=pnrm (iv r.n1 r.m1) (iv r.n2 r.m2) (iv r.n3 r.m3) (iv r.n4 r.m4)
theorem c44ax (r:RP) (h1:r.m1.size≤268435456) (h2:r.m2.size≤268435456) (h3:r.m3.size≤268435456) (h4:r.m4.size≤268435456) (hz:¬ zeroR r):CallOK Tryz.prog 44 [.agg (eRP r)] [] (.tup [.agg (eH (nrmR r)),.lit (.bool true)]) []:=c44a _ _ _ _ _ _ _ _ h1 h2 h3 h4 hz
theorem c44bx (r:RP) (h1:r.m1.size≤268435456) (h2:r.m2.size≤268435456) (h3:r.m3.size≤268435456) (h4:r.m4.size≤268435456) (hz:zeroR r):CallOK Tryz.prog 44 [.agg (eRP r)] [] (.tup [.agg [.lit (.bool false),.lit (.string ⟨#[]⟩),.lit (.bool false),.lit (.string ⟨#[]⟩),.lit (.bool false),.lit (.string ⟨#[]⟩),.lit (.bool false),.lit (.string ⟨#[]⟩)],.lit (.bool false)]) []:=c44b _ _ _ _ _ _ _ _ h1 h2 h3 h4 hz
end Go.Proofs.Vx
namespace Go.Proofs.Vx
open Go Go.Sx Go.Proofs
attribute [local irreducible] fnT CallOK CallFr AW effV callV runP runO oneP oneO gcaseP hid
theorem yqq_Nx45:arT Tryz.prog 22=none∧byT Tryz.prog 26=some 96∧slT Tryz.prog 22=some (26,8)∧strT Tryz.prog 22=false:=by and_intros<;>kernel_rfl
attribute [go_sem] yqq_Nx45
abbrev eRPs (l:List RP):List (List AV):=l.map eRP
theorem eRPs_in {K:Nat→Prop} (l:List RP):(∀ e∈eRPs l,∀ c∈e,In K c)=True:=eq_true fun e he c hc=>by
 obtain ⟨r,_,rfl⟩:=List.mem_map.1 he
 simp only[eRP,List.mem_cons,List.not_mem_nil,or_false]at hc
 rcases hc with rfl|rfl|rfl|rfl|rfl|rfl|rfl|rfl<;>exact .lit _
theorem eRPs_getD (l:List RP) (i:Nat) (h:i<l.length):(eRPs l).getD i []=eRP l[i]:=by
 rw[List.getD_eq_getElem?_getD,List.getElem?_eq_getElem (by simpa using h)];simp
end Go.Proofs.Vx
namespace Go.Sx
set_option linter.unusedVariables false
theorem Qd_inj {a b:Rat} (h:Qd a=Qd b):a.den=b.den:=by
 unfold Qd at h
 have ha:=a.den_nz
 have hb:=b.den_nz
 split at h<;>split at h
 ·omega
 ·exact absurd ((nb_eq_empty _).1 h.symm) hb
 ·exact absurd ((nb_eq_empty _).1 h) ha
 ·exact nb_inj h
theorem eq3 (a b:Rat):eqCs [.lit (.bool (Zn a.num)),.lit (.string (Zm a.num)),.lit (.string (Qd a))] [.lit (.bool (Zn b.num)),.lit (.string (Zm b.num)),.lit (.string (Qd b))]=decide (a=b):=by
 by_cases h:a=b
 ·subst h
  simp[eqCs,ceq]
 ·have:¬ (Zn a.num=Zn b.num∧Zm a.num=Zm b.num∧Qd a=Qd b):=fun h'=>h (Rat.ext (eZ_inj h'.1 h'.2.1) (Qd_inj h'.2.2))
  rw[decide_eq_false h]
  simp only[eqCs,ceq,Bool.and_true]
  apply Bool.eq_false_iff.2
  intro hh
  simp only[Bool.and_eq_true,beq_iff_eq,decide_eq_true_eq]at hh
  exact this ⟨hh.1,hh.2.1,hh.2.2⟩
attribute [go_sem ↓] eq3
end Go.Sx
namespace Go.Proofs.Vx
open Go Go.Sx Go.Proofs
attribute [local irreducible] fnT CallOK CallFr AW effV callV runP runO oneP oneO gcaseP hid
theorem yfn_20:fnT Tryz.prog 20=true:=by kernel_rfl
set_option maxHeartbeats 3200000 in
theorem c26 (l:List Pt) (hn:l.length≤268435456):CallOK Tryz.prog 26 [.sl (l.map eP),.sl (l.map eP)] [] (.lit (.bool true)) []:=by
 refine CallOK.flat Tryz.func26 rfl 26 rfl rfl rfl [.tmp 4] (congrArg Array.toList Tryz.results26) ?_
 simp only[startT,Nat.reduceAdd]
 have hl:(l.map eP).length=l.length:=List.length_map _
 repeat' (first|refine zg ?_|(refine AW.cond rfl ?_ ?_<;>intro hc<;>first|simp only[NM]at hc|omega|skip)|refine zr ?_|refine ⟨by omega,?_⟩|(refine zb ?_ ?_<;>intro hg<;>(try rw[hg])<;>try simp only[NM]at hg)|omega|simp -dsimp (disch:=try exact zo) only[go_sem,hl]|contradiction|rfl)
 refine AW.loop (fun z:{i:Nat // i≤l.length}=>⟨[(5,.lit (.int .i64 z.1)),(0,.sl (l.map eP)),(1,.sl (l.map eP))],[],30⟩) (fun z=>l.length - z.1) ⟨0,Nat.zero_le _⟩ (Weak.t4 (by refine ⟨?_,?_,?_,?_⟩<;>simp -dsimp (disch:=try exact zo) only[go_sem,eP_in,ZC])) ?_
 rintro ⟨i,hi⟩
 dsimp only
 by_cases hlt:i<l.length
 ·have ea:=eP_getD l i hlt
  generalize l[i]=a at *
  simp only[eP,e4]at ea
  repeat' (first|refine zg ?_|(refine AW.cond rfl ?_ ?_<;>intro hc<;>first|simp only[NM]at hc|omega|skip)|refine zr ?_|refine ⟨by omega,?_⟩|(refine zb ?_ ?_<;>intro hg<;>(try rw[hg])<;>try simp only[NM]at hg)|omega|simp -dsimp (disch:=try exact zo) only[go_sem,hl,ea,ZT,and_self]|contradiction|rfl)
  all_goals exact AW.stop ⟨⟨i+1,by omega⟩,(Weak.t4 (by refine ⟨?_,?_,?_,?_⟩<;>simp -dsimp (disch:=try exact zo) only[go_sem,eP_in,ZC])),by dsimp only;omega⟩
 ·repeat' (first|refine zg ?_|(refine AW.cond rfl ?_ ?_<;>intro hc<;>first|simp only[NM]at hc|omega|skip)|refine zr ?_|refine ⟨by omega,?_⟩|(refine zb ?_ ?_<;>intro hg<;>(try rw[hg])<;>try simp only[NM]at hg)|omega|simp -dsimp (disch:=try exact zo) only[go_sem,hl]|contradiction|rfl)
theorem inCell {K:Nat→Prop} (l:PCell):In K (.agg [.sl (eS l)]):=.agg _ (by
 intro c hc
 simp only[List.mem_cons,List.not_mem_nil,or_false]at hc
 subst hc
 exact .sl _ (of_eq_true (eS_in l)))
theorem inPair {K:Nat→Prop} (l m:PCell):In K (.tup [.agg [.sl (eS l)],.agg [.sl (eS m)]]):=.tup _ (by
 intro c hc
 simp only[List.mem_cons,List.not_mem_nil,or_false]at hc
 rcases hc with rfl|rfl<;>exact inCell _)
def floorP:Pl:=⟨0,0,1,0⟩
def topP:Pl:=⟨0,0,1,1000⟩
theorem fx1:volP worldP=((8000000000:Int):Rat):=by decide +kernel
theorem fx2:volP (splitP floorP worldP).1=((4000000000:Int):Rat):=by decide +kernel
theorem fx3:(splitP topP worldP).1=worldP:=by decide +kernel
theorem fx4:(splitP topP worldP).2=[]:=by decide +kernel
theorem fx5:sg ((8000000000:Int):Rat).num=1:=by decide +kernel
theorem floor_bs:BPl 2 floorP:=⟨⟨(Zm_size _ _).2 (by decide),(Zm_size _ _).2 (by decide),(Zm_size _ _).2 (by decide),(Zm_size _ _).2 (by decide)⟩⟩
theorem top_bs:BPl 2 topP:=⟨⟨(Zm_size _ _).2 (by decide),(Zm_size _ _).2 (by decide),(Zm_size _ _).2 (by decide),(Zm_size _ _).2 (by decide)⟩⟩
theorem qs8:Qs 68719476735 ((8000000000:Int):Rat):=⟨Nat.le_trans ((Zm_size 8000000000 8).2 (by decide)) (by decide),by show (nb 1).size≤_;rw[nb_one];decide⟩
end Go.Proofs.Vx
