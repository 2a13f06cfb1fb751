import Derived.Test.YtjlfgmhmalbiiaaGreatDoorV27
set_option linter.all false
set_option maxHeartbeats 16000000
namespace Go.Sx
set_option linter.unusedVariables false
theorem a9x {m:ByteArray} {n i:Nat} (hn:n≤m.size) (hi:i<n):bt (m.extract 0 n) i=bt m i:=by
 unfold bt
 have h1:i<m.data.size:=Nat.lt_of_lt_of_le hi hn
 have h2:i<(m.extract 0 n).data.size:=by rw[ByteArray.data_extract,Array.size_extract];omega
 rw[Array.getD_eq_getD_getElem?,Array.getD_eq_getD_getElem?,Array.getElem?_eq_getElem h1,Array.getElem?_eq_getElem h2]
 simp[ByteArray.data_extract]
theorem c5f (m:ByteArray) (n k:Nat) (h:k≤n):(m.extract 0 n).extract 0 k=m.extract 0 k:=by
 apply ByteArray.ext
 simp only[ByteArray.data_extract,Array.extract_extract]
 congr 1
 omega
theorem a6e {m:ByteArray} {n:Nat} (h:n≤m.size):(m.extract 0 n).size=n:=by rw[ByteArray.size_extract];omega
theorem c0s {m:ByteArray} {n:Nat} (hn:n+1≤m.size) (hb:bt m n=0):nv (m.extract 0 n)=nv (m.extract 0 (n+1)):=by
 have h1:=a6e hn
 have:=a7g (m:=m.extract 0 (n+1)) (by omega) (by rw[h1,a9x hn (by omega)];exact hb)
 rw[h1,c5f m (n+1) _ (by omega)]at this
 exact this
theorem a9m {m:ByteArray} {n:Nat} (hn:n≤m.size) (hv:nv (m.extract 0 n)=nv m) (h:n=0∨bt m (n - 1)≠0):m.extract 0 n=nb (nv m):=by
 rw[← hv,a1x]
 rw[a6e hn]
 rcases h with h|h
 ·exact .inl h
 ·by_cases h0:n=0
  ·exact .inl h0
  ·right;rw[a9x hn (by omega)];exact h
theorem c5g (m:ByteArray):m.extract 0 m.size=m:=by
 apply ByteArray.ext
 simp[ByteArray.data_extract]
end Go.Sx
namespace Go.Sx
theorem c8j {m r:ByteArray} {j:Nat} (hj:j<m.size):nv (m.extract j (j+1)++r)=(bt m j).toNat+256*nv r:=by
 have h1:(m.extract j (j+1)++r).data.toList=(m.extract j (j+1)).data.toList++r.data.toList:=by simp
 have h2:(m.extract j (j+1)).data.toList=[m.data.toList[j]'(by simpa using hj)]:=by
  rw[ByteArray.data_extract,Array.toList_extract,List.extract_eq_take_drop]
  have:j<m.data.toList.length:=by simpa using hj
  rw[List.drop_eq_getElem_cons this,show j+1 - j=1 by omega]
  rfl
 have h3:=xK m j (by simpa using hj)
 unfold nv
 rw[h1,h2,h3]
 simp[nvL]
theorem c1w {m r:ByteArray} {j:Nat} (hj:j<m.size):(m.extract j (j+1)++r).size=r.size+1:=by
 rw[ByteArray.size_append,ByteArray.size_extract];omega
end Go.Sx
namespace Go.Proofs.Vx
open Go Go.Sx Go.Proofs Tryz
attribute [local irreducible] fnT CallOK CallFr AW aJ callV aL aI aH aM gcaseP hid
theorem gS (m:ByteArray) (hm:m.size<4611686018427387904):CallOK prog 153 [.lit (.string m)] [] (.lit (.string (nb (nv m)))) []:=by
 refine zs func153 20 [.tmp 2] results153 ?_
 simp only[aC,Nat.reduceAdd]
 repeat'(first|refine zk ?_|(refine zu ?_ ?_<;>intro hc)|(refine zv ?_ ?_<;>intro hg)|omega|simp -dsimp (disch:=try exact zo)only[go_sem]|contradiction|rfl)
 refine AW.loop (fun z:{n:Nat // n≤m.size∧nv (m.extract 0 n)=nv m}=>⟨[(3,.lit (.int .i64 z.1)),(0,.lit (.string m))],[],20⟩) (fun z=>z.1) ⟨m.size,Nat.le_refl _,by rw[c5g]⟩ zw ?_
 rintro⟨n,hn,hv⟩
 dsimp only
 cases n with
 | zero =>
  have hr:=a9m hn hv (.inl rfl)
  repeat'(first|refine zk ?_|(refine zu ?_ ?_<;>intro hc)|(refine zv ?_ ?_<;>intro hg)|omega|simp -dsimp (disch:=try exact zo)only[go_sem,ZT,hr,Int.ofNat_zero,Int.cast_ofNat_Int,Int.natCast_zero]|contradiction|rfl)
 | succ n =>
  have e:((n+1:Nat):Int) - 1=(n:Int):=by omega
  by_cases q:bt m n=0
  ·have k1:=eq_true q
   have hc2:=c0s hn q
   have hr:True:=trivial
   repeat'(first|refine zk ?_|(refine zu ?_ ?_<;>intro hc)|(refine zv ?_ ?_<;>intro hg)|omega|simp -dsimp (disch:=try exact zo)only[go_sem,e,ZT,k1,hr]|contradiction|rfl)
   all_goals exact AW.stop ⟨⟨n,by omega,hc2.trans hv⟩,zw,by dsimp only;omega⟩
  ·have k1:=eq_false q
   have hr:=a9m hn hv (.inr q)
   exact z1
theorem jA (m:ByteArray) (i:Nat) (hm:m.size<4611686018427387904):CallOK prog 217 [.lit (.string m),.lit (.int .i64 i)] [] (.lit (.int .i64 (bt m i))) []:=by
 refine zs func217 13 [.tmp 4] results217 ?_
 simp only[aC,Nat.reduceAdd]
 by_cases hi:i<m.size
 ·have zh0:=@a4a
  exact z1
 ·have hr:=a1o (m:=m) (i:=i) (by omega)
  rw[hr]
  exact z1
theorem c207 (a b:ByteArray) (ha:a.size<1099511627776) (hb:b.size<1099511627776):CallOK prog 207 [.lit (.string a),.lit (.string b)] [] (.lit (.int .i64 (bO (nv a) (nv b)))) []:=by
 refine zs func207 43 [.tmp 4] results207 ?_
 simp only[aC,Nat.reduceAdd]
 have hc0:=dF a
 have hd0:=dF b
 have hcn:nv (nb (nv a))=nv a:=aV _
 have hdn:nv (nb (nv b))=nv b:=aV _
 have hlt1:(nb (nv a)).size<(nb (nv b)).size→nv a<nv b:=vE
 have hlt2:(nb (nv b)).size<(nb (nv a)).size→nv b<nv a:=vE
 have ca:=gS a (by omega)
 have cb:=gS b (by omega)
 generalize hcc:nb (nv a)=c at *
 generalize hdd:nb (nv b)=d at *
 rw[← hcn,← hdn]
 clear hcc hdd
 by_cases q1:c.size<d.size
 ·have:bO (nv c) (nv d)=-1:=by unfold bO;rw[if_pos (by rw[hcn,hdn];exact hlt1 q1)]
  rw[this]
  exact z1
 ·by_cases q2:d.size<c.size
  ·have:bO (nv c) (nv d)=1:=by have:=hlt2 q2;unfold bO;rw[if_neg (by omega),if_neg (by omega)]
   rw[this]
   exact z1
  ·have hsz:d.size=c.size:=by omega
   clear hlt1 hlt2 hcn hdn
   repeat'(first|refine zk ?_|(refine zu ?_ ?_<;>intro hc)|(first|refine zf ca ?_|refine zf cb ?_)|(refine zv ?_ ?_<;>intro hg)|omega|simp -dsimp (disch:=try exact zo)only[go_sem]|contradiction|rfl)
   refine AW.loop (fun z:{i:Nat // i≤c.size∧nv c / 256 ^ (c.size - i)=nv d / 256 ^ (c.size - i)}=>⟨[(7,.lit (.int .i64 ((c.size:Int) - 1 - z.1))),(5,.lit (.string c)),(6,.lit (.string d))],[],30⟩) (fun z=>c.size - z.1) ⟨0,Nat.zero_le _,by
    have h1:=eW c
    have h2:=eW d
    rw[hsz]at h2
    rw[Nat.sub_zero,Nat.div_eq_of_lt h1,Nat.div_eq_of_lt h2]⟩ (aR (by refine⟨?_,?_,?_,?_⟩<;>simp -dsimp (disch:=try exact zo)only[go_sem,Int.sub_zero,Int.natCast_zero,Int.ofNat_zero,Int.cast_ofNat_Int,Int.natCast_add])) ?_
   rintro⟨i,hi,hq⟩
   dsimp only
   by_cases hil:i<c.size
   ·have ek:((c.size:Int) - 1 - i).toNat=c.size - 1 - i:=by omega
    have hq1:nv c / 256 ^ (c.size - 1 - i+1)=nv d / 256 ^ (c.size - 1 - i+1):=by rwa [show c.size - 1 - i+1=c.size - i by omega]
    have b1:=j5 c (c.size - 1 - i)
    have b2:=j5 d (c.size - 1 - i)
    by_cases w1:bt c (c.size - 1 - i)<bt d (c.size - 1 - i)
    ·have hr:bO (nv c) (nv d)=-1:=by unfold bO;rw[if_pos ((p7 hq1).1 (by omega))]
     have k1:=eq_true w1
     have k2:True:=trivial
     rw[hr]
     clear hq hq1 b1 b2
     exact z1
    ·by_cases w2:bt d (c.size - 1 - i)<bt c (c.size - 1 - i)
     ·have hr:bO (nv c) (nv d)=1:=by
       have:=(p7 hq1.symm).1 (by omega)
       unfold bO;rw[if_neg (by omega),if_neg (by omega)]
      have k1:=eq_false w1
      have k2:=eq_true w2
      rw[hr]
      clear hq hq1 b1 b2
      exact z1
     ·have k1:=eq_false w1
      have k2:=eq_false w2
      have hn:nv c / 256 ^ (c.size - (i+1))=nv d / 256 ^ (c.size - (i+1)):=by
       rw[show c.size - (i+1)=c.size - 1 - i by omega]
       exact (p7 hq1).2 (by omega)
      have hsb:(c.size:Int) - 1 - ((i:Int)+1)=(c.size:Int) - 1 - i - 1:=by omega
      clear hq hq1 b1 b2
      repeat'(first|refine zk ?_|(refine zu ?_ ?_<;>intro hc)|(refine zv ?_ ?_<;>intro hg)|omega|simp -dsimp (disch:=try exact zo)only[go_sem,ek,k1,k2]|contradiction|rfl)
      all_goals exact AW.stop ⟨⟨i+1,by omega,hn⟩,(mW (by simp -dsimp (disch:=try exact zo)only[go_sem,ZC,hsb]) (by simp -dsimp (disch:=try exact zo)only[go_sem,ZC]) (by decide) (by simp -dsimp (disch:=try exact zo)only[go_sem,ZC]) (by simp -dsimp (disch:=try exact zo)only[go_sem,ZC])),by dsimp only;omega⟩
   ·have e:c.size - i=0:=by omega
    rw[e]at hq
    simp only[Nat.pow_zero,Nat.div_one]at hq
    have hr:bO (nv c) (nv d)=0:=by unfold bO;rw[hq,if_neg (by omega),if_pos rfl]
    rw[hr]
    exact z1
end Go.Proofs.Vx
namespace Go.Proofs.Vx
open Go Go.Sx Go.Proofs Tryz
attribute [local irreducible] fnT CallOK CallFr AW aJ callV aL aI aH aM gcaseP hid
theorem tN (X:List Int) (h:gI X):(nv ⟨(ofI X).toArray⟩:Int)=w8 X:=by
 have:nv ⟨(ofI X).toArray⟩=nvL (ofI X):=by unfold nv;simp
 rw[this,c4f h]
theorem sQ (X:List Int):(⟨(ofI X).toArray⟩:ByteArray).size=X.length:=by simp[ByteArray.size,ofI]
theorem c175 (a b:ByteArray) (ha:a.size<1099511627776) (hb:b.size<1099511627776) (hle:nv b≤nv a):CallOK prog 175 [.lit (.string a),.lit (.string b)] [] (.tup [.lit (.string (nb (nv a - nv b))),.lit (.bool true)]) []:=by
 refine zs func175 42 [.tmp 4,.tmp 5] results175 ?_
 simp only[aC,Nat.reduceAdd]
 have hml:maxLen=9223372036854775807:=rfl
 have c207x:=c207 a b ha hb
 have hi0:aG .u8 []=[]:=rfl
 have hc0:0≤bO (nv a) (nv b):=by unfold bO;rw[if_neg (by omega)];split<;>omega
 generalize bO (nv a) (nv b)=cm at *
 have k0:(cm<0)=False:=eq_false (by omega)
 repeat'(first|refine zk ?_|(refine zu ?_ ?_<;>intro hc)|(refine zf c207x ?_)|(refine zv ?_ ?_<;>intro hg)|omega|simp -dsimp (disch:=try exact zo)only[go_sem,k0]|contradiction|rfl)
 refine AW.loop (fun z:{p:Nat × List Int × Int // p.1≤a.size∧gI p.2.1∧p.2.1.length=p.1∧(p.2.2=0∨p.2.2=1)∧w8 p.2.1=bM a p.1 - bM b p.1+p.2.2*256 ^ p.1}=>⟨[(8,.lit (.int .i64 z.1.1)),(7,.lit (.int .i64 z.1.2.2)),(6,.ref 14 0 z.1.1 z.1.1),(0,.lit (.string a)),(1,.lit (.string b))],[(14,.vec 1 (aG .u8 z.1.2.1))],40⟩) (fun z=>a.size - z.1.1) ⟨(0,[],0),Nat.zero_le _,fun x hx=>by simp at hx,rfl,.inl rfl,by simp[w8,vR]⟩ zw ?_
 rintro⟨⟨i,X,c⟩,hi,dX,hX,hc1,hv⟩
 dsimp only at hi dX hX hc1 hv ⊢
 clear k0 c207x hc0
 by_cases hlt:i<a.size
 ·have b1:=jH a i
  have b2:=jH b i
  have e1:=pF a i
  have e2:=pF b i
  have key:∀ d c':Int,d=bt a i - bt b i - c+256*c'→w8 (X++[d])=bM a (i+1) - bM b (i+1)+c'*256 ^ (i+1):=by
   intro d c' hd
   rw[a4b,hX,hv,e1,e2,hd,nT]
   simp only[w8]
   grind
  have hXl:(X++[0]).length=i+1:=by simp[hX]
  by_cases q:bt a i - bt b i - c<0
  ·have k1:=eq_true q
   have hd:0≤bt a i - bt b i - c+256∧bt a i - bt b i - c+256<256:=by omega
   have wd:IntKind.u8.wrap (bt a i - bt b i - c+256)=bt a i - bt b i - c+256:=j1 hd.1 hd.2
   have key1:=key (bt a i - bt b i - c+256) 1 (by omega)
   have dX1:=pN dX hd
   clear key e1 e2 hv
   repeat'(first|refine zk ?_|(refine zu ?_ ?_<;>intro hc)|(first|refine zf (jA a i (by omega)) ?_|refine zf (jA b i (by omega)) ?_)|(refine zv ?_ ?_<;>intro hg)|omega|simp -dsimp (disch:=try exact zo)only[go_sem,k1,wd,ZT,bW,gK,hX]|contradiction|rfl)
   all_goals exact AW.stop ⟨⟨(i+1,X++[bt a i - bt b i - c+256],1),by dsimp only;omega,dX1,by simp[hX],.inr rfl,key1⟩,(aR (by refine⟨?_,?_,?_,?_⟩<;>first|(simp -dsimp (disch:=try exact zo)only[go_sem,ZC,hXl,gK];done)|(simp -dsimp (disch:=try exact zo)only[go_sem,ZC];done))),by dsimp only;omega⟩
  ·have k1:=eq_false q
   have hd:0≤bt a i - bt b i - c∧bt a i - bt b i - c<256:=by omega
   have wd:IntKind.u8.wrap (bt a i - bt b i - c)=bt a i - bt b i - c:=j1 hd.1 hd.2
   have key1:=key (bt a i - bt b i - c) 0 (by omega)
   have dX1:=pN dX hd
   clear key e1 e2 hv
   repeat'(first|refine zk ?_|(refine zu ?_ ?_<;>intro hc)|(first|refine zf (jA a i (by omega)) ?_|refine zf (jA b i (by omega)) ?_)|(refine zv ?_ ?_<;>intro hg)|omega|simp -dsimp (disch:=try exact zo)only[go_sem,k1,wd,ZT,bW,gK,hX]|contradiction|rfl)
   all_goals exact AW.stop ⟨⟨(i+1,X++[bt a i - bt b i - c],0),by dsimp only;omega,dX1,by simp[hX],.inl rfl,key1⟩,(aR (by refine⟨?_,?_,?_,?_⟩<;>first|(simp -dsimp (disch:=try exact zo)only[go_sem,ZC,hXl,gK];done)|(simp -dsimp (disch:=try exact zo)only[go_sem,ZC];done))),by dsimp only;omega⟩
 ·have hil:i=a.size:=by omega
  subst hil
  have hfin:nb (nv ⟨(ofI X).toArray⟩)=nb (nv a - nv b):=by
   congr 1
   have h1:=tN X dX
   have h2:=pK (m:=a) (Nat.le_refl _)
   have h3:bM b a.size=(nv b:Int):=by unfold bM;rw[Nat.mod_eq_of_lt (Nat.lt_of_le_of_lt hle (eW a))]
   have h4:=(b0e dX).2
   rw[hX]at h4
   have h5:=zJ a.size
   rcases hc1 with rfl|rfl
   ·omega
   ·omega
  clear hv
  repeat'(first|refine zk ?_|(refine zu ?_ ?_<;>intro hc)|(refine zv ?_ ?_<;>intro hg)|omega|simp -dsimp (disch:=try exact zo)only[go_sem,hX,bW]|contradiction|rfl)
  all_goals
   refine⟨ofI X,by first|exact iF _ dX|(rw[List.take_of_length_le (by first|omega|(rw[bW];omega))];exact iF _ dX),?_⟩
   repeat'(first|refine zk ?_|(refine zu ?_ ?_<;>intro hc)|(refine zf (gS _ (by rw[sQ];omega)) ?_)|(refine zv ?_ ?_<;>intro hg)|omega|simp -dsimp (disch:=try exact zo)only[go_sem,hfin]|contradiction|rfl)
end Go.Proofs.Vx
namespace Go.Proofs.Vx
open Go Go.Sx Go.Proofs Tryz
attribute [local irreducible] fnT CallOK CallFr AW aJ callV aL aI aH aM gcaseP hid
theorem c173 (a b:ByteArray) (ha:a.size<1099511627776) (hb:b.size<1099511627776):CallOK prog 173 [.lit (.string a),.lit (.string b)] [] (.lit (.string (nb (nv a*nv b)))) []:=by
 refine zs func173 77 [.tmp 4] results173 ?_
 simp only[aC,Nat.reduceAdd]
 have hml:maxLen=9223372036854775807:=rfl
 have hi0:aG .u8 []=[]:=rfl
 obtain⟨L,hL⟩:∃ L,L=a.size+b.size+1:=⟨_,rfl⟩
 have eL:((a.size:Int)+b.size+1).toNat=L:=by omega
 repeat'(first|refine zk ?_|(refine zu ?_ ?_<;>intro hc)|(refine zv ?_ ?_<;>intro hg)|omega|simp -dsimp (disch:=try exact zo)only[go_sem]|contradiction|rfl)
 rw[eL]
 refine AW.loop (fun z:{p:Nat × List Int // p.1≤a.size∧gI p.2∧p.2.length=L∧w8 p.2=bM a p.1*(nv b:Int)}=>⟨[(6,.lit (.int .i64 z.1.1)),(5,.ref 15 0 L L),(0,.lit (.string a)),(1,.lit (.string b))],[(15,.vec 1 (aG .i64 z.1.2))],40⟩) (fun z=>a.size - z.1.1) ⟨(0,List.replicate L 0),Nat.zero_le _,fun x hx=>by have:=List.eq_of_mem_replicate hx;omega,by simp,by simp only[a8w,vR,Int.zero_mul]⟩ zw ?_
 rintro⟨⟨i,S⟩,hi,dS,hS,hv⟩
 dsimp only at hi dS hS hv ⊢
 by_cases hlt:i<a.size
 ·repeat'(first|refine zk ?_|(refine zu ?_ ?_<;>intro hc)|(refine zv ?_ ?_<;>intro hg)|omega|simp -dsimp (disch:=try exact zo)only[go_sem]|contradiction|rfl)
  refine AW.loop (fun z:{p:Nat × List Int × Int // p.1≤b.size+1∧gI p.2.1∧p.2.1.length=L∧(0≤p.2.2∧p.2.2≤255)∧w8 p.2.1+p.2.2*256 ^ (i+p.1)=bM a i*(nv b:Int)+bt a i*bM b p.1*256 ^ i}=>⟨[(8,.lit (.int .i64 z.1.1)),(7,.lit (.int .i64 z.1.2.2)),(6,.lit (.int .i64 i)),(5,.ref 15 0 L L),(0,.lit (.string a)),(1,.lit (.string b))],[(15,.vec 1 (aG .i64 z.1.2.1))],60⟩) (fun z=>b.size+2 - z.1.1) ⟨(0,S,0),Nat.zero_le _,dS,hS,by dsimp only;omega,by dsimp only;rw[hv,vR];simp⟩ zw ?_
  clear hv dS hS
  rintro⟨⟨k,S,c⟩,hk,dS,hSl,hc1,hv⟩
  dsimp only at hk dS hSl hc1 hv ⊢
  have A1:=pF a i
  have A2:=a7r a (i+1)
  have B0:=b2l b k
  by_cases hx:k<b.size∨0<c
  ·
   have hkb:k≤b.size:=by
    rcases hx with hx|hx
    ·omega
    ·apply Classical.byContradiction
     intro hgt
     have hkk:k=b.size+1:=by omega
     have h1:bM b k=(nv b:Int):=pK (by omega)
     have h2:bM a i*(nv b:Int)+bt a i*bM b k*256 ^ i=bM a (i+1)*(nv b:Int):=by rw[h1,A1];grind
     have h3:=(b0e dS).1
     have h4:(256:Int) ^ (i+k)≤c*256 ^ (i+k):=by
      have:=Int.mul_le_mul_of_nonneg_right (show (1:Int)≤c by omega) (Int.le_of_lt (zJ (i+k)))
      omega
     have h5:bM a (i+1)*(nv b:Int)<256 ^ (i+1)*256 ^ b.size:=by
      have h6:(nv b:Int)<256 ^ b.size:=by have:=eW b;have e:=zK b.size;omega
      have h7:=Int.mul_le_mul_of_nonneg_right (Int.le_of_lt A2.2) (show (0:Int)≤(nv b:Int) by omega)
      have h8:=Int.mul_lt_mul_of_pos_left h6 (zJ (i+1))
      omega
     rw[← Int.pow_add]at h5
     rw[show i+k=i+1+b.size by omega]at h4 hv
     omega
   have hj:i+k<L:=by omega
   have hS2:=a8v (xs:=S) (i:=i+k) (by omega)
   have B1:=pF b k
   have g1:=jH a i
   have g2:=jH b k
   have g3:=a4z dS (i+k)
   have he:(aG .i64 S).getD (i+k) []=[.lit (.int .i64 (S.getD (i+k) 0))]:=y4 .i64 S (i+k) (by omega)
   have ek:((i:Int)+(k:Int)).toNat=i+k:=by omega
   have cat:=jA a i (by omega)
   have cbt:=jA b k (by omega)
   have hq:∀ n:Int,n=S.getD (i+k) 0+bt a i*bt b k+c→w8 (S.set (i+k) (n % 256))+n / 256*256 ^ (i+(k+1))=bM a i*(nv b:Int)+bt a i*bM b (k+1)*256 ^ i:=by
    intro n hn
    rw[hS2,B1,show i+(k+1)=(i+k)+1 by omega,nT]
    have h1:n % 256=n - 256*(n / 256):=by omega
    have h2:(256:Int) ^ (i+k)=256 ^ i*256 ^ k:=Int.pow_add _ _ _
    rw[h1]
    generalize n / 256=r at *
    grind
   have dS2:=fun n:Int=>a6h dS (i:=i+k) (d:=n % 256) (by omega)
   have hSl2:∀ d:Int,(S.set (i+k) d).length=L:=fun d=>by rw[List.length_set];exact hSl
   clear hv A1 A2 B0 B1 hS2
   generalize bM a i*(nv b:Int)=V1 at *
   generalize bt a i=P at *
   generalize bt b k=Q at *
   generalize S.getD (i+k) 0=s0 at *
   have hPQ:0≤P*Q∧P*Q≤65025:=by
    refine⟨Int.mul_nonneg g1.1 g2.1,?_⟩
    have h1:=Int.mul_le_mul_of_nonneg_right (show P≤255 by omega) g2.1
    omega
   have hP:IntKind.i64.wrap (P*Q)=P*Q:=wrap64 (by omega) (by omega)
   have hq:=hq (s0+P*Q+c) rfl
   have dS2:=dS2 (s0+P*Q+c)
   have hc2:0≤(s0+P*Q+c) / 256∧(s0+P*Q+c) / 256≤255:=by omega
   have hn:True:=trivial
   generalize hPQe:P*Q=PQ at *
   have hk1:k<b.size∨(¬ k<b.size∧0<c):=by omega
   clear hx
   have gw:Hid (w8 (S.set (i+k) ((s0+PQ+c) % 256))+(s0+PQ+c) / 256*256 ^ (i+(k+1))=V1+P*bM b (k+1)*256 ^ i):=Hid.mk hq
   clear hq
   rcases hk1 with hk1|⟨hk1,hk2⟩
   ·have k1:True:=trivial
    have k2:True:=trivial
    repeat'(first|refine zk ?_|(refine zu ?_ ?_<;>intro hc)|(first|refine zf cat ?_|refine zf cbt ?_)|(refine zv ?_ ?_<;>intro hg)|omega|simp -dsimp (disch:=try exact zo)only[go_sem,k1,k2,ek,he,hP,hn,bW,hSl,ZT]|contradiction|rfl)
    all_goals exact AW.stop ⟨⟨(k+1,S.set (i+k) ((s0+PQ+c) % 256),(s0+PQ+c) / 256),by dsimp only;omega,dS2,hSl2 _,hc2,gw.out⟩,zw,by dsimp only;omega⟩
   ·have k1:True:=trivial
    have k2:True:=trivial
    repeat'(first|refine zk ?_|(refine zu ?_ ?_<;>intro hc)|(first|refine zf cat ?_|refine zf cbt ?_)|(refine zv ?_ ?_<;>intro hg)|omega|simp -dsimp (disch:=try exact zo)only[go_sem,k1,k2,ek,he,hP,hn,bW,hSl,ZT]|contradiction|rfl)
    all_goals exact AW.stop ⟨⟨(k+1,S.set (i+k) ((s0+PQ+c) % 256),(s0+PQ+c) / 256),by dsimp only;omega,dS2,hSl2 _,hc2,gw.out⟩,zw,by dsimp only;omega⟩
  ·have hc0:c=0:=by omega
   subst hc0
   have h1:bM b k=(nv b:Int):=pK (by omega)
   have hv2:Hid (w8 S=bM a (i+1)*(nv b:Int)):=Hid.mk (by rw[h1]at hv;rw[A1];grind)
   clear hv A1 A2 B0 h1
   have k1:True:=trivial
   have k2:True:=trivial
   repeat'(first|refine zk ?_|(refine zu ?_ ?_<;>intro hc)|(refine zv ?_ ?_<;>intro hg)|omega|simp -dsimp (disch:=try exact zo)only[go_sem,k1,k2]|contradiction|rfl)
   all_goals exact AW.stop ⟨⟨(i+1,S),by dsimp only;omega,dS,hSl,hv2.out⟩,zw,by dsimp only;omega⟩
 ·have hil:i=a.size:=by omega
  subst hil
  have hSl:S.length=L:=hS
  have hfin:nb (nv ⟨(ofI S).toArray⟩)=nb (nv a*nv b):=by
   congr 1
   have h1:=tN S dS
   rw[pK (Nat.le_refl _)]at hv
   have:((nv a*nv b:Nat):Int)=(nv a:Int)*(nv b:Int):=Int.natCast_mul _ _
   omega
  clear hv
  repeat'(first|refine zk ?_|(refine zu ?_ ?_<;>intro hc)|(refine zv ?_ ?_<;>intro hg)|omega|simp -dsimp (disch:=try exact zo)only[go_sem,bW,hSl]|contradiction|rfl)
  refine AW.loop (fun z:{i:Nat // i≤L}=>⟨[(64,.lit (.int .i64 z.1)),(63,.lit (.int .i64 L)),(62,.ref 15 0 L L),(10,.ref 44 0 z.1 z.1)],[(15,.vec 1 (aG .i64 S)),(44,.vec 1 (aG .u8 (S.take z.1)))],70⟩) (fun z=>L - z.1) ⟨0,Nat.zero_le _⟩ zw ?_
  rintro⟨j,hj⟩
  dsimp only
  have hXl:(S.take j).length=j:=by rw[List.length_take];omega
  by_cases hjt:j<L
  ·have es:(aG .i64 S).getD j []=[.lit (.int .i64 (S.getD j 0))]:=y4 .i64 S j (by omega)
   have hd:=a4z dS j
   have wd:IntKind.u8.wrap (S.getD j 0)=S.getD j 0:=j1 hd.1 hd.2
   have hX1:S.take (j+1)=S.take j++[S.getD j 0]:=by
    rw[List.take_succ_eq_append_getElem (by omega),List.getD_eq_getElem?_getD,List.getElem?_eq_getElem (by omega)];rfl
   generalize S.getD j 0=s0 at *
   repeat'(first|refine zk ?_|(refine zu ?_ ?_<;>intro hc)|(refine zv ?_ ?_<;>intro hg)|omega|simp -dsimp (disch:=try exact zo)only[go_sem,es,wd,hXl,bW,gK,hSl,ZT]|contradiction|rfl)
   all_goals exact AW.stop ⟨⟨j+1,by omega⟩,(aR (by refine⟨?_,?_,?_,?_⟩<;>first|(simp -dsimp (disch:=try exact zo)only[go_sem,ZC,gK,hX1];done)|(simp -dsimp (disch:=try exact zo)only[go_sem,ZC];done))),by dsimp only;omega⟩
  ·have hjl:j=L:=by omega
   subst hjl
   have htk:S.take j=S:=List.take_of_length_le (by omega)
   rw[htk]at hXl ⊢
   repeat'(first|refine zk ?_|(refine zu ?_ ?_<;>intro hc)|(refine zv ?_ ?_<;>intro hg)|omega|simp -dsimp (disch:=try exact zo)only[go_sem,hXl,bW]|contradiction|rfl)
   all_goals
    refine⟨ofI S,by first|exact iF _ dS|(rw[List.take_of_length_le (by first|omega|(rw[bW];omega))];exact iF _ dS),?_⟩
    repeat'(first|refine zk ?_|(refine zu ?_ ?_<;>intro hc)|(refine zf (gS _ (by rw[sQ];omega)) ?_)|(refine zv ?_ ?_<;>intro hg)|omega|simp -dsimp (disch:=try exact zo)only[go_sem,hfin]|contradiction|rfl)
end Go.Proofs.Vx
namespace Go.Proofs.Vx
open Go Go.Sx Go.Proofs Tryz
attribute [local irreducible] fnT CallOK CallFr AW aJ callV aL aI aH aM gcaseP hid
theorem b7o:arT prog 209=none∧szT prog 5=some 1:=by and_intros<;>kernel_rfl
attribute [go_sem] b7o
theorem c208 (a:ByteArray) (n:Int) (hn:0≤n∧n<256) (ha:a.size<1099511627776):CallOK prog 208 [.lit (.string a),.lit (.int .i64 n)] [] (.lit (.string (nb (nv a*n.toNat)))) []:=by
 refine zs func208 11 [.tmp 4] results208 ?_
 simp only[aC,Nat.reduceAdd]
 have hml:maxLen=9223372036854775807:=rfl
 have wn:IntKind.u8.wrap n=n:=j1 hn.1 hn.2
 have dn:gI [n]:=fun x hx=>by
  obtain rfl:x=n:=by simpa using hx
  exact hn
 have hfin:nv ⟨(ofI [n]).toArray⟩=n.toNat:=by
  have:=tN [n] dn
  simp only[w8]at this
  omega
 repeat'(first|refine zk ?_|(refine zu ?_ ?_<;>intro hc)|(refine zv ?_ ?_<;>intro hg)|omega|simp -dsimp (disch:=try exact zo)only[go_sem]|contradiction|rfl)
 all_goals
  refine⟨ofI [n],by first|exact iF _ dn|(rw[wn];exact iF [n] dn),?_⟩
  repeat'(first|refine zk ?_|(refine zu ?_ ?_<;>intro hc)|(refine zf (c173 a _ ha (by rw[sQ];simp)) ?_)|(refine zv ?_ ?_<;>intro hg)|omega|simp -dsimp (disch:=try exact zo)only[go_sem,hfin]|contradiction|rfl)
theorem c156 (a b:ByteArray) (ha:a.size<1073741824) (hb:b.size<1073741824) (h0:nv b≠0):CallOK prog 156 [.lit (.string a),.lit (.string b)] [] (.tup [.lit (.string (nb (nv a / nv b))),.lit (.string (nb (nv a % nv b))),.lit (.bool true)]) []:=by
 refine zs func156 68 [.tmp 4,.tmp 5,.tmp 6] results156 ?_
 simp only[aC,Nat.reduceAdd]
 have hml:maxLen=9223372036854775807:=rfl
 have cb:=gS b (by omega)
 have hb1:(nb (nv b)=⟨#[]⟩)=False:=eq_false (fun h=>h0 ((fT _).1 h))
 have hrs0:nb (cF a a.size % nv b)=⟨#[]⟩:=by rw[a4u (Nat.le_refl _),Nat.zero_mod,dG]
 repeat'(first|refine zk ?_|(refine zu ?_ ?_<;>intro hc)|(refine zf cb ?_)|(refine zv ?_ ?_<;>intro hg)|omega|simp -dsimp (disch:=try exact zo)only[go_sem,hb1]|contradiction|rfl)
 have hsb:∀ r:Nat,r<nv b→(nb r).size≤b.size:=fun r hr=>(cE _ _).2 (Nat.lt_trans hr (eW b))
 generalize hB:nv b=B at *
 have hB0:0<B:=by omega
 refine AW.loop (fun z:{p:Nat × List Int // p.1≤a.size∧gI p.2∧p.2.length=a.size∧(∀ q,q<p.1→p.2.getD q 0=0)∧w8 p.2=((cF a p.1 / B:Nat):Int)*256 ^ p.1}=>⟨[(9,.lit (.int .i64 ((z.1.1:Int) - 1))),(8,.lit (.string (nb (cF a z.1.1 % B)))),(7,.ref 16 0 a.size a.size),(0,.lit (.string a)),(1,.lit (.string b))],[(16,.vec 1 (aG .u8 z.1.2))],60⟩) (fun z=>z.1.1) ⟨(a.size,List.replicate a.size 0),Nat.le_refl _,fun x hx=>by have:=List.eq_of_mem_replicate hx;omega,by simp,fun q hq=>by dsimp only;rw[List.getD_eq_getElem?_getD,List.getElem?_replicate];split<;>rfl,by dsimp only;rw[a8w,a4u (Nat.le_refl _)];simp⟩ zw ?_
 rintro⟨⟨j,Q⟩,hj,dQ,hQ,hz,hv⟩
 dsimp only at hj dQ hQ hz hv ⊢
 cases j with
 | zero =>
  have hfin:nb (nv ⟨(ofI Q).toArray⟩)=nb (nv a / B):=by
   congr 1
   have h1:=tN Q dQ
   rw[a3q]at hv
   simp only[Int.pow_zero,Int.mul_one]at hv
   omega
  have hrs:cF a 0=nv a:=a3q a
  clear hv hz
  rw[hrs]
  repeat'(first|refine zk ?_|(refine zu ?_ ?_<;>intro hc)|(refine zv ?_ ?_<;>intro hg)|omega|simp -dsimp (disch:=try exact zo)only[go_sem,hQ,bW]|contradiction|rfl)
  all_goals
   refine⟨ofI Q,by first|exact iF _ dQ|(rw[List.take_of_length_le (by first|omega|(rw[bW];omega))];exact iF _ dQ),?_⟩
   repeat'(first|refine zk ?_|(refine zu ?_ ?_<;>intro hc)|(refine zf (gS _ (by rw[sQ];omega)) ?_)|(refine zv ?_ ?_<;>intro hg)|omega|simp -dsimp (disch:=try exact zo)only[go_sem,hfin]|contradiction|rfl)
 | succ j =>
  have hH:=b3y a j
  have hbt:=jH a j
  have hr0:=Nat.mod_lt (cF a (j+1)) hB0
  have hdm:=Nat.div_add_mod (cF a (j+1)) B
  have hcat:=c8j (m:=a) (r:=nb (cF a (j+1) % B)) (j:=j) (by omega)
  rw[aV]at hcat
  have hcs:=c1w (m:=a) (r:=nb (cF a (j+1) % B)) (j:=j) (by omega)
  have hsz:=hsb _ hr0
  have e1:((j+1:Nat):Int) - 1=(j:Int):=by omega
  have e2:((j:Int)+1).toNat=j+1:=by omega
  have hz0:=hz j (by omega)
  have hz1:∀ q,q<j→∀ d:Int,(Q.set j d).getD q 0=0:=fun q hq d=>by
   have:=hz q (by omega)
   simp only[List.getD_eq_getElem?_getD]at this ⊢
   rw[List.getElem?_set_ne (by omega)];exact this
  have hws:=a8v (xs:=Q) (i:=j) (by omega)
  obtain⟨v,hvv⟩:∃ v,v=(bt a j).toNat+256*(cF a (j+1) % B):=⟨_,rfl⟩
  have hv256:v<256*B:=by
   have:=Nat.mul_le_mul_left 256 (show cF a (j+1) % B+1≤B by omega)
   omega
  have hnew:cF a j=B*(256*(cF a (j+1) / B))+v:=by
   rw[hH,hvv]
   generalize cF a (j+1) / B=q at *
   generalize cF a (j+1) % B=r at *
   rw[← hdm]
   have:B*(256*q)=256*(B*q):=Nat.mul_left_comm _ _ _
   omega
  have hdiv:cF a j / B=256*(cF a (j+1) / B)+v / B:=by rw[hnew,Nat.mul_add_div hB0]
  have hmod:cF a j % B=v % B:=by rw[hnew,Nat.mul_add_mod]
  have hvB:v / B<256:=(Nat.div_lt_iff_lt_mul hB0).2 hv256
  have hw:Hid (w8 (Q.set j ((v / B:Nat):Int))=((cF a j / B:Nat):Int)*256 ^ j):=Hid.mk (by
   rw[hws,hz0,hv,hdiv,nT,Int.natCast_add,Int.natCast_mul]
   generalize ((cF a (j+1) / B:Nat):Int)=q
   generalize ((v / B:Nat):Int)=d
   have:((256:Nat):Int)=256:=rfl
   rw[this]
   grind)
  have dQ2:∀ d:Nat,d<256→gI (Q.set j (d:Int)):=fun d hd=>a6h dQ (by omega)
  have dQ2:=dQ2 (v / B) hvB
  have hdv:=Nat.div_add_mod v B
  have hvm:=Nat.mod_lt v hB0
  rw[← hvv]at hcat
  clear hv hws hz hnew hdiv hH hdm hvv
  generalize hR:cF a (j+1) % B=r at *
  have cn:=gS (a.extract j (j+1)++nb r) (by omega)
  rw[hcat]at cn
  have hvs:(nb v).size≤b.size+1:=by
   refine (cE _ _).2 (Nat.lt_of_lt_of_le hv256 ?_)
   have:=eW b
   rw[hB]at this
   rw[Nat.pow_succ]
   omega
  have hes:(a.extract j (j+1)).size=1:=by rw[ByteArray.size_extract];omega
  clear hcat hcs
  repeat'(first|refine zk ?_|(refine zu ?_ ?_<;>intro hc)|(refine zf cn ?_)|(refine zv ?_ ?_<;>intro hg)|omega|simp -dsimp (disch:=try exact zo)only[go_sem,e1,e2,ZT]|contradiction|rfl)
  refine AW.loop (fun z:{p:Nat × Nat // p.1≤p.2∧p.2≤255∧B*p.1≤v∧v<B*(p.2+1)}=>⟨[(10,.lit (.int .i64 z.1.1)),(11,.lit (.int .i64 z.1.2)),(9,.lit (.int .i64 j)),(8,.lit (.string (nb v))),(7,.ref 16 0 a.size a.size),(0,.lit (.string a)),(1,.lit (.string b))],[(16,.vec 1 (aG .u8 Q))],90⟩) (fun z=>z.1.2 - z.1.1) ⟨(0,255),by decide,by decide,by simp,by dsimp only;omega⟩ (aR (by refine⟨?_,?_,?_,?_⟩<;>simp -dsimp (disch:=try exact zo)only[go_sem,hQ,Int.cast_ofNat_Int,Int.natCast_zero,Int.ofNat_zero,Int.natCast_add])) ?_
  rintro⟨⟨lo,hi⟩,h1,h2,h3,h4⟩
  dsimp only at h1 h2 h3 h4 ⊢
  by_cases hlt:lo<hi
  ·obtain⟨mid,hmid⟩:∃ mid,mid=(lo+hi+1) / 2:=⟨_,rfl⟩
   have em:((lo:Int)+(hi:Int)+1) / 2=(mid:Int):=by omega
   have hm1:lo<mid∧mid≤hi:=by omega
   have cs:=c208 b (mid:Int) (by omega) (by omega)
   rw[hB,Int.toNat_natCast]at cs
   have hms:(nb (B*mid)).size≤b.size+1:=by
    refine (cE _ _).2 ?_
    have:=eW b
    rw[hB]at this
    rw[Nat.pow_succ]
    have h6:B*mid≤B*255:=Nat.mul_le_mul_left _ (by omega)
    omega
   have cc:=c207 (nb (B*mid)) (nb v) (by omega) (by omega)
   rw[aV,aV]at cc
   by_cases q:B*mid≤v
   ·have hq:bO (B*mid) v≤0:=by unfold bO;split<;>(try split)<;>omega
    generalize bO (B*mid) v=cm at *
    have k1:=eq_true hq
    have hh:Hid (B*mid≤v∧v<B*(hi+1)):=Hid.mk ⟨q,h4⟩
    clear h3 h4 q hv256 hdv hmid hvm hw
    repeat'(first|refine zk ?_|(refine zu ?_ ?_<;>intro hc)|(refine zf cs ?_)|(refine zf cc ?_)|(refine zv ?_ ?_<;>intro hg)|omega|simp -dsimp (disch:=try exact zo)only[go_sem,em,k1]|contradiction|rfl)
    all_goals exact AW.stop ⟨⟨(mid,hi),by dsimp only;omega,by dsimp only;omega,hh.out.1,hh.out.2⟩,(aR (by refine⟨?_,?_,?_,?_⟩<;>simp -dsimp (disch:=try exact zo)only[go_sem,hQ,Int.cast_ofNat_Int,Int.natCast_zero,Int.ofNat_zero,Int.natCast_add])),by dsimp only;omega⟩
   ·have hq:¬ bO (B*mid) v≤0:=by unfold bO;rw[if_neg (by omega),if_neg (by omega)];omega
    generalize bO (B*mid) v=cm at *
    have k1:=eq_false hq
    have hh:Hid (B*lo≤v∧v<B*(mid - 1+1)):=Hid.mk ⟨h3,by rw[show mid - 1+1=mid by omega];omega⟩
    have em1:((mid - 1:Nat):Int)=(mid:Int) - 1:=by omega
    clear h3 h4 q hv256 hdv hmid hvm hw
    repeat'(first|refine zk ?_|(refine zu ?_ ?_<;>intro hc)|(refine zf cs ?_)|(refine zf cc ?_)|(refine zv ?_ ?_<;>intro hg)|omega|simp -dsimp (disch:=try exact zo)only[go_sem,em,k1]|contradiction|rfl)
    all_goals exact AW.stop ⟨⟨(lo,mid - 1),by dsimp only;omega,by dsimp only;omega,hh.out.1,hh.out.2⟩,zw,by dsimp only;omega⟩
  ·have hlh:hi=lo:=by omega
   subst hlh
   have hlo:v / B=hi:=by
    rw[Nat.div_eq_iff hB0]
    have:B*(hi+1)=B*hi+B:=by rw[Nat.mul_add,Nat.mul_one]
    rw[Nat.mul_comm hi B]
    omega
   have hrest:v - B*hi=v % B:=by rw[hlo]at hdv;omega
   have cs:=c208 b (hi:Int) (by omega) (by omega)
   rw[hB,Int.toNat_natCast]at cs
   have hms:(nb (B*hi)).size≤b.size+1:=by
    refine (cE _ _).2 ?_
    have:=eW b
    rw[hB]at this
    rw[Nat.pow_succ]
    have h6:B*hi≤B*255:=Nat.mul_le_mul_left _ (by omega)
    omega
   have cq:=c175 (nb v) (nb (B*hi)) (by omega) (by omega) (by rw[aV,aV];exact h3)
   rw[aV,aV,hrest,← hmod]at cq
   have wh:IntKind.u8.wrap (hi:Int)=(hi:Int):=j1 (by omega) (by omega)
   rw[hlo]at hw dQ2
   have hlQ:(Q.set j (hi:Int)).length=a.size:=by rw[List.length_set];exact hQ
   have hz2:∀ q,q<j→(Q.set j (hi:Int)).getD q 0=0:=fun q hq=>hz1 q hq _
   clear h3 h4 hv256 hdv hvm hz1 hrest hlo hmod hz0 hvB
   generalize hr2:cF a j % B=r2 at *
   repeat'(first|refine zk ?_|(refine zu ?_ ?_<;>intro hc)|(refine zf cs ?_)|(refine zf cq ?_)|(refine zv ?_ ?_<;>intro hg)|omega|simp -dsimp (disch:=try exact zo)only[go_sem,wh,ZT,bW,hQ]|contradiction|rfl)
   all_goals exact AW.stop ⟨⟨(j,Q.set j (hi:Int)),by dsimp only;omega,dQ2,hlQ,hz2,hw.out⟩,zw,by dsimp only;omega⟩
end Go.Proofs.Vx
namespace Go.Proofs.Vx
open Go Go.Sx Go.Proofs Tryz
attribute [local irreducible] fnT CallOK CallFr AW aJ callV aL aI aH aM gcaseP hid
theorem pV {p q:Nat} (h:p≤q):(nb p).size≤(nb q).size:=(cE _ _).2 (Nat.lt_of_le_of_lt h ((cE q _).1 (Nat.le_refl _)))
theorem c155 (a b:ByteArray) (ha:a.size<1073741824) (hb:b.size<1073741824):CallOK prog 155 [.lit (.string a),.lit (.string b)] [] (.lit (.string (nb (Nat.gcd (nv a) (nv b))))) []:=by
 refine zs func155 26 [.tmp 4] results155 ?_
 simp only[aC,Nat.reduceAdd]
 have hml:maxLen=9223372036854775807:=rfl
 have ca:=gS a (by omega)
 have cb:=gS b (by omega)
 have sa:=dF a
 have sb:=dF b
 repeat'(first|refine zk ?_|(refine zu ?_ ?_<;>intro hc)|(first|refine zf ca ?_|refine zf cb ?_)|(refine zv ?_ ?_<;>intro hg)|omega|simp -dsimp (disch:=try exact zo)only[go_sem]|contradiction|rfl)
 refine AW.loop (fun z:{p:Nat × Nat // Nat.gcd p.1 p.2=Nat.gcd (nv a) (nv b)∧(nb p.1).size<1073741824∧(nb p.2).size<1073741824}=>⟨[(5,.lit (.string (nb z.1.1))),(6,.lit (.string (nb z.1.2)))],[],40⟩) (fun z=>z.1.2) ⟨(nv a,nv b),rfl,by dsimp only;omega,by dsimp only;omega⟩ zw ?_
 rintro⟨⟨p,q⟩,hg,hp,hq1⟩
 dsimp only at hg hp hq1 ⊢
 by_cases h0:q=0
 ·subst h0
  have hr:nb (Nat.gcd (nv a) (nv b))=nb p:=by rw[← hg,Nat.gcd_zero_right]
  rw[hr]
  have zh0:=@dG
  exact z1
 ·have hq:(nb q=⟨#[]⟩)=False:=eq_false fun h=>h0 ((fT _).1 h)
  have cd:=c156 (nb p) (nb q) hp hq1 (by rw[aV];exact h0)
  rw[aV,aV]at cd
  have hlt:=Nat.mod_lt p (show 0<q by omega)
  have hs:=pV (Nat.le_of_lt hlt)
  have hg2:Nat.gcd q (p % q)=Nat.gcd (nv a) (nv b):=by rw[← hg,Nat.gcd_comm p q,Nat.gcd_rec q p,Nat.gcd_comm]
  generalize p % q=r at *
  repeat'(first|refine zk ?_|(refine zu ?_ ?_<;>intro hc)|(refine zf cd ?_)|(refine zv ?_ ?_<;>intro hg)|omega|simp -dsimp (disch:=try exact zo)only[go_sem,hq]|contradiction|rfl)
  all_goals exact AW.stop ⟨⟨(q,r),hg2,hq1,by dsimp only;omega⟩,zw,by dsimp only;omega⟩
theorem nK (n:Bool) (m:ByteArray) (hm:m.size<4611686018427387904):CallOK prog 152 [.lit (.bool n),.lit (.string m)] [] (.agg (eZ (iv n m))) []:=by
 refine zs func152 15 [.cell 4 24] results152 ?_
 simp only[aC,Nat.reduceAdd]
 have hz:iv n m=if n then -((nv m:Nat):Int)else ((nv m:Nat):Int):=rfl
 rw[← b1a n (nv m) hz]
 cases n
 ·simp only[Bool.false_and]
  try have zh0:=(gS m (by omega))
  exact z1
 ·simp only[Bool.true_and]
  try have zh0:=(gS m (by omega))
  exact z1
theorem c86 (n:Bool) (m:ByteArray) (hm:m.size<4611686018427387904):CallOK prog 86 [.agg [.lit (.bool n),.lit (.string m)]] [] (.lit (.int .i64 (sg (iv n m)))) []:=by
 refine zs func86 9 [.tmp 2] results86 ?_
 simp only[aC,Nat.reduceAdd]
 by_cases h0:nv m=0
 ·have hr:sg (iv n m)=0:=by rw[fX];unfold iv;split<;>omega
  have k1:(nb (nv m)=⟨#[]⟩)=True:=eq_true ((fT _).2 h0)
  rw[hr]
  repeat'(first|refine zk ?_|(refine zu ?_ ?_<;>intro hc)|(refine zf (gS m (by omega)) ?_)|(refine zv ?_ ?_<;>intro hg)|omega|simp -dsimp (disch:=try exact zo)only[go_sem,k1]|contradiction|rfl)
 ·have k1:(nb (nv m)=⟨#[]⟩)=False:=eq_false fun h=>h0 ((fT _).1 h)
  cases n
  ·have hr:sg (iv false m)=1:=by unfold sg iv;simp only[Bool.false_eq_true,if_false];rw[if_neg (by omega),if_neg (by omega)]
   rw[hr]
   try have zh0:=(gS m (by omega))
   exact z1
  ·have hr:sg (iv true m)=-1:=by unfold sg iv;simp only[if_true];rw[if_pos (by omega)]
   rw[hr]
   try have zh0:=(gS m (by omega))
   exact z1
end Go.Proofs.Vx
namespace Go.Proofs.Vx
open Go Go.Sx Go.Proofs Tryz
attribute [local irreducible] fnT CallOK CallFr AW aJ callV aL aI aH aM gcaseP hid
abbrev mC:=Bool × ByteArray
abbrev eR (l:List mC):List (List AV):=l.map fun r=>eI r.1 r.2
def gT (l:List mC) (i:Nat):Nat:=(l.take i).foldl (fun g r=>Nat.gcd g (nv r.2)) 0
theorem a7w (l:List mC):gT l 0=0:=rfl
theorem a7x (l:List mC) (i:Nat) (h:i<l.length):gT l (i+1)=Nat.gcd (gT l i) (nv l[i].2):=by
 unfold gT
 rw[List.take_succ_eq_append_getElem h,List.foldl_append]
 rfl
theorem nW {p q:Nat} {k:Nat} (hp:(nb p).size≤k) (hq:(nb q).size≤k):(nb (Nat.gcd p q)).size≤k:=by
 by_cases h:q=0
 ·subst h;rw[Nat.gcd_zero_right];exact hp
 ·exact Nat.le_trans (pV (Nat.le_of_dvd (by omega) (Nat.gcd_dvd_right p q))) hq
theorem c5a {l:List mC} {k:Nat} (h:∀ r∈l,r.2.size≤k) (i:Nat) (hi:i≤l.length):(nb (gT l i)).size≤k:=by
 induction i with
 | zero=>rw[a7w,uS];exact Nat.zero_le _
 | succ i ih =>
  rw[a7x l i hi]
  exact nW (ih (by omega)) (Nat.le_trans (dF _) (h _ (List.getElem_mem hi)))
theorem eR_in {K:Nat→Prop} (l:List mC):(∀ e∈eR l,∀ c∈e,In K c)=True:=eq_true fun e he c hc=>by
 obtain⟨r,_,rfl⟩:=List.mem_map.1 he
 simp only[eI,List.mem_cons,List.not_mem_nil,or_false]at hc
 rcases hc with rfl|rfl<;>exact .lit _
theorem c5m (l:List mC) (i:Nat) (h:i<l.length):(eR l).getD i []=eI l[i].1 l[i].2:=by
 rw[List.getD_eq_getElem?_getD,List.getElem?_eq_getElem (by simpa using h)];simp
theorem c0j (m:ByteArray):iv false m=(nv m:Int):=rfl
attribute [go_sem] eR_in
theorem c88 (l:List mC) (hn:l.length≤268435456) (hs:∀ r∈l,r.2.size≤268435456):CallOK prog 88 [.sl (eR l)] [] (.agg (eZ ((gT l l.length:Nat):Int))) []:=by
 refine zs func88 20 [.cell 2 24] results88 ?_
 simp only[aC,Nat.reduceAdd]
 have hml:maxLen=9223372036854775807:=rfl
 have hl:(eR l).length=l.length:=List.length_map _
 repeat'(first|refine zk ?_|(refine zu ?_ ?_<;>intro hc)|(refine zv ?_ ?_<;>intro hg)|omega|simp -dsimp (disch:=try exact zo)only[go_sem,hl]|contradiction|rfl)
 refine AW.loop (fun z:{i:Nat // i≤l.length}=>⟨[(4,.lit (.int .i64 z.1)),(3,.lit (.string (nb (gT l z.1)))),(2,.loc 8 0),(0,.sl (eR l))],[(8,.blk [.lit (.bool false),.lit (.string ⟨#[]⟩)])],40⟩) (fun z=>l.length - z.1) ⟨0,Nat.zero_le _⟩ (aR (by refine⟨?_,?_,?_,?_⟩<;>simp -dsimp (disch:=try exact zo)only[go_sem,a7w,dG,ZC])) ?_
 rintro⟨i,hi⟩
 dsimp only
 have hsz:=c5a hs i hi
 by_cases hlt:i<l.length
 ·have es1:=c5m l i hlt
  have hst:=a7x l i hlt
  have hr:=hs _ (List.getElem_mem hlt)
  generalize l[i]=r at *
  obtain⟨rn,rm⟩:=r
  dsimp only at es1 hst hr
  simp only[eI]at es1
  have cg:=c155 (nb (gT l i)) rm (by omega) (by omega)
  rw[aV,← hst]at cg
  clear hst hs
  generalize gT l i=g at *
  repeat'(first|refine zk ?_|(refine zu ?_ ?_<;>intro hc)|(refine zf cg ?_)|(refine zv ?_ ?_<;>intro hg)|omega|simp -dsimp (disch:=try exact zo)only[go_sem,hl,es1,ZT]|contradiction|rfl)
  all_goals exact AW.stop ⟨⟨i+1,by omega⟩,zw,by dsimp only;omega⟩
 ·have hil:i=l.length:=by omega
  subst hil
  have co:=nK false (nb (gT l l.length)) (by omega)
  rw[c0j,aV]at co
  clear hs
  generalize gT l l.length=g at *
  exact z1
theorem c8t {n:Bool} {m:ByteArray} {g:Nat} (hd:g∣nv m):iv n (nb (nv m / g))=iv n m / (g:Int):=by
 unfold iv
 rw[aV]
 cases n
 ·simp only[Bool.false_eq_true,if_false];rw[Int.natCast_ediv]
 ·simp only[if_true]
  rw[Int.natCast_ediv,Int.neg_ediv_of_dvd (Int.ofNat_dvd.2 hd)]
theorem b9m (n:Bool):(decide (n=false))=!n:=by cases n<;>rfl
theorem c90 (n:Bool) (m:ByteArray) (g:Nat) (hg:0<g) (hd:g∣nv m) (hm:m.size≤268435456) (hgs:(nb g).size≤268435456):CallOK prog 90 [.agg [.lit (.bool n),.lit (.string m)],.agg [.lit (.bool false),.lit (.string (nb g))]] [] (.tup [.agg (eZ (iv n m / (g:Int))),.agg (eZ 0),.lit (.bool true)]) []:=by
 refine zs func90 55 [.cell 4 24,.cell 5 24,.tmp 6] results90 ?_
 simp only[aC,Nat.reduceAdd]
 have hml:maxLen=9223372036854775807:=rfl
 have cd:=c156 m (nb g) (by omega) (by omega) (by rw[aV];omega)
 rw[aV,Nat.mod_eq_zero_of_dvd hd,dG]at cd
 have hq:=pV (Nat.div_le_self (nv m) g)
 have hcs:=dF m
 have c1:=nK n ⟨#[]⟩ (by decide)
 have hz1:iv n ⟨#[]⟩=0:=by unfold iv;split<;>rfl
 rw[hz1]at c1
 have c2:=nK n (nb (nv m / g)) (by omega)
 rw[c8t hd]at c2
 have c3:=c86 (Zn 0) (Zm 0) (by rw[eU];decide)
 have hz2:sg (iv (Zn 0) (Zm 0))=0:=by rw[aZ];rfl
 rw[hz2]at c3
 have hne:=b9m n
 generalize iv n m / (g:Int)=w at *
 generalize nb (nv m / g)=qs at *
 cases n
 ·simp only[decide_true,Bool.not_false,Bool.not_true,decide_false]at hne
  have zh0:=@dG
  exact z1
 ·simp only[decide_true,Bool.not_false,Bool.not_true,decide_false]at hne
  have zh0:=@dG
  exact z1
end Go.Proofs.Vx
