import Derived.Test.YtjlfgmhmalbiiaaGreatDoorX28
set_option linter.all false
set_option maxHeartbeats 16000000
open Bool renaming false_eq_true → Aq, not_false → A3, not_true → A4
open Int renaming mul_le_mul_of_nonneg_right → Ac, natCast_add → Am, cast_ofNat_Int → Ao, toNat_natCast → As, natCast_zero → At, natCast_ediv → Av, natCast_mul → Aw, ofNat_zero → A0, le_of_lt → A5, pow_add → A7
open List renaming getD_eq_getElem?_getD → Ab, take_of_length_le → Ad, take_succ_eq_append_getElem → Af, eq_of_mem_replicate → Ak, getElem?_eq_getElem → Al, getElem_mem → Au, replicate → Ay
open Nat renaming reduceAdd → Aa, gcd → Ae, le_trans → Ag, zero_le → Ah, le_refl → Ai, mul_le_mul_left → Aj, lt_of_le_of_lt → An, gcd_zero_right → Ap, pow_succ → Ar, div_add_mod → Ax, mod_lt → Az, gcd_comm → A6
namespace Go.Proofs.Vx
open Go Go.Sx Go.Proofs Tryz
attribute [local irreducible] fnT CallOK CallFr AW aK callV aL aJ aI aM gcaseP hid
theorem uP (X:List Int) (h:gU X):(nv ⟨(ofI X).toArray⟩:Int)=w8 X:=by
 have:nv ⟨(ofI X).toArray⟩=nvL (ofI X):=by unfold nv;simp
 rw[this,c6x h]
theorem tT (X:List Int):(⟨(ofI X).toArray⟩:ByteArray).size=X.length:=by simp[ByteArray.size,ofI]
theorem c175 (a b:ByteArray) (ha:a.size<1099511627776) (hb:b.size<1099511627776) (hle:nv b≤nv a):CallOK prog 175 [.lit (.string a),.lit (.string b)] [] (.tup [.lit (.string (nb (nv a - nv b))),.lit (.bool true)]) []:=by
 refine zs func175 42 [.tmp 4,.tmp 5] results175 ?_
 simp only[aD,Aa]
 have hml:maxLen=9223372036854775807:=rfl
 have c207x:=c207 a b ha hb
 have hi0:aH .u8 []=[]:=rfl
 have hc0:0≤bR (nv a) (nv b):=by unfold bR;rw[if_neg (by omega)];split<;>omega
 generalize bR (nv a) (nv b)=cm at *
 have k0:(cm<0)=False:=eq_false (by omega)
 repeat'(first|refine zk ?_|(refine zu ?_ ?_<;>intro hc)|(refine zf c207x ?_)|(refine zv ?_ ?_<;>intro hg)|omega|simp -dsimp (disch:=try exact zo)only[go_sem,k0]|contradiction|rfl)
 refine AW.loop (fun z:{p:Nat × List Int × Int // p.1≤a.size∧gU p.2.1∧p.2.1.length=p.1∧(p.2.2=0∨p.2.2=1)∧w8 p.2.1=bP a p.1 - bP b p.1+p.2.2*256 ^ p.1}=>⟨[(8,.lit (.int .i64 z.1.1)),(7,.lit (.int .i64 z.1.2.2)),(6,.ref 14 0 z.1.1 z.1.1),(0,.lit (.string a)),(1,.lit (.string b))],[(14,.vec 1 (aH .u8 z.1.2.1))],40⟩) (fun z=>a.size - z.1.1) ⟨(0,[],0),Ah _,fun x hx=>by simp at hx,rfl,.inl rfl,by simp[w8,wL]⟩ zw ?_
 rintro⟨⟨i,X,c⟩,hi,dX,hX,hc1,hv⟩
 dsimp only at hi dX hX hc1 hv ⊢
 clear k0 c207x hc0
 by_cases hlt:i<a.size
 ·have b1:=jV a i
  have b2:=jV b i
  have e1:=pW a i
  have e2:=pW b i
  have key:∀ d c':Int,d=bt a i - bt b i - c+256*c'→w8 (X++[d])=bP a (i+1) - bP b (i+1)+c'*256 ^ (i+1):=by
   intro d c' hd
   rw[a5l,hX,hv,e1,e2,hd,n8]
   simp only[w8]
   grind
  have hXl:(X++[0]).length=i+1:=by simp[hX]
  by_cases q:bt a i - bt b i - c<0
  ·have k1:=eq_true q
   have hd:0≤bt a i - bt b i - c+256∧bt a i - bt b i - c+256<256:=by omega
   have wd:IntKind.u8.wrap (bt a i - bt b i - c+256)=bt a i - bt b i - c+256:=kG hd.1 hd.2
   have key1:=key (bt a i - bt b i - c+256) 1 (by omega)
   have dX1:=qD dX hd
   clear key e1 e2 hv
   repeat'(first|refine zk ?_|(refine zu ?_ ?_<;>intro hc)|(first|refine zf (jO a i (by omega)) ?_|refine zf (jO b i (by omega)) ?_)|(refine zv ?_ ?_<;>intro hg)|omega|simp -dsimp (disch:=try exact zo)only[go_sem,k1,wd,ZT,bZ,gW,hX]|contradiction|rfl)
   all_goals exact AW.stop ⟨⟨(i+1,X++[bt a i - bt b i - c+256],1),by dsimp only;omega,dX1,by simp[hX],.inr rfl,key1⟩,(aR (by refine⟨?_,?_,?_,?_⟩<;>first|(simp -dsimp (disch:=try exact zo)only[go_sem,ZC,hXl,gW];done)|(simp -dsimp (disch:=try exact zo)only[go_sem,ZC];done))),by dsimp only;omega⟩
  ·have k1:=eq_false q
   have hd:0≤bt a i - bt b i - c∧bt a i - bt b i - c<256:=by omega
   have wd:IntKind.u8.wrap (bt a i - bt b i - c)=bt a i - bt b i - c:=kG hd.1 hd.2
   have key1:=key (bt a i - bt b i - c) 0 (by omega)
   have dX1:=qD dX hd
   clear key e1 e2 hv
   repeat'(first|refine zk ?_|(refine zu ?_ ?_<;>intro hc)|(first|refine zf (jO a i (by omega)) ?_|refine zf (jO b i (by omega)) ?_)|(refine zv ?_ ?_<;>intro hg)|omega|simp -dsimp (disch:=try exact zo)only[go_sem,k1,wd,ZT,bZ,gW,hX]|contradiction|rfl)
   all_goals exact AW.stop ⟨⟨(i+1,X++[bt a i - bt b i - c],0),by dsimp only;omega,dX1,by simp[hX],.inl rfl,key1⟩,(aR (by refine⟨?_,?_,?_,?_⟩<;>first|(simp -dsimp (disch:=try exact zo)only[go_sem,ZC,hXl,gW];done)|(simp -dsimp (disch:=try exact zo)only[go_sem,ZC];done))),by dsimp only;omega⟩
 ·have hil:i=a.size:=by omega
  subst hil
  have hfin:nb (nv ⟨(ofI X).toArray⟩)=nb (nv a - nv b):=by
   congr 1
   have h1:=uP X dX
   have h2:=p8 (m:=a) (Ai _)
   have h3:bP b a.size=(nv b:Int):=by unfold bP;rw[Nat.mod_eq_of_lt (An hle (fH a))]
   have h4:=(b2a dX).2
   rw[hX]at h4
   have h5:=a0i a.size
   rcases hc1 with rfl|rfl
   ·omega
   ·omega
  clear hv
  repeat'(first|refine zk ?_|(refine zu ?_ ?_<;>intro hc)|(refine zv ?_ ?_<;>intro hg)|omega|simp -dsimp (disch:=try exact zo)only[go_sem,hX,bZ]|contradiction|rfl)
  all_goals
   refine⟨ofI X,by first|exact iN _ dX|(rw[Ad (by first|omega|(rw[bZ];omega))];exact iN _ dX),?_⟩
   repeat'(first|refine zk ?_|(refine zu ?_ ?_<;>intro hc)|(refine zf (g8 _ (by rw[tT];omega)) ?_)|(refine zv ?_ ?_<;>intro hg)|omega|simp -dsimp (disch:=try exact zo)only[go_sem,hfin]|contradiction|rfl)
end Go.Proofs.Vx
namespace Go.Proofs.Vx
open Go Go.Sx Go.Proofs Tryz
attribute [local irreducible] fnT CallOK CallFr AW aK callV aL aJ aI aM gcaseP hid
theorem c173 (a b:ByteArray) (ha:a.size<1099511627776) (hb:b.size<1099511627776):CallOK prog 173 [.lit (.string a),.lit (.string b)] [] (.lit (.string (nb (nv a*nv b)))) []:=by
 refine zs func173 77 [.tmp 4] results173 ?_
 simp only[aD,Aa]
 have hml:maxLen=9223372036854775807:=rfl
 have hi0:aH .u8 []=[]:=rfl
 obtain⟨L,hL⟩:∃ L,L=a.size+b.size+1:=⟨_,rfl⟩
 have eL:((a.size:Int)+b.size+1).toNat=L:=by omega
 repeat'(first|refine zk ?_|(refine zu ?_ ?_<;>intro hc)|(refine zv ?_ ?_<;>intro hg)|omega|simp -dsimp (disch:=try exact zo)only[go_sem]|contradiction|rfl)
 rw[eL]
 refine AW.loop (fun z:{p:Nat × List Int // p.1≤a.size∧gU p.2∧p.2.length=L∧w8 p.2=bP a p.1*(nv b:Int)}=>⟨[(6,.lit (.int .i64 z.1.1)),(5,.ref 15 0 L L),(0,.lit (.string a)),(1,.lit (.string b))],[(15,.vec 1 (aH .i64 z.1.2))],40⟩) (fun z=>a.size - z.1.1) ⟨(0,Ay L 0),Ah _,fun x hx=>by have:=Ak hx;omega,by simp,by simp only[b0w,wL,Int.zero_mul]⟩ zw ?_
 rintro⟨⟨i,S⟩,hi,dS,hS,hv⟩
 dsimp only at hi dS hS hv ⊢
 by_cases hlt:i<a.size
 ·repeat'(first|refine zk ?_|(refine zu ?_ ?_<;>intro hc)|(refine zv ?_ ?_<;>intro hg)|omega|simp -dsimp (disch:=try exact zo)only[go_sem]|contradiction|rfl)
  refine AW.loop (fun z:{p:Nat × List Int × Int // p.1≤b.size+1∧gU p.2.1∧p.2.1.length=L∧(0≤p.2.2∧p.2.2≤255)∧w8 p.2.1+p.2.2*256 ^ (i+p.1)=bP a i*(nv b:Int)+bt a i*bP b p.1*256 ^ i}=>⟨[(8,.lit (.int .i64 z.1.1)),(7,.lit (.int .i64 z.1.2.2)),(6,.lit (.int .i64 i)),(5,.ref 15 0 L L),(0,.lit (.string a)),(1,.lit (.string b))],[(15,.vec 1 (aH .i64 z.1.2.1))],60⟩) (fun z=>b.size+2 - z.1.1) ⟨(0,S,0),Ah _,dS,hS,by dsimp only;omega,by dsimp only;rw[hv,wL];simp⟩ zw ?_
  clear hv dS hS
  rintro⟨⟨k,S,c⟩,hk,dS,hSl,hc1,hv⟩
  dsimp only at hk dS hSl hc1 hv ⊢
  have A1:=pW a i
  have A2:=a9r a (i+1)
  have B0:=b4k b k
  by_cases hx:k<b.size∨0<c
  ·
   have hkb:k≤b.size:=by
    rcases hx with hx|hx
    ·omega
    ·apply Classical.byContradiction
     intro hgt
     have hkk:k=b.size+1:=by omega
     have h1:bP b k=(nv b:Int):=p8 (by omega)
     have h2:bP a i*(nv b:Int)+bt a i*bP b k*256 ^ i=bP a (i+1)*(nv b:Int):=by rw[h1,A1];grind
     have h3:=(b2a dS).1
     have h4:(256:Int) ^ (i+k)≤c*256 ^ (i+k):=by
      have:=Ac (show (1:Int)≤c by omega) (A5 (a0i (i+k)))
      omega
     have h5:bP a (i+1)*(nv b:Int)<256 ^ (i+1)*256 ^ b.size:=by
      have h6:(nv b:Int)<256 ^ b.size:=by have:=fH b;have e:=a0j b.size;omega
      have h7:=Ac (A5 A2.2) (show (0:Int)≤(nv b:Int) by omega)
      have h8:=Int.mul_lt_mul_of_pos_left h6 (a0i (i+1))
      omega
     rw[← A7]at h5
     rw[show i+k=i+1+b.size by omega]at h4 hv
     omega
   have hj:i+k<L:=by omega
   have hS2:=b0v (xs:=S) (i:=i+k) (by omega)
   have B1:=pW b k
   have g1:=jV a i
   have g2:=jV b k
   have g3:=a6j dS (i+k)
   have he:(aH .i64 S).getD (i+k) []=[.lit (.int .i64 (S.getD (i+k) 0))]:=zT .i64 S (i+k) (by omega)
   have ek:((i:Int)+(k:Int)).toNat=i+k:=by omega
   have cat:=jO a i (by omega)
   have cbt:=jO b k (by omega)
   have hq:∀ n:Int,n=S.getD (i+k) 0+bt a i*bt b k+c→w8 (S.set (i+k) (n % 256))+n / 256*256 ^ (i+(k+1))=bP a i*(nv b:Int)+bt a i*bP b (k+1)*256 ^ i:=by
    intro n hn
    rw[hS2,B1,show i+(k+1)=(i+k)+1 by omega,n8]
    have h1:n % 256=n - 256*(n / 256):=by omega
    have h2:(256:Int) ^ (i+k)=256 ^ i*256 ^ k:=A7 _ _ _
    rw[h1]
    generalize n / 256=r at *
    grind
   have dS2:=fun n:Int=>a8b dS (i:=i+k) (d:=n % 256) (by omega)
   have hSl2:∀ d:Int,(S.set (i+k) d).length=L:=fun d=>by rw[List.length_set];exact hSl
   clear hv A1 A2 B0 B1 hS2
   generalize bP a i*(nv b:Int)=V1 at *
   generalize bt a i=P at *
   generalize bt b k=Q at *
   generalize S.getD (i+k) 0=s0 at *
   have hPQ:0≤P*Q∧P*Q≤65025:=by
    refine⟨Int.mul_nonneg g1.1 g2.1,?_⟩
    have h1:=Ac (show P≤255 by omega) g2.1
    omega
   have hP:IntKind.i64.wrap (P*Q)=P*Q:=wrap64 (by omega) (by omega)
   have hq:=hq (s0+P*Q+c) rfl
   have dS2:=dS2 (s0+P*Q+c)
   have hc2:0≤(s0+P*Q+c) / 256∧(s0+P*Q+c) / 256≤255:=by omega
   have hn:True:=trivial
   generalize hPQe:P*Q=PQ at *
   have hk1:k<b.size∨(¬ k<b.size∧0<c):=by omega
   clear hx
   have gw:Hid (w8 (S.set (i+k) ((s0+PQ+c) % 256))+(s0+PQ+c) / 256*256 ^ (i+(k+1))=V1+P*bP b (k+1)*256 ^ i):=Hid.mk hq
   clear hq
   rcases hk1 with hk1|⟨hk1,hk2⟩
   ·have k1:True:=trivial
    have k2:True:=trivial
    repeat'(first|refine zk ?_|(refine zu ?_ ?_<;>intro hc)|(first|refine zf cat ?_|refine zf cbt ?_)|(refine zv ?_ ?_<;>intro hg)|omega|simp -dsimp (disch:=try exact zo)only[go_sem,k1,k2,ek,he,hP,hn,bZ,hSl,ZT]|contradiction|rfl)
    all_goals exact AW.stop ⟨⟨(k+1,S.set (i+k) ((s0+PQ+c) % 256),(s0+PQ+c) / 256),by dsimp only;omega,dS2,hSl2 _,hc2,gw.out⟩,zw,by dsimp only;omega⟩
   ·have k1:True:=trivial
    have k2:True:=trivial
    repeat'(first|refine zk ?_|(refine zu ?_ ?_<;>intro hc)|(first|refine zf cat ?_|refine zf cbt ?_)|(refine zv ?_ ?_<;>intro hg)|omega|simp -dsimp (disch:=try exact zo)only[go_sem,k1,k2,ek,he,hP,hn,bZ,hSl,ZT]|contradiction|rfl)
    all_goals exact AW.stop ⟨⟨(k+1,S.set (i+k) ((s0+PQ+c) % 256),(s0+PQ+c) / 256),by dsimp only;omega,dS2,hSl2 _,hc2,gw.out⟩,zw,by dsimp only;omega⟩
  ·have hc0:c=0:=by omega
   subst hc0
   have h1:bP b k=(nv b:Int):=p8 (by omega)
   have hv2:Hid (w8 S=bP a (i+1)*(nv b:Int)):=Hid.mk (by rw[h1]at hv;rw[A1];grind)
   clear hv A1 A2 B0 h1
   have k1:True:=trivial
   have k2:True:=trivial
   repeat'(first|refine zk ?_|(refine zu ?_ ?_<;>intro hc)|(refine zv ?_ ?_<;>intro hg)|omega|simp -dsimp (disch:=try exact zo)only[go_sem,k1,k2]|contradiction|rfl)
   all_goals exact AW.stop ⟨⟨(i+1,S),by dsimp only;omega,dS,hSl,hv2.out⟩,zw,by dsimp only;omega⟩
 ·have hil:i=a.size:=by omega
  subst hil
  have hSl:S.length=L:=hS
  have hfin:nb (nv ⟨(ofI S).toArray⟩)=nb (nv a*nv b):=by
   congr 1
   have h1:=uP S dS
   rw[p8 (Ai _)]at hv
   have:((nv a*nv b:Nat):Int)=(nv a:Int)*(nv b:Int):=Aw _ _
   omega
  clear hv
  repeat'(first|refine zk ?_|(refine zu ?_ ?_<;>intro hc)|(refine zv ?_ ?_<;>intro hg)|omega|simp -dsimp (disch:=try exact zo)only[go_sem,bZ,hSl]|contradiction|rfl)
  refine AW.loop (fun z:{i:Nat // i≤L}=>⟨[(64,.lit (.int .i64 z.1)),(63,.lit (.int .i64 L)),(62,.ref 15 0 L L),(10,.ref 44 0 z.1 z.1)],[(15,.vec 1 (aH .i64 S)),(44,.vec 1 (aH .u8 (S.take z.1)))],70⟩) (fun z=>L - z.1) ⟨0,Ah _⟩ zw ?_
  rintro⟨j,hj⟩
  dsimp only
  have hXl:(S.take j).length=j:=by rw[List.length_take];omega
  by_cases hjt:j<L
  ·have es:(aH .i64 S).getD j []=[.lit (.int .i64 (S.getD j 0))]:=zT .i64 S j (by omega)
   have hd:=a6j dS j
   have wd:IntKind.u8.wrap (S.getD j 0)=S.getD j 0:=kG hd.1 hd.2
   have hX1:S.take (j+1)=S.take j++[S.getD j 0]:=by
    rw[Af (by omega),Ab,Al (by omega)];rfl
   generalize S.getD j 0=s0 at *
   repeat'(first|refine zk ?_|(refine zu ?_ ?_<;>intro hc)|(refine zv ?_ ?_<;>intro hg)|omega|simp -dsimp (disch:=try exact zo)only[go_sem,es,wd,hXl,bZ,gW,hSl,ZT]|contradiction|rfl)
   all_goals exact AW.stop ⟨⟨j+1,by omega⟩,(aR (by refine⟨?_,?_,?_,?_⟩<;>first|(simp -dsimp (disch:=try exact zo)only[go_sem,ZC,gW,hX1];done)|(simp -dsimp (disch:=try exact zo)only[go_sem,ZC];done))),by dsimp only;omega⟩
  ·have hjl:j=L:=by omega
   subst hjl
   have htk:S.take j=S:=Ad (by omega)
   rw[htk]at hXl ⊢
   repeat'(first|refine zk ?_|(refine zu ?_ ?_<;>intro hc)|(refine zv ?_ ?_<;>intro hg)|omega|simp -dsimp (disch:=try exact zo)only[go_sem,hXl,bZ]|contradiction|rfl)
   all_goals
    refine⟨ofI S,by first|exact iN _ dS|(rw[Ad (by first|omega|(rw[bZ];omega))];exact iN _ dS),?_⟩
    repeat'(first|refine zk ?_|(refine zu ?_ ?_<;>intro hc)|(refine zf (g8 _ (by rw[tT];omega)) ?_)|(refine zv ?_ ?_<;>intro hg)|omega|simp -dsimp (disch:=try exact zo)only[go_sem,hfin]|contradiction|rfl)
end Go.Proofs.Vx
namespace Go.Proofs.Vx
open Go Go.Sx Go.Proofs Tryz
attribute [local irreducible] fnT CallOK CallFr AW aK callV aL aJ aI aM gcaseP hid
theorem b9y:arT prog 209=none∧szT prog 5=some 1:=by and_intros<;>kernel_rfl
attribute [go_sem] b9y
theorem c208 (a:ByteArray) (n:Int) (hn:0≤n∧n<256) (ha:a.size<1099511627776):CallOK prog 208 [.lit (.string a),.lit (.int .i64 n)] [] (.lit (.string (nb (nv a*n.toNat)))) []:=by
 refine zs func208 11 [.tmp 4] results208 ?_
 simp only[aD,Aa]
 have hml:maxLen=9223372036854775807:=rfl
 have wn:IntKind.u8.wrap n=n:=kG hn.1 hn.2
 have dn:gU [n]:=fun x hx=>by
  obtain rfl:x=n:=by simpa using hx
  exact hn
 have hfin:nv ⟨(ofI [n]).toArray⟩=n.toNat:=by
  have:=uP [n] dn
  simp only[w8]at this
  omega
 repeat'(first|refine zk ?_|(refine zu ?_ ?_<;>intro hc)|(refine zv ?_ ?_<;>intro hg)|omega|simp -dsimp (disch:=try exact zo)only[go_sem]|contradiction|rfl)
 all_goals
  refine⟨ofI [n],by first|exact iN _ dn|(rw[wn];exact iN [n] dn),?_⟩
  repeat'(first|refine zk ?_|(refine zu ?_ ?_<;>intro hc)|(refine zf (c173 a _ ha (by rw[tT];simp)) ?_)|(refine zv ?_ ?_<;>intro hg)|omega|simp -dsimp (disch:=try exact zo)only[go_sem,hfin]|contradiction|rfl)
theorem c156 (a b:ByteArray) (ha:a.size<1073741824) (hb:b.size<1073741824) (h0:nv b≠0):CallOK prog 156 [.lit (.string a),.lit (.string b)] [] (.tup [.lit (.string (nb (nv a / nv b))),.lit (.string (nb (nv a % nv b))),.lit (.bool true)]) []:=by
 refine zs func156 68 [.tmp 4,.tmp 5,.tmp 6] results156 ?_
 simp only[aD,Aa]
 have hml:maxLen=9223372036854775807:=rfl
 have cb:=g8 b (by omega)
 have hb1:(nb (nv b)=⟨#[]⟩)=False:=eq_false (fun h=>h0 ((gK _).1 h))
 have hrs0:nb (cH a a.size % nv b)=⟨#[]⟩:=by rw[a6g (Ai _),Nat.zero_mod,eB]
 repeat'(first|refine zk ?_|(refine zu ?_ ?_<;>intro hc)|(refine zf cb ?_)|(refine zv ?_ ?_<;>intro hg)|omega|simp -dsimp (disch:=try exact zo)only[go_sem,hb1]|contradiction|rfl)
 have hsb:∀ r:Nat,r<nv b→(nb r).size≤b.size:=fun r hr=>(cG _ _).2 (Nat.lt_trans hr (fH b))
 generalize hB:nv b=B at *
 have hB0:0<B:=by omega
 refine AW.loop (fun z:{p:Nat × List Int // p.1≤a.size∧gU p.2∧p.2.length=a.size∧(∀ q,q<p.1→p.2.getD q 0=0)∧w8 p.2=((cH a p.1 / B:Nat):Int)*256 ^ p.1}=>⟨[(9,.lit (.int .i64 ((z.1.1:Int) - 1))),(8,.lit (.string (nb (cH a z.1.1 % B)))),(7,.ref 16 0 a.size a.size),(0,.lit (.string a)),(1,.lit (.string b))],[(16,.vec 1 (aH .u8 z.1.2))],60⟩) (fun z=>z.1.1) ⟨(a.size,Ay a.size 0),Ai _,fun x hx=>by have:=Ak hx;omega,by simp,fun q hq=>by dsimp only;rw[Ab,List.getElem?_replicate];split<;>rfl,by dsimp only;rw[b0w,a6g (Ai _)];simp⟩ zw ?_
 rintro⟨⟨j,Q⟩,hj,dQ,hQ,hz,hv⟩
 dsimp only at hj dQ hQ hz hv ⊢
 cases j with
 | zero =>
  have hfin:nb (nv ⟨(ofI Q).toArray⟩)=nb (nv a / B):=by
   congr 1
   have h1:=uP Q dQ
   rw[a4y]at hv
   simp only[Int.pow_zero,Int.mul_one]at hv
   omega
  have hrs:cH a 0=nv a:=a4y a
  clear hv hz
  rw[hrs]
  repeat'(first|refine zk ?_|(refine zu ?_ ?_<;>intro hc)|(refine zv ?_ ?_<;>intro hg)|omega|simp -dsimp (disch:=try exact zo)only[go_sem,hQ,bZ]|contradiction|rfl)
  all_goals
   refine⟨ofI Q,by first|exact iN _ dQ|(rw[Ad (by first|omega|(rw[bZ];omega))];exact iN _ dQ),?_⟩
   repeat'(first|refine zk ?_|(refine zu ?_ ?_<;>intro hc)|(refine zf (g8 _ (by rw[tT];omega)) ?_)|(refine zv ?_ ?_<;>intro hg)|omega|simp -dsimp (disch:=try exact zo)only[go_sem,hfin]|contradiction|rfl)
 | succ j =>
  have hH:=b5t a j
  have hbt:=jV a j
  have hr0:=Az (cH a (j+1)) hB0
  have hdm:=Ax (cH a (j+1)) B
  have hcat:=d0z (m:=a) (r:=nb (cH a (j+1) % B)) (j:=j) (by omega)
  rw[aV]at hcat
  have hcs:=c4l (m:=a) (r:=nb (cH a (j+1) % B)) (j:=j) (by omega)
  have hsz:=hsb _ hr0
  have e1:((j+1:Nat):Int) - 1=(j:Int):=by omega
  have e2:((j:Int)+1).toNat=j+1:=by omega
  have hz0:=hz j (by omega)
  have hz1:∀ q,q<j→∀ d:Int,(Q.set j d).getD q 0=0:=fun q hq d=>by
   have:=hz q (by omega)
   simp only[Ab]at this ⊢
   rw[List.getElem?_set_ne (by omega)];exact this
  have hws:=b0v (xs:=Q) (i:=j) (by omega)
  obtain⟨v,hvv⟩:∃ v,v=(bt a j).toNat+256*(cH a (j+1) % B):=⟨_,rfl⟩
  have hv256:v<256*B:=by
   have:=Aj 256 (show cH a (j+1) % B+1≤B by omega)
   omega
  have hnew:cH a j=B*(256*(cH a (j+1) / B))+v:=by
   rw[hH,hvv]
   generalize cH a (j+1) / B=q at *
   generalize cH a (j+1) % B=r at *
   rw[← hdm]
   have:B*(256*q)=256*(B*q):=Nat.mul_left_comm _ _ _
   omega
  have hdiv:cH a j / B=256*(cH a (j+1) / B)+v / B:=by rw[hnew,Nat.mul_add_div hB0]
  have hmod:cH a j % B=v % B:=by rw[hnew,Nat.mul_add_mod]
  have hvB:v / B<256:=(Nat.div_lt_iff_lt_mul hB0).2 hv256
  have hw:Hid (w8 (Q.set j ((v / B:Nat):Int))=((cH a j / B:Nat):Int)*256 ^ j):=Hid.mk (by
   rw[hws,hz0,hv,hdiv,n8,Am,Aw]
   generalize ((cH a (j+1) / B:Nat):Int)=q
   generalize ((v / B:Nat):Int)=d
   have:((256:Nat):Int)=256:=rfl
   rw[this]
   grind)
  have dQ2:∀ d:Nat,d<256→gU (Q.set j (d:Int)):=fun d hd=>a8b dQ (by omega)
  have dQ2:=dQ2 (v / B) hvB
  have hdv:=Ax v B
  have hvm:=Az v hB0
  rw[← hvv]at hcat
  clear hv hws hz hnew hdiv hH hdm hvv
  generalize hR:cH a (j+1) % B=r at *
  have cn:=g8 (a.extract j (j+1)++nb r) (by omega)
  rw[hcat]at cn
  have hvs:(nb v).size≤b.size+1:=by
   refine (cG _ _).2 (Nat.lt_of_lt_of_le hv256 ?_)
   have:=fH b
   rw[hB]at this
   rw[Ar]
   omega
  have hes:(a.extract j (j+1)).size=1:=by rw[ByteArray.size_extract];omega
  clear hcat hcs
  repeat'(first|refine zk ?_|(refine zu ?_ ?_<;>intro hc)|(refine zf cn ?_)|(refine zv ?_ ?_<;>intro hg)|omega|simp -dsimp (disch:=try exact zo)only[go_sem,e1,e2,ZT]|contradiction|rfl)
  refine AW.loop (fun z:{p:Nat × Nat // p.1≤p.2∧p.2≤255∧B*p.1≤v∧v<B*(p.2+1)}=>⟨[(10,.lit (.int .i64 z.1.1)),(11,.lit (.int .i64 z.1.2)),(9,.lit (.int .i64 j)),(8,.lit (.string (nb v))),(7,.ref 16 0 a.size a.size),(0,.lit (.string a)),(1,.lit (.string b))],[(16,.vec 1 (aH .u8 Q))],90⟩) (fun z=>z.1.2 - z.1.1) ⟨(0,255),by decide,by decide,by simp,by dsimp only;omega⟩ (aR (by refine⟨?_,?_,?_,?_⟩<;>simp -dsimp (disch:=try exact zo)only[go_sem,hQ,Ao,At,A0,Am])) ?_
  rintro⟨⟨lo,hi⟩,h1,h2,h3,h4⟩
  dsimp only at h1 h2 h3 h4 ⊢
  by_cases hlt:lo<hi
  ·obtain⟨mid,hmid⟩:∃ mid,mid=(lo+hi+1) / 2:=⟨_,rfl⟩
   have em:((lo:Int)+(hi:Int)+1) / 2=(mid:Int):=by omega
   have hm1:lo<mid∧mid≤hi:=by omega
   have cs:=c208 b (mid:Int) (by omega) (by omega)
   rw[hB,As]at cs
   have hms:(nb (B*mid)).size≤b.size+1:=by
    refine (cG _ _).2 ?_
    have:=fH b
    rw[hB]at this
    rw[Ar]
    have h6:B*mid≤B*255:=Aj _ (by omega)
    omega
   have cc:=c207 (nb (B*mid)) (nb v) (by omega) (by omega)
   rw[aV,aV]at cc
   by_cases q:B*mid≤v
   ·have hq:bR (B*mid) v≤0:=by unfold bR;split<;>(try split)<;>omega
    generalize bR (B*mid) v=cm at *
    have k1:=eq_true hq
    have hh:Hid (B*mid≤v∧v<B*(hi+1)):=Hid.mk ⟨q,h4⟩
    clear h3 h4 q hv256 hdv hmid hvm hw
    repeat'(first|refine zk ?_|(refine zu ?_ ?_<;>intro hc)|(refine zf cs ?_)|(refine zf cc ?_)|(refine zv ?_ ?_<;>intro hg)|omega|simp -dsimp (disch:=try exact zo)only[go_sem,em,k1]|contradiction|rfl)
    all_goals exact AW.stop ⟨⟨(mid,hi),by dsimp only;omega,by dsimp only;omega,hh.out.1,hh.out.2⟩,(aR (by refine⟨?_,?_,?_,?_⟩<;>simp -dsimp (disch:=try exact zo)only[go_sem,hQ,Ao,At,A0,Am])),by dsimp only;omega⟩
   ·have hq:¬ bR (B*mid) v≤0:=by unfold bR;rw[if_neg (by omega),if_neg (by omega)];omega
    generalize bR (B*mid) v=cm at *
    have k1:=eq_false hq
    have hh:Hid (B*lo≤v∧v<B*(mid - 1+1)):=Hid.mk ⟨h3,by rw[show mid - 1+1=mid by omega];omega⟩
    have em1:((mid - 1:Nat):Int)=(mid:Int) - 1:=by omega
    clear h3 h4 q hv256 hdv hmid hvm hw
    repeat'(first|refine zk ?_|(refine zu ?_ ?_<;>intro hc)|(refine zf cs ?_)|(refine zf cc ?_)|(refine zv ?_ ?_<;>intro hg)|omega|simp -dsimp (disch:=try exact zo)only[go_sem,em,k1]|contradiction|rfl)
    all_goals exact AW.stop ⟨⟨(lo,mid - 1),by dsimp only;omega,by dsimp only;omega,hh.out.1,hh.out.2⟩,zw,by dsimp only;omega⟩
  ·have hlh:hi=lo:=by omega
   subst hlh
   have hlo:v / B=hi:=by
    rw[Nat.div_eq_iff hB0]
    have:B*(hi+1)=B*hi+B:=by rw[Nat.mul_add,Nat.mul_one]
    rw[Nat.mul_comm hi B]
    omega
   have hrest:v - B*hi=v % B:=by rw[hlo]at hdv;omega
   have cs:=c208 b (hi:Int) (by omega) (by omega)
   rw[hB,As]at cs
   have hms:(nb (B*hi)).size≤b.size+1:=by
    refine (cG _ _).2 ?_
    have:=fH b
    rw[hB]at this
    rw[Ar]
    have h6:B*hi≤B*255:=Aj _ (by omega)
    omega
   have cq:=c175 (nb v) (nb (B*hi)) (by omega) (by omega) (by rw[aV,aV];exact h3)
   rw[aV,aV,hrest,← hmod]at cq
   have wh:IntKind.u8.wrap (hi:Int)=(hi:Int):=kG (by omega) (by omega)
   rw[hlo]at hw dQ2
   have hlQ:(Q.set j (hi:Int)).length=a.size:=by rw[List.length_set];exact hQ
   have hz2:∀ q,q<j→(Q.set j (hi:Int)).getD q 0=0:=fun q hq=>hz1 q hq _
   clear h3 h4 hv256 hdv hvm hz1 hrest hlo hmod hz0 hvB
   generalize hr2:cH a j % B=r2 at *
   repeat'(first|refine zk ?_|(refine zu ?_ ?_<;>intro hc)|(refine zf cs ?_)|(refine zf cq ?_)|(refine zv ?_ ?_<;>intro hg)|omega|simp -dsimp (disch:=try exact zo)only[go_sem,wh,ZT,bZ,hQ]|contradiction|rfl)
   all_goals exact AW.stop ⟨⟨(j,Q.set j (hi:Int)),by dsimp only;omega,dQ2,hlQ,hz2,hw.out⟩,zw,by dsimp only;omega⟩
end Go.Proofs.Vx
namespace Go.Proofs.Vx
open Go Go.Sx Go.Proofs Tryz
attribute [local irreducible] fnT CallOK CallFr AW aK callV aL aJ aI aM gcaseP hid
theorem qM {p q:Nat} (h:p≤q):(nb p).size≤(nb q).size:=(cG _ _).2 (An h ((cG q _).1 (Ai _)))
theorem c155 (a b:ByteArray) (ha:a.size<1073741824) (hb:b.size<1073741824):CallOK prog 155 [.lit (.string a),.lit (.string b)] [] (.lit (.string (nb (Ae (nv a) (nv b))))) []:=by
 refine zs func155 26 [.tmp 4] results155 ?_
 simp only[aD,Aa]
 have hml:maxLen=9223372036854775807:=rfl
 have ca:=g8 a (by omega)
 have cb:=g8 b (by omega)
 have sa:=eA a
 have sb:=eA b
 repeat'(first|refine zk ?_|(refine zu ?_ ?_<;>intro hc)|(first|refine zf ca ?_|refine zf cb ?_)|(refine zv ?_ ?_<;>intro hg)|omega|simp -dsimp (disch:=try exact zo)only[go_sem]|contradiction|rfl)
 refine AW.loop (fun z:{p:Nat × Nat // Ae p.1 p.2=Ae (nv a) (nv b)∧(nb p.1).size<1073741824∧(nb p.2).size<1073741824}=>⟨[(5,.lit (.string (nb z.1.1))),(6,.lit (.string (nb z.1.2)))],[],40⟩) (fun z=>z.1.2) ⟨(nv a,nv b),rfl,by dsimp only;omega,by dsimp only;omega⟩ zw ?_
 rintro⟨⟨p,q⟩,hg,hp,hq1⟩
 dsimp only at hg hp hq1 ⊢
 by_cases h0:q=0
 ·subst h0
  have hr:nb (Ae (nv a) (nv b))=nb p:=by rw[← hg,Ap]
  rw[hr]
  have zh0:=@eB
  exact z1
 ·have hq:(nb q=⟨#[]⟩)=False:=eq_false fun h=>h0 ((gK _).1 h)
  have cd:=c156 (nb p) (nb q) hp hq1 (by rw[aV];exact h0)
  rw[aV,aV]at cd
  have hlt:=Az p (show 0<q by omega)
  have hs:=qM (Nat.le_of_lt hlt)
  have hg2:Ae q (p % q)=Ae (nv a) (nv b):=by rw[← hg,A6 p q,Nat.gcd_rec q p,A6]
  generalize p % q=r at *
  repeat'(first|refine zk ?_|(refine zu ?_ ?_<;>intro hc)|(refine zf cd ?_)|(refine zv ?_ ?_<;>intro hg)|omega|simp -dsimp (disch:=try exact zo)only[go_sem,hq]|contradiction|rfl)
  all_goals exact AW.stop ⟨⟨(q,r),hg2,hq1,by dsimp only;omega⟩,zw,by dsimp only;omega⟩
theorem nU (n:Bool) (m:ByteArray) (hm:m.size<4611686018427387904):CallOK prog 152 [.lit (.bool n),.lit (.string m)] [] (.agg (eZ (iv n m))) []:=by
 refine zs func152 15 [.cell 4 24] results152 ?_
 simp only[aD,Aa]
 have hz:iv n m=if n then -((nv m:Nat):Int)else ((nv m:Nat):Int):=rfl
 rw[← b2r n (nv m) hz]
 cases n
 ·simp only[Bool.false_and]
  try have zh0:=(g8 m (by omega))
  exact z1
 ·simp only[Bool.true_and]
  try have zh0:=(g8 m (by omega))
  exact z1
theorem c86 (n:Bool) (m:ByteArray) (hm:m.size<4611686018427387904):CallOK prog 86 [.agg [.lit (.bool n),.lit (.string m)]] [] (.lit (.int .i64 (sg (iv n m)))) []:=by
 refine zs func86 9 [.tmp 2] results86 ?_
 simp only[aD,Aa]
 by_cases h0:nv m=0
 ·have hr:sg (iv n m)=0:=by rw[gN];unfold iv;split<;>omega
  have k1:(nb (nv m)=⟨#[]⟩)=True:=eq_true ((gK _).2 h0)
  rw[hr]
  repeat'(first|refine zk ?_|(refine zu ?_ ?_<;>intro hc)|(refine zf (g8 m (by omega)) ?_)|(refine zv ?_ ?_<;>intro hg)|omega|simp -dsimp (disch:=try exact zo)only[go_sem,k1]|contradiction|rfl)
 ·have k1:(nb (nv m)=⟨#[]⟩)=False:=eq_false fun h=>h0 ((gK _).1 h)
  cases n
  ·have hr:sg (iv false m)=1:=by unfold sg iv;simp only[Aq,if_false];rw[if_neg (by omega),if_neg (by omega)]
   rw[hr]
   try have zh0:=(g8 m (by omega))
   exact z1
  ·have hr:sg (iv true m)=-1:=by unfold sg iv;simp only[if_true];rw[if_pos (by omega)]
   rw[hr]
   try have zh0:=(g8 m (by omega))
   exact z1
end Go.Proofs.Vx
namespace Go.Proofs.Vx
open Go Go.Sx Go.Proofs Tryz
attribute [local irreducible] fnT CallOK CallFr AW aK callV aL aJ aI aM gcaseP hid
abbrev mS:=Bool × ByteArray
abbrev eR (l:List mS):List (List AV):=l.map fun r=>eI r.1 r.2
def gT (l:List mS) (i:Nat):Nat:=(l.take i).foldl (fun g r=>Ae g (nv r.2)) 0
theorem a9w (l:List mS):gT l 0=0:=rfl
theorem a9x (l:List mS) (i:Nat) (h:i<l.length):gT l (i+1)=Ae (gT l i) (nv l[i].2):=by
 unfold gT
 rw[Af h,List.foldl_append]
 rfl
theorem oD {p q:Nat} {k:Nat} (hp:(nb p).size≤k) (hq:(nb q).size≤k):(nb (Ae p q)).size≤k:=by
 by_cases h:q=0
 ·subst h;rw[Ap];exact hp
 ·exact Ag (qM (Nat.le_of_dvd (by omega) (Nat.gcd_dvd_right p q))) hq
theorem c7v {l:List mS} {k:Nat} (h:∀ r∈l,r.2.size≤k) (i:Nat) (hi:i≤l.length):(nb (gT l i)).size≤k:=by
 induction i with
 | zero=>rw[a9w,vO];exact Ah _
 | succ i ih =>
  rw[a9x l i hi]
  exact oD (ih (by omega)) (Ag (eA _) (h _ (Au hi)))
theorem eR_in {K:Nat→Prop} (l:List mS):(∀ e∈eR l,∀ c∈e,In K c)=True:=eq_true fun e he c hc=>by
 obtain⟨r,_,rfl⟩:=List.mem_map.1 he
 simp only[eI,List.mem_cons,List.not_mem_nil,or_false]at hc
 rcases hc with rfl|rfl<;>exact .lit _
theorem c8i (l:List mS) (i:Nat) (h:i<l.length):(eR l).getD i []=eI l[i].1 l[i].2:=by
 rw[Ab,Al (by simpa using h)];simp
theorem c2z (m:ByteArray):iv false m=(nv m:Int):=rfl
attribute [go_sem] eR_in
theorem c88 (l:List mS) (hn:l.length≤268435456) (hs:∀ r∈l,r.2.size≤268435456):CallOK prog 88 [.sl (eR l)] [] (.agg (eZ ((gT l l.length:Nat):Int))) []:=by
 refine zs func88 20 [.cell 2 24] results88 ?_
 simp only[aD,Aa]
 have hml:maxLen=9223372036854775807:=rfl
 have hl:(eR l).length=l.length:=List.length_map _
 repeat'(first|refine zk ?_|(refine zu ?_ ?_<;>intro hc)|(refine zv ?_ ?_<;>intro hg)|omega|simp -dsimp (disch:=try exact zo)only[go_sem,hl]|contradiction|rfl)
 refine AW.loop (fun z:{i:Nat // i≤l.length}=>⟨[(4,.lit (.int .i64 z.1)),(3,.lit (.string (nb (gT l z.1)))),(2,.loc 8 0),(0,.sl (eR l))],[(8,.blk [.lit (.bool false),.lit (.string ⟨#[]⟩)])],40⟩) (fun z=>l.length - z.1) ⟨0,Ah _⟩ (aR (by refine⟨?_,?_,?_,?_⟩<;>simp -dsimp (disch:=try exact zo)only[go_sem,a9w,eB,ZC])) ?_
 rintro⟨i,hi⟩
 dsimp only
 have hsz:=c7v hs i hi
 by_cases hlt:i<l.length
 ·have es1:=c8i l i hlt
  have hst:=a9x l i hlt
  have hr:=hs _ (Au hlt)
  generalize l[i]=r at *
  obtain⟨rn,rm⟩:=r
  dsimp only at es1 hst hr
  simp only[eI]at es1
  have cg:=c155 (nb (gT l i)) rm (by omega) (by omega)
  rw[aV,← hst]at cg
  clear hst hs
  generalize gT l i=g at *
  repeat'(first|refine zk ?_|(refine zu ?_ ?_<;>intro hc)|(refine zf cg ?_)|(refine zv ?_ ?_<;>intro hg)|omega|simp -dsimp (disch:=try exact zo)only[go_sem,hl,es1,ZT]|contradiction|rfl)
  all_goals exact AW.stop ⟨⟨i+1,by omega⟩,zw,by dsimp only;omega⟩
 ·have hil:i=l.length:=by omega
  subst hil
  have co:=nU false (nb (gT l l.length)) (by omega)
  rw[c2z,aV]at co
  clear hs
  generalize gT l l.length=g at *
  exact z1
theorem d1l {n:Bool} {m:ByteArray} {g:Nat} (hd:g∣nv m):iv n (nb (nv m / g))=iv n m / (g:Int):=by
 unfold iv
 rw[aV]
 cases n
 ·simp only[Aq,if_false];rw[Av]
 ·simp only[if_true]
  rw[Av,Int.neg_ediv_of_dvd (Int.ofNat_dvd.2 hd)]
theorem c2a (n:Bool):(decide (n=false))=!n:=by cases n<;>rfl
theorem c90 (n:Bool) (m:ByteArray) (g:Nat) (hg:0<g) (hd:g∣nv m) (hm:m.size≤268435456) (hgs:(nb g).size≤268435456):CallOK prog 90 [.agg [.lit (.bool n),.lit (.string m)],.agg [.lit (.bool false),.lit (.string (nb g))]] [] (.tup [.agg (eZ (iv n m / (g:Int))),.agg (eZ 0),.lit (.bool true)]) []:=by
 refine zs func90 55 [.cell 4 24,.cell 5 24,.tmp 6] results90 ?_
 simp only[aD,Aa]
 have hml:maxLen=9223372036854775807:=rfl
 have cd:=c156 m (nb g) (by omega) (by omega) (by rw[aV];omega)
 rw[aV,Nat.mod_eq_zero_of_dvd hd,eB]at cd
 have hq:=qM (Nat.div_le_self (nv m) g)
 have hcs:=eA m
 have c1:=nU n ⟨#[]⟩ (by decide)
 have hz1:iv n ⟨#[]⟩=0:=by unfold iv;split<;>rfl
 rw[hz1]at c1
 have c2:=nU n (nb (nv m / g)) (by omega)
 rw[d1l hd]at c2
 have c3:=c86 (Zn 0) (Zm 0) (by rw[eF];decide)
 have hz2:sg (iv (Zn 0) (Zm 0))=0:=by rw[bB];rfl
 rw[hz2]at c3
 have hne:=c2a n
 generalize iv n m / (g:Int)=w at *
 generalize nb (nv m / g)=qs at *
 cases n
 ·simp only[decide_true,A3,A4,decide_false]at hne
  have zh0:=@eB
  exact z1
 ·simp only[decide_true,A3,A4,decide_false]at hne
  have zh0:=@eB
  exact z1
end Go.Proofs.Vx
namespace Go.Proofs.Vx
open Go Go.Sx Go.Proofs Tryz
attribute [local irreducible] fnT CallOK CallFr AW aK callV aL aJ aI aM gcaseP hid
theorem kF:fnT prog 88=true:=by kernel_rfl
theorem gT4 (n1 n2 n3 n4:Bool) (m1 m2 m3 m4:ByteArray):gT [(n1,m1),(n2,m2),(n3,m3),(n4,m4)] 4=g4 (iv n1 m1) (iv n2 m2) (iv n3 m3) (iv n4 m4):=by
 show Ae (Ae (Ae (Ae 0 (nv m1)) (nv m2)) (nv m3)) (nv m4)=_
 rw[Nat.gcd_zero_left]
 unfold g4
 simp only[tO]
theorem c88x (n1 n2 n3 n4 : Bool) (m1 m2 m3 m4 : ByteArray) (h1 : m1.size ≤ 268435456) (h2 : m2.size ≤ 268435456) (h3 : m3.size ≤ 268435456) (h4 : m4.size ≤ 268435456) :
  CallOK prog 88 [.sl [eI n1 m1,eI n2 m2,eI n3 m3,eI n4 m4]] [] (.agg [.lit (.bool false),.lit (.string (nb (g4 (iv n1 m1) (iv n2 m2) (iv n3 m3) (iv n4 m4))))]) []:=by
 have h:=c88 [(n1,m1),(n2,m2),(n3,m3),(n4,m4)] (by simp) (by
  intro r hr
  simp only[zM,or_false]at hr
  rcases hr with rfl|rfl|rfl|rfl<;>assumption)
 have e:([(n1,m1),(n2,m2),(n3,m3),(n4,m4)]:List mS).length=4:=rfl
 rw[e,gT4]at h
 have e2:∀ G:Nat,eZ (G:Int)=[.lit (.bool false),.lit (.string (nb G))]:=fun G=>by unfold eZ;rw[lS (Int.natCast_nonneg _),jC]
 rw[e2]at h
 exact h
theorem c109 (n:Bool) (m:ByteArray) (g:Nat) (hg:0<g) (hd:g∣nv m) (hm:m.size≤268435456) (hgs:(nb g).size≤268435456):CallOK prog 109 [.agg [.lit (.bool n),.lit (.string m)],.agg [.lit (.bool false),.lit (.string (nb g))]] [] (.agg (eZ (iv n m / (g:Int)))) []:=by
 refine zs func109 16 [.cell 4 24] results109 ?_
 simp only[aD,Aa]
 have hml:maxLen=9223372036854775807:=rfl
 try have zh0:=(c90 n m g hg hd hm hgs)
 exact z1
theorem c44b (n1 n2 n3 n4:Bool) (m1 m2 m3 m4:ByteArray) (h1:m1.size≤268435456) (h2:m2.size≤268435456) (h3:m3.size≤268435456) (h4:m4.size≤268435456) (hz:iv n1 m1=0∧iv n2 m2=0∧iv n3 m3=0):CallOK prog 44 [.agg [.lit (.bool n1),.lit (.string m1),.lit (.bool n2),.lit (.string m2),.lit (.bool n3),.lit (.string m3),.lit (.bool n4),.lit (.string m4)]] [] (.tup [.agg [.lit (.bool false),.lit (.string ⟨#[]⟩),.lit (.bool false),.lit (.string ⟨#[]⟩),.lit (.bool false),.lit (.string ⟨#[]⟩),.lit (.bool false),.lit (.string ⟨#[]⟩)],.lit (.bool false)]) []:=by
 refine zs func44 49 [.cell 2 26,.tmp 3] results44 ?_
 simp only[aD,Aa]
 have hml:maxLen=9223372036854775807:=rfl
 have s1:=c86 n1 m1 (by omega)
 have s2:=c86 n2 m2 (by omega)
 have s3:=c86 n3 m3 (by omega)
 obtain⟨z1,z2,z3⟩:=hz
 rw[z1]at s1
 rw[z2]at s2
 rw[z3]at s3
 have k1:sg 0=0:=rfl
 have k2:True:=trivial
 have k3:True:=trivial
 repeat'(first|refine zk ?_|(refine zu ?_ ?_<;>intro hc)|(first|refine zf s1 ?_|refine zf s2 ?_|refine zf s3 ?_)|(refine zv ?_ ?_<;>intro hg)|omega|simp -dsimp (disch:=try exact zo)only[go_sem,k1]|contradiction|rfl)
theorem c44a (n1 n2 n3 n4:Bool) (m1 m2 m3 m4:ByteArray) (h1:m1.size≤268435456) (h2:m2.size≤268435456) (h3:m3.size≤268435456) (h4:m4.size≤268435456) (hz:¬ (iv n1 m1=0∧iv n2 m2=0∧iv n3 m3=0)):CallOK prog 44 [.agg [.lit (.bool n1),.lit (.string m1),.lit (.bool n2),.lit (.string m2),.lit (.bool n3),.lit (.string m3),.lit (.bool n4),.lit (.string m4)]] [] (.tup [.agg (eH (kY (iv n1 m1) (iv n2 m2) (iv n3 m3) (iv n4 m4))),.lit (.bool true)]) []:=by
 refine zs func44 49 [.cell 2 26,.tmp 3] results44 ?_
 simp only[aD,Aa]
 have hml:maxLen=9223372036854775807:=rfl
 have s1:=c86 n1 m1 (by omega)
 have s2:=c86 n2 m2 (by omega)
 have s3:=c86 n3 m3 (by omega)
 have cg:=c88x n1 n2 n3 n4 m1 m2 m3 m4 h1 h2 h3 h4
 obtain⟨d1,d2,d3,d4⟩:=mB (iv n1 m1) (iv n2 m2) (iv n3 m3) (iv n4 m4)
 have hG:0<g4 (iv n1 m1) (iv n2 m2) (iv n3 m3) (iv n4 m4):=by
  apply Nat.pos_of_ne_zero
  intro h0
  rw[h0]at d1 d2 d3
  exact hz ⟨by simpa using d1,by simpa using d2,by simpa using d3⟩
 have hGs:(nb (g4 (iv n1 m1) (iv n2 m2) (iv n3 m3) (iv n4 m4))).size≤268435456:=by
  unfold g4
  simp only[tO]
  exact oD (oD (oD (Ag (eA _) h1) (Ag (eA _) h2)) (Ag (eA _) h3)) (Ag (eA _) h4)
 have e:∀ (n:Bool) (m:ByteArray),(g4 (iv n1 m1) (iv n2 m2) (iv n3 m3) (iv n4 m4):Int)∣iv n m→g4 (iv n1 m1) (iv n2 m2) (iv n3 m3) (iv n4 m4)∣nv m:=fun n m h=>by
  rw[← tO n m];exact Int.ofNat_dvd_left.1 h
 unfold kY
 have p1:=c109 n1 m1 _ hG (e n1 m1 d1) h1 hGs
 have p2:=c109 n2 m2 _ hG (e n2 m2 d2) h2 hGs
 have p3:=c109 n3 m3 _ hG (e n3 m3 d3) h3 hGs
 have p4:=c109 n4 m4 _ hG (e n4 m4 d4) h4 hGs
 clear e d1 d2 d3 d4 hG hGs
 generalize g4 (iv n1 m1) (iv n2 m2) (iv n3 m3) (iv n4 m4)=G at *
 by_cases q1:sg (iv n1 m1)=0
 ·by_cases q2:sg (iv n2 m2)=0
  ·have q3:sg (iv n3 m3)≠0:=fun q3=>hz ⟨gN.1 q1,gN.1 q2,gN.1 q3⟩
   have k1:=eq_true q1
   have k2:=eq_true q2
   have k3:=eq_false q3
   clear hz
   repeat'(first|refine zk ?_|(refine zu ?_ ?_<;>intro hc)|(first|refine zf s1 ?_|refine zf s2 ?_|refine zf s3 ?_)|(refine iL _ kF cg rfl rfl (by simp -dsimp (disch:=try exact zo)only[go_sem]) (.agg _ (by intro c hc;simp only[zM,or_false]at hc;rcases hc with rfl|rfl<;>exact .lit _)) ?_)|(first|refine zf p1 ?_|refine zf p2 ?_|refine zf p3 ?_|refine zf p4 ?_)|(refine zv ?_ ?_<;>intro hg)|omega|simp -dsimp (disch:=try exact zo)only[go_sem,k1,k2,k3]|contradiction|rfl)
  ·have k1:=eq_true q1
   have k2:=eq_false q2
   have k3:True:=trivial
   clear hz
   repeat'(first|refine zk ?_|(refine zu ?_ ?_<;>intro hc)|(first|refine zf s1 ?_|refine zf s2 ?_|refine zf s3 ?_)|(refine iL _ kF cg rfl rfl (by simp -dsimp (disch:=try exact zo)only[go_sem]) (.agg _ (by intro c hc;simp only[zM,or_false]at hc;rcases hc with rfl|rfl<;>exact .lit _)) ?_)|(first|refine zf p1 ?_|refine zf p2 ?_|refine zf p3 ?_|refine zf p4 ?_)|(refine zv ?_ ?_<;>intro hg)|omega|simp -dsimp (disch:=try exact zo)only[go_sem,k1,k2,k3]|contradiction|rfl)
 ·have k1:=eq_false q1
  have k2:True:=trivial
  have k3:True:=trivial
  clear hz
  repeat'(first|refine zk ?_|(refine zu ?_ ?_<;>intro hc)|(first|refine zf s1 ?_|refine zf s2 ?_|refine zf s3 ?_)|(refine iL _ kF cg rfl rfl (by simp -dsimp (disch:=try exact zo)only[go_sem]) (.agg _ (by intro c hc;simp only[zM,or_false]at hc;rcases hc with rfl|rfl<;>exact .lit _)) ?_)|(first|refine zf p1 ?_|refine zf p2 ?_|refine zf p3 ?_|refine zf p4 ?_)|(refine zv ?_ ?_<;>intro hg)|omega|simp -dsimp (disch:=try exact zo)only[go_sem,k1,k2,k3]|contradiction|rfl)
end Go.Proofs.Vx
