/- Several texts in one, for ProofTells.card: what the theorem leans on. -/
import Derived.Test.YtjegnogjkddnbaaGreatDoorPt4
namespace Go.Proofs.YtjegnogjkddnbaaGreatDoor
set_option linter.unusedSimpArgs false
namespace Dp
open Go Go.RowKit Go.Proofs.YtjegnogjkddnbaaGreatDoor.Rt Go.Proofs Go.Proofs.YtjegnogjkddnbaaGreatDoor.D
set_option linter.unusedVariables false
set_option maxHeartbeats 4000000
set_option maxRecDepth 100000
abbrev rdA(d:Bool)(s:Bs):Blk:=⟨0,0,false,d,false,.box 103 [S s,B false]⟩
abbrev rdD:Blk:=⟨0,0,false,true,false,.box 103 [S [],B true]⟩
abbrev rd0:Blk:=⟨0,0,false,false,false,.box 103 [S [],B true]⟩
theorem b2l(s:Bs):EvH tt 114 [.bp 0 0] [rdA false s] (.tup []) [rdD]:=by
 refine evF (eInH 1 Tryz.func114 rfl rfl rfl ?_);exact qR rfl ⟨rfl,rfl⟩
theorem fail_d:EvH tt 114 [.bp 0 0] [rd0] (.tup []) [rdD]:=by
 refine evF (eInH 1 Tryz.func114 rfl rfl rfl ?_);exact qR rfl ⟨rfl,rfl⟩
theorem c8s{s e:Bs}(h:Lib.hasPrefix s e=true):EvH tt 113 [.bp 0 0,S e] [rdA false s] (.tup []) [rdA true (Lib.trimPrefix s e)]:=by
 refine evF (eInH 1 Tryz.func113 rfl rfl rfl ?_);refine qK rfl (a5i _ _) rfl ?_;refine qN rfl (by rw [h];rfl) ?_;exact qR rfl ⟨rfl,rfl⟩
theorem d3x{s e:Bs}(h:Lib.hasPrefix s e=false):EvH tt 113 [.bp 0 0,S e] [rdA false s] (.tup []) [rdD]:=by
 refine evF (eInH 1 Tryz.func113 rfl rfl rfl ?_);refine qK rfl (a5i _ _) rfl ?_;refine qT rfl (by rw [h];rfl) ?_;refine qK rfl (b2l _) rfl ?_;exact qR rfl ⟨rfl,rfl⟩
theorem b6w{e:Bs}(h:Lib.hasPrefix [] e=false):EvH tt 113 [.bp 0 0,S e] [rd0] (.tup []) [rdD]:=by
 refine evF (eInH 1 Tryz.func113 rfl rfl rfl ?_);refine qK rfl (a5i _ _) rfl ?_;refine qT rfl (by rw [h];rfl) ?_;have ht:Lib.trimPrefix [] e= []:=by unfold Lib.trimPrefix;rw [h];rfl
 rw [ht];refine qK rfl fail_d rfl ?_;exact qR rfl ⟨rfl,rfl⟩
theorem c1g(l:Bs)(c:UInt8):EvF tt 178 [S l,.v (.int .u8 (c.toNat:Int))] (I (Lib.indexByte l c)):=EvF.ext (g:=xIndexByte) rfl rfl (by simp [xIndexByte])
def numD(e:UInt8)(s:Bs):Bs:=(s.take 21).take (Lib.indexByte (s.take 21) e).toNat
def numR(e:UInt8)(least:Int)(s:Bs):Option (Int×Bs):=
 if Lib.indexByte (s.take 21) e<0 then none
 else match Lib.atoiAll (numD e s)with
  | .ok n=>if Lib.itoa n=numD e s/\least<=n then some (n,s.drop ((Lib.indexByte (s.take 21) e).toNat+1))else none
  |_=>none
theorem d1h(s:Bs):ssl s 0 (imin (s.length:Int) 21)=some (s.take 21):=by
 unfold imin ssl
 by_cases h:21<(s.length:Int)
 ·rw [if_pos h,if_pos (by omega)];rfl
 rw [if_neg h,if_pos (by omega),Int.toNat_natCast,List.take_length,List.take_of_length_le (by omega)];rfl
theorem a4x{s:Bs}{n:Int}(h0:0<=n)(h1:n<=s.length):ssl s 0 n=some (s.take n.toNat):=by unfold ssl;rw [if_pos ⟨by omega,h0,h1⟩];rfl
theorem a8q{s:Bs}{n:Int}(h0:0<=n)(h1:n<=s.length):ssl s n s.length=some (s.drop n.toNat):=by unfold ssl;rw [if_pos ⟨h0,h1,by omega⟩,Int.toNat_natCast,List.take_length]
theorem c3v(c:UInt8):∀l:Bs,Lib.indexByte l c<l.length
 | []=>by show(-1:Int)<0;decide
 |b::l=>by
  have:=c3v c l;unfold Lib.indexByte;simp only [List.length_cons];split
  ·omega
  split<;>omega
theorem a8m{l:Bs}{n:Int}(h:Lib.atoiAll l= .ok n):-9223372036854775808<=n/\n<=9223372036854775807:=by
 unfold Lib.atoiAll at h;split at h
 ·cases h
 dsimp only at h;split at h
 ·cases h
 ·cases h
 split at h
 ·cases h
 split at h
 ·cases h
 cases h;rename_i h1 h2;split<;>omega
def numQ(e:UInt8)(least:Int)(s:Bs)(r:DV)(H:DH):Prop:=match numR e least s with
 |some (n,t)=>r=I n/\H= [rdA true t]
 |none=>r=I 0/\H= [rdD]
theorem c6g(s:Bs)(e:UInt8)(least:Int)(hl:s.length<1000000):Ev tt 112 [.bp 0 0,.v (.int .u8 (e.toNat:Int)),I least] [rdA false s] (numQ e least s):=by
 refine eInH 1 Tryz.func112 rfl rfl rfl ?_;refine qV rfl (d1h s) ?_;refine qE rfl (by kernel_rfl) (by kernel_rfl) ?_;refine qK rfl (c1g _ _) rfl ?_;have bad:numR e least s=none->numQ e least s (I 0) [rdD]:=fun h=>by unfold numQ;rw [h];exact⟨rfl,rfl⟩
 refine qC rfl (fun h=> ?_) (fun h=> ?_)
 ·have h:Lib.indexByte (s.take 21) e<0:=h;refine qK rfl (b2l _) rfl ?_;exact qR rfl (bad (by unfold numR;rw [if_pos h]))
 have h:¬Lib.indexByte (s.take 21) e<0:=h;have hlt:=c3v e (s.take 21);have hls:(s.take 21).length<=s.length/\(s.take 21).length<=21:=by rw [List.length_take];omega
 refine qV rfl (a4x (by omega) (by omega)) ?_;have hd:(numD e s).length<=21:=by unfold numD;rw [List.length_take];omega
 have hat:∀r,xAtoi [.str (numD e s)]=some r->EvF tt 179 [S (numD e s)] r:=fun r hr=>EvF.ext (g:=xAtoi) rfl rfl hr;cases ha:Lib.atoiAll (numD e s)with
 |ok n=>
  have hr:=a8m ha;refine qK rfl (hat (.tup [I n,.v (.val .nilIface)]) (by simp only [xAtoi,ha];rw [decide_eq_true (by omega)];rfl)) rfl ?_;refine qV rfl rfl ?_;refine qK rfl (c4l hr.1 hr.2) rfl ?_;refine qV rfl (a4x (by omega) (by omega)) ?_;refine qC rfl (fun h1=> ?_) (fun h1=> ?_)
  ·have h1:¬Lib.itoa n=numD e s:=h1;refine qE rfl (by kernel_rfl) (by kernel_rfl) ?_;refine qK rfl (b2l _) rfl ?_;exact qR rfl (bad (by unfold numR;rw [if_neg h,ha];exact if_neg fun h2=>h1 h2.1))
  have h1:¬¬Lib.itoa n=numD e s:=h1;have h1:=Classical.not_not.1 h1;refine qE rfl (by kernel_rfl) (by kernel_rfl) ?_;refine qC rfl (fun h2=> ?_) (fun h2=> ?_)
  ·have h2:n<least:=h2;refine qK rfl (b2l _) rfl ?_;exact qR rfl (bad (by unfold numR;rw [if_neg h,ha];exact if_neg fun h3=>by omega))
  have h2:¬n<least:=h2;have hi:iadd .i64 (Lib.indexByte (s.take 21) e) 1=Lib.indexByte (s.take 21) e+1:=a0e (by omega) (by omega);refine qV rfl (a8q (by rw [hi];omega) (by rw [hi];omega)) ?_;refine qR rfl ?_;unfold numQ;rw [show numR e least s=some (n,s.drop ((Lib.indexByte (s.take 21) e).toNat+1)) by unfold numR;rw [if_neg h,ha];exact if_pos ⟨h1,by omega⟩];refine⟨rfl,?_⟩;rw [hi,show(Lib.indexByte (s.take 21) e+1).toNat=(Lib.indexByte (s.take 21) e).toNat+1 by omega];rfl
 |range=>
  refine qK rfl (hat (.tup [I (Lib.atoiSat (numD e s)),.v .ifc]) (by simp only [xAtoi,ha];rw [decide_eq_true (by omega)];rfl)) rfl ?_;refine qV rfl rfl ?_;refine qE rfl (by kernel_rfl) (by kernel_rfl) ?_;refine qK rfl (b2l _) rfl ?_;exact qR rfl (bad (by unfold numR;rw [if_neg h,ha]))
 |_=>
  refine qK rfl (hat (.tup [I 0,.v .ifc]) (by simp only [xAtoi,ha];rw [decide_eq_true (by omega)];rfl)) rfl ?_;refine qV rfl rfl ?_;refine qE rfl (by kernel_rfl) (by kernel_rfl) ?_;refine qK rfl (b2l _) rfl ?_;exact qR rfl (bad (by unfold numR;rw [if_neg h,ha]))
theorem c2t{s t:Bs}{e:UInt8}{least n:Int}(hl:s.length<1000000)(h:numR e least s=some (n,t)):EvH tt 112 [.bp 0 0,.v (.int .u8 (e.toNat:Int)),I least] [rdA false s] (I n) [rdA true t]:=by
 obtain⟨k,r,H,h1,h2⟩:=c6g s e least hl;unfold numQ at h2;rw [h]at h2;obtain⟨rfl,rfl⟩:=h2;exact⟨k,h1⟩
theorem c5m{s:Bs}{e:UInt8}{least:Int}(hl:s.length<1000000)(h:numR e least s=none):EvH tt 112 [.bp 0 0,.v (.int .u8 (e.toNat:Int)),I least] [rdA false s] (I 0) [rdD]:=by
 obtain⟨k,r,H,h1,h2⟩:=c6g s e least hl;unfold numQ at h2;rw [h]at h2;obtain⟨rfl,rfl⟩:=h2;exact⟨k,h1⟩
def a5n(s:Bs):Option (Bs×Bs):=match numR 58 0 s with
 |none=>none
 |some (n,t)=>if n>t.length then none else if Lib.hasPrefix (t.drop n.toNat) [44]=true then some (t.take n.toNat,Lib.trimPrefix (t.drop n.toNat) [44])else none
def texQ(s:Bs)(r:DV)(H:DH):Prop:=match a5n s with
 |some (x,t)=>r=S x/\H= [rdA true t]
 |none=>r=S []/\H= [rdD]
theorem b0q{e:UInt8}{least n:Int}{s t:Bs}(h:numR e least s=some (n,t)):least<=n/\t.length<=s.length:=by
 unfold numR at h;split at h
 ·cases h
 split at h
 ·split at h
  ·rename_i hc;cases h;exact⟨hc.2,by rw [List.length_drop];omega⟩
  cases h
 cases h
theorem d9s(s:Bs)(hl:s.length<1000000):Ev tt 59 [.bp 0 0] [rdA false s] (texQ s):=by
 refine eInH 1 Tryz.func59 rfl rfl rfl ?_;have bad:a5n s=none->texQ s (S []) [rdD]:=fun h=>by unfold texQ;rw [h];exact⟨rfl,rfl⟩
 cases hn:numR 58 0 s with
 |none=>
  have hb:a5n s=none:=by unfold a5n;rw [hn]
  refine qK rfl (c5m hl hn) rfl ?_;refine qN rfl (by decide) ?_;refine qV rfl (show ssl [] 0 0=some []from rfl) ?_;refine qV rfl (show ssl [] 0 0=some []from rfl) ?_;refine qK rfl (b6w (e:= [44]) rfl) rfl ?_;refine qT rfl rfl ?_;exact qR rfl (bad hb)
 |some p=>
  obtain⟨n,t⟩:=p;have h0:=(b0q hn).1;refine qK rfl (c2t hl hn) rfl ?_;refine qC rfl (fun h=> ?_) (fun h=> ?_)
  ·have h:(t.length:Int)<n:=h;refine qK rfl (b2l _) rfl ?_;exact qR rfl (bad (by unfold a5n;rw [hn];exact if_pos h))
  have h:¬(t.length:Int)<n:=h;refine qV rfl (a4x h0 (by omega)) ?_;refine qV rfl (a8q h0 (by omega)) ?_;cases hp:Lib.hasPrefix (t.drop n.toNat) [44]with
  |false=>
   refine qK rfl (d3x hp) rfl ?_;refine qT rfl rfl ?_;exact qR rfl (bad (by unfold a5n;rw [hn];simp only [hp];rw [if_neg h];rfl))
  |true=>
   refine qK rfl (c8s hp) rfl ?_;refine qN rfl rfl ?_;refine qR rfl ?_;unfold texQ;rw [show a5n s=some (t.take n.toNat,Lib.trimPrefix (t.drop n.toNat) [44]) by unfold a5n;rw [hn];simp only [hp];rw [if_neg h];rfl];exact⟨rfl,rfl⟩
theorem f0x{s x t:Bs}(hl:s.length<1000000)(h:a5n s=some (x,t)):EvH tt 59 [.bp 0 0] [rdA false s] (S x) [rdA true t]:=by
 obtain⟨k,r,H,h1,h2⟩:=d9s s hl;unfold texQ at h2;rw [h]at h2;obtain⟨rfl,rfl⟩:=h2;exact⟨k,h1⟩
theorem e9f{s:Bs}(hl:s.length<1000000)(h:a5n s=none):EvH tt 59 [.bp 0 0] [rdA false s] (S []) [rdD]:=by
 obtain⟨k,r,H,h1,h2⟩:=d9s s hl;unfold texQ at h2;rw [h]at h2;obtain⟨rfl,rfl⟩:=h2;exact⟨k,h1⟩
def manyR:Nat->Bs->Option (List Bs×Bs)
 |0,s=>some ([],s)
 |k+1,s=>match a5n s with
  |none=>none
  |some (x,t)=>match manyR k t with
   |none=>none
   |some (l,u)=>some (x::l,u)
def a1m(s:Bs):Option (List Bs×Bs):=match numR 91 0 s with
 |none=>none
 |some (n,t)=>match manyR n.toNat t with
  |none=>none
  |some (l,u)=>if Lib.hasPrefix u [93]=true then some (l,Lib.trimPrefix u [93])else none
def txsQ(s:Bs)(r:DV)(H:DH):Prop:=match a1m s with
 |some (l,t)=>r=L (ss l)/\H= [rdA true t]
 |none=>r=L []/\H= [rdD]
theorem e1m{e:UInt8}{least n:Int}{s t:Bs}(h:numR e least s=some (n,t)):t.length<s.length:=by
 unfold numR at h;split at h
 ·cases h
 rename_i h0;have:=c3v e (s.take 21);rw [List.length_take]at this;split at h
 ·split at h
  ·cases h;rw [List.length_drop];omega
  cases h
 cases h
theorem c5v{e:UInt8}{least n:Int}{s t:Bs}(h:numR e least s=some (n,t)):n<=9223372036854775807:=by
 unfold numR at h;split at h
 ·cases h
 split at h
 ·rename_i ha;split at h
  ·cases h;exact(a8m ha).2
  cases h
 cases h
theorem c8p(s p:Bs):(Lib.trimPrefix s p).length<=s.length:=by
 unfold Lib.trimPrefix;split
 ·rw [List.length_drop];omega
 omega
theorem c4a{s x t:Bs}(h:a5n s=some (x,t)):t.length<s.length:=by
 unfold a5n at h;split at h
 ·cases h
 rename_i n u hn;have h1:=e1m hn;split at h
 ·cases h
 split at h
 ·cases h;have h2:=c8p (u.drop n.toNat) [44];rw [List.length_drop]at h2;omega
 cases h
theorem e5z(s:Bs)(hl:s.length<1000000):Ev tt 58 [.bp 0 0,.clo 59 [.bp 0 0] []] [rdA false s] (txsQ s):=by
 refine eInH 1 Tryz.func58 rfl rfl rfl ?_;have bad:a1m s=none->txsQ s (L []) [rdD]:=fun h=>by unfold txsQ;rw [h];exact⟨rfl,rfl⟩
 cases hn:numR 91 0 s with
 |none=>
  refine qK rfl (c5m hl hn) rfl ?_;refine qB ?_ rfl;refine qI ?_;refine qN rfl (by decide) ?_;refine qK rfl (b6w (e:= [93]) rfl) rfl ?_;refine qT rfl rfl ?_;exact qR rfl (bad (by unfold a1m;rw [hn]))
 |some p=>
  obtain⟨n,t⟩:=p;have h0:=b0q hn;refine qK rfl (c2t hl hn) rfl ?_;refine qL (σ:=Int×List VT×Bs×Bool) (fun q=> [(6,I q.1)]) (fun q=> [(0,.box 103 [S q.2.2.1,B q.2.2.2]),(1,.row 9 1 q.2.1)])
   (fun q=>(q.2.2.2=true/\q.2.2.1= []/\a1m s=none)∨(q.2.2.2=false/\0<=q.1/\q.1<=9223372036854775807/\∃acc,q.2.1=ss acc/\acc.length+q.2.2.1.length<=s.length/\a1m s=match manyR q.1.toNat q.2.2.1 with
     |none=>none
     |some (l,u)=>if Lib.hasPrefix u [93]=true then some (acc++l,Lib.trimPrefix u [93])else none)) (fun q=>q.1.toNat) (n,[],t,false) rfl rfl (.inr ⟨rfl,h0.1,c5v hn,[],rfl,by show 0+t.length<=_;omega,by unfold a1m;rw [hn];rfl⟩) ?_
  rintro⟨k,out,u,b⟩ hJ ih;have hJ:(b=true/\u= []/\a1m s=none)∨(b=false/\0<=k/\k<=9223372036854775807/\∃acc,out=ss acc/\acc.length+u.length<=s.length/\a1m s=match manyR k.toNat u with
   |none=>none
   |some (l,u)=>if Lib.hasPrefix u [93]=true then some (acc++l,Lib.trimPrefix u [93])else none):=hJ
  rcases hJ with⟨rfl,rfl,hno⟩|⟨rfl,hk,hk9,acc,rfl,hle,hts⟩
  ·refine qC rfl (fun h=> ?_) (fun h=> ?_)
   ·refine qN rfl rfl ?_;refine qK rfl (b6w (e:= [93]) rfl) rfl ?_;refine qT rfl rfl ?_;exact qR rfl (bad hno)
   refine qK rfl (b6w (e:= [93]) rfl) rfl ?_;refine qT rfl rfl ?_;exact qR rfl (bad hno)
  refine qC rfl (fun h=> ?_) (fun h=> ?_)
  ·have h:0<k:=h;obtain⟨j,rfl⟩:∃j:Nat,k=((j+1:Nat):Int):=⟨(k-1).toNat,by omega⟩
   have hk1:((j+1:Nat):Int).toNat=j+1:=rfl;rw [hk1]at hts;unfold manyR at hts;have hj:isub .i64 ((j+1:Nat):Int) 1=(j:Int):=by rw [a0c (by omega) (by omega)];omega
   have hul:u.length<1000000:=by omega
   refine qT rfl rfl ?_;cases hx:a5n u with
   |none=>
    rw [hx]at hts;refine qK rfl (e9f hul hx) rfl ?_;refine qA 16 rfl rfl (by simp;omega) ?_;refine qB (ih (isub .i64 ((j+1:Nat):Int) 1,ss acc++ [.str []],[],true) (.inl ⟨rfl,rfl,hts⟩) ?_) (by kernel_rfl);show(isub .i64 ((j+1:Nat):Int) 1).toNat<j+1;rw [hj];omega
   |some p=>
    obtain⟨x,v⟩:=p;have hlt:=c4a hx;rw [hx]at hts;refine qK rfl (f0x hul hx) rfl ?_;refine qA 16 rfl rfl (by simp;omega) ?_;refine qB (ih (isub .i64 ((j+1:Nat):Int) 1,ss acc++ [.str x],v,false) (.inr ⟨rfl,by rw [hj];omega,by rw [hj];omega,acc++ [x],by simp,by simp;omega,?_⟩) ?_) (by kernel_rfl)
    ·rw [hts,hj,Int.toNat_natCast];dsimp only;rcases manyR j v with _|⟨l,w⟩
     ·rfl
     simp
    show(isub .i64 ((j+1:Nat):Int) 1).toNat<j+1;rw [hj];omega
  have h:¬0<k:=h;obtain rfl:k=0:=by omega
  have hts:a1m s=if Lib.hasPrefix u [93]=true then some (acc++ [],Lib.trimPrefix u [93])else none:=hts
  cases hp:Lib.hasPrefix u [93]with
  |false=>
   rw [hp]at hts;refine qK rfl (d3x hp) rfl ?_;refine qT rfl rfl ?_;exact qR rfl (bad hts)
  |true=>
   rw [hp,if_pos rfl,List.append_nil]at hts;refine qK rfl (c8s hp) rfl ?_;refine qN rfl rfl ?_;refine qR rfl ?_;unfold txsQ;rw [hts];exact⟨rfl,rfl⟩
theorem e3d(s:Bs)(hl:s.length<1000000):Ev tt 26 [.bp 0 0] [rdA false s] (txsQ s):=by
 refine eInH 1 Tryz.func26 rfl rfl rfl ?_;have h:=e5z s hl;obtain⟨k,r,H,h1,h2⟩:=h;unfold txsQ at h2;cases ht:a1m s with
 |none=>
  rw [ht]at h2;obtain⟨rfl,rfl⟩:=h2;refine qK rfl ⟨k,h1⟩ rfl ?_;refine qR rfl ?_;unfold txsQ;rw [ht];exact⟨rfl,rfl⟩
 |some p=>
  obtain⟨l,t⟩:=p;rw [ht]at h2;obtain⟨rfl,rfl⟩:=h2;refine qK rfl ⟨k,h1⟩ rfl ?_;refine qR rfl ?_;unfold txsQ;rw [ht];exact⟨rfl,rfl⟩
theorem e7v(s:Bs):EvH tt 25 [S s] [] (.bp 0 0) [bk (.box 103 [S s,B false])]:=by
 refine evF (eIn Tryz.func25 rfl rfl ?_);exact qR rfl ⟨rfl,rfl⟩
theorem e9m(s:Bs):EvH tt 27 [.bp 0 0] [rdA false s] (B (s== [])) [rdA false s]:=by
 refine evF (eInH 1 Tryz.func27 rfl rfl rfl ?_);refine qT rfl rfl ?_;exact qR rfl ⟨rfl,rfl⟩
theorem done_d:EvH tt 27 [.bp 0 0] [rd0] (B false) [rd0]:=by
 refine evF (eInH 1 Tryz.func27 rfl rfl rfl ?_);refine qN rfl rfl ?_;exact qR rfl ⟨rfl,rfl⟩
theorem a3l{n:Nat}(h:n<=1000000):(Lib.itoa (n:Int)).length<=20:=by
 rw [b0x];have:=dec_len 7 n (by omega);omega
theorem e4w{s:Bs}(hl:s.length<=1000000):EvF tt 70 [S s] (S (a2e s)):=by
 refine evF (eIn Tryz.func70 rfl rfl ?_);have hi:=a3l hl;refine qK rfl (c4l (by omega) (by omega)) rfl ?_;refine qS rfl (by show _+1<=_;omega) ?_;refine qS rfl (by simp only [List.length_append];show _+1+_<=_;omega) ?_;refine qS rfl (by simp only [List.length_append];show _+1+_+1<=_;omega) ?_;exact qR rfl ⟨rfl,rfl⟩
def fracsR:List Bs->Option (List Frac)
 | []=>some []
 |x::l=>if(a2m x).2=0 then match fracsR l with
   |none=>none
   |some r=>some ((a2m x).1::r)
  else none
abbrev fs(l:List Frac):List VT:=l.map eF
set_option linter.unusedVariables false
set_option maxHeartbeats 4000000
set_option maxRecDepth 100000
def fewF(n:Int)(f:Frac):Bool:=decide ((f.P.Digits.length:Int)<=n)&&decide ((f.Q.Digits.length:Int)<=n)
theorem e6m(f:Frac)(n:Int):EvF tt 24 [.v (eF f),I n] (B (fewF n f)):=by
 refine evF (eIn Tryz.func24 rfl rfl ?_);refine qC rfl (fun h=> ?_) (fun h=> ?_);refine qR rfl ⟨congrArg B ?_,rfl⟩;rotate_left;refine qR rfl ⟨congrArg B ?_,rfl⟩;rotate_left;all_goals (simp_all [fewF]<;>omega)
def fewP(x:List Frac)(most d:Int):Bool:=decide ((x.length:Int)<=most)&&x.all (fewF d)
theorem b1z(x:List Frac)(most:Nat)(d:Int)(hm:most<1000000):EvF tt 7 [L (fs x),I most,I d] (B (fewP x most d)):=by
 refine evF (eIn Tryz.func7 rfl rfl ?_);refine qF x.length (fun z _=> [(7,I z)]) (fun _ _=> []) (fun j(_:Unit)=>j<=most+1/\(x.take j).all (fewF d)=true) () rfl rfl ⟨by omega,rfl⟩ ?_;rintro j ⟨⟩ hj ⟨hjm,hall⟩ ih
 by_cases hlt:j<x.length
 ·have hf:=List.getElem?_eq_getElem hlt;generalize x[j]=f at hf;refine qT rfl (decide_eq_true (by rw [List.length_map];omega)) ?_
  by_cases hm:j<=most
  ·refine qT rfl (decide_eq_true (by omega)) ?_;refine qXi rfl (by omega) hf ?_;refine qK rfl (e6m _ _) rfl ?_;cases he:fewF d f with
   |false=>
    refine qT rfl rfl ?_;refine qR rfl ⟨congrArg B ?_,rfl⟩;rotate_left;all_goals clear ih
    unfold fewP
    symm;rw [Bool.and_eq_false_iff]
    exact Or.inr (List.all_eq_false.2 ⟨f,List.mem_of_getElem? hf,by simp [he]⟩)
   |true=>
    refine qN rfl rfl ?_;refine qB (ih _ () (a0a (by omega)) hlt ⟨by omega,by rw [a1h hf,List.all_append,hall];simp [he]⟩) (by kernel_rfl)
  refine qN rfl (decide_eq_false (by omega)) ?_;refine qR rfl ⟨congrArg B ?_,rfl⟩;rotate_left;all_goals clear ih
  unfold fewP;simp;omega
 refine qN rfl (decide_eq_false (by rw [List.length_map];omega)) ?_;obtain rfl:j=x.length:=by omega
 rw [List.take_length]at hall;refine qR rfl ⟨congrArg B ?_,rfl⟩;rotate_left;all_goals clear ih
 unfold fewP;rw [hall];simp
structure Opt where
 Kind:Int
 Value:Frac
 X:List Frac
 Y:List Frac
 Ray:List Frac
def eOp(o:Opt):VT:= .agg [N o.Kind,N o.Value.P.Sign,.sl (ns o.Value.P.Digits),N o.Value.Q.Sign,.sl (ns o.Value.Q.Digits),.sl (fs o.X),.sl (fs o.Y),.sl (fs o.Ray)]
structure Rng where
 Least:Opt
 Most:Opt
def eRg(r:Rng):VT:= .agg (cellsV (eOp r.Least)++cellsV (eOp r.Most))
structure Pck where
 Move:Int
 Material:Int
def ePk(p:Pck):VT:= .agg [N p.Move,N p.Material]
structure Bch where
 Material:Int
 Moves:List Int
def eBt(b:Bch):VT:= .agg [N b.Material,.sl (ns b.Moves)]
def fewO(o:Opt)(n d:Int):Bool:=fewF d o.Value&&fewP o.X n d&&fewP o.Y n d&&fewP o.Ray n d
theorem e0s(o:Opt)(n:Nat)(d:Int)(hn:n<1000000):EvF tt 23 [.v (eOp o),I n,I d] (B (fewO o n d)):=by
 refine evF (eIn Tryz.func23 rfl rfl ?_);unfold fewO;cases h1:fewF d o.Value with
 |false=>
  refine qK rfl ((h1▸e6m o.Value d)) rfl ?_;refine qN rfl rfl ?_;exact qR rfl ⟨rfl,rfl⟩
 |true=>
  refine qK rfl (h1▸e6m o.Value d) rfl ?_;refine qT rfl rfl ?_;cases h2:fewP o.X n d with
  |false=>
   refine qK rfl ((h2▸b1z o.X n d hn)) rfl ?_;refine qN rfl rfl ?_;exact qR rfl ⟨rfl,rfl⟩
  |true=>
   refine qK rfl (h2▸b1z o.X n d hn) rfl ?_;refine qT rfl rfl ?_;cases h3:fewP o.Y n d with
   |false=>
    refine qK rfl ((h3▸b1z o.Y n d hn)) rfl ?_;refine qN rfl rfl ?_;exact qR rfl ⟨rfl,rfl⟩
   |true=>
    refine qK rfl (h3▸b1z o.Y n d hn) rfl ?_;refine qT rfl rfl ?_;refine qK rfl (b1z o.Ray n d hn) rfl ?_;exact qR rfl ⟨rfl,rfl⟩
def sml(e:Evi)(m n:Int):Bool:=decide (e.Materials<=n)&&decide (e.Households<=6)&&decide (e.Scales<=6)&&decide (e.Places.length<=12)&&decide ((e.Moves.length:Int)<=m)&&decide (e.Certs.length<=10)&&decide (e.Recalls.length<=4)&&decide (e.Purities.length<=6)
theorem d0a(e:Evi)(m n:Int):EvF tt 22 [.v (eEv e),I m,I n] (B (sml e m n)):=by
 refine evF (eIn Tryz.func22 rfl rfl ?_);refine qC rfl (fun h=> ?_) (fun h=> ?_);refine qR rfl ⟨congrArg B ?_,rfl⟩;rotate_left;refine qC rfl (fun h=> ?_) (fun h=> ?_);refine qR rfl ⟨congrArg B ?_,rfl⟩;rotate_left;refine qC rfl (fun h=> ?_) (fun h=> ?_);refine qR rfl ⟨congrArg B ?_,rfl⟩;rotate_left;refine qC rfl (fun h=> ?_) (fun h=> ?_);refine qR rfl ⟨congrArg B ?_,rfl⟩;rotate_left;refine qC rfl (fun h=> ?_) (fun h=> ?_);refine qC rfl (fun h=> ?_) (fun h=> ?_);refine qC rfl (fun h=> ?_) (fun h=> ?_);refine qR rfl ⟨congrArg B ?_,rfl⟩;rotate_left;refine qR rfl ⟨congrArg B ?_,rfl⟩;rotate_left;refine qR rfl ⟨congrArg B ?_,rfl⟩;rotate_left;refine qR rfl ⟨congrArg B ?_,rfl⟩;rotate_left;all_goals (unfold sml;rw [Bool.eq_iff_iff];simp only [Bool.and_eq_true,decide_eq_true_eq,List.length_map,Bool.false_eq_true]at*;first|omega|grind)
def e5p(e:Evi):Bool:=decide (e.Places.length<=110)&&decide (e.Moves.length<=210)&&decide (e.Certs.length<=110)&&decide (e.Recalls.length<=40)&&decide (e.Purities.length<=210)
theorem e4f(e:Evi):EvF tt 21 [.v (eEv e)] (B (e5p e)):=by
 refine evF (eIn Tryz.func21 rfl rfl ?_);refine qC rfl (fun h=> ?_) (fun h=> ?_);refine qC rfl (fun h=> ?_) (fun h=> ?_);refine qC rfl (fun h=> ?_) (fun h=> ?_);refine qC rfl (fun h=> ?_) (fun h=> ?_);refine qR rfl ⟨congrArg B ?_,rfl⟩;rotate_left;refine qR rfl ⟨congrArg B ?_,rfl⟩;rotate_left;refine qR rfl ⟨congrArg B ?_,rfl⟩;rotate_left;refine qR rfl ⟨congrArg B ?_,rfl⟩;rotate_left;refine qR rfl ⟨congrArg B ?_,rfl⟩;rotate_left;all_goals (unfold e5p;rw [Bool.eq_iff_iff];simp only [Bool.and_eq_true,decide_eq_true_eq,List.length_map,Bool.false_eq_true]at*;first|omega|grind)
def b6n(e:Evi)(ps:List Pck)(r:Rng)(m n:Int):Bool:=sml e m n&&decide (e.Purities.length<=3)&&decide (ps.length<=20)&&fewO r.Least 60 40&&fewO r.Most 60 40
theorem c9l(e:Evi)(ps:List Pck)(r:Rng)(m n:Int):EvF tt 6 [.v (eEv e),L (ps.map ePk),.v (eRg r),I m,I n] (B (b6n e ps r m n)):=by
 have hs:=d0a e m n;have h1:EvF tt 23 [.v (eOp r.Least),I 60,I 40] (B (fewO r.Least 60 40)):=e0s r.Least 60 40 (by decide);have h2:EvF tt 23 [.v (eOp r.Most),I 60,I 40] (B (fewO r.Most 60 40)):=e0s r.Most 60 40 (by decide);refine evF (eIn Tryz.func6 rfl rfl ?_);refine qK rfl hs rfl ?_;unfold b6n;cases h3:sml e m n with
 |false=>
  refine qN rfl rfl ?_;exact qR rfl ⟨rfl,rfl⟩
 |true=>
  refine qT rfl rfl ?_
  by_cases h4:e.Purities.length<=3
  ·by_cases h5:ps.length<=20
   ·refine qT rfl (decide_eq_true (by first|omega|(simp;done)|(simp;omega))) ?_;refine qT rfl (decide_eq_true (by first|omega|(simp;done)|(simp;omega))) ?_;refine qK rfl h1 rfl ?_;rw [decide_eq_true h4,decide_eq_true h5];cases h6:fewO r.Least 60 40 with
    |false=>
     refine qN rfl rfl ?_;exact qR rfl ⟨rfl,rfl⟩
    |true=>
     refine qT rfl rfl ?_;refine qK rfl (h2) rfl ?_;exact qR rfl ⟨rfl,rfl⟩
   refine qT rfl (decide_eq_true (by first|omega|(simp;done)|(simp;omega))) ?_;refine qN rfl (decide_eq_false (by first|omega|(simp;done)|(simp;omega))) ?_;refine qR rfl ⟨congrArg B ?_,rfl⟩;rotate_left;all_goals (rw [decide_eq_false h5];simp)
  refine qN rfl (decide_eq_false (by first|omega|(simp;done)|(simp;omega))) ?_;refine qR rfl ⟨congrArg B ?_,rfl⟩;rotate_left;all_goals (rw [decide_eq_false h4];simp)
end Dp
namespace Dp
open Go Go.ChangeShapes Go.WideShapes Go.ChangeAt Go.RowKit Go.Proofs.YtjegnogjkddnbaaGreatDoor.Rt Go.Proofs Go.Proofs.YtjegnogjkddnbaaGreatDoor.Wrap
set_option linter.unusedVariables false
abbrev shI:Sh:= .int .i64
abbrev shBig:Sh:= .st [shI,.sl shI]
abbrev shFrac:Sh:= .st [shBig,shBig]
abbrev shPl:Sh:= .st [shI,shI,shI]
abbrev shMo:Sh:= .st [shI,shI,shI,shI,shI,.bool]
abbrev shCr:Sh:= .st [shI,shI,shI,shI,shI,shI]
abbrev shRc:Sh:= .st [shI,shI]
abbrev shPu:Sh:= .st [shI,shI,shI,shI]
abbrev shEv:Sh:= .st [shI,shI,shI,.sl shPl,.sl shMo,.sl shCr,.sl shRc,.sl shPu]
abbrev shBt:Sh:= .st [shI,.sl shI]
theorem b6u{α:Type}{s:Sh}{g:α->VT}(h:∀{y},Fit s y->∃a,y=g a):∀{xs:List VT},(∀y∈xs,Fit s y)->∃l:List α,xs=l.map g
 | [],_=>⟨[],rfl⟩
 |y::xs,hx=>by
  obtain⟨a,rfl⟩:=h (hx y (List.mem_cons_self ..));obtain⟨l,rfl⟩:=b6u h fun z hz=>hx z (List.mem_cons_of_mem _ hz);exact⟨a::l,rfl⟩
theorem e9z{y:VT}(h:Fit shI y):∃z,y=N z:=by
 obtain⟨z,rfl,_⟩:=h;exact⟨z,rfl⟩
theorem e1d{y:VT}(h:Fit (.sl shI) y):∃l:List Int,y= .sl (ns l):=by
 obtain⟨xs,rfl,_,h⟩:=h;obtain⟨l,rfl⟩:=b6u e9z h;exact⟨l,rfl⟩
theorem d1x{y:VT}(h:Fit shBig y):∃b:Big,y=eB b:=by
 obtain⟨_,rfl,x1,r1,rfl,⟨z1,rfl,_⟩,x2,r2,rfl,h2,rfl⟩:=h;obtain⟨l,rfl⟩:=e1d h2;exact⟨⟨z1,l⟩,rfl⟩
theorem a7a{y:VT}(h:Fit shFrac y):∃f:Frac,y=eF f:=by
 obtain⟨_,rfl,x1,r1,rfl,h1,x2,r2,rfl,h2,rfl⟩:=h;obtain⟨a,rfl⟩:=d1x h1;obtain⟨b,rfl⟩:=d1x h2;exact⟨⟨a,b⟩,rfl⟩
theorem e9a{y:VT}(h:Fit shPl y):∃p:Plc,y=ePl p:=by
 obtain⟨_,rfl,x1,r1,rfl,⟨z1,rfl,_⟩,x2,r2,rfl,⟨z2,rfl,_⟩,x3,r3,rfl,⟨z3,rfl,_⟩,rfl⟩:=h;exact⟨⟨z1,z2,z3⟩,rfl⟩
theorem e7d{y:VT}(h:Fit shMo y):∃p:Mve,y=eMo p:=by
 obtain⟨_,rfl,x1,r1,rfl,⟨z1,rfl,_⟩,x2,r2,rfl,⟨z2,rfl,_⟩,x3,r3,rfl,⟨z3,rfl,_⟩,x4,r4,rfl,⟨z4,rfl,_⟩,x5,r5,rfl,⟨z5,rfl,_⟩,x6,r6,rfl,⟨z6,rfl⟩,rfl⟩:=h;exact⟨⟨z1,z2,z3,z4,z5,z6⟩,rfl⟩
theorem f0u{y:VT}(h:Fit shCr y):∃p:Crt,y=eCr p:=by
 obtain⟨_,rfl,x1,r1,rfl,⟨z1,rfl,_⟩,x2,r2,rfl,⟨z2,rfl,_⟩,x3,r3,rfl,⟨z3,rfl,_⟩,x4,r4,rfl,⟨z4,rfl,_⟩,x5,r5,rfl,⟨z5,rfl,_⟩,x6,r6,rfl,⟨z6,rfl,_⟩,rfl⟩:=h;exact⟨⟨z1,z2,z3,z4,z5,z6⟩,rfl⟩
theorem e8k{y:VT}(h:Fit shRc y):∃p:Rcl,y=eRc p:=by
 obtain⟨_,rfl,x1,r1,rfl,⟨z1,rfl,_⟩,x2,r2,rfl,⟨z2,rfl,_⟩,rfl⟩:=h;exact⟨⟨z1,z2⟩,rfl⟩
theorem f0p{y:VT}(h:Fit shPu y):∃p:Pur,y=ePu p:=by
 obtain⟨_,rfl,x1,r1,rfl,⟨z1,rfl,_⟩,x2,r2,rfl,⟨z2,rfl,_⟩,x3,r3,rfl,⟨z3,rfl,_⟩,x4,r4,rfl,⟨z4,rfl,_⟩,rfl⟩:=h;exact⟨⟨z1,z2,z3,z4⟩,rfl⟩
theorem a6k{α:Type}{s:Sh}{g:α->VT}(h:∀{y},Fit s y->∃a,y=g a){y:VT}(hy:Fit (.sl s) y):∃l:List α,y= .sl (l.map g):=by
 obtain⟨xs,rfl,_,hx⟩:=hy;obtain⟨l,rfl⟩:=b6u h hx;exact⟨l,rfl⟩
theorem e7i{y:VT}(h:Fit shEv y):∃e:Evi,y=eEv e:=by
 obtain⟨_,rfl,x1,r1,rfl,⟨z1,rfl,_⟩,x2,r2,rfl,⟨z2,rfl,_⟩,x3,r3,rfl,⟨z3,rfl,_⟩,x4,r4,rfl,h4,x5,r5,rfl,h5,x6,r6,rfl,h6,x7,r7,rfl,h7,x8,r8,rfl,h8,rfl⟩:=h;obtain⟨l4,rfl⟩:=a6k e9a h4;obtain⟨l5,rfl⟩:=a6k e7d h5;obtain⟨l6,rfl⟩:=a6k f0u h6;obtain⟨l7,rfl⟩:=a6k e8k h7;obtain⟨l8,rfl⟩:=a6k f0p h8;exact⟨⟨z1,z2,z3,l4,l5,l6,l7,l8⟩,rfl⟩
theorem e8a{y:VT}(h:Fit shBt y):∃b:Bch,y=eBt b:=by
 obtain⟨_,rfl,x1,r1,rfl,⟨z1,rfl,_⟩,x2,r2,rfl,h2,rfl⟩:=h;obtain⟨l,rfl⟩:=e1d h2;exact⟨⟨z1,l⟩,rfl⟩
theorem sh_fs:shOk Tryz.prog (.sl shFrac) 35=true:=by kernel_rfl
theorem sh_ev:shOk Tryz.prog shEv 28=true:=by kernel_rfl
theorem sh_bt:shOk Tryz.prog shBt 41=true:=by kernel_rfl
theorem sh_str:shOk Tryz.prog .str 9=true:=by kernel_rfl
theorem sh_int:shOk Tryz.prog shI 3=true:=by kernel_rfl
end Dp
namespace Dp
open Go Go.RowKit Go.Proofs.YtjegnogjkddnbaaGreatDoor.Rt Go.Proofs
set_option linter.unusedVariables false
set_option maxRecDepth 100000
abbrev shPk:Sh:= .st [shI,shI]
abbrev shOp:Sh:= .st [shI,shFrac,.sl shFrac,.sl shFrac,.sl shFrac]
abbrev shRg:Sh:= .st [shOp,shOp]
theorem e7r{y:VT}(h:Fit shPk y):∃p:Pck,y=ePk p:=by
 obtain⟨_,rfl,x1,r1,rfl,⟨z1,rfl,_⟩,x2,r2,rfl,⟨z2,rfl,_⟩,rfl⟩:=h;exact⟨⟨z1,z2⟩,rfl⟩
theorem e1g{y:VT}(h:Fit shOp y):∃o:Opt,y=eOp o:=by
 obtain⟨_,rfl,x1,r1,rfl,⟨z1,rfl,_⟩,x2,r2,rfl,h2,x3,r3,rfl,h3,x4,r4,rfl,h4,x5,r5,rfl,h5,rfl⟩:=h;obtain⟨f,rfl⟩:=a7a h2;obtain⟨l3,rfl⟩:=a6k a7a h3;obtain⟨l4,rfl⟩:=a6k a7a h4;obtain⟨l5,rfl⟩:=a6k a7a h5;exact⟨⟨z1,f,l3,l4,l5⟩,rfl⟩
theorem f0g{y:VT}(h:Fit shRg y):∃r:Rng,y=eRg r:=by
 obtain⟨_,rfl,x1,r1,rfl,h1,x2,r2,rfl,h2,rfl⟩:=h;obtain⟨a,rfl⟩:=e1g h1;obtain⟨b,rfl⟩:=e1g h2;exact⟨⟨a,b⟩,by unfold eRg;rw [List.append_nil]⟩
theorem sh_pks:shOk Tryz.prog (.sl shPk) 29=true:=by kernel_rfl
theorem sh_rg:shOk Tryz.prog shRg 39=true:=by kernel_rfl
end Dp
namespace Dp
open Go Go.RowKit Go.Proofs.YtjegnogjkddnbaaGreatDoor.Rt Go.Proofs Go.Proofs.YtjegnogjkddnbaaGreatDoor.D
set_option linter.unusedVariables false
theorem dval_ge:∀(l:Bs)(v:Nat),v<=dval v l
 | [],v=>Nat.le_refl _
 |b::l,v=>by
  have:=dval_ge l (10*v+(b.toNat-48));show v<=dval _ l;omega
theorem pu_dval:∀(l:Bs)(v:Nat),l.all isd=true->dval v l<18446744073709551616->Lib.parseUint10 v l= .ok (dval v l)
 | [],v,_,_=>rfl
 |b::l,v,h,hd=>by
  simp only [List.all_cons,Bool.and_eq_true]at h;have hb:=a2g h.1;have hd':dval (10*v+(b.toNat-48)) l<18446744073709551616:=hd;have hg:=dval_ge l (10*v+(b.toNat-48));have e:v*10+(b.toNat-48)=10*v+(b.toNat-48):=by omega
  unfold Lib.parseUint10;rw [if_pos hb,if_neg (by omega),if_neg (by omega),e];exact pu_dval l _ h.2 hd'
theorem d2t{n:Int}(h0:-9223372036854775808<=n)(h1:n<=9223372036854775807):Lib.atoiAll (Lib.itoa n)= .ok n:=by
 have hm:∀u:Nat,u<=9223372036854775808->Lib.parseMag (Lib.decDigits u)= .ok u:=by
  intro u hu;unfold Lib.parseMag;rw [if_neg (d9p u),pu_dval _ _ (b2o u) (by rw [a6r];omega),a6r]
 unfold Lib.itoa
 by_cases hn:n<0
 ·rw [if_pos hn,Lib.atoiAll_minus,hm _ (by omega)];simp only [Lib.signed];rw [if_neg (by omega)]
  congr 1;omega
 rw [if_neg hn];obtain⟨u,rfl⟩:=Int.eq_ofNat_of_zero_le (show 0<=n by omega);rw [Int.toNat_natCast];have hne:=d9p u;have hu:=hm u (by omega);have hi:=b2o u;cases hd:Lib.decDigits u with
 |nil=>exact absurd hd hne
 |cons b l=>
  rw [hd]at hu hi;simp only [List.all_cons,Bool.and_eq_true]at hi;have hb:=a2g hi.1;rw [Lib.atoiAll_plain b l (by omega) (by omega),hu];simp only [Lib.signless];rw [if_neg (by omega)]
theorem dec_len10:∀(c v:Nat),0<c->v<10^c->(Lib.decDigits v).length<=c
 |0,_,h,_=>by omega
 |c+1,v,_,h=>by
  by_cases hv:v<10
  ·rw [a0v hv];simp
  rw [a1c (v:=v) (by omega),List.length_append];have hc:0<c:=by
   rcases Nat.eq_zero_or_pos c with rfl|h2
   ·omega
   exact h2
  have:=dec_len10 c (v/10) hc (by rw [Nat.pow_succ]at h;omega);simp;omega
theorem b0r{n:Int}(h0:-9223372036854775808<=n)(h1:n<=9223372036854775807):(Lib.itoa n).length<=20:=by
 unfold Lib.itoa;have e:(10:Nat)^19=10000000000000000000:=by decide
 split
 ·have:=dec_len10 19 n.natAbs (by decide) (by rw [e];omega);simp;omega
 have:=dec_len10 19 n.toNat (by decide) (by rw [e];omega);omega
theorem e0r(c:UInt8):∀(l r:Bs),(∀b∈l,b≠c)->Lib.indexByte (l++c::r) c=l.length
 | [],r,_=>by simp [Lib.indexByte]
 |b::l,r,h=>by
  have h1:=e0r c l r fun x hx=>h x (List.mem_cons_of_mem _ hx);have h2:(b==c)=false:=beq_eq_false_iff_ne.2 (h b (by simp));rw [List.cons_append];unfold Lib.indexByte;rw [h2,h1];have h3:((l.length:Int)==-1)=false:=beq_eq_false_iff_ne.2 (by omega);simp [h3]
theorem d2j(c:UInt8):∀(l:Bs),0<=Lib.indexByte l c->l=l.take (Lib.indexByte l c).toNat++c::l.drop ((Lib.indexByte l c).toNat+1)
 | [],h=>by have:(0:Int)<=-1:=h;omega
 |b::l,h=>by
  unfold Lib.indexByte at h⊢
  by_cases hb:(b==c)=true
  ·rw [if_pos hb];have:=beq_iff_eq.1 hb;subst this;rfl
  rw [if_neg hb]at h⊢
  by_cases h1:(Lib.indexByte l c==-1)=true
  ·rw [if_pos h1]at h;omega
  rw [if_neg h1]at h⊢;have h2:Lib.indexByte l c≠-1:=fun e=>h1 (beq_iff_eq.2 e);have h3:0<=Lib.indexByte l c:=by omega
  have h4:(Lib.indexByte l c+1).toNat=(Lib.indexByte l c).toNat+1:=by omega
  rw [h4];simp only [List.take_succ_cons,List.drop_succ_cons,List.cons_append];rw [<-d2j c l h3]
theorem d5d{e:UInt8}{least n:Int}{s t:Bs}(h:numR e least s=some (n,t)):s=Lib.itoa n++e::t/\least<=n/\-9223372036854775808<=n/\n<=9223372036854775807:=by
 unfold numR at h;split at h
 ·cases h
 rename_i hi;split at h
 ·rename_i m hm;have hr:=a8m hm;split at h
  ·rename_i hc;cases h;refine⟨?_,hc.2,hr⟩;have hi:0<=Lib.indexByte (s.take 21) e:=by omega
   have h1:=d2j e _ hi;have hlt:=c3v e (s.take 21);rw [hc.1];unfold numD;have h3:s=s.take 21++s.drop 21:=(List.take_append_drop 21 s).symm;generalize Lib.indexByte (s.take 21) e=z at hi h1 hlt;have h4:s.drop (z.toNat+1)=(s.take 21).drop (z.toNat+1)++s.drop 21:=by
    conv=>lhs;rw [h3]
    rw [List.drop_append_of_le_length (by omega)]
   rw [h4,<-List.cons_append,<-List.append_assoc,<-h1];exact h3
  cases h
 cases h
theorem pre1{c:UInt8}{s:Bs}:Lib.hasPrefix (c::s) [c]=true/\Lib.trimPrefix (c::s) [c]=s:=by
 have:Lib.hasPrefix (c::s) [c]=true:=by simp [Lib.hasPrefix]
 refine⟨this,?_⟩;unfold Lib.trimPrefix;rw [if_pos this];rfl
theorem c0d{c:UInt8}{s:Bs}(h:Lib.hasPrefix s [c]=true):s=c::Lib.trimPrefix s [c]:=by
 unfold Lib.trimPrefix;rw [if_pos h];cases s with
 |nil=>simp [Lib.hasPrefix]at h
 |cons b l=>simp [Lib.hasPrefix]at h;subst h;rfl
theorem d7o{s x t:Bs}(h:a5n s=some (x,t)):s=a2e x++t:=by
 unfold a5n at h;split at h
 ·cases h
 rename_i n u hn;obtain⟨h1,h2,_,_⟩:=d5d hn;split at h
 ·cases h
 rename_i hle;split at h
 ·rename_i hp;cases h;have h3:=c0d hp;have hx:(u.take n.toNat).length=n.toNat:=by rw [List.length_take];omega
  unfold a2e;rw [hx,show((n.toNat:Nat):Int)=n by omega,h1];have h4:u=u.take n.toNat++u.drop n.toNat:=(List.take_append_drop _ u).symm
  conv=>lhs;rw [h4,h3]
  simp
 cases h
theorem manyR_of:∀{k:Nat}{s t:Bs}{l:List Bs},manyR k s=some (l,t)->s=l.flatMap a2e++t/\l.length=k
 |0,s,t,l,h=>by cases h;exact⟨rfl,rfl⟩
 |k+1,s,t,l,h=>by
  unfold manyR at h;split at h
  ·cases h
  rename_i x u hx;split at h
  ·cases h
  rename_i l' v hm;cases h;obtain⟨h1,h2⟩:=manyR_of hm;refine⟨?_,by simp [h2]⟩;rw [d7o hx,h1,List.flatMap_cons,List.append_assoc]
def a9e(l:List Bs):Bs:=Lib.itoa l.length++ [91]++l.flatMap a2e++ [93]
theorem b1q{s t:Bs}{l:List Bs}(h:a1m s=some (l,t)):s=a9e l++t:=by
 unfold a1m at h;split at h
 ·cases h
 rename_i n u hn;obtain⟨h1,h2,_,_⟩:=d5d hn;split at h
 ·cases h
 rename_i l' v hm;obtain⟨h3,h4⟩:=manyR_of hm;split at h
 ·rename_i hp;cases h;have h5:=c0d hp;rw [h1,h3];unfold a9e;rw [h4,show((n.toNat:Nat):Int)=n by omega]
  conv=>lhs;rw [h5]
  simp
 cases h
end Dp
namespace Dp
open Go Go.RowKit Go.Proofs.YtjegnogjkddnbaaGreatDoor.Rt Go.Proofs Go.Proofs.YtjegnogjkddnbaaGreatDoor.D
set_option linter.unusedVariables false
def bkW:Nat->Int->Bs->Option Int |_,n,[]=>some n |i,n,b::l=>if isd b=false∨20<i then none else bkW (i+1) (isub .i64 (imul .i64 10 n) ((b.toNat:Int)-48)) l
def b0m(s:Bs):Option Int:=if s.head?=some 45 then bkW 1 0 (s.drop 1)else(bkW 0 0 s).map fun n=>IntKind.i64.wrap (0-n)
def bkR(s:Bs):Int×Bool:=match b0m s with
 |some v=>(v,decide (Lib.itoa v=s))
 |none=>(0,false)
def i64R(x:Int):Prop:=-9223372036854775808<=x/\x<=9223372036854775807
theorem b2z(x:Int):i64R (IntKind.i64.wrap x):=by
 have h:=wrap_within .i64 x;exact h
theorem bkW_R:∀(l:Bs)(i:Nat)(n v:Int),i64R n->bkW i n l=some v->i64R v
 | [],_,n,v,h,e=>by cases e;exact h
 |b::l,i,n,v,h,e=>by
  unfold bkW at e;split at e
  ·cases e
  exact bkW_R l _ _ v (b2z _) e
theorem c1a{s:Bs}{v:Int}(h:b0m s=some v):i64R v:=by
 unfold b0m at h;split at h
 ·exact bkW_R _ _ _ _ ⟨by decide,by decide⟩ h
 cases hb:bkW 0 0 s with
 |none=>rw [hb]at h;cases h
 |some n=>rw [hb]at h;cases h;exact b2z _
theorem bkW_dec:∀(l:Bs)(i:Nat)(v:Nat),l.all isd=true->dval v l<=9223372036854775808->i+l.length<=21->bkW i (-(v:Int)) l=some (-((dval v l:Nat):Int))
 | [],_,_,_,_,_=>rfl
 |b::l,i,v,ha,hv,hi=>by
  rw [List.all_cons,Bool.and_eq_true]at ha;rw [List.length_cons]at hi;have hd:dval v (b::l)=dval (10*v+(b.toNat-48)) l:=rfl;have hge:=dval_ge l (10*v+(b.toNat-48));rw [hd]at hv⊢;have hb:=a2g ha.1;unfold bkW;rw [if_neg (by rw [ha.1];simp;omega)];have h1:imul .i64 10 (-(v:Int))=10*-(v:Int):=a0s (by omega) (by omega);have h2:isub .i64 (10*-(v:Int)) ((b.toNat:Int)-48)=-((10*v+(b.toNat-48):Nat):Int):=by rw [a0c (by omega) (by omega)];omega
  rw [h1,h2];exact bkW_dec l (i+1) _ ha.2 hv (by omega)
theorem d2g{n:Int}(h0:-9223372036854775808<=n)(h1:n<=9223372036854775807):bkR (Lib.itoa n)=(n,true):=by
 have hl:=b0r h0 h1;have hv:b0m (Lib.itoa n)=some n:=by
  unfold Lib.itoa at hl⊢;unfold b0m
  by_cases hn:n<0
  ·rw [if_pos hn]at hl⊢;rw [List.length_cons]at hl;rw [if_pos (show(45::Lib.decDigits n.natAbs).head?=some 45 from rfl),List.drop_one,List.tail_cons];have:=bkW_dec (Lib.decDigits n.natAbs) 1 0 (b2o _) (by rw [a6r];omega) (by omega);rw [a6r]at this;rw [show(0:Int)=-((0:Nat):Int)from rfl,this]
   congr 1;omega
  rw [if_neg hn]at hl⊢;have hh:(Lib.decDigits n.toNat).head?≠some 45:=fun e=>by
   cases hd:Lib.decDigits n.toNat with
   |nil=>rw [hd]at e;cases e
   |cons b l=>
    rw [hd]at e;have hi:=b2o n.toNat;rw [hd,List.all_cons,Bool.and_eq_true]at hi;simp only [List.head?_cons,Option.some.injEq]at e;rw [e]at hi;exact absurd hi.1 (by decide)
  rw [if_neg hh];have:=bkW_dec (Lib.decDigits n.toNat) 0 0 (b2o _) (by rw [a6r];omega) (by omega);rw [a6r]at this;rw [show(0:Int)=-((0:Nat):Int)from rfl,this];simp only [Option.map_some];rw [a0t (by omega) (by omega)]
  congr 1;omega
 unfold bkR;rw [hv];simp
theorem c3p(c:UInt8):∀l:Bs,(∀b∈l,b≠c)->Lib.indexByte l c=-1
 | [],_=>rfl
 |b::l,h=>by
  have h1:=c3p c l fun x hx=>h x (List.mem_cons_of_mem _ hx);have h2:(b==c)=false:=beq_eq_false_iff_ne.2 (h b (by simp));unfold Lib.indexByte;rw [h2,h1];rfl
theorem e1h{e:UInt8}{least:Int}{s:Bs}{n:Nat}(hn:n<21)(hs:s[n]?=some e)(hno:∀b∈s.take n,b≠e):numR e least s=if(bkR (s.take n)).2=true/\least<=(bkR (s.take n)).1 then some ((bkR (s.take n)).1,s.drop (n+1))else none:=by
 have hlt:=(List.getElem?_eq_some_iff.1 hs).1;have he:s.take 21=s.take n++e::(s.take 21).drop (n+1):=by
  have h1:(s.take 21)[n]?=some e:=by rw [List.getElem?_take,if_pos hn];exact hs
  have h2:=a1p h1;rw [<-h2];have h3:s.take n=(s.take 21).take n:=by rw [List.take_take,Nat.min_eq_left (by omega)]
  rw [h3,List.take_append_drop]
 have hi:Lib.indexByte (s.take 21) e=n:=by
  rw [he,e0r e _ _ hno,List.length_take,Nat.min_eq_left (by omega)]
 have hd:numD e s=s.take n:=by
  unfold numD;rw [hi,Int.toNat_natCast,List.take_take,Nat.min_eq_left (by omega)]
 unfold numR;rw [hi,if_neg (by omega),hd];cases hb:bkR (s.take n)with
 |mk v ok=>
  cases ok with
  |true=>
   unfold bkR at hb;split at hb
   ·rename_i v' hv;simp only [Prod.mk.injEq,decide_eq_true_eq]at hb;obtain⟨rfl,hit⟩:=hb;obtain⟨r1,r2⟩:=c1a hv;have ha:Lib.atoiAll (s.take n)= .ok v':=by rw [<-hit];exact d2t r1 r2
    rw [ha];simp [hit]
   cases hb
  |false=>
   rw [if_neg (by simp)];split
   ·rename_i m ha;rw [if_neg];rintro⟨h1,-⟩;obtain⟨r1,r2⟩:=a8m ha;have:=d2g r1 r2;rw [h1,hb]at this;cases this
   rfl
theorem c9y{e:UInt8}{least:Int}{s:Bs}(hno:∀b∈s.take 21,b≠e):numR e least s=none:=by
 unfold numR;rw [c3p e _ hno,if_pos (by decide)]
theorem c9b{s:Bs}(h:20<s.length):(bkR s).2=false:=by
 unfold bkR;split
 ·rename_i v hv;obtain⟨r1,r2⟩:=c1a hv;have:=b0r r1 r2;refine decide_eq_false fun e=> ?_;rw [e]at this;omega
 rfl
set_option linter.unusedVariables false
set_option maxHeartbeats 4000000
set_option maxRecDepth 100000
theorem c7d(a b:Bs):a1q (a++b)=a1q a++a1q b:=by simp [a1q]
theorem bytesV_v:∀l:Bs,bytesV (a1q l)=some l
 | []=>rfl
 |c::l=>by
  have e:(UInt8.ofNat ((c.toNat:Int)).toNat)=c:=by simp
  have h:bytesV (a1q (c::l))=match decide ((c.toNat:Int)=(UInt8.ofNat (c.toNat:Int).toNat).toNat)with
   |true=>match bytesV (a1q l)with
    |some r=>some (UInt8.ofNat (c.toNat:Int).toNat::r)
    |none=>none
   |false=>none:=rfl
  rw [h,e,bytesV_v l,decide_eq_true rfl]
theorem d9a{l:Bs}(h:l≠ []):c4d (a1q l)=some l:=by
 unfold c4d;rw [bytesV_v];cases l with
 |nil=>exact absurd rfl h
 |cons c l=>rfl
abbrev bldB(d a:Bool)(c:DV)(l:Bs):DH:= [⟨0,0,false,d,false,.box 176 [c,.row 1 0]⟩,⟨0,0,false,a,a,.row 5 1 (a1q l)⟩]
theorem f0e{s:Bs}(hl:s.length<=1000000000):EvH tt 133 [.bp 0 0,S s] (bldB false false (.v (.val (.pointer none))) []) (.tup [I s.length,.v (.val .nilIface)]) (bldB true true (.bp 0 0) s):=by
 refine evF (eInH 2 Tryz.func133 rfl rfl rfl ?_);refine qA 1 rfl rfl ?_ ?_;rotate_left;exact qR rfl ⟨rfl,rfl⟩;all_goals (simp [a1q];omega)
theorem e8p{s l:Bs}(hl:s.length+l.length<=1000000000):EvH tt 133 [.bp 0 0,S s] (bldB false false (.bp 0 0) l) (.tup [I s.length,.v (.val .nilIface)]) (bldB true true (.bp 0 0) (l++s)):=by
 refine evF (eInH 2 Tryz.func133 rfl rfl rfl ?_);refine qA 1 rfl rfl ?_ ?_;rotate_left;refine qR rfl ?_;rotate_left
 ·simp [a1q];omega
 exact⟨rfl,by unfold bldB;rw [c7d];rfl⟩
theorem b2g{l:List Bs}(h:∀x∈l,x.length<=1000000):(l.flatMap a2e).length<=l.length*1000022:=by
 induction l with
 |nil=>simp
 |cons x l ih=>
  have h1:=ih fun y hy=>h y (List.mem_cons_of_mem _ hy);have h2:=h x (by simp);have h3:=a3l h2;rw [List.flatMap_cons,List.length_append,List.length_cons];have:(a2e x).length=(Lib.itoa (x.length:Int)).length+1+x.length+1:=by unfold a2e;simp;omega
  omega
theorem e8m{l:List Bs}(h:∀x∈l,x.length<=1000000)(hl:l.length<=100):EvF tt 69 [L (ss l),.v (.clo 70 [] [])] (S (a9e l)):=by
 refine evF (eIn Tryz.func69 rfl rfl ?_);have hsl:(ss l).length=l.length:=List.length_map ..;have hit:=a3l (n:=(ss l).length) (by omega);refine qK rfl (c4l (n:=((ss l).length:Int)) (by omega) (by omega)) rfl ?_;have hw0:=f0e (s:=Lib.itoa ((ss l).length:Int)++ [91]) (by rw [List.length_append];show _+1<=_;omega);refine qS rfl (by show _+1<=_;omega) ?_;refine qK rfl (hw0) rfl ?_;have hfl:=b2g h;have hflt:∀k,((l.take k).flatMap a2e).length<=(l.flatMap a2e).length:=fun k=>by
  conv=>rhs;rw [<-List.take_append_drop k l,List.flatMap_append,List.length_append]
  omega
 have hmul:l.length*1000022<=100*1000022:=Nat.mul_le_mul_right _ hl;refine qF l.length (fun z _=> [(15,I z)]) (fun _ q=> [(1,.row 5 1 (a1q q))]) (fun k q=>q=Lib.itoa ((ss l).length:Int)++ [91]++(l.take k).flatMap a2e) (Lib.itoa ((ss l).length:Int)++ [91]) rfl rfl (by simp) ?_;rintro k q hk hq ih;have hq:q=Lib.itoa ((ss l).length:Int)++ [91]++(l.take k).flatMap a2e:=hq;have hql:q.length<=200000000:=by
  have:=hflt k;rw [hq];simp only [List.length_append,List.length_singleton];omega
 refine qXl rfl rfl rfl hk (fun x hx hd hlt=> ?_) (fun hd hk=> ?_)
 ·have hxl:=h x (List.mem_of_getElem? hx);have hwx:=e4w hxl;have hxw:(a2e x).length<=1000022:=by
   have h3:=a3l hxl;have:(a2e x).length=(Lib.itoa (x.length:Int)).length+1+x.length+1:=by unfold a2e;simp;omega
   omega
  have hw1:=e8p (s:=a2e x) (l:=q) (by omega);refine qK rfl (hwx) rfl ?_;refine qK rfl (hw1) rfl ?_;refine qB (ih _ (q++a2e x) (a0a (by omega)) hlt ?_) (by kernel_rfl);rotate_left;rw [hq,a1h hx];simp
 have hne:q≠ []:=by rw [hq];simp
 refine qV rfl (d9a hne) ?_;refine qS rfl (by show _+1<=_;omega) ?_;refine qR rfl ⟨congrArg S ?_,rfl⟩;rw [hq,hk,List.take_length,hsl];rfl
theorem e1x{l:List Bs}(h:∀x∈l,x.length<=1000000)(hl:l.length<=100):EvF tt 36 [L (ss l)] (S (a9e l)):=by
 refine evF (eIn Tryz.func36 rfl rfl ?_);refine qK rfl (e8m h hl) rfl ?_;exact qR rfl ⟨rfl,rfl⟩
def b3x(l:List Frac):Bs:=if l.all a0f=true then a9e (l.map a3a)else []
theorem e2s{f:Frac}{k:Nat}(hp:f.P.Digits.length<=k)(hq:f.Q.Digits.length<=k)(hk:k<8388608):EvF tt 34 [.v (eF f)] (B (!a0f f)):=by
 refine evF (eIn Tryz.func34 rfl rfl ?_);refine qK rfl (a4c hp hq hk) rfl ?_;exact qR rfl ⟨rfl,rfl⟩
theorem b8e{f:Frac}{k:Nat}(hp:f.P.Digits.length<=k)(hq:f.Q.Digits.length<=k):(a3a f).length<=14*k+5:=by
 by_cases hr:a0f f=true
 ·obtain⟨r,rfl,h1,h2⟩:=c8k ⟨hp,hq⟩ hr;rw [a8j];have a1:=a6q h1;have a2:=a6q h2;simp;omega
 unfold a3a;rw [if_neg hr];simp
theorem d1f{l:List Frac}{k:Nat}(hp:∀f∈l,f.P.Digits.length<=k/\f.Q.Digits.length<=k)(hk:k<=1000)(hl:l.length<=100):EvF tt 11 [L (fs l)] (S (b3x l)):=by
 refine evF (eIn Tryz.func11 rfl rfl ?_);refine qF l.length (fun z _=> [(8,I z)]) (fun _ q=> [(0,.row 9 1 q)]) (fun k q=>q=ss ((l.take k).map a3a)/\(l.take k).all a0f=true) [] rfl rfl ⟨rfl,rfl⟩ ?_;rintro j q hj ⟨hq,ha⟩ ih;have hq:q=ss ((l.take j).map a3a):=hq;have ha:(l.take j).all a0f=true:=ha;have hlen:q.length<=100:=by rw [hq];simp;omega
 refine qXl rfl rfl rfl hj (fun x hx hd hlt=> ?_) (fun hd hj=> ?_)
 ·obtain⟨h1,h2⟩:=hp x (List.mem_of_getElem? hx);have hw:=e2s h1 h2 (by omega);have ht:=b8b h1 h2 (by omega);refine qK rfl (hw) rfl ?_;refine qC rfl (fun h=> ?_) (fun h=> ?_);refine qR rfl ⟨congrArg S ?_,rfl⟩;rotate_left;refine qK rfl (ht) rfl ?_;refine qA 16 rfl rfl ?_ ?_;rotate_left;refine qB (ih _ _ (a0a (by omega)) hlt ?_) rfl;rotate_left;all_goals clear ih
  ·have hn:¬l.all a0f=true:=fun h'=>by
    have:=List.all_eq_true.1 h' x (List.mem_of_getElem? hx);rw [this]at h;exact absurd h (by decide)
   unfold b3x;rw [if_neg hn];try rfl
  ·simp;omega
  refine⟨?_,?_⟩
  ·show q++ [VT.str (a3a x)]=_;rw [hq,a1h hx];simp
  rw [a1h hx,List.all_append,ha];simp at h⊢;exact h
 have hall:l.all a0f=true:=by rw [hj,List.take_length]at ha;exact ha
 have hte:=e1x (l:=l.map a3a) (fun y hy=>by
  obtain⟨f,hf,rfl⟩:=List.mem_map.1 hy;have:=b8e (hp f hf).1 (hp f hf).2;omega) (by rw [List.length_map];exact hl)
 rw [hq,hj,List.take_length];refine qK rfl (hte) rfl ?_;refine qR rfl ⟨congrArg S ?_,rfl⟩;rotate_left;unfold b3x;rw [if_pos hall];try rfl
set_option linter.unusedVariables false
set_option maxHeartbeats 4000000
set_option maxRecDepth 100000
theorem e8x(v:Nat):rem (-(v:Int)) 10=some (-((v %10:Nat):Int)):=by
 unfold rem;rw [if_neg (by decide),Int.neg_tmod,Int.tmod_eq_emod_of_nonneg (by omega)];rfl
theorem f1c{v:Nat}(h:v<=9223372036854775808):quo .i64 (-(v:Int)) 10=some (-((v/10:Nat):Int)):=by
 unfold quo;rw [if_neg (by decide),Int.neg_tdiv,Int.tdiv_eq_ediv_of_nonneg (by omega),a0t (by omega) (by omega)]
 congr 1
theorem c6h(v:Nat):bytesV [.int .u8 (IntKind.u8.wrap (isub .i64 48 (-((v %10:Nat):Int))))]=some [c8 v]:=by
 have hm:v %10<10:=Nat.mod_lt _ (by decide);have h1:isub .i64 48 (-((v %10:Nat):Int))=((48+v %10:Nat):Int):=by rw [a0c (by omega) (by omega)];omega
 have h2:IntKind.u8.wrap (((48+v %10:Nat):Int))=((c8 v).toNat:Int):=by rw [c5d,b8r];omega
 rw [h1,h2];exact bytesV_v [c8 v]
theorem rdig_e:∀(k v:Nat),v<10^(k+1)->v<=9223372036854775808->k<=30->EvF tt 73 [I (-(v:Int))] (S (Lib.decDigits v)):=by
 intro k;induction k with
 |zero=>
  intro v h1 h2 _;refine evF (eIn Tryz.func73 rfl rfl ?_);refine qV rfl (e8x v) ?_;refine qV rfl (c6h v) ?_;refine qT rfl (decide_eq_true (by omega)) ?_;rw [a0v (by omega)];exact qR rfl ⟨rfl,rfl⟩
 |succ k ih=>
  intro v h1 h2 hk;refine evF (eIn Tryz.func73 rfl rfl ?_);refine qV rfl (e8x v) ?_;refine qV rfl (c6h v) ?_
  by_cases hv:v<10
  ·refine qT rfl (decide_eq_true (by omega)) ?_;rw [a0v hv];exact qR rfl ⟨rfl,rfl⟩
  have h3:=ih (v/10) (by rw [Nat.pow_succ]at h1;omega) (by omega) (by omega);have h4:=b0r (n:=((v/10:Nat):Int)) (by omega) (by omega);refine qN rfl (decide_eq_false (by omega)) ?_;refine qV rfl (f1c h2) ?_;refine qK rfl h3 rfl ?_;rw [a1c (v:=v) (by omega)];rw [b0x]at h4;refine qS rfl ?_ ?_;rotate_left;exact qR rfl ⟨rfl,rfl⟩;all_goals (simp only [List.length_append,List.length_cons,List.length_nil]at*;omega)
theorem d2z{n:Int}(h0:-9223372036854775808<=n)(h1:n<=9223372036854775807):EvF tt 242 [I n] (S (Lib.itoa n++ [59])):=by
 have hl:=b0r h0 h1;refine evF (eIn Tryz.func242 rfl rfl ?_);unfold Lib.itoa at hl⊢
 by_cases hn:n<0
 ·rw [if_pos hn]at hl⊢;have hd:=rdig_e 19 n.natAbs (by omega) (by omega) (by decide);rw [show(-(n.natAbs:Int))=n by omega]at hd;rw [List.length_cons]at hl;refine qT rfl (decide_eq_true hn) ?_;refine qK rfl (hd) rfl ?_;refine qS rfl ?_ ?_;rotate_left;refine qS rfl ?_ ?_;rotate_left;exact qR rfl ⟨rfl,rfl⟩;all_goals (simp only [List.length_append,List.length_cons,List.length_nil]at*;omega)
 rw [if_neg hn]at hl⊢;have hd:=rdig_e 19 n.toNat (by omega) (by omega) (by decide);rw [show(-(n.toNat:Int))=IntKind.i64.wrap (0-n) by rw [a0t (by omega) (by omega)];omega]at hd;refine qN rfl (decide_eq_false hn) ?_;refine qK rfl (hd) rfl ?_;refine qS rfl ?_ ?_;rotate_left;exact qR rfl ⟨rfl,rfl⟩;all_goals (simp only [List.length_append,List.length_cons,List.length_nil]at*;omega)
theorem c2o{k:Nat}(hk:k<=1000000):EvF tt 73 [I (IntKind.i64.wrap (0-(k:Int)))] (S (Lib.itoa k)):=by
 have hd:=rdig_e 19 k (by omega) (by omega) (by decide);rw [show(-(k:Int))=IntKind.i64.wrap (0-(k:Int)) by rw [a0t (by omega) (by omega)];omega]at hd;rw [b0x];exact hd
theorem d8l{s:Bs}(hl:s.length<=1000000):EvF tt 74 [S s] (S (a2e s)):=by
 have hd:=c2o hl;have hi:=a3l hl;refine evF (eIn Tryz.func74 rfl rfl ?_);refine qK rfl (hd) rfl ?_;refine qS rfl ?_ ?_;rotate_left;refine qS rfl ?_ ?_;rotate_left;refine qS rfl ?_ ?_;rotate_left;exact qR rfl ⟨rfl,rfl⟩;all_goals (simp only [List.length_append,List.length_cons,List.length_nil]at*;omega)
abbrev rrB(d:Bool)(s:Bs)(b:Bool):Blk:=⟨0,0,false,d,false,.box 111 [S s,B b]⟩
theorem a9m(s:Bs)(b:Bool):EvH tt 123 [.bp 0 0] [rrB false s b] (I 0) [rrB true [] true]:=by
 refine evF (eInH 1 Tryz.func123 rfl rfl rfl ?_);exact qR rfl ⟨rfl,rfl⟩
def clsO(e:UInt8)(s:Bs):Bool×Blk:=if Lib.hasPrefix s [e]=true then(true,rrB true (Lib.trimPrefix s [e]) false)else(false,rrB true [] true)
theorem c4k(e:UInt8)(s:Bs):EvH tt 65 [.bp 0 0,.v (.int .u8 (e.toNat:Int))] [rrB false s false] (B (clsO e s).1) [(clsO e s).2]:=by
 refine evF (eInH 1 Tryz.func65 rfl rfl rfl ?_);cases s with
 |nil=>
  have:clsO e []=(false,rrB true [] true):=by unfold clsO;rw [if_neg (by simp [Lib.hasPrefix])]
  rw [this];refine qT rfl rfl ?_;refine qK rfl (a9m _ _) rfl ?_;exact qR rfl ⟨rfl,rfl⟩
 |cons c l=>
  by_cases h:c=e
  ·subst h;have:clsO c (c::l)=(true,rrB true l false):=by unfold clsO;rw [if_pos pre1.1,pre1.2]
   rw [this];refine qN rfl rfl ?_;refine qV rfl rfl ?_;refine qN rfl (by simp) ?_;refine qV rfl (show ssl (c::l) 1 ((c::l).length:Int)=some l by have:=a8q (s:=c::l) (n:=1) (by decide) (by simp;omega);exact this) ?_;exact qR rfl ⟨rfl,rfl⟩
  have:clsO e (c::l)=(false,rrB true [] true):=by
   unfold clsO;rw [if_neg fun hp=> ?_];have:=c0d hp;simp at this;exact h this.1
  rw [this];refine qN rfl rfl ?_;refine qV rfl rfl ?_;refine qT rfl (show((c.toNat:Int) !=(e.toNat:Int))=true by rw [bne_iff_ne];intro h2;exact h (UInt8.toNat_inj.1 (by omega))) ?_;refine qK rfl (a9m _ _) rfl ?_;exact qR rfl ⟨rfl,rfl⟩
theorem e6i{b:UInt8}(h:isd b=true):IntKind.i64.wrap (isub .u8 (b.toNat:Int) 48)=((b.toNat:Int)-48):=by
 have:=a2g h;have e:isub .u8 (b.toNat:Int) 48=(b.toNat:Int)-48:=by unfold isub;rw [c5d];omega
 rw [e,a0t (by omega) (by omega)]
theorem b3n{s:Bs}{i:Nat}{b:UInt8}(h:s[i]?=some b):sidx s (i:Int)=some (b.toNat:Int):=by
 unfold sidx;rw [if_pos (Int.natCast_nonneg _),Int.toNat_natCast,h];rfl
set_option linter.unusedVariables false
set_option maxHeartbeats 4000000
set_option maxRecDepth 100000
theorem c4g(a b:Bs)(c:UInt8):(a++ [c]==b++ [c])=decide (a=b):=by
 rw [Bool.eq_iff_iff];simp
theorem c9j{s:Bs}(hl:s.length<=1000):EvF tt 190 [S s] (.tup [I (bkR s).1,B (bkR s).2]):=by
 refine evF (eIn Tryz.func190 rfl rfl ?_);have bv1:s.head?=some 45->b0m s=bkW 1 0 (s.drop 1):=fun h=>by unfold b0m;rw [if_pos h]
 have bv0:s.head?≠some 45->b0m s=(bkW 0 0 (s.drop 0)).map fun n=>IntKind.i64.wrap (0-n):=fun h=>by unfold b0m;rw [if_neg h];rfl
 by_cases h0:s.length=0
 ·have h45:s.head?≠some 45:=by rw [List.eq_nil_of_length_eq_zero h0];simp
  have hb0:=bv0 h45;clear bv1 bv0;refine qN rfl (decide_eq_false (by omega)) ?_;refine qL (σ:=Int×Int) (fun q=> [(6,I q.1),(5,I q.2)]) (fun _=> []) (fun q=>∃i:Nat,q.1=(i:Int)/\0<=i/\i<=s.length/\bkW 0 0 (s.drop 0)=bkW i q.2 (s.drop i)/\i64R q.2) (fun q=>s.length-q.1.toNat) (0,0) rfl rfl ⟨0,rfl,by omega,by omega,rfl,⟨by decide,by decide⟩⟩ ?_;rintro⟨z,n⟩ ⟨i,hz,hfi,hi,hJ,hR⟩ ih;obtain rfl:z=(i:Int):=hz;have hJ:bkW 0 0 (s.drop 0)=bkW i n (s.drop i):=hJ
  by_cases hlt:i<s.length
  ·have hx:=List.getElem?_eq_getElem hlt;have hd:=a1p hx;generalize s[i]=b at hx hd;have hsi:=b3n hx;have hst:bkW i n (s.drop i)=if isd b=false∨20<i then none else bkW (i+1) (isub .i64 (imul .i64 10 n) ((b.toNat:Int)-48)) (s.drop (i+1)):=by rw [hd];rfl
   have hbad:(isd b=false∨20<i)->bkR s=(0,false):=fun h=>by
    rw [hst,if_pos h]at hJ;unfold bkR;rw [hb0,hJ];rfl
   have g:=fun(h:¬(isd b=false∨20<i))=>ih (iadd .i64 (i:Int) 1,isub .i64 (imul .i64 10 n) ((b.toNat:Int)-48)) ⟨i+1,a0a (by omega),by omega,by omega,by rw [hJ,hst,if_neg h],b2z _⟩ (by show s.length-(iadd .i64 (i:Int) 1).toNat<s.length-(i:Int).toNat;rw [a0a (by omega)];omega);clear ih;refine qT rfl (decide_eq_true (by omega)) ?_;refine qV rfl hsi ?_
   by_cases c1:b.toNat<48
   ·rw [hbad (.inl (by unfold isd;rw [decide_eq_false (by omega)];rfl))];refine qT rfl (decide_eq_true (by omega)) ?_;exact qR rfl ⟨rfl,rfl⟩
   refine qN rfl (decide_eq_false (by omega)) ?_;refine qV rfl hsi ?_
   by_cases c2:57<b.toNat
   ·rw [hbad (.inl (by unfold isd;rw [decide_eq_false (show¬b.toNat<=57 by omega),Bool.and_false]))];refine qT rfl (decide_eq_true (by omega)) ?_;exact qR rfl ⟨rfl,rfl⟩
   refine qN rfl (decide_eq_false (by omega)) ?_
   by_cases c3:20<i
   ·rw [hbad (.inr c3)];refine qT rfl (decide_eq_true (by omega)) ?_;exact qR rfl ⟨rfl,rfl⟩
   have hb:isd b=true:=by unfold isd;rw [decide_eq_true (show 48<=b.toNat by omega),decide_eq_true (show b.toNat<=57 by omega)];rfl
   have g:=g (by rw [hb];simp;omega);rw [<-e6i hb]at g;refine qN rfl (decide_eq_false (by omega)) ?_;refine qV rfl hsi ?_;exact qB g (by kernel_rfl)
  have hd:s.drop i= []:=List.drop_eq_nil_of_le (by omega);rw [hd]at hJ;have hJ:bkW 0 0 (s.drop 0)=some n:=hJ;clear ih;refine qN rfl (decide_eq_false (by omega)) ?_;have hv:b0m s=some (IntKind.i64.wrap (0-n)):=by rw [hb0,hJ];rfl
  have hR2:=b2z (0-n);have hin:=d2z hR2.1 hR2.2;have hb:bkR s=(IntKind.i64.wrap (0-n),decide (Lib.itoa (IntKind.i64.wrap (0-n))=s)):=by unfold bkR;rw [hv]
  rw [hb];refine qT rfl rfl ?_;refine qK rfl (hin) rfl ?_;refine qS rfl ?_ ?_;rotate_left;refine qR rfl ⟨?_,rfl⟩;rotate_left;all_goals first|(exact congrArg (fun b=>DV.tup [I _,B b]) (c4g _ _ _))|(simp;omega)
 have hx0:=List.getElem?_eq_getElem (show 0<s.length by omega);generalize s[0]=c at hx0;have hh:s.head?=some c:=by rw [List.head?_eq_getElem?];exact hx0
 refine qT rfl (decide_eq_true (by omega)) ?_;refine qV rfl (b3n (i:=0) hx0) ?_
 by_cases h45:c=45
 ·subst h45;have hb1:=bv1 hh;clear bv1 bv0;refine qT rfl rfl ?_;refine qL (σ:=Int×Int) (fun q=> [(6,I q.1),(5,I q.2)]) (fun _=> []) (fun q=>∃i:Nat,q.1=(i:Int)/\1<=i/\i<=s.length/\bkW 1 0 (s.drop 1)=bkW i q.2 (s.drop i)/\i64R q.2) (fun q=>s.length-q.1.toNat) (1,0) rfl rfl ⟨1,rfl,by omega,by omega,rfl,⟨by decide,by decide⟩⟩ ?_;rintro⟨z,n⟩ ⟨i,hz,hfi,hi,hJ,hR⟩ ih;obtain rfl:z=(i:Int):=hz;have hJ:bkW 1 0 (s.drop 1)=bkW i n (s.drop i):=hJ
  by_cases hlt:i<s.length
  ·have hx:=List.getElem?_eq_getElem hlt;have hd:=a1p hx;generalize s[i]=b at hx hd;have hsi:=b3n hx;have hst:bkW i n (s.drop i)=if isd b=false∨20<i then none else bkW (i+1) (isub .i64 (imul .i64 10 n) ((b.toNat:Int)-48)) (s.drop (i+1)):=by rw [hd];rfl
   have hbad:(isd b=false∨20<i)->bkR s=(0,false):=fun h=>by
    rw [hst,if_pos h]at hJ;unfold bkR;rw [hb1,hJ]
   have g:=fun(h:¬(isd b=false∨20<i))=>ih (iadd .i64 (i:Int) 1,isub .i64 (imul .i64 10 n) ((b.toNat:Int)-48)) ⟨i+1,a0a (by omega),by omega,by omega,by rw [hJ,hst,if_neg h],b2z _⟩ (by show s.length-(iadd .i64 (i:Int) 1).toNat<s.length-(i:Int).toNat;rw [a0a (by omega)];omega);clear ih;refine qT rfl (decide_eq_true (by omega)) ?_;refine qV rfl hsi ?_
   by_cases c1:b.toNat<48
   ·rw [hbad (.inl (by unfold isd;rw [decide_eq_false (by omega)];rfl))];refine qT rfl (decide_eq_true (by omega)) ?_;exact qR rfl ⟨rfl,rfl⟩
   refine qN rfl (decide_eq_false (by omega)) ?_;refine qV rfl hsi ?_
   by_cases c2:57<b.toNat
   ·rw [hbad (.inl (by unfold isd;rw [decide_eq_false (show¬b.toNat<=57 by omega),Bool.and_false]))];refine qT rfl (decide_eq_true (by omega)) ?_;exact qR rfl ⟨rfl,rfl⟩
   refine qN rfl (decide_eq_false (by omega)) ?_
   by_cases c3:20<i
   ·rw [hbad (.inr c3)];refine qT rfl (decide_eq_true (by omega)) ?_;exact qR rfl ⟨rfl,rfl⟩
   have hb:isd b=true:=by unfold isd;rw [decide_eq_true (show 48<=b.toNat by omega),decide_eq_true (show b.toNat<=57 by omega)];rfl
   have g:=g (by rw [hb];simp;omega);rw [<-e6i hb]at g;refine qN rfl (decide_eq_false (by omega)) ?_;refine qV rfl hsi ?_;exact qB g (by kernel_rfl)
  have hd:s.drop i= []:=List.drop_eq_nil_of_le (by omega);rw [hd]at hJ;have hJ:bkW 1 0 (s.drop 1)=some n:=hJ;clear ih;refine qN rfl (decide_eq_false (by omega)) ?_;have hv:b0m s=some n:=by rw [hb1];exact hJ
  have hin:=d2z hR.1 hR.2;have hb:bkR s=(n,decide (Lib.itoa n=s)):=by unfold bkR;rw [hv]
  rw [hb];refine qN rfl rfl ?_;refine qK rfl (hin) rfl ?_;refine qS rfl ?_ ?_;rotate_left;refine qR rfl ⟨?_,rfl⟩;rotate_left;all_goals first|(exact congrArg (fun b=>DV.tup [I _,B b]) (c4g _ _ _))|(simp;omega)
 have hb0:=bv0 (by rw [hh];simpa using h45);clear bv1 bv0;refine qN rfl (show((c.toNat:Int)==45)=false by rw [beq_eq_false_iff_ne];intro h2;exact h45 (UInt8.toNat_inj.1 (by show c.toNat=45;omega))) ?_;refine qL (σ:=Int×Int) (fun q=> [(6,I q.1),(5,I q.2)]) (fun _=> []) (fun q=>∃i:Nat,q.1=(i:Int)/\0<=i/\i<=s.length/\bkW 0 0 (s.drop 0)=bkW i q.2 (s.drop i)/\i64R q.2) (fun q=>s.length-q.1.toNat) (0,0) rfl rfl ⟨0,rfl,by omega,by omega,rfl,⟨by decide,by decide⟩⟩ ?_;rintro⟨z,n⟩ ⟨i,hz,hfi,hi,hJ,hR⟩ ih;obtain rfl:z=(i:Int):=hz;have hJ:bkW 0 0 (s.drop 0)=bkW i n (s.drop i):=hJ
 by_cases hlt:i<s.length
 ·have hx:=List.getElem?_eq_getElem hlt;have hd:=a1p hx;generalize s[i]=b at hx hd;have hsi:=b3n hx;have hst:bkW i n (s.drop i)=if isd b=false∨20<i then none else bkW (i+1) (isub .i64 (imul .i64 10 n) ((b.toNat:Int)-48)) (s.drop (i+1)):=by rw [hd];rfl
  have hbad:(isd b=false∨20<i)->bkR s=(0,false):=fun h=>by
   rw [hst,if_pos h]at hJ;unfold bkR;rw [hb0,hJ];rfl
  have g:=fun(h:¬(isd b=false∨20<i))=>ih (iadd .i64 (i:Int) 1,isub .i64 (imul .i64 10 n) ((b.toNat:Int)-48)) ⟨i+1,a0a (by omega),by omega,by omega,by rw [hJ,hst,if_neg h],b2z _⟩ (by show s.length-(iadd .i64 (i:Int) 1).toNat<s.length-(i:Int).toNat;rw [a0a (by omega)];omega);clear ih;refine qT rfl (decide_eq_true (by omega)) ?_;refine qV rfl hsi ?_
  by_cases c1:b.toNat<48
  ·rw [hbad (.inl (by unfold isd;rw [decide_eq_false (by omega)];rfl))];refine qT rfl (decide_eq_true (by omega)) ?_;exact qR rfl ⟨rfl,rfl⟩
  refine qN rfl (decide_eq_false (by omega)) ?_;refine qV rfl hsi ?_
  by_cases c2:57<b.toNat
  ·rw [hbad (.inl (by unfold isd;rw [decide_eq_false (show¬b.toNat<=57 by omega),Bool.and_false]))];refine qT rfl (decide_eq_true (by omega)) ?_;exact qR rfl ⟨rfl,rfl⟩
  refine qN rfl (decide_eq_false (by omega)) ?_
  by_cases c3:20<i
  ·rw [hbad (.inr c3)];refine qT rfl (decide_eq_true (by omega)) ?_;exact qR rfl ⟨rfl,rfl⟩
  have hb:isd b=true:=by unfold isd;rw [decide_eq_true (show 48<=b.toNat by omega),decide_eq_true (show b.toNat<=57 by omega)];rfl
  have g:=g (by rw [hb];simp;omega);rw [<-e6i hb]at g;refine qN rfl (decide_eq_false (by omega)) ?_;refine qV rfl hsi ?_;exact qB g (by kernel_rfl)
 have hd:s.drop i= []:=List.drop_eq_nil_of_le (by omega);rw [hd]at hJ;have hJ:bkW 0 0 (s.drop 0)=some n:=hJ;clear ih;refine qN rfl (decide_eq_false (by omega)) ?_;have hv:b0m s=some (IntKind.i64.wrap (0-n)):=by rw [hb0,hJ];rfl
 have hR2:=b2z (0-n);have hin:=d2z hR2.1 hR2.2;have hb:bkR s=(IntKind.i64.wrap (0-n),decide (Lib.itoa (IntKind.i64.wrap (0-n))=s)):=by unfold bkR;rw [hv]
 rw [hb];refine qT rfl rfl ?_;refine qK rfl (hin) rfl ?_;refine qS rfl ?_ ?_;rotate_left;refine qR rfl ⟨?_,rfl⟩;rotate_left;all_goals first|(exact congrArg (fun b=>DV.tup [I _,B b]) (c4g _ _ _))|(simp;omega)
def numO(least:Int)(e:UInt8)(s:Bs):Int×Blk:=match numR e least s with
 |some (n,t)=>(n,rrB true t false)
 |none=>(0,rrB true [] true)
theorem d7i{s:Bs}(e:UInt8)(hl:s.length<=100000):EvH tt 122 [.bp 0 0,.v (.int .u8 (e.toNat:Int))] [rrB false s false] (I (numO (-9223372036854775808) e s).1) [(numO (-9223372036854775808) e s).2]:=by
 have hfl:=a9m s false;refine evF (eInH 1 Tryz.func122 rfl rfl rfl ?_);refine qL (σ:=Int) (fun q=> [(5,I q)]) (fun _=> []) (fun q=>∃n:Nat,q=(n:Int)/\n<=s.length/\n<=21/\∀b∈s.take n,b≠e) (fun q=>s.length-q.toNat) 0 rfl rfl ⟨0,rfl,by omega,by omega,by simp⟩ ?_;rintro z ⟨n,rfl,hn,hn21,hno⟩ ih;have bad:numR e (-9223372036854775808) s=none->numO (-9223372036854775808) e s=(0,rrB true [] true):=fun h=>by unfold numO;rw [h]
 by_cases hlt:n<s.length
 rotate_left
 ·clear ih;obtain rfl:n=s.length:=by omega
  rw [bad (c9y (by rw [List.take_of_length_le (by omega)];rwa [List.take_length]at hno))];refine qN rfl (decide_eq_false (by omega)) ?_;refine qT rfl (decide_eq_true (by omega)) ?_;refine qK rfl (hfl) rfl ?_;exact qR rfl ⟨rfl,rfl⟩
 have hx:=List.getElem?_eq_getElem hlt;generalize s[n]=b at hx;have hsi:=b3n hx;refine qT rfl (decide_eq_true (by omega)) ?_
 by_cases h21:n<21
 rotate_left
 ·clear ih;obtain rfl:n=21:=by omega
  rw [bad (c9y hno)];refine qN rfl (decide_eq_false (by omega)) ?_;refine qN rfl (decide_eq_false (by omega)) ?_;refine qV rfl hsi ?_
  by_cases hb:b=e
  ·subst hb;have hlen:(s.take 21).length=21:=by rw [List.length_take];omega
   have hbk:=c9j (s:=s.take 21) (by omega);rw [c9b (s:=s.take 21) (by omega)]at hbk;refine qN rfl (by simp) ?_;refine qV rfl (a4x (by decide) (by omega)) ?_;refine qK rfl (hbk) rfl ?_;refine qT rfl rfl ?_;refine qK rfl (hfl) rfl ?_;exact qR rfl ⟨rfl,rfl⟩
  refine qT rfl (show((b.toNat:Int) !=(e.toNat:Int))=true by rw [bne_iff_ne];intro h2;exact hb (UInt8.toNat_inj.1 (by omega))) ?_;refine qK rfl (hfl) rfl ?_;exact qR rfl ⟨rfl,rfl⟩
 refine qT rfl (decide_eq_true (by omega)) ?_;refine qV rfl hsi ?_
 by_cases hb:b=e
 rotate_left
 ·have g:=ih (iadd .i64 (n:Int) 1) ⟨n+1,a0a (by omega),by omega,by omega,fun c hc=>by
   rw [a1h hx]at hc;rcases List.mem_append.1 hc with h|h
   ·exact hno c h
   rw [List.mem_singleton]at h;subst h;exact hb⟩ (by rw [a0a (by omega)];omega)
  clear ih;refine qT rfl (show((b.toNat:Int) !=(e.toNat:Int))=true by rw [bne_iff_ne];intro h2;exact hb (UInt8.toNat_inj.1 (by omega))) ?_;exact qB g (by kernel_rfl)
 subst hb;clear ih;have hat:=e1h (least:=-9223372036854775808) h21 hx hno;have hlen:(s.take n).length=n:=by rw [List.length_take];omega
 have hbk:=c9j (s:=s.take n) (by omega);refine qN rfl (by simp) ?_;refine qN rfl (decide_eq_false (by omega)) ?_;refine qV rfl hsi ?_;refine qN rfl (by simp) ?_;refine qV rfl (a4x (by omega) (by omega)) ?_;rw [show(((n:Nat):Int)).toNat=n from rfl];cases hbr:bkR (s.take n)with
 |mk v ok=>
  rw [hbr]at hbk hat;cases ok with
  |false=>
   rw [bad (by rw [hat];simp)];refine qK rfl (hbk) rfl ?_;refine qT rfl rfl ?_;refine qK rfl (hfl) rfl ?_;exact qR rfl ⟨rfl,rfl⟩
  |true=>
   have hv:-9223372036854775808<=v:=by
    unfold bkR at hbr;split at hbr
    ·rename_i w hw;obtain⟨rfl,-⟩:=Prod.mk.inj hbr;exact(c1a hw).1
    exact absurd (Prod.mk.inj hbr).2 (by simp)
   have hnn:=a0a (k:=n) (by omega);have:numO (-9223372036854775808) b s=(v,rrB true (s.drop (n+1)) false):=by unfold numO;rw [hat,if_pos ⟨rfl,hv⟩]
   rw [this];refine qK rfl hbk rfl ?_;refine qN rfl rfl ?_;refine qV rfl (show ssl s (iadd .i64 (n:Int) 1) (s.length:Int)=some (s.drop (n+1)) by rw [hnn];exact a8q (by omega) (by omega)) ?_;exact qR rfl ⟨rfl,rfl⟩
set_option linter.unusedVariables false
set_option maxHeartbeats 4000000
set_option maxRecDepth 100000
theorem c7y{e:UInt8}{s:Bs}:numR e 0 s=match numR e (-9223372036854775808) s with
 |some (n,t)=>if n<0 then none else some (n,t)
 |none=>none:=by
 unfold numR;split
 ·rfl
 cases ha:Lib.atoiAll (numD e s)with
 |ok n=>
  have hr:=a8m ha;dsimp only
  by_cases h:Lib.itoa n=numD e s
  ·by_cases h0:n<0
   ·rw [if_neg (by omega),if_pos ⟨h,hr.1⟩];dsimp only;rw [if_pos h0]
   rw [if_pos ⟨h,by omega⟩,if_pos ⟨h,hr.1⟩];dsimp only;rw [if_neg h0]
  rw [if_neg (fun h2=>h h2.1),if_neg (fun h2=>h h2.1)]
 |_=>rfl
theorem b8s{s:Bs}(e:UInt8)(hl:s.length<=100000):EvH tt 63 [.bp 0 0,.v (.int .u8 (e.toNat:Int))] [rrB false s false] (I (numO 0 e s).1) [(numO 0 e s).2]:=by
 have ha:=d7i (s:=s) e hl;refine evF (eInH 1 Tryz.func63 rfl rfl rfl ?_);unfold numO at ha⊢;rw [c7y];cases hn:numR e (-9223372036854775808) s with
 |none=>
  rw [hn]at ha;dsimp only at ha⊢;refine qK rfl (ha) rfl ?_;refine qN rfl rfl ?_;exact qR rfl ⟨rfl,rfl⟩
 |some p=>
  obtain⟨n,t⟩:=p;rw [hn]at ha;dsimp only at ha⊢
  by_cases h0:n<0
  ·rw [if_pos h0];dsimp only;refine qK rfl ha rfl ?_;refine qT rfl (decide_eq_true h0) ?_;refine qK rfl (a9m _ _) rfl ?_;exact qR rfl ⟨rfl,rfl⟩
  rw [if_neg h0];dsimp only;refine qK rfl ha rfl ?_;refine qN rfl (decide_eq_false h0) ?_;exact qR rfl ⟨rfl,rfl⟩
def texO(s:Bs):Bs×Blk:=match a5n s with
 |some (x,t)=>(x,rrB true t false)
 |none=>([],rrB true [] true)
theorem e9q{s:Bs}(hl:s.length<=100000):EvH tt 64 [.bp 0 0] [rrB false s false] (S (texO s).1) [(texO s).2]:=by
 have ha:=b8s (s:=s) 58 hl;refine evF (eInH 1 Tryz.func64 rfl rfl rfl ?_);unfold numO at ha;unfold texO a5n;cases hn:numR 58 0 s with
 |none=>
  rw [hn]at ha;dsimp only at ha⊢;refine qK rfl ha rfl ?_;refine qT rfl rfl ?_;refine qK rfl (a9m _ _) rfl ?_;exact qR rfl ⟨rfl,rfl⟩
 |some p=>
  obtain⟨n,t⟩:=p;have h0:=b0q hn;rw [hn]at ha;dsimp only at ha⊢;refine qK rfl ha rfl ?_;refine qN rfl rfl ?_
  by_cases c:(t.length:Int)<=n
  ·have hno:(if n>t.length then none else if Lib.hasPrefix (t.drop n.toNat) [44]=true then some (t.take n.toNat,Lib.trimPrefix (t.drop n.toNat) [44])else none)=(none:Option (Bs×Bs)):=by
    split
    ·rfl
    rw [List.drop_eq_nil_of_le (by omega),if_neg (by simp [Lib.hasPrefix])]
   rw [hno];dsimp only;refine qT rfl (decide_eq_true c) ?_;refine qK rfl (a9m _ _) rfl ?_;exact qR rfl ⟨rfl,rfl⟩
  rw [if_neg (by omega)];have hcl:=c4k 44 (t.drop n.toNat);unfold clsO at hcl;refine qN rfl (decide_eq_false c) ?_;refine qV rfl (a4x h0.1 (by omega)) ?_;refine qV rfl (a8q h0.1 (by omega)) ?_
  by_cases hp:Lib.hasPrefix (t.drop n.toNat) [44]=true
  ·rw [if_pos hp]at hcl⊢;dsimp only;refine qK rfl (hcl) rfl ?_;refine qN rfl rfl ?_;exact qR rfl ⟨rfl,rfl⟩
  rw [if_neg hp]at hcl⊢;dsimp only;refine qK rfl (hcl) rfl ?_;refine qT rfl rfl ?_;exact qR rfl ⟨rfl,rfl⟩
set_option linter.unusedVariables false
set_option maxHeartbeats 4000000
set_option maxRecDepth 100000
def txsO(s:Bs):List VT×Blk:=match a1m s with
 |some (l,t)=>(ss l,rrB true t false)
 |none=>([],rrB true [] true)
theorem d6s{s:Bs}(hl:s.length<=100000):EvH tt 30 [.bp 0 0] [rrB false s false] (L (txsO s).1) [(txsO s).2]:=by
 have ha:=b8s (s:=s) 91 hl;refine evF (eInH 1 Tryz.func30 rfl rfl rfl ?_);unfold numO at ha;have bad:a1m s=none->txsO s=([],rrB true [] true):=fun h=>by unfold txsO;rw [h]
 cases hn:numR 91 0 s with
 |none=>
  rw [hn]at ha;rw [bad (by unfold a1m;rw [hn])];dsimp only at ha;refine qK rfl ha rfl ?_;refine qB ?_ rfl;refine qI ?_;refine qN rfl rfl ?_;refine qT rfl rfl ?_;exact qR rfl ⟨rfl,rfl⟩
 |some p=>
  obtain⟨n,t⟩:=p;have h0:=b0q hn;have h9:=c5v hn;rw [hn]at ha;dsimp only at ha;refine qK rfl ha rfl ?_;refine qL (σ:=Int×List VT×Bs×Bool) (fun q=> [(5,I q.1)]) (fun q=> [(0,.box 111 [S q.2.2.1,B q.2.2.2]),(1,.row 9 1 q.2.1)])
   (fun q=>(q.2.2.2=true/\q.2.2.1= []/\a1m s=none)∨(q.2.2.2=false/\∃(i:Nat)(acc:List Bs),q.1=(i:Int)/\(i:Int)<=n/\q.2.1=ss acc/\acc.length+q.2.2.1.length<=s.length/\a1m s=match manyR (n.toNat-i) q.2.2.1 with
     |none=>none
     |some (l,u)=>if Lib.hasPrefix u [93]=true then some (acc++l,Lib.trimPrefix u [93])else none)) (fun q=>n.toNat-q.1.toNat) (0,[],t,false) rfl rfl (.inr ⟨rfl,0,[],rfl,by omega,rfl,by show 0+t.length<=_;omega,by unfold a1m;rw [hn];rfl⟩) ?_
  rintro⟨z,out,u,b⟩ hJ ih;rcases hJ with⟨hb,hu,hno⟩|⟨hb,i,acc,hz,hin,hout,hle,hts⟩
  ·obtain rfl:b=true:=hb;obtain rfl:u= []:=hu;clear ih;rw [bad hno];refine qC rfl (fun h=> ?_) (fun h=> ?_)
   ·refine qN rfl rfl ?_;refine qT rfl rfl ?_;exact qR rfl ⟨rfl,rfl⟩
   refine qT rfl rfl ?_;exact qR rfl ⟨rfl,rfl⟩
  obtain rfl:b=false:=hb;obtain rfl:z=(i:Int):=hz;obtain rfl:out=ss acc:=hout;have hle:acc.length+u.length<=s.length:=hle;have hts:a1m s=match manyR (n.toNat-i) u with
   |none=>none
   |some (l,u)=>if Lib.hasPrefix u [93]=true then some (acc++l,Lib.trimPrefix u [93])else none:=hts
  by_cases hlt:(i:Int)<n
  ·obtain⟨j,hj⟩:∃j:Nat,n.toNat-i=j+1:=⟨n.toNat-i-1,by omega⟩
   have hj2:n.toNat-(i+1)=j:=by omega
   rw [hj]at hts;unfold manyR at hts;have ht:=e9q (s:=u) (by omega);have hnx:iadd .i64 (i:Int) 1=((i+1:Nat):Int):=a0a (by omega);unfold texO at ht;refine qT rfl (decide_eq_true hlt) ?_;refine qT rfl rfl ?_;cases hx:a5n u with
   |none=>
    rw [hx]at hts ht;dsimp only at hts ht;have g:=ih (iadd .i64 (i:Int) 1,ss acc++ [.str []],[],true) (.inl ⟨rfl,rfl,hts⟩) (by show n.toNat-(iadd .i64 (i:Int) 1).toNat<n.toNat-(i:Int).toNat;rw [hnx];omega);clear ih;refine qK rfl (ht) rfl ?_;refine qA 16 rfl rfl ?_ ?_;rotate_left;exact qB g (by kernel_rfl);all_goals (simp;omega)
   |some p=>
    obtain⟨x,v⟩:=p;have hv:=c4a hx;rw [hx]at hts ht;dsimp only at hts ht;have g:=ih (iadd .i64 (i:Int) 1,ss acc++ [.str x],v,false) (.inr ⟨rfl,i+1,acc++ [x],hnx,by omega,by simp,by simp;omega,by
     rw [hts,hj2];dsimp only;rcases manyR j v with _|⟨l,w⟩
     ·rfl
     simp⟩) (by show n.toNat-(iadd .i64 (i:Int) 1).toNat<n.toNat-(i:Int).toNat;rw [hnx];omega)
    clear ih;refine qK rfl (ht) rfl ?_;refine qA 16 rfl rfl ?_ ?_;rotate_left;exact qB g (by kernel_rfl);all_goals (simp;omega)
  clear ih;rw [show n.toNat-i=0 by omega]at hts;have hts:a1m s=if Lib.hasPrefix u [93]=true then some (acc++ [],Lib.trimPrefix u [93])else none:=hts
  rw [List.append_nil]at hts;have hcl:=c4k 93 u;unfold clsO at hcl;refine qN rfl (decide_eq_false hlt) ?_
  by_cases hp:Lib.hasPrefix u [93]=true
  ·rw [if_pos hp]at hcl hts;dsimp only at hcl;have:txsO s=(ss acc,rrB true (Lib.trimPrefix u [93]) false):=by unfold txsO;rw [hts]
   rw [this];refine qN rfl rfl ?_;refine qK rfl (hcl) rfl ?_;refine qN rfl rfl ?_;exact qR rfl ⟨rfl,rfl⟩
  rw [if_neg hp]at hcl hts;dsimp only at hcl;rw [bad hts];refine qN rfl rfl ?_;refine qK rfl (hcl) rfl ?_;refine qT rfl rfl ?_;exact qR rfl ⟨rfl,rfl⟩
theorem e4y(s:Bs):EvH tt 29 [S s] [] (.bp 0 0) [bk (.box 111 [S s,B false])]:=by
 refine evF (eIn Tryz.func29 rfl rfl ?_);exact qR rfl ⟨rfl,rfl⟩
theorem d4l(s:Bs)(b:Bool):EvH tt 31 [.bp 0 0] [rrB false s b] (B (!b&&(s== []))) [rrB false s b]:=by
 refine evF (eInH 1 Tryz.func31 rfl rfl rfl ?_);cases b with
 |true=>
  refine qN rfl rfl ?_;exact qR rfl ⟨rfl,rfl⟩
 |false=>
  refine qT rfl rfl ?_;exact qR rfl ⟨rfl,rfl⟩
set_option linter.unusedVariables false
set_option maxHeartbeats 4000000
set_option maxRecDepth 100000
theorem qAz{P:Program}{T:Ty P}{fr:Fr}{s:St}{Q:DV->DH->Prop}{cm chk:Bool}{q by':Nat}{xs ys:List VT}{k:List VT->St}(b:Nat)(zs:List VT)(h:rnA T fr 2000 s= .ask cm (List VT) (appQ chk q by' xs ys) k)(hb:by'=b)(hz:xs++ys=zs)(hs:szOk q ys=true)(hl:(xs.length+ys.length)*b<=140737488355328)(hk:Tt T fr (k zs) Q):Tt T fr s Q:=by
 subst hz;exact qA b h hb hl hk fun _=>hs
theorem a6y(l:List Int)(i:Nat):EvF tt 191 [L (ns l),I i] (I ((l.drop i).headD 0)):=by
 refine evF (eIn Tryz.func191 rfl rfl ?_)
 by_cases h:i<l.length
 ·have hx:=List.getElem?_eq_getElem h;rw [List.drop_eq_getElem_cons h];generalize l[i]=x at*;refine qT rfl (decide_eq_true (by rw [List.length_map];omega)) ?_;refine qXi (g:=N) rfl (by omega) (by rw [Int.toNat_natCast];exact hx) ?_;exact qR rfl ⟨rfl,rfl⟩
 rw [List.drop_of_length_le (by omega)];refine qN rfl (decide_eq_false (by rw [List.length_map];omega)) ?_;exact qR rfl ⟨rfl,rfl⟩
theorem a4m{l:List Int}(hl:InR l)(hlen:l.length<1099511627776):EvF tt 126 [L (ns l)] (L (ns (dig (val l).toNat))):=by
 obtain⟨r,hr⟩:=split_dig hl;have hlast:=a5t (val l).toNat;generalize dig (val l).toNat=c at hr hlast;have h1:l.length=c.length+r:=by rw [hr];simp
 have hnl:(ns l).length=l.length:=List.length_map ..;refine evF (eIn Tryz.func126 rfl rfl ?_);refine qL (fun z:Int=> [(3,I z)]) (fun _=> []) (fun z=>∃n:Nat,z=n/\c.length<=n/\n<=l.length) (fun z=>z.toNat) ((((ns l).length:Nat):Int)) rfl rfl ⟨l.length,by rw [hnl],by omega,Nat.le_refl _⟩ ?_;rintro z ⟨n,rfl,n1,n2⟩ ih;have htk:((ns l).take (Int.toNat ((c.length:Nat):Int))).drop (Int.toNat 0)=ns c:=by
  rw [Int.toNat_natCast,show Int.toNat 0=0 from rfl,List.drop_zero,<-List.map_take,hr,List.take_left]
 have hcl:(ns c).length=c.length:=List.length_map ..
 by_cases h0:n=c.length
 ·subst h0;clear ih;rcases List.eq_nil_or_concat c with hc|⟨p,d,hc⟩
  ·refine qN rfl (decide_eq_false (by rw [hc];simp)) ?_;refine qSl 1 rfl rfl (a2r l) ⟨by omega,by omega,by rw [hnl];omega⟩ ?_;refine qAz 8 (ns c) rfl rfl (by rw [htk];rfl) (by show szOk 1 _=true;rw [htk];exact a2r c) (by rw [htk,hcl];show(0+c.length)*8<=_;omega) ?_;exact qR rfl ⟨rfl,rfl⟩
  rw [List.concat_eq_append]at hc;have hx:l[(((c.length:Nat):Int)-1).toNat]?=some d:=by
   rw [hr,hc,show(((p++ [d]).length:Nat):Int)-1=(p.length:Int) by simp,Int.toNat_natCast,List.append_assoc,List.getElem?_append_right (Nat.le_refl _)];simp
  have hcp:0<c.length:=by rw [hc];simp
  have hd:¬d=0:=by
   intro h;rw [hc,h]at hlast;simp at hlast
  have e1:isub .i64 ((c.length:Nat):Int) 1=((c.length:Nat):Int)-1:=a0c (by omega) (by omega);refine qT rfl (decide_eq_true (by omega)) ?_;refine qXi (g:=N) rfl (by rw [e1];omega) (by rw [e1];exact hx) ?_;refine qN rfl (by simpa using hd) ?_;refine qSl 1 rfl rfl (a2r l) ⟨by omega,by omega,by rw [hnl];omega⟩ ?_;refine qAz 8 (ns c) rfl rfl (by rw [htk];rfl) (by show szOk 1 _=true;rw [htk];exact a2r c) (by rw [htk,hcl];show(0+c.length)*8<=_;omega) ?_;exact qR rfl ⟨rfl,rfl⟩
 have e1:isub .i64 (n:Int) 1=((n-1:Nat):Int):=by rw [a0c (by omega) (by omega)];omega
 have hx:l[n-1]?=some 0:=by
  rw [hr,List.getElem?_append_right (by omega),List.getElem?_replicate,if_pos (by omega)]
 refine qT rfl (decide_eq_true (by omega)) ?_;refine qXi (g:=N) rfl (by rw [e1];omega) (by rw [e1,Int.toNat_natCast];exact hx) ?_;refine qT rfl rfl ?_;refine qB (ih (isub .i64 (n:Int) 1) ⟨n-1,e1,by omega,by omega⟩ (by rw [e1];show((n-1:Nat):Int).toNat<(n:Int).toNat;omega)) (by kernel_rfl)
theorem e2z{l:List Int}(s:Int)(hl:InR l)(hlen:l.length<1099511627776):EvF tt 127 [I s,L (ns l)] (.v (eB (if(val l).toNat=0 then⟨0,[]⟩else⟨s,dig (val l).toNat⟩))):=by
 have h1:=a4m hl hlen;refine evF (eIn Tryz.func127 rfl rfl ?_);refine qK rfl h1 rfl ?_
 by_cases h:(val l).toNat=0
 ·rw [h,dig_zero,if_pos rfl];refine qT rfl rfl ?_;exact qR rfl ⟨rfl,rfl⟩
 have:=List.length_pos_iff.2 (a7k h);rw [if_neg h];refine qN rfl (by rw [List.length_map];exact beq_false_of_ne (by omega)) ?_;exact qR rfl ⟨rfl,rfl⟩
set_option linter.unusedVariables false
set_option maxHeartbeats 4000000
set_option maxRecDepth 100000
theorem a2v(l:List Int)(i:Nat):val (l.drop i)=(l.drop i).headD 0+1048576*val (l.drop (i+1)):=by
 rw [<-List.drop_drop];cases l.drop i with
 |nil=>rfl
 |cons d l=>rfl
theorem a2l{l:List Int}{i:Nat}(h:l.length<=i):val (l.drop i)=0:=by rw [List.drop_of_length_le h];rfl
theorem d0l{a b:List Int}(ha:InR a)(hb:InR b)(i:Nat)(h:val (a.drop i)<val (b.drop i)):val a<val b:=by
 induction i with
 |zero=>simpa using h
 |succ i ih=>
  apply ih;rw [a2v a i,a2v b i];have h1:=(InR.drop ha i).headD;have h2:=(InR.drop hb i).headD;omega
theorem c8y{a b:List Int}(ha:InR a)(hb:InR b)(hla:a.length<1099511627776)(hlb:b.length<1099511627776):EvF tt 172 [L (ns a),L (ns b)] (B (decide (val a<val b))):=by
 have hal:(ns a).length=a.length:=List.length_map ..;have hbl:(ns b).length=b.length:=List.length_map ..;have e:isub .i64 (imax (((ns a).length:Nat):Int) (((ns b).length:Nat):Int)) 1=((max a.length b.length:Nat):Int)-1:=by
  have:imax (((ns a).length:Nat):Int) (((ns b).length:Nat):Int)=((max a.length b.length:Nat):Int):=by unfold imax;rw [hal,hbl];split<;>omega
  rw [this,a0c (by omega) (by omega)]
 refine evF (eIn Tryz.func172 rfl rfl ?_);refine qL (fun z:Int=> [(5,I z)]) (fun _=> []) (fun z=>∃i:Nat,z=(i:Int)-1/\i<=max a.length b.length/\val (a.drop i)=val (b.drop i)) (fun z=>(z+1).toNat) (isub .i64 (imax (((ns a).length:Nat):Int) (((ns b).length:Nat):Int)) 1) rfl rfl ⟨_,e,Nat.le_refl _,by rw [a2l (by omega),a2l (by omega)]⟩ ?_;rintro z ⟨i,rfl,h1,h2⟩ ih;rcases i with _|i
 ·clear ih;simp only [List.drop_zero]at h2;rw [decide_eq_false (by omega)];refine qN rfl (decide_eq_false (by omega)) ?_;exact qR rfl ⟨rfl,rfl⟩
 have d1:=a6y a i;have d2:=a6y b i;have ez:((i+1:Nat):Int)-1=(i:Int):=by omega
 rw [ez]at ih⊢;have e1:=a2v a i;have e2:=a2v b i;refine qT rfl (decide_eq_true (by omega)) ?_;refine qK rfl d1 rfl ?_;refine qK rfl d2 rfl ?_
 by_cases hd:(a.drop i).headD 0=(b.drop i).headD 0
 ·refine qN rfl (by simpa using hd) ?_;have e3:isub .i64 (i:Int) 1=(i:Int)-1:=a0c (by omega) (by omega);refine qB (ih (isub .i64 (i:Int) 1) ⟨i,e3,by omega,by rw [e1,e2,hd,h2]⟩ (by rw [e3];show((i:Int)-1+1).toNat<((i:Int)+1).toNat;omega)) (by kernel_rfl)
 clear ih;refine qT rfl (by simpa using hd) ?_;refine qK rfl d1 rfl ?_;refine qK rfl d2 rfl ?_;refine qR rfl ⟨congrArg B ?_,rfl⟩
 by_cases hlt:(a.drop i).headD 0<(b.drop i).headD 0
 ·have:=d0l ha hb i (by omega);rw [decide_eq_true hlt,decide_eq_true this]
 have:=d0l hb ha i (by omega);have h3:¬val a<val b:=by omega
 rw [decide_eq_false hlt,decide_eq_false h3]
theorem b1r(l:List Int)(x:Int):ns l++ [N x]=ns (l++ [x]):=by show l.map N++ [_]=(l++ [_]).map N;rw [List.map_append];rfl
theorem e6k{a b:List Int}(ha:InR a)(hb:InR b)(hla:a.length<1073741824)(hlb:b.length<1073741824):EvF tt 124 [L (ns a),L (ns b)] (L (ns (dig (val a+val b).toNat))):=by
 have hal:(ns a).length=a.length:=List.length_map ..;have hbl:(ns b).length=b.length:=List.length_map ..;refine evF (eIn Tryz.func124 rfl rfl ?_);refine qL (fun q:Int×Int×List VT=> [(7,I q.1),(6,I q.2.1)]) (fun q=> [(0,.row 3 1 q.2.2)]) (fun q=>∃(i:Nat)(pre:List Int),q.1=i/\q.2.2=ns pre/\pre.length=i/\InR pre/\0<=q.2.1/\q.2.1<=1/\val pre+pw i*(q.2.1+val (a.drop i)+val (b.drop i))=val a+val b/\(i<=max a.length b.length∨(i=max a.length b.length+1/\q.2.1=0))) (fun q=>max a.length b.length+2-q.1.toNat) (0,0,[]) rfl rfl ⟨0,[],rfl,rfl,rfl,InR.nil,by decide,by decide,by simp [val,pw],.inl (by omega)⟩ ?_;rintro⟨z,c,ts⟩ ⟨i,pre,hz,hts,hp,hpr,h0,h1,hv,hi⟩ ih;obtain rfl:z=i:=hz;obtain rfl:ts=ns pre:=hts;have h0:0<=c:=h0;have h1:c<=1:=h1;have hv:val pre+pw i*(c+val (a.drop i)+val (b.drop i))=val a+val b:=hv;have hi:i<=max a.length b.length∨(i=max a.length b.length+1/\c=0):=hi;have hpl:(ns pre).length=pre.length:=List.length_map ..;have xr:=(InR.drop ha i).headD;have yr:=(InR.drop hb i).headD;have ea:=a2v a i;have eb:=a2v b i;have d1:=a6y a i;have d2:=a6y b i;have hms:max a.length b.length+2-(iadd .i64 (i:Int) 1).toNat<max a.length b.length+2-(i:Int).toNat:=by rw [a0a (by omega)];omega
 have stop:¬(i<a.length∨i<b.length∨0<c)->val pre=val a+val b:=fun h=>by
  rw [a2l (by omega),a2l (by omega)]at hv;rw [<-hv,show c=0 by omega];simp
 have es:iadd .i64 (iadd .i64 ((a.drop i).headD 0) ((b.drop i).headD 0)) c=(a.drop i).headD 0+(b.drop i).headD 0+c:=by rw [a0e (x:=(a.drop i).headD 0) (y:=(b.drop i).headD 0) (by omega) (by omega),a0e (by omega) (by omega)]
 have next:(i<a.length∨i<b.length∨0<c)->∃(j:Nat)(pre':List Int),iadd .i64 (i:Int) 1=j/\ns pre++ [N (((a.drop i).headD 0+(b.drop i).headD 0+c) %1048576)]=ns pre'/\pre'.length=j/\InR pre'/\0<=((a.drop i).headD 0+(b.drop i).headD 0+c)/1048576/\((a.drop i).headD 0+(b.drop i).headD 0+c)/1048576<=1/\val pre'+pw j*(((a.drop i).headD 0+(b.drop i).headD 0+c)/1048576+val (a.drop j)+val (b.drop j))=val a+val b/\(j<=max a.length b.length∨(j=max a.length b.length+1/\((a.drop i).headD 0+(b.drop i).headD 0+c)/1048576=0)):=fun hg=>by
  generalize hx:(a.drop i).headD 0=x at*;generalize hy:(b.drop i).headD 0=y at*;refine⟨i+1,pre++ [(x+y+c) %1048576],a0a (by omega),b1r _ _,by simp [hp],hpr.append (InR.cons (by omega) (by omega) InR.nil),by omega,by omega,?_,?_⟩
  ·rw [val_append,hp];have e3:val [(x+y+c) %1048576]=(x+y+c) %1048576:=by simp [val]
   rw [e3,show pw (i+1)=1048576*pw i from rfl,<-hv,ea,eb];have hdm:x+y+c=(x+y+c) %1048576+1048576*((x+y+c)/1048576):=by omega
   generalize (x+y+c) %1048576=r at*;generalize (x+y+c)/1048576=q at*;generalize val (a.drop (i+1))=A at*;generalize val (b.drop (i+1))=B at*;generalize pw i=p at*;have hc:c=r+1048576*q-x-y:=by omega
   subst hc
   grind
  by_cases g:i<max a.length b.length
  ·left;omega
  right;rw [List.drop_of_length_le (by omega)]at hx hy;simp at hx hy;omega
 have hr:rem (iadd .i64 (iadd .i64 ((a.drop i).headD 0) ((b.drop i).headD 0)) c) 1048576=some (((a.drop i).headD 0+(b.drop i).headD 0+c) %1048576):=by rw [es];exact a9u (by omega) (by decide)
 have hq:quo .i64 (iadd .i64 (iadd .i64 ((a.drop i).headD 0) ((b.drop i).headD 0)) c) 1048576=some (((a.drop i).headD 0+(b.drop i).headD 0+c)/1048576):=by rw [es];exact a8a (by omega) (by omega) (by decide)
 have goon:=fun h:(i<a.length∨i<b.length∨0<c)=>ih (iadd .i64 (i:Int) 1,((a.drop i).headD 0+(b.drop i).headD 0+c)/1048576,ns pre++ [N (((a.drop i).headD 0+(b.drop i).headD 0+c) %1048576)]) (next h) hms;clear ih next;have ht:=fun h=>a4m (l:=pre) hpr (by
  have:=stop h;omega)
 by_cases g1:i<a.length
 ·have g:=goon (.inl g1);clear goon;refine qT rfl (decide_eq_true (by rw [hal];show(i:Int)<_;omega)) ?_;refine qK rfl d1 rfl ?_;refine qK rfl d2 rfl ?_;refine qV rfl hr ?_;refine qA 8 rfl rfl ?_ ?_;rotate_left;refine qV rfl hq ?_;refine qB g (by kernel_rfl);rw [hpl];simp;omega
 refine qN rfl (decide_eq_false (by rw [hal];show¬(i:Int)<_;omega)) ?_
 by_cases g2:i<b.length
 ·have g:=goon (.inr (.inl g2));clear goon;refine qT rfl (decide_eq_true (by rw [hbl];show(i:Int)<_;omega)) ?_;refine qK rfl d1 rfl ?_;refine qK rfl d2 rfl ?_;refine qV rfl hr ?_;refine qA 8 rfl rfl ?_ ?_;rotate_left;refine qV rfl hq ?_;refine qB g (by kernel_rfl);rw [hpl];simp;omega
 refine qN rfl (decide_eq_false (by rw [hbl];show¬(i:Int)<_;omega)) ?_
 by_cases g3:0<c
 ·have g:=goon (.inr (.inr g3));clear goon;refine qT rfl (decide_eq_true g3) ?_;refine qK rfl d1 rfl ?_;refine qK rfl d2 rfl ?_;refine qV rfl hr ?_;refine qA 8 rfl rfl ?_ ?_;rotate_left;refine qV rfl hq ?_;refine qB g (by kernel_rfl);rw [hpl];simp;omega
 have hs:=stop (by omega);have h2:=ht (by omega);rw [hs]at h2;clear goon;refine qN rfl (decide_eq_false g3) ?_;refine qK rfl h2 rfl ?_;exact qR rfl ⟨rfl,rfl⟩
set_option linter.unusedVariables false
set_option maxHeartbeats 4000000
set_option maxRecDepth 100000
theorem c5i{a b:List Int}(ha:InR a)(hb:InR b)(hla:a.length<1073741824)(hlb:b.length<=a.length)(h:val b<=val a):EvF tt 248 [L (ns a),L (ns b)] (L (ns (dig (val a-val b).toNat))):=by
 have hal:(ns a).length=a.length:=List.length_map ..;refine evF (eIn Tryz.func248 rfl rfl ?_);refine qF a.length (fun z q=> [(7,I z),(6,I q.1)]) (fun _ q=> [(0,.row 3 1 q.2)]) (fun i(q:Int×List VT)=>∃pre:List Int,q.2=ns pre/\pre.length=i/\InR pre/\0<=q.1/\q.1<=1/\val pre+pw i*(val (a.drop i)-val (b.drop i)-q.1)=val a-val b) (0,[]) rfl rfl ⟨[],rfl,rfl,InR.nil,by decide,by decide,by simp [val,pw]⟩ ?_;rintro i ⟨c,ts⟩ hi ⟨pre,hts,hp,hpr,h0,h1,hv⟩ ih;obtain rfl:ts=ns pre:=hts;have h0:0<=c:=h0;have h1:c<=1:=h1;have hv:val pre+pw i*(val (a.drop i)-val (b.drop i)-c)=val a-val b:=hv;have hpl:(ns pre).length=pre.length:=List.length_map ..
 by_cases hlt:i<a.length
 ·have hx:=List.getElem?_eq_getElem hlt;have hxm:=List.mem_of_getElem? hx;have hd:=a1p hx;generalize a[i]=x at hx hxm hd;have xr:=ha x hxm;have yr:=(InR.drop hb i).headD;have eb:=a2v b i;have d2:=a6y b i;generalize hy:(b.drop i).headD 0=y at*;have es:isub .i64 (isub .i64 x y) c=x-y-c:=by rw [a0c (x:=x) (y:=y) (by omega) (by omega),a0c (by omega) (by omega)]
  have key:∀(q r:Int),x-y-c=r-1048576*q->0<=q->q<=1->0<=r->r<1048576->∃pre':List Int,ns pre++ [N r]=ns pre'/\pre'.length=i+1/\InR pre'/\0<=q/\q<=1/\val pre'+pw (i+1)*(val (a.drop (i+1))-val (b.drop (i+1))-q)=val a-val b:=by
   intro q r hqr hq0 hq1 hr0 hr1;refine⟨pre++ [r],b1r _ _,by simp [hp],hpr.append (InR.cons hr0 hr1 InR.nil),hq0,hq1,?_⟩;rw [val_append,hp];have e3:val [r]=r:=by simp [val]
   rw [e3,show pw (i+1)=1048576*pw i from rfl,<-hv,eb,hd];simp only [val];generalize val (a.drop (i+1))=A at*;generalize val (b.drop (i+1))=B at*;generalize pw i=p at*;have hc:c=x-y-r+1048576*q:=by omega
   subst hc
   grind
  refine qT rfl (decide_eq_true (by rw [hal];omega)) ?_;refine qXi (g:=N) rfl (by omega) (by rw [Int.toNat_natCast];exact hx) ?_;refine qK rfl d2 rfl ?_
  by_cases hn:x-y-c<0
  ·have k1:=key 1 (x-y-c+1048576) (by omega) (by omega) (by omega) (by omega) (by omega);have g:=ih _ (1,ns pre++ [N (iadd .i64 (isub .i64 (isub .i64 x y) c) 1048576)]) (a0a (by omega)) hlt (by rw [es,a0e (by omega) (by omega)];exact k1);clear ih key;refine qE rfl (by kernel_rfl) (by kernel_rfl) ?_;refine qT rfl (decide_eq_true (by rw [es];exact hn)) ?_;refine qA 8 rfl rfl ?_ ?_;rotate_left;refine qB g (by kernel_rfl);rw [hpl];simp;omega
  have k1:=key 0 (x-y-c) (by omega) (by omega) (by omega) (by omega) (by omega);have g:=ih _ (0,ns pre++ [N (isub .i64 (isub .i64 x y) c)]) (a0a (by omega)) hlt (by rw [es];exact k1);clear ih key;refine qE rfl (by kernel_rfl) (by kernel_rfl) ?_;refine qN rfl (decide_eq_false (by rw [es];exact hn)) ?_;refine qA 8 rfl rfl ?_ ?_;rotate_left;refine qB g (by kernel_rfl);rw [hpl];simp;omega
 clear ih;have hi2:i=a.length:=by omega
 rw [a2l (l:=a) (by omega),a2l (l:=b) (by omega)]at hv;have h2:=val_lt hpr;rw [hp]at h2;have hc:c=0:=by
  rcases(show c=0∨c=1 by omega)with h|h
  ·exact h
  subst h;exfalso;have:pw i*(0-0-1)=-pw i:=by grind
  omega
 have hs:val pre=val a-val b:=by rw [<-hv,hc];simp
 have ht:=a4m hpr (by omega);rw [hs]at ht;refine qN rfl (decide_eq_false (by rw [hal];omega)) ?_;refine qK rfl ht rfl ?_;exact qR rfl ⟨rfl,rfl⟩
theorem d1g(P:List Int)(z:Int)(S:List Int):val (P++z::S)=val P+pw P.length*(z+1048576*val S):=by rw [val_append];rfl
theorem val_zeros:∀k,val (List.replicate k (0:Int))=0
 |0=>rfl
 |k+1=>by rw [List.replicate_succ];simp only [val,val_zeros k];rfl
theorem b9r(k:Nat):InR (List.replicate k (0:Int)):=fun e he=>by rw [(List.mem_replicate.1 he).2];decide
theorem b7a{a b:List Int}(ha:InR a)(hb:InR b)(hla:a.length<536870912)(hlb:b.length<536870912):EvF tt 125 [L (ns a),L (ns b)] (L (ns (dig (val a*val b).toNat))):=by
 have hal:(ns a).length=a.length:=List.length_map ..;have hbl:(ns b).length=b.length:=List.length_map ..;have hab:iadd .i64 (((ns a).length:Nat):Int) (((ns b).length:Nat):Int)=((a.length+b.length:Nat):Int):=by rw [hal,hbl,a0e (by omega) (by omega)];omega
 have hbv:=val_lt hb;have hb0:=val_nonneg hb;refine evF (eIn Tryz.func125 rfl rfl ?_);refine qM 8 rfl rfl ⟨?_,?_⟩ ?_;rotate_left 2
 ·refine qF a.length (fun z _=> [(6,I z)]) (fun _ ts=> [(0,.row 3 1 ts)]) (fun i ts=>∃l:List Int,ts=ns l/\InR l/\l.length=a.length+b.length/\val l<pw (i+b.length)/\val l+pw i*(val (a.drop i)*val b)=val a*val b) (List.replicate (Int.toNat (iadd .i64 (((ns a).length:Nat):Int) (((ns b).length:Nat):Int))) (N 0)) rfl rfl ⟨List.replicate (a.length+b.length) 0,by rw [hab,Int.toNat_natCast];simp,b9r _,by simp,by rw [val_zeros];exact pw_pos _,by rw [val_zeros];simp [pw]⟩ ?_;rintro i ts hi ⟨l,rfl,hl,hlen,hlt,hv⟩ ih;have hll:(ns l).length=l.length:=List.length_map ..
  by_cases hil:i<a.length
  ·have hx:=List.getElem?_eq_getElem hil;have hxm:=List.mem_of_getElem? hx;have hd:=a1p hx;generalize a[i]=x at hx hxm hd;have xr:=ha x hxm;have hpi:=pw_pos i;have hW:val l+pw i*(x*val b)<pw (i+b.length+1):=by
    have h1:x*val b<=1048575*pw b.length:=Int.le_trans (Int.mul_le_mul_of_nonneg_right (show x<=1048575 by omega) hb0) (Int.mul_le_mul_of_nonneg_left (Int.le_of_lt hbv) (by decide));have h2:=Int.mul_le_mul_of_nonneg_left h1 (Int.le_of_lt hpi);rw [c4z]at hlt;rw [show pw (i+b.length+1)=1048576*pw (i+b.length)from rfl,c4z];have h3:pw i*(1048575*pw b.length)=1048575*(pw i*pw b.length):=by grind
    omega
   have hT:val l+pw i*(x*val b)+pw (i+1)*(val (a.drop (i+1))*val b)=val a*val b:=by
    rw [<-hv,hd,show pw (i+1)=1048576*pw i from rfl];simp only [val]
    grind
   generalize hWe:val l+pw i*(x*val b)=W at hW hT;refine qT rfl (decide_eq_true (by rw [hal];omega)) ?_;refine qL (fun q:Int×Int×List VT=> [(8,I q.1),(7,I q.2.1)]) (fun q=> [(0,.row 3 1 q.2.2)]) (fun q=>∃(k:Nat)(l:List Int),q.1=k/\q.2.2=ns l/\InR l/\l.length=a.length+b.length/\0<=q.2.1/\q.2.1<1048576/\val l+pw (i+k)*(q.2.1+x*val (b.drop k))=W/\(k<=b.length∨(k=b.length+1/\q.2.1=0))) (fun q=>b.length+2-q.1.toNat) (0,0,ns l) rfl rfl ⟨0,l,rfl,rfl,hl,hlen,(by show(0:Int)<=0;decide),(by show(0:Int)<1048576;decide),by simp only [Nat.add_zero,List.drop_zero];show val l+pw i*(0+x*val b)=W;rw [Int.zero_add];exact hWe,.inl (by omega)⟩ ?_;clear hll hlen hlt hv hl hWe;rintro⟨z,c,ts⟩ ⟨k,l,hz,hts,hl,hlen,h0,h1,hv,hk⟩ ih2;obtain rfl:z=k:=hz;obtain rfl:ts=ns l:=hts;have h0:0<=c:=h0;have h1:c<1048576:=h1;have hv:val l+pw (i+k)*(c+x*val (b.drop k))=W:=hv;have hk:k<=b.length∨(k=b.length+1/\c=0):=hk;have hll:(ns l).length=l.length:=List.length_map ..;have yr:=(InR.drop hb k).headD;have eb:=a2v b k;have dk:=a6y b k;have hms:b.length+2-(iadd .i64 (k:Int) 1).toNat<b.length+2-(k:Int).toNat:=by rw [a0a (by omega)];omega
   by_cases hgo:k<b.length∨0<c
   ·have hj:i+k<l.length:=by omega
    have ej:iadd .i64 (i:Int) (k:Int)=((i+k:Nat):Int):=by rw [a0e (by omega) (by omega)];omega
    have hsp:l=l.take (i+k)++l[i+k]::l.drop (i+k+1):=by rw [<-List.drop_eq_getElem_cons hj,List.take_append_drop]
    have hPl:(l.take (i+k)).length=i+k:=by simp;omega
    have hz:=List.getElem?_eq_getElem hj;have hzr:=hl l[i+k] (List.getElem_mem hj);have hPr:=InR.take hl (i+k);have hSr:=InR.drop hl (i+k+1);have hlen2:=congrArg List.length hsp;simp only [List.length_append,List.length_cons]at hlen2;generalize l[i+k]=z at*;generalize l.take (i+k)=P at*;generalize l.drop (i+k+1)=S at*;generalize hy:(b.drop k).headD 0=y at*;have hmul:=b3t (g:=x) xr.1 yr.1 yr.2;have em:imul .i64 x y=x*y:=a0s (by omega) (by omega);have es:iadd .i64 (iadd .i64 z (imul .i64 x y)) c=z+x*y+c:=by rw [em,a0e (x:=z) (y:=x*y) (by omega) (by omega),a0e (by omega) (by omega)]
    have hc':(z+x*y+c)/1048576<1048576:=by omega
    have hc0:0<=(z+x*y+c)/1048576:=by omega
    have hnv:val (P++(z+x*y+c) %1048576::S)+pw (i+(k+1))*((z+x*y+c)/1048576+x*val (b.drop (k+1)))=W:=by
     rw [hsp,d1g,hPl]at hv;rw [d1g,hPl,show i+(k+1)=(i+k)+1 by omega,show pw (i+k+1)=1048576*pw (i+k)from rfl,<-hv,eb];have hdm:z+x*y+c=(z+x*y+c) %1048576+1048576*((z+x*y+c)/1048576):=by omega
     generalize (z+x*y+c) %1048576=r at*;generalize (z+x*y+c)/1048576=q at*;generalize val (b.drop (k+1))=B at*;generalize pw (i+k)=p at*;generalize val P=vP at*;generalize val S=vS at*;have hc:c=r+1048576*q-z-x*y:=by omega
     subst hc
     grind
    have hir:InR (P++(z+x*y+c) %1048576::S):=hPr.append (InR.cons (by omega) (by omega) hSr);have hend:k+1<=b.length∨(k+1=b.length+1/\(z+x*y+c)/1048576=0):=by
     by_cases g:k<b.length
     ·left;omega
     right;refine⟨by omega,?_⟩;have hk2:k=b.length:=by omega
     rw [a2l (l:=b) (by omega),Int.mul_zero,Int.add_zero]at hnv;have hnn:=val_nonneg hir;have hp2:=pw_pos (i+(k+1));rw [show i+b.length+1=i+(k+1) by omega]at hW;generalize val (P++(z+x*y+c) %1048576::S)=vv at*;have hq0:0<=(z+x*y+c)/1048576:=by omega
     generalize (z+x*y+c)/1048576=q at*;rcases(show q=0∨1<=q by omega)with h|h
     ·exact h
     exfalso;have:=Int.mul_le_mul_of_nonneg_left h (Int.le_of_lt hp2);rw [Int.mul_one]at this;omega
    have hr:rem (iadd .i64 (iadd .i64 z (imul .i64 x y)) c) 1048576=some ((z+x*y+c) %1048576):=by rw [es];exact a9u (by omega) (by decide)
    have hq:quo .i64 (iadd .i64 (iadd .i64 z (imul .i64 x y)) c) 1048576=some ((z+x*y+c)/1048576):=by rw [es];exact a8a (by omega) (by omega) (by decide)
    have hset:(ns l).set (Int.toNat (iadd .i64 (i:Int) (k:Int))) (N ((z+x*y+c) %1048576))=ns (P++(z+x*y+c) %1048576::S):=by
     rw [ej,Int.toNat_natCast,<-List.map_set,hsp,<-hPl,List.set_append_right _ _ (Nat.le_refl _),Nat.sub_self];rfl
    have g:=ih2 (iadd .i64 (k:Int) 1,(z+x*y+c)/1048576,(ns l).set (Int.toNat (iadd .i64 (i:Int) (k:Int))) (N ((z+x*y+c) %1048576))) ⟨k+1,P++(z+x*y+c) %1048576::S,a0a (by omega),hset,hir,by simp only [List.length_append,List.length_cons];omega,hc0,hc',hnv,hend⟩ hms;clear ih ih2 hend
    by_cases g1:k<b.length
    ·refine qT rfl (decide_eq_true (by rw [hbl];show(k:Int)<_;omega)) ?_;refine qXi (g:=N) rfl (by rw [ej];omega) (by rw [ej,Int.toNat_natCast];exact hz) ?_;refine qXi (g:=N) rfl (by omega) (by rw [Int.toNat_natCast];exact hx) ?_;refine qK rfl dk rfl ?_;refine qE rfl (by kernel_rfl) (by kernel_rfl) ?_;refine qV rfl hr ?_;refine qXi (g:=N) rfl (by rw [ej];omega) (by rw [ej,Int.toNat_natCast];exact hz) ?_;refine qV rfl hq ?_;exact qB g (by kernel_rfl)
    refine qN rfl (decide_eq_false (by rw [hbl];show¬(k:Int)<_;omega)) ?_;refine qT rfl (decide_eq_true (by show 0<c;omega)) ?_;refine qXi (g:=N) rfl (by rw [ej];omega) (by rw [ej,Int.toNat_natCast];exact hz) ?_;refine qXi (g:=N) rfl (by omega) (by rw [Int.toNat_natCast];exact hx) ?_;refine qK rfl dk rfl ?_;refine qE rfl (by kernel_rfl) (by kernel_rfl) ?_;refine qV rfl hr ?_;refine qXi (g:=N) rfl (by rw [ej];omega) (by rw [ej,Int.toNat_natCast];exact hz) ?_;refine qV rfl hq ?_;exact qB g (by kernel_rfl)
   have hvW:val l=W:=by
    rw [a2l (by omega)]at hv;rw [<-hv,show c=0 by omega];simp
   have g:=ih (iadd .i64 (i:Int) 1) (ns l) (a0a (by omega)) hil ⟨l,rfl,hl,hlen,by rw [hvW,show i+1+b.length=i+b.length+1 by omega];exact hW,by rw [hvW];exact hT⟩;clear ih ih2;refine qN rfl (decide_eq_false (by rw [hbl];show¬(k:Int)<_;omega)) ?_;refine qN rfl (decide_eq_false (by show¬0<c;omega)) ?_;exact qB g (by kernel_rfl)
  clear ih;have hvT:val l=val a*val b:=by
   rw [a2l (l:=a) (by omega)]at hv;rw [<-hv];simp
  have ht:=a4m hl (by omega);rw [hvT]at ht;refine qN rfl (decide_eq_false (by rw [hal];omega)) ?_;refine qK rfl ht rfl ?_;exact qR rfl ⟨rfl,rfl⟩
 ·rw [hab];omega
 rw [hab];omega
set_option linter.unusedVariables false
set_option maxHeartbeats 8000000
set_option maxRecDepth 100000
def reh(s:St):St:=match s.its with
 | .loop _ live::_=>match c9g 0 live s.env s.H with
   |some (e,H)=>⟨s.ctl,s.its,e,H⟩
   |none=>s
 |_=>s
theorem qLb{P:Program}{T:Ty P}{fr:Fr}{s:St}{Q:DV->DH->Prop}{σ:Type}(δ:σ->List (Nat×DV))(J:σ->Prop)(μ:σ->Nat)(x0:σ){s1:St}(h:rnA T fr 2000 s= .head s1)(h0:upS s1 (δ x0) []=s1)(j0:J x0)
 (hk:∀(b:Bool)(x:σ),(b=true->x=x0)->J x->(∀y,J y->μ y<μ x->Tt T fr (upS (reh s1) (δ y) []) Q)->Tt T fr (nrm (upS (match b with|true=>s1|false=>reh s1) (δ x) [])) Q):Tt T fr s Q:=by
 simp only [c0c]at hk;have key:∀m x,J x->μ x<m->Tt T fr (upS (reh s1) (δ x) []) Q:=by
  intro m;induction m with
  |zero=>intro x _ hx;omega
  |succ m ih=>intro x jx hx;exact hk false x (fun h=>by cases h) jx fun y jy hy=>ih y jy (by omega)
 refine tH h ?_;rw [<-h0];exact hk true x0 (fun _=>rfl) j0 fun y jy _=>key _ y jy (Nat.lt_succ_self _)
theorem b9b{x H b:Nat}(hb:0<b):(x+1048576*H)/b=1048576*(H/b)+(x+1048576*(H %b))/b/\(x+1048576*H) %b=(x+1048576*(H %b)) %b:=by
 have h1:=Nat.div_add_mod H b;have e:x+1048576*H=(x+1048576*(H %b))+b*(1048576*(H/b)):=by
  generalize H/b=q at*;generalize H %b=r at*;rw [<-h1]
  grind
 rw [e,Nat.add_mul_div_left _ _ hb,Nat.add_mul_mod_self_left];omega
theorem b4h{v:Nat}(h:v<1048576):(dig v).length<=1:=by
 have h1:Sm 1 (v:Int):=by unfold Sm;rw [Int.natAbs_natCast,show pw 1=1048576 by decide];omega
 have:=a0d h1
 rwa [Int.natAbs_natCast]at this
structure Rnd(a:List Int)(b i H X R:Nat):Prop where
 x:a[i]?=some (X:Int)
 xr:X<1048576
 r:R=X+1048576*(H %b)
 tr:EvF tt 126 [L (ns ((X:Int)::dig (H %b)))] (L (ns (dig R)))
 rl:(dig (H %b)).length<=(dig b).length
 len:(dig R).length<=(dig b).length+1
 lo:R/b<1048576
 hi:R<1048576*b
 dv:(X+1048576*H)/b=1048576*(H/b)+R/b
 md:(X+1048576*H) %b=R %b
 up:val (a.drop i)=((X+1048576*H:Nat):Int)
theorem rnd{a:List Int}{b i H:Nat}(ha:InR a)(hb:0<b)(hlb:(dig b).length<536870800)(hi:i<a.length)(hH:val (a.drop (i+1))=H):∃X R,Rnd a b i H X R:=by
 have hx:=List.getElem?_eq_getElem hi;have hxr:=ha a[i] (List.getElem_mem hi);have hvd:=a2v a i;rw [List.drop_eq_getElem_cons hi]at hvd;simp only [List.headD_cons]at hvd;rw [<-List.drop_eq_getElem_cons hi]at hvd;generalize a[i]=x at*;obtain⟨X,rfl⟩:=Int.eq_ofNat_of_zero_le hxr.1;have hmod:=Nat.mod_lt H hb;have hlr:=a0m (Nat.le_of_lt hmod);obtain⟨s1,s2⟩:=b9b (x:=X) (H:=H) hb;have hr':X+1048576*(H %b)<1048576*b:=by omega
 have hvl:val ((X:Int)::dig (H %b))=((X+1048576*(H %b):Nat):Int):=by simp only [val,a0h];omega
 have hin:InR ((X:Int)::dig (H %b)):=InR.cons hxr.1 hxr.2 (a0i _);have htr:=a4m hin (by simp only [List.length_cons];omega);rw [hvl,Int.toNat_natCast]at htr;refine⟨X,_,hx,by omega,rfl,htr,hlr,?_,?_,hr',s1,s2,by rw [hvd,hH];omega⟩
 ·have h1:=a9r hin;rw [hvl,Int.toNat_natCast]at h1;simp only [List.length_cons]at h1;omega
 rw [Nat.div_lt_iff_lt_mul hb];omega
theorem e8z{b mid R:Nat}(hb:0<b)(hlb:(dig b).length<536870800)(hm:mid<1048576)(hR:(dig R).length<=(dig b).length+1):EvF tt 125 [L (ns (dig b)),L [N (mid:Int)]] (L (ns (dig (b*mid))))/\EvF tt 172 [L (ns (dig R)),L (ns (dig (b*mid)))] (B (decide (R<b*mid))):=by
 have hv:val [(mid:Int)]=mid:=by simp [val]
 have h1:=b7a (a0i b) (InR.cons (show 0<=(mid:Int) by omega) (show(mid:Int)<1048576 by omega) InR.nil) (by omega) (by simp);rw [hv,a0h,<-Int.natCast_mul,Int.toNat_natCast]at h1;have hbm:(dig (b*mid)).length<=(dig b).length+1:=by
  have hs1:Sm (dig b).length (b:Int):=a0n (by rw [Int.natAbs_natCast];exact Nat.le_refl _);have hs2:Sm 1 (mid:Int):=by unfold Sm;rw [Int.natAbs_natCast,show pw 1=1048576 by decide];omega
  have:=a0d (hs1.mul hs2)
  rwa [<-Int.natCast_mul,Int.natAbs_natCast]at this
 have h2:=c8y (a0i R) (a0i (b*mid)) (by omega) (by omega);rw [a0h,a0h]at h2;refine⟨h1,?_⟩
 by_cases h:R<b*mid
 ·rw [decide_eq_true h];rw [decide_eq_true (by omega)]at h2;exact h2
 rw [decide_eq_false h];rw [decide_eq_false (by omega)]at h2;exact h2
theorem d9y{b R:Nat}(hb:0<b)(hlb:(dig b).length<536870800)(hL:R/b<1048576)(hR:(dig R).length<=(dig b).length+1):EvF tt 126 [L [N ((R/b:Nat):Int)]] (L (ns (dig (R/b))))/\EvF tt 125 [L (ns (dig b)),L (ns (dig (R/b)))] (L (ns (dig (b*(R/b)))))/\EvF tt 248 [L (ns (dig R)),L (ns (dig (b*(R/b))))] (L (ns (dig (R %b)))):=by
 have h1:=a4m (l:= [((R/b:Nat):Int)]) (InR.cons (Int.natCast_nonneg _) (Int.ofNat_lt.2 hL) InR.nil) (by simp);have hv:val [((R/b:Nat):Int)]=((R/b:Nat):Int):=by simp [val]
 rw [hv,Int.toNat_natCast]at h1;have hl1:=b4h hL;have h2:=b7a (a0i b) (a0i (R/b)) (by omega) (by omega);rw [a0h,a0h,<-Int.natCast_mul,Int.toNat_natCast]at h2;have hle:b*(R/b)<=R:=Nat.mul_div_le R b;have h3:=c5i (a0i R) (a0i (b*(R/b))) (by omega) (a0m hle) (by rw [a0h,a0h];omega);rw [a0h,a0h,show(((R:Nat):Int)-((b*(R/b):Nat):Int)).toNat=R %b by have:=Nat.div_add_mod R b;omega]at h3;exact⟨h1,h2,h3⟩
theorem c9m(i:Nat)(qs:List Int):ix (ns (List.replicate (i+1) 0++qs)) (i:Int)=some (N 0):=by
 have hl:(ns (List.replicate (i+1) 0++qs)).length=i+1+qs.length:=by rw [List.length_map];simp
 unfold ix;rw [if_pos (by omega),Int.toNat_natCast,List.getElem?_map,List.getElem?_append_left (by simp)];simp
theorem d0b{A b:Nat}(hb:0<b)(hla:(dig A).length<536870800)(hlb:(dig b).length<536870800):EvF tt 198 [L (ns (dig A)),L (ns (dig b))] (.tup [L (ns (dig (A/b))),L (ns (dig (A %b)))]):=by
 have ha:=a0i A;have hva:(val (dig A)).toNat=A:=by rw [a0h,Int.toNat_natCast]
 generalize hae:dig A=a at*;have hal:(ns a).length=a.length:=List.length_map ..;refine evF (eIn Tryz.func198 rfl rfl ?_);have hqM:0<=(((ns a).length:Nat):Int)/\(Int.toNat (((ns a).length:Nat):Int))*8<=140737488355328:=by omega
 refine qM 8 rfl rfl hqM ?_
 by_cases h0:a.length=0
 ·have hA0:A=0:=by rw [<-hva,List.eq_nil_of_length_eq_zero h0];rfl
  have ht:=a4m (l:=List.replicate (Int.toNat (((ns a).length:Nat):Int)) 0) (b9r _) (by simp;omega);rw [val_zeros,Int.toNat_zero,dig_zero,show ns (List.replicate (Int.toNat (((ns a).length:Nat):Int)) 0)=List.replicate (Int.toNat (((ns a).length:Nat):Int)) (N 0)from List.map_replicate ..]at ht;rw [hA0,Nat.zero_div,Nat.zero_mod,dig_zero];refine qB ?_ rfl;refine qI ?_;refine qN rfl (decide_eq_false (by rw [hal,h0];decide)) ?_;refine qK rfl ht rfl ?_;exact qR rfl ⟨rfl,rfl⟩
 obtain⟨i,hie⟩:∃i,a.length=i+1:=⟨a.length-1,by omega⟩
 have e1:isub .i64 (((ns a).length:Nat):Int) 1=(i:Int):=by rw [hal,a0c (by omega) (by omega)];omega
 have hi:i<a.length:=by omega
 obtain⟨H,hH0⟩:∃H:Nat,H=0:=⟨0,rfl⟩
 have hH:val (a.drop (i+1))=H:=by rw [a2l (by omega),hH0];rfl
 obtain⟨qs,hqs0⟩:∃qs:List Int,qs= []:=⟨[],rfl⟩
 have hqv:val qs=((H/b:Nat):Int):=by rw [hqs0,hH0,Nat.zero_div];rfl
 have hts:List.replicate (Int.toNat (((ns a).length:Nat):Int)) (N 0)=ns (List.replicate (i+1) 0++qs):=by rw [hal,hqs0,List.append_nil,hie,Int.toNat_natCast];exact(List.map_replicate ..).symm
 refine qB ?_ rfl;refine qI ?_;obtain⟨X,R,hx,hxr,hRd,htr,hrl,hlen,hlo,hhi,hdv,hmd,hup⟩:=rnd ha hb hlb hi hH;refine qT rfl (decide_eq_true (by rw [e1];omega)) ?_;refine qXi (g:=N) rfl (by rw [e1];omega) (by rw [e1,Int.toNat_natCast];exact hx) ?_;refine qAz 8 (ns ((X:Int)::dig (H %b))) rfl rfl (by rw [hH0,Nat.zero_mod,dig_zero];rfl) rfl (by simp) ?_;refine qK rfl htr rfl ?_;have hb0:0*b<=R:=by omega
 refine qLb (fun q:Int×Int=> [(9,I q.1),(10,I q.2)]) (fun q=>∃lo up:Nat,q.1=lo/\q.2=up/\lo<up/\up<=1048576/\lo*b<=R/\R<up*b) (fun q=>(q.2-q.1).toNat) (0,1048576) rfl rfl ⟨0,1048576,rfl,rfl,by decide,by decide,hb0,hhi⟩ ?_;rintro bb ⟨zl,zu⟩ hbb ⟨lo,up,hzl,hzu,u1,u2,u3,u4⟩ ih2;obtain rfl:zl=lo:=hzl;obtain rfl:zu=up:=hzu;have es:isub .i64 (up:Int) (lo:Int)=(up:Int)-lo:=a0c (by omega) (by omega)
 by_cases hg:1<up-lo
 ·have hmlt:(lo+up)/2<1048576:=by omega
  have hq:quo .i64 (iadd .i64 (lo:Int) (up:Int)) 2=some (((lo+up)/2:Nat):Int):=by
   rw [a0e (by omega) (by omega),a8a (by omega) (by omega) (by decide)]
   congr 1
  have m1:lo<(lo+up)/2:=by omega
  have m2:(lo+up)/2<up:=by omega
  generalize (lo+up)/2=mid at*;obtain⟨t1,t2⟩:=e8z (mid:=mid) hb hlb hmlt hlen
  by_cases hl:R<b*mid
  ·rw [decide_eq_true hl]at t2;have g:=ih2 ((lo:Int),(mid:Int)) ⟨lo,mid,rfl,rfl,m1,by omega,u3,by rw [Nat.mul_comm];exact hl⟩ (by show((mid:Int)-lo).toNat<((up:Int)-lo).toNat;omega);clear ih2;cases bb;all_goals
    refine qT rfl (decide_eq_true (by show 1<isub .i64 (up:Int) (lo:Int);rw [es];omega)) ?_;refine qV rfl hq ?_;refine qK rfl t1 rfl ?_;refine qK rfl t2 rfl ?_;refine qT rfl rfl ?_;exact qB g (by kernel_rfl)
  rw [decide_eq_false hl]at t2;have g:=ih2 ((mid:Int),(up:Int)) ⟨mid,up,rfl,rfl,m2,u2,by rw [Nat.mul_comm];omega,u4⟩ (by show((up:Int)-mid).toNat<((up:Int)-lo).toNat;omega);clear ih2;cases bb;all_goals
   refine qT rfl (decide_eq_true (by show 1<isub .i64 (up:Int) (lo:Int);rw [es];omega)) ?_;refine qV rfl hq ?_;refine qK rfl t1 rfl ?_;refine qK rfl t2 rfl ?_;refine qN rfl rfl ?_;exact qB g (by kernel_rfl)
 clear ih2;obtain rfl:up=lo+1:=by omega
 have hLo:lo=R/b:=(Nat.div_eq_of_lt_le u3 u4).symm;obtain⟨l1,l2,l3⟩:=d9y hb hlb hlo hlen;rw [<-hLo]at l1 l2 l3 hlo hdv;have hset:(List.replicate (Int.toNat (((ns a).length:Nat):Int)) (N 0)).set (Int.toNat (isub .i64 (((ns a).length:Nat):Int) 1)) (N (lo:Int))=ns (List.replicate i 0++(lo:Int)::qs):=by
  rw [e1,hts,Int.toNat_natCast,<-List.map_set,List.replicate_succ',List.append_assoc,List.set_append_right _ _ (by simp),List.length_replicate,Nat.sub_self];rfl
 have hnv:val ((lo:Int)::qs)=(((X+1048576*H)/b:Nat):Int):=by
  rw [hdv];simp only [val];rw [hqv];omega
 obtain rfl:bb=false:=by
  cases bb with
  |false=>rfl
  |true=>
   have:=hbb rfl;simp only [Prod.mk.injEq]at this;omega
 refine qN rfl (decide_eq_false (by show¬1<isub .i64 ((lo+1:Nat):Int) (lo:Int);rw [es];omega)) ?_;have hix:ix (List.replicate (Int.toNat (((ns a).length:Nat):Int)) (N 0)) (isub .i64 (((ns a).length:Nat):Int) 1)=some (N 0):=by rw [e1,hts];exact c9m i qs
 refine qV rfl hix ?_;refine qK rfl l1 rfl ?_;refine qK rfl l2 rfl ?_;refine qK rfl l3 rfl ?_;refine qL (fun q:Int×List VT×List VT=> [(8,I q.1),(7,L q.2.1)]) (fun q=> [(0,.row 3 1 q.2.2)]) (fun q=>∃(i H:Nat)(qs:List Int),q.1=(i:Int)-1/\i<=a.length/\val (a.drop i)=H/\q.2.1=ns (dig (H %b))/\q.2.2=ns (List.replicate i 0++qs)/\InR qs/\qs.length=a.length-i/\val qs=((H/b:Nat):Int)) (fun q=>(q.1+1).toNat) (isub .i64 (isub .i64 (((ns a).length:Nat):Int) 1) 1,ns (dig (R %b)),(List.replicate (Int.toNat (((ns a).length:Nat):Int)) (N 0)).set (Int.toNat (isub .i64 (((ns a).length:Nat):Int) 1)) (N (lo:Int))) rfl rfl ⟨i,X+1048576*H,(lo:Int)::qs,by rw [e1];exact a0c (by omega) (by omega),by omega,hup,by rw [hmd],hset,InR.cons (by omega) (by omega) (by rw [hqs0];exact InR.nil),by rw [hqs0];simp;omega,hnv⟩ ?_;clear hset hnv hup hmd hdv l1 l2 l3 u1 u2 u3 u4 hLo hlo hhi hlen htr hRd hxr hx hts hqv hH es hb0;clear hi e1 hie hqs0 hH0;rintro⟨z,rs,ts⟩ ⟨i,H,qs,hz,hi,hH,hrs,hts,hq,hql,hqv⟩ ih;have hrs2:rs=ns (dig (H %b)):=hrs;have hts2:ts=ns (List.replicate i 0++qs):=hts;clear hrs hts;obtain rfl:z=(i:Int)-1:=hz;rcases i with _|i
 ·clear ih;have hHA:H=A:=by rw [List.drop_zero]at hH;rw [<-hva,hH,Int.toNat_natCast]
  have ht:=a4m hq (by omega);rw [hqv,hHA,Int.toNat_natCast]at ht;rw [List.replicate_zero,List.nil_append]at hts2;rw [hHA]at hrs2;subst hts2 hrs2;refine qN rfl (decide_eq_false (by show¬(0:Int)<=((0:Nat):Int)-1;omega)) ?_;refine qK rfl ht rfl ?_;exact qR rfl ⟨rfl,rfl⟩
 have ez:((i+1:Nat):Int)-1=(i:Int):=by omega
 rw [ez]at ih⊢;have hi:i<a.length:=by omega
 have e1:(i:Int)=(i:Int):=rfl;obtain⟨X,R,hx,hxr,hRd,htr,hrl,hlen,hlo,hhi,hdv,hmd,hup⟩:=rnd ha hb hlb hi hH;refine qT rfl (decide_eq_true (by rw [e1];omega)) ?_;refine qXi (g:=N) rfl (by rw [e1];omega) (by rw [e1,Int.toNat_natCast];exact hx) ?_;refine qAz 8 (ns ((X:Int)::dig (H %b))) rfl rfl (by show [N (X:Int)]++rs=_;rw [hrs2];rfl) (by show szOk 1 rs=true;rw [hrs2];exact a2r _) (by show(1+rs.length)*8<=_;rw [hrs2,List.length_map];omega) ?_;refine qK rfl htr rfl ?_;have hb0:0*b<=R:=by omega
 refine qLb (fun q:Int×Int=> [(9,I q.1),(10,I q.2)]) (fun q=>∃lo up:Nat,q.1=lo/\q.2=up/\lo<up/\up<=1048576/\lo*b<=R/\R<up*b) (fun q=>(q.2-q.1).toNat) (0,1048576) rfl rfl ⟨0,1048576,rfl,rfl,by decide,by decide,hb0,hhi⟩ ?_;rintro bb ⟨zl,zu⟩ hbb ⟨lo,up,hzl,hzu,u1,u2,u3,u4⟩ ih2;obtain rfl:zl=lo:=hzl;obtain rfl:zu=up:=hzu;have es:isub .i64 (up:Int) (lo:Int)=(up:Int)-lo:=a0c (by omega) (by omega)
 by_cases hg:1<up-lo
 ·have hmlt:(lo+up)/2<1048576:=by omega
  have hq:quo .i64 (iadd .i64 (lo:Int) (up:Int)) 2=some (((lo+up)/2:Nat):Int):=by
   rw [a0e (by omega) (by omega),a8a (by omega) (by omega) (by decide)]
   congr 1
  have m1:lo<(lo+up)/2:=by omega
  have m2:(lo+up)/2<up:=by omega
  generalize (lo+up)/2=mid at*;obtain⟨t1,t2⟩:=e8z (mid:=mid) hb hlb hmlt hlen
  by_cases hl:R<b*mid
  ·rw [decide_eq_true hl]at t2;have g:=ih2 ((lo:Int),(mid:Int)) ⟨lo,mid,rfl,rfl,m1,by omega,u3,by rw [Nat.mul_comm];exact hl⟩ (by show((mid:Int)-lo).toNat<((up:Int)-lo).toNat;omega);clear ih2 ih;cases bb;all_goals
    refine qT rfl (decide_eq_true (by show 1<isub .i64 (up:Int) (lo:Int);rw [es];omega)) ?_;refine qV rfl hq ?_;refine qK rfl t1 rfl ?_;refine qK rfl t2 rfl ?_;refine qT rfl rfl ?_;exact qB g (by kernel_rfl)
  rw [decide_eq_false hl]at t2;have g:=ih2 ((mid:Int),(up:Int)) ⟨mid,up,rfl,rfl,m2,u2,by rw [Nat.mul_comm];omega,u4⟩ (by show((up:Int)-mid).toNat<((up:Int)-lo).toNat;omega);clear ih2 ih;cases bb;all_goals
   refine qT rfl (decide_eq_true (by show 1<isub .i64 (up:Int) (lo:Int);rw [es];omega)) ?_;refine qV rfl hq ?_;refine qK rfl t1 rfl ?_;refine qK rfl t2 rfl ?_;refine qN rfl rfl ?_;exact qB g (by kernel_rfl)
 clear ih2;obtain rfl:up=lo+1:=by omega
 have hLo:lo=R/b:=(Nat.div_eq_of_lt_le u3 u4).symm;obtain⟨l1,l2,l3⟩:=d9y hb hlb hlo hlen;rw [<-hLo]at l1 l2 l3 hlo hdv;have hset:(ts).set (Int.toNat (i:Int)) (N (lo:Int))=ns (List.replicate i 0++(lo:Int)::qs):=by
  rw [e1,hts2,Int.toNat_natCast,<-List.map_set,List.replicate_succ',List.append_assoc,List.set_append_right _ _ (by simp),List.length_replicate,Nat.sub_self];rfl
 have hnv:val ((lo:Int)::qs)=(((X+1048576*H)/b:Nat):Int):=by
  rw [hdv];simp only [val];rw [hqv];omega
 obtain rfl:bb=false:=by
  cases bb with
  |false=>rfl
  |true=>
   have:=hbb rfl;simp only [Prod.mk.injEq]at this;omega
 refine qN rfl (decide_eq_false (by show¬1<isub .i64 ((lo+1:Nat):Int) (lo:Int);rw [es];omega)) ?_;have hix:ix (ts) (i:Int)=some (N 0):=by rw [e1,hts2];exact c9m i qs
 refine qV rfl hix ?_;refine qK rfl l1 rfl ?_;refine qK rfl l2 rfl ?_;refine qK rfl l3 rfl ?_;exact qB (ih (isub .i64 (i:Int) 1,ns (dig (R %b)),ts.set (Int.toNat (i:Int)) (N (lo:Int))) ⟨i,X+1048576*H,(lo:Int)::qs,a0c (by omega) (by omega),by omega,hup,by rw [hmd],hset,InR.cons (by omega) (by omega) hq,by simp;omega,hnv⟩ (by rw [show isub .i64 (i:Int) 1=(i:Int)-1 from a0c (by omega) (by omega)];show((i:Int)-1+1).toNat<((i:Int)+1).toNat;omega)) (by kernel_rfl)
set_option linter.unusedVariables false
set_option maxHeartbeats 8000000
set_option maxRecDepth 100000
theorem b5p{a:Big}(hl:a.Digits.length<1099511627776):EvF tt 135 [.v (eB a)] (B (a1f a)):=by
 obtain⟨s,l⟩:=a;have hl:l.length<1099511627776:=hl;have hll:(ns l).length=l.length:=List.length_map ..;refine evF (eIn Tryz.func135 rfl rfl ?_);have hrb:a1f ⟨s,l⟩=(l.all okd&&(if l= []then s==0 else(s==1||s==-1)&&(l.getLast?.getD 0 !=0))):=rfl;refine qF l.length (fun z _=> [(3,I z)]) (fun _ _=> []) (fun j(_:Unit)=>l.all okd=(l.drop j).all okd) () rfl rfl rfl ?_;rintro j ⟨⟩ hj hq ih
 by_cases hlt:j<l.length
 ·have hx:=List.getElem?_eq_getElem hlt;have hd:=a1p hx;generalize l[j]=x at hx hd;rw [hd,List.all_cons]at hq;refine qT rfl (decide_eq_true (by rw [hll];omega)) ?_;refine qXi (g:=N) rfl (by omega) (by rw [Int.toNat_natCast];exact hx) ?_
  by_cases h1:x<0
  ·have:a1f ⟨s,l⟩=false:=by rw [hrb,hq];simp [okd];omega
   rw [this];clear ih;refine qT rfl (decide_eq_true h1) ?_;exact qR rfl ⟨rfl,rfl⟩
  refine qN rfl (decide_eq_false h1) ?_;refine qXi (g:=N) rfl (by omega) (by rw [Int.toNat_natCast];exact hx) ?_
  by_cases h2:1048576<=x
  ·have:a1f ⟨s,l⟩=false:=by rw [hrb,hq];simp [okd];omega
   rw [this];clear ih;refine qT rfl (decide_eq_true h2) ?_;exact qR rfl ⟨rfl,rfl⟩
  refine qN rfl (decide_eq_false h2) ?_;refine qB (ih _ () (a0a (by omega)) hlt (by rw [hq];simp [okd];omega)) (by kernel_rfl)
 clear ih;have hall:l.all okd=true:=by rw [hq,List.drop_of_length_le (by omega)];rfl
 rw [hrb,hall,Bool.true_and];refine qN rfl (decide_eq_false (by rw [hll];omega)) ?_;rcases List.eq_nil_or_concat l with rfl|⟨p,d,hc⟩
 ·rw [if_pos rfl]
  by_cases h1:s< -1
  ·rw [show(s==0)=false by simp;omega];refine qT rfl (decide_eq_true h1) ?_;exact qR rfl ⟨rfl,rfl⟩
  refine qN rfl (decide_eq_false h1) ?_
  by_cases h2:1<s
  ·rw [show(s==0)=false by simp;omega];refine qT rfl (decide_eq_true h2) ?_;exact qR rfl ⟨rfl,rfl⟩
  refine qN rfl (decide_eq_false h2) ?_;have h3:s=-1∨s=0∨s=1:=by omega
  rcases h3 with rfl|rfl|rfl
  ·refine qT rfl rfl ?_;exact qR rfl ⟨rfl,rfl⟩
  ·refine qN rfl rfl ?_;refine qT rfl rfl ?_;exact qR rfl ⟨rfl,rfl⟩
  refine qT rfl rfl ?_;exact qR rfl ⟨rfl,rfl⟩
 rw [List.concat_eq_append]at hc;have hne:l≠ []:=by rw [hc];simp
 have hlp:l.length=p.length+1:=by rw [hc];simp
 have hx:l[p.length]?=some d:=by rw [hc,List.getElem?_append_right (Nat.le_refl _)];simp
 have hg:l.getLast?.getD 0=d:=by rw [hc];simp
 have e1:isub .i64 (((ns l).length:Nat):Int) 1=(p.length:Int):=by rw [hll,a0c (by omega) (by omega)];omega
 have e0:((((ns l).length:Nat):Int)==0)=false:=by rw [hll,hlp];exact beq_false_of_ne (by omega)
 rw [if_neg hne,hg]
 by_cases h1:s< -1
 ·rw [show(s==1||s==-1)=false by simp;omega,Bool.false_and];refine qT rfl (decide_eq_true h1) ?_;exact qR rfl ⟨rfl,rfl⟩
 refine qN rfl (decide_eq_false h1) ?_
 by_cases h2:1<s
 ·rw [show(s==1||s==-1)=false by simp;omega,Bool.false_and];refine qT rfl (decide_eq_true h2) ?_;exact qR rfl ⟨rfl,rfl⟩
 refine qN rfl (decide_eq_false h2) ?_;have h3:s=-1∨s=0∨s=1:=by omega
 rcases h3 with rfl|rfl|rfl
 ·refine qN rfl (by show(!((((ns l).length:Nat):Int)==0)==((-1:Int)==0))=false;rw [e0];rfl) ?_;refine qN rfl e0 ?_;refine qXi (g:=N) rfl (by show 0<=isub .i64 (((ns l).length:Nat):Int) 1;rw [e1];omega) (by show l[(isub .i64 (((ns l).length:Nat):Int) 1).toNat]?=_;rw [e1,Int.toNat_natCast];exact hx) ?_;exact qR rfl ⟨rfl,rfl⟩
 ·refine qT rfl (by show(!((((ns l).length:Nat):Int)==0)==((0:Int)==0))=true;rw [e0];rfl) ?_;exact qR rfl ⟨rfl,rfl⟩
 refine qN rfl (by show(!((((ns l).length:Nat):Int)==0)==((1:Int)==0))=false;rw [e0];rfl) ?_;refine qN rfl e0 ?_;refine qXi (g:=N) rfl (by show 0<=isub .i64 (((ns l).length:Nat):Int) 1;rw [e1];omega) (by show l[(isub .i64 (((ns l).length:Nat):Int) 1).toNat]?=_;rw [e1,Int.toNat_natCast];exact hx) ?_;exact qR rfl ⟨rfl,rfl⟩
theorem a3m{x:Int}{k:Nat}(h:Sm k x)(hk:k<1099511627776):EvF tt 135 [.v (eB (toB x))] (B true):=by
 have:=b5p (a:=toB x) (by have:=a0d h;show(dig x.natAbs).length<_;omega)
 rwa [a4y]at this
theorem e2l(a b:Big)(hl:a.Digits.length<1099511627776):EvF tt 171 [.v (eB a),.v (eB b)] (B (decide (a=b))):=by
 obtain⟨s,x⟩:=a;obtain⟨t,y⟩:=b;have hl:x.length<1099511627776:=hl;refine evF (eIn Tryz.func171 rfl rfl ?_)
 by_cases h1:s=t
 ·subst h1;refine qN rfl (by simp) ?_
  by_cases h2:x.length=y.length
  ·refine qN rfl (by simp [h2]) ?_;refine qF x.length (fun z _=> [(5,I z)]) (fun _ _=> []) (fun j(_:Unit)=>x.take j=y.take j) () rfl rfl rfl ?_;rintro j ⟨⟩ hj hsame ih
   by_cases hlt:j<x.length
   ·have hx:=List.getElem?_eq_getElem hlt;have hy:=List.getElem?_eq_getElem (show j<y.length by omega);generalize x[j]=u at hx;generalize y[j]=v at hy;refine qT rfl (decide_eq_true (by rw [List.length_map];show(j:Int)<(x.length:Int);omega)) ?_;refine qXi rfl (by omega) hx ?_;refine qXi rfl (by omega) hy ?_;refine qE rfl (by kernel_rfl) (by kernel_rfl) ?_
    by_cases h3:u=v
    ·subst h3;refine qN rfl (by simp) ?_;refine qB (ih _ () (a0a (by omega)) hlt (by rw [a1h hx,a1h hy,hsame])) (by kernel_rfl)
    refine qT rfl (by simpa using h3) ?_;refine qR rfl ⟨congrArg B ?_,rfl⟩;clear ih;rw [eq_comm,decide_eq_false_iff_not];intro h;cases h;rw [hx]at hy;exact h3 (Option.some.inj hy)
   refine qN rfl (decide_eq_false (by first|omega|(simp;done)|(simp;omega))) ?_;refine qR rfl ⟨congrArg B ?_,rfl⟩;clear ih;obtain rfl:j=x.length:=by omega
   have hxy:x=y:=by
    rw [List.take_length,h2,List.take_length]at hsame;exact hsame
   simp [hxy]
  refine qT rfl (by simp;omega) ?_;refine qR rfl ⟨congrArg B ?_,rfl⟩;rw [eq_comm,decide_eq_false_iff_not];intro h;cases h;exact h2 rfl
 refine qT rfl (by simp [h1]) ?_;refine qR rfl ⟨congrArg B ?_,rfl⟩;rw [eq_comm,decide_eq_false_iff_not];intro h;cases h;exact h1 rfl
set_option linter.unusedVariables false
set_option maxHeartbeats 8000000
set_option maxRecDepth 100000
theorem a3z{s:Int}{v:Nat}(h:(dig v).length<1099511627776)(z:Int)(hz:z.natAbs=v)(hs:v≠0->s=sg z):EvF tt 127 [I s,L (ns (dig v))] (.v (eB (toB z))):=by
 have h1:=e2z s (a0i v) h;rw [a0h,Int.toNat_natCast,a0y z hz hs]at h1;exact h1
theorem d0v(u v:Nat)(hu:(dig u).length<1073741824)(hv:(dig v).length<1073741824):EvF tt 124 [L (ns (dig u)),L (ns (dig v))] (L (ns (dig (u+v)))):=by
 have h:=e6k (a0i u) (a0i v) hu hv
 rwa [a0h,a0h,<-Int.natCast_add,Int.toNat_natCast]at h
theorem c1b(u v:Nat)(hu:(dig u).length<1073741824)(h:v<=u):EvF tt 248 [L (ns (dig u)),L (ns (dig v))] (L (ns (dig (u-v)))):=by
 have h1:=c5i (a0i u) (a0i v) hu (a0m h) (by rw [a0h,a0h];omega)
 rwa [a0h,a0h,show((u:Int)-(v:Int)).toNat=u-v by omega]at h1
theorem e0b(u v:Nat)(hu:(dig u).length<1099511627776)(hv:(dig v).length<1099511627776):EvF tt 172 [L (ns (dig u)),L (ns (dig v))] (B (decide (u<v))):=by
 have h:=c8y (a0i u) (a0i v) hu hv;rw [a0h,a0h]at h
 by_cases hl:u<v
 ·rw [decide_eq_true hl];rw [decide_eq_true (by omega)]at h;exact h
 rw [decide_eq_false hl];rw [decide_eq_false (by omega)]at h;exact h
theorem d3j(u v:Nat)(hu:(dig u).length<536870912)(hv:(dig v).length<536870912):EvF tt 125 [L (ns (dig u)),L (ns (dig v))] (L (ns (dig (u*v)))):=by
 have h:=b7a (a0i u) (a0i v) hu hv
 rwa [a0h,a0h,<-Int.natCast_mul,Int.toNat_natCast]at h
theorem c9c{x:Int}{k:Nat}(h:Sm k x)(hk:k<1073741824):EvF tt 228 [.v (eB (toB x))] (.v (eB (toB (-x)))):=by
 have hl:=a0d h;have h1:=a3m h (by omega);have h2:=a3z (s:=IntKind.i64.wrap (0-sg x)) (v:=x.natAbs) (by omega) (-x) (by omega) (fun hne=>by
  rcases a0b x with⟨a,b⟩|⟨a,b⟩|⟨a,b⟩<;>rw [b]
  ·rw [a1b (by omega)];decide
  ·omega
  rw [a1g (by omega)];decide)
 refine evF (eIn Tryz.func228 rfl rfl ?_);refine qK rfl (h1) rfl ?_;refine qN rfl rfl ?_;refine qK rfl (h2) rfl ?_;exact qR rfl ⟨rfl,rfl⟩
theorem c8l{x y:Int}{k:Nat}(hx:Sm k x)(hy:Sm k y)(hk:k<268435456):EvF tt 104 [.v (eB (toB x)),.v (eB (toB y))] (.tup [.v (eB (toB (x*y))),I 0]):=by
 have lx:=a0d hx;have ly:=a0d hy;have r1:=a3m hx (by omega);have r2:=a3m hy (by omega);have h1:=d3j x.natAbs y.natAbs (by omega) (by omega);have lm:(dig (x.natAbs*y.natAbs)).length<=k+k:=by
  have:=a0d (hx.mul hy)
  rwa [Int.natAbs_mul]at this
 have h2:=a3z (s:=imul .i64 (sg x) (sg y)) (by omega) (x*y) (Int.natAbs_mul x y) (fun _=>a4k x y);refine evF (eIn Tryz.func104 rfl rfl ?_);refine qK rfl r1 rfl ?_;refine qN rfl rfl ?_;refine qK rfl r2 rfl ?_;refine qN rfl rfl ?_;refine qK rfl (h1) rfl ?_;refine qK rfl (h2) rfl ?_;refine qE rfl (by kernel_rfl) (by kernel_rfl) ?_;exact qR rfl ⟨rfl,rfl⟩
theorem e0t{x y:Int}{k:Nat}(hx:Sm k x)(hy:Sm k y)(hk:k<536870912):EvF tt 227 [.v (eB (toB x)),.v (eB (toB y))] (.tup [.v (eB (toB (x+y))),I 0]):=by
 have lx:=a0d hx;have ly:=a0d hy;have r1:=a3m hx (by omega);have r2:=a3m hy (by omega);have h1:=d0v x.natAbs y.natAbs (by omega) (by omega);have h2:=e0b x.natAbs y.natAbs (by omega) (by omega);refine evF (eIn Tryz.func227 rfl rfl ?_);refine qK rfl r1 rfl ?_;refine qN rfl rfl ?_;refine qK rfl r2 rfl ?_;refine qN rfl rfl ?_;have hpl:(x+y).natAbs=x.natAbs+y.natAbs->(dig (x.natAbs+y.natAbs)).length<=k+1:=fun hz=>by
  have:=a0d (hx.add hy)
  rwa [hz]at this
 by_cases hz:sg x=0∨sg y=0∨sg x=sg y
 ·have hz2:(x+y).natAbs=x.natAbs+y.natAbs:=by
   rcases a0b x with⟨a,b⟩|⟨a,b⟩|⟨a,b⟩<;>rcases a0b y with⟨c,d⟩|⟨c,d⟩|⟨c,d⟩<;>omega
  have h3:=a3z (s:=ior .i64 (sg x) (sg y)) (v:=x.natAbs+y.natAbs) (by have:=hpl hz2;omega) (x+y) hz2 (fun hne=>by
   rcases a0b x with⟨a,b⟩|⟨a,b⟩|⟨a,b⟩<;>rcases a0b y with⟨c,d⟩|⟨c,d⟩|⟨c,d⟩<;>first
    |(rw [b,d,a1g (by omega)];decide)
    |(rw [b,d,a1b (by omega)];decide)
    |omega)
  by_cases c1:sg x=0
  ·refine qT rfl (by show(sg x==0)=true;rw [c1];rfl) ?_;refine qK rfl (h1) rfl ?_;refine qK rfl (h3) rfl ?_;refine qE rfl (by kernel_rfl) (by kernel_rfl) ?_;exact qR rfl ⟨rfl,rfl⟩
  refine qN rfl (by show(sg x==0)=false;simpa using c1) ?_
  by_cases c2:sg y=0
  ·refine qT rfl (by show(sg y==0)=true;rw [c2];rfl) ?_;refine qK rfl (h1) rfl ?_;refine qK rfl (h3) rfl ?_;refine qE rfl (by kernel_rfl) (by kernel_rfl) ?_;exact qR rfl ⟨rfl,rfl⟩
  refine qN rfl (by show(sg y==0)=false;simpa using c2) ?_;refine qT rfl (by show(sg x==sg y)=true;simp;omega) ?_;refine qK rfl (h1) rfl ?_;refine qK rfl (h3) rfl ?_;refine qE rfl (by kernel_rfl) (by kernel_rfl) ?_;exact qR rfl ⟨rfl,rfl⟩
 refine qN rfl (by show(sg x==0)=false;simp;omega) ?_;refine qN rfl (by show(sg y==0)=false;simp;omega) ?_;refine qN rfl (by show(sg x==sg y)=false;simp;omega) ?_
 by_cases hl:x.natAbs<y.natAbs
 ·rw [decide_eq_true hl]at h2;have l1:=a0m (Nat.sub_le y.natAbs x.natAbs);have h4:=c1b y.natAbs x.natAbs (by omega) (by omega);have h5:=a3z (s:=sg y) (v:=y.natAbs-x.natAbs) (by omega) (x+y) (by
   rcases a0b x with⟨a,b⟩|⟨a,b⟩|⟨a,b⟩<;>rcases a0b y with⟨c,d⟩|⟨c,d⟩|⟨c,d⟩<;>omega) (fun _=>by
   rcases a0b x with⟨a,b⟩|⟨a,b⟩|⟨a,b⟩<;>rcases a0b y with⟨c,d⟩|⟨c,d⟩|⟨c,d⟩<;>first
    |omega
    |(rw [d,a1g (by omega)])
    |(rw [d,a1b (by omega)]))
  refine qK rfl h2 rfl ?_;refine qT rfl rfl ?_;refine qK rfl (h4) rfl ?_;refine qK rfl (h5) rfl ?_;refine qE rfl (by kernel_rfl) (by kernel_rfl) ?_;exact qR rfl ⟨rfl,rfl⟩
 rw [decide_eq_false hl]at h2;have l1:=a0m (Nat.sub_le x.natAbs y.natAbs);have h4:=c1b x.natAbs y.natAbs (by omega) (by omega);have h5:=a3z (s:=sg x) (v:=x.natAbs-y.natAbs) (by omega) (x+y) (by
  rcases a0b x with⟨a,b⟩|⟨a,b⟩|⟨a,b⟩<;>rcases a0b y with⟨c,d⟩|⟨c,d⟩|⟨c,d⟩<;>omega) (fun hne=>by
  rcases a0b x with⟨a,b⟩|⟨a,b⟩|⟨a,b⟩<;>rcases a0b y with⟨c,d⟩|⟨c,d⟩|⟨c,d⟩<;>first
   |omega
   |(rw [b,a1g (by omega)])
   |(rw [b,a1b (by omega)]))
 refine qK rfl h2 rfl ?_;refine qN rfl rfl ?_;refine qK rfl (h4) rfl ?_;refine qK rfl (h5) rfl ?_;refine qE rfl (by kernel_rfl) (by kernel_rfl) ?_;exact qR rfl ⟨rfl,rfl⟩
theorem b4n{x y:Int}{k:Nat}(hx:Sm k x)(hy:Sm k y)(hk:k<536870912):EvF tt 105 [.v (eB (toB x)),.v (eB (toB y))] (I (sg (x-y))):=by
 have lx:=a0d hx;have ly:=a0d hy;have r1:=a3m hx (by omega);have r2:=a3m hy (by omega);have h2:=e0b x.natAbs y.natAbs (by omega) (by omega);have h3:=e2l (toB x) (toB y) (by show(dig x.natAbs).length<_;omega);refine evF (eIn Tryz.func105 rfl rfl ?_);refine qK rfl r1 rfl ?_;refine qN rfl rfl ?_;refine qK rfl r2 rfl ?_;refine qN rfl rfl ?_;refine qK rfl h3 rfl ?_
 by_cases hxy:x=y
 ·subst hxy;rw [Int.sub_self];refine qT rfl (decide_eq_true rfl) ?_;exact qR rfl ⟨rfl,rfl⟩
 refine qN rfl (decide_eq_false (fun h=>hxy (e3g h))) ?_
 by_cases hs:sg x=sg y
 ·refine qN rfl (by show(sg x !=sg y)=false;rw [hs];simp) ?_;refine qK rfl h2 rfl ?_;refine qE rfl (by kernel_rfl) (by kernel_rfl) ?_
  by_cases hp:0<sg x
  ·by_cases hl:x.natAbs<y.natAbs
   ·have:sg (x-y)=-1:=by rcases a0b x with⟨a,b⟩|⟨a,b⟩|⟨a,b⟩<;>rcases a0b y with⟨c,d⟩|⟨c,d⟩|⟨c,d⟩<;>first|omega|exact a1g (by omega)
    rw [this];refine qT rfl (by show(decide (x.natAbs<y.natAbs)==decide (0<sg x))=true;rw [decide_eq_true hl,decide_eq_true hp];rfl) ?_;exact qR rfl ⟨rfl,rfl⟩
   have:sg (x-y)=1:=by rcases a0b x with⟨a,b⟩|⟨a,b⟩|⟨a,b⟩<;>rcases a0b y with⟨c,d⟩|⟨c,d⟩|⟨c,d⟩<;>first|omega|exact a1b (by omega)
   rw [this];refine qN rfl (by show(decide (x.natAbs<y.natAbs)==decide (0<sg x))=false;rw [decide_eq_false hl,decide_eq_true hp];rfl) ?_;exact qR rfl ⟨rfl,rfl⟩
  by_cases hl:x.natAbs<y.natAbs
  ·have:sg (x-y)=1:=by rcases a0b x with⟨a,b⟩|⟨a,b⟩|⟨a,b⟩<;>rcases a0b y with⟨c,d⟩|⟨c,d⟩|⟨c,d⟩<;>first|omega|exact a1b (by omega)
   rw [this];refine qN rfl (by show(decide (x.natAbs<y.natAbs)==decide (0<sg x))=false;rw [decide_eq_true hl,decide_eq_false hp];rfl) ?_;exact qR rfl ⟨rfl,rfl⟩
  have:sg (x-y)=-1:=by rcases a0b x with⟨a,b⟩|⟨a,b⟩|⟨a,b⟩<;>rcases a0b y with⟨c,d⟩|⟨c,d⟩|⟨c,d⟩<;>first|omega|exact a1g (by omega)
  rw [this];refine qT rfl (by show(decide (x.natAbs<y.natAbs)==decide (0<sg x))=true;rw [decide_eq_false hl,decide_eq_false hp];rfl) ?_;exact qR rfl ⟨rfl,rfl⟩
 refine qT rfl (by show(sg x !=sg y)=true;rw [bne_iff_ne];exact hs) ?_
 by_cases hl:sg x<sg y
 ·have:sg (x-y)=-1:=by rcases a0b x with⟨a,b⟩|⟨a,b⟩|⟨a,b⟩<;>rcases a0b y with⟨c,d⟩|⟨c,d⟩|⟨c,d⟩<;>first|omega|exact a1g (by omega)
  rw [this];refine qT rfl (decide_eq_true hl) ?_;exact qR rfl ⟨rfl,rfl⟩
 have:sg (x-y)=1:=by rcases a0b x with⟨a,b⟩|⟨a,b⟩|⟨a,b⟩<;>rcases a0b y with⟨c,d⟩|⟨c,d⟩|⟨c,d⟩<;>first|omega|exact a1b (by omega)
 rw [this];refine qN rfl (decide_eq_false hl) ?_;exact qR rfl ⟨rfl,rfl⟩
theorem e9i{x y:Int}{k:Nat}(hx:Sm k x)(hy:Sm k y)(hk:k<536870912):EvF tt 302 [.v (eB (toB x)),.v (eB (toB y))] (.tup [.v (eB (toB (x-y))),I 0]):=by
 have r2:=a3m hy (by omega);have h1:=c9c hy (by omega);have h2:=e0t hx hy.neg hk;rw [Int.sub_eq_add_neg];refine evF (eIn Tryz.func302 rfl rfl ?_);refine qK rfl (r2) rfl ?_;refine qN rfl rfl ?_;refine qK rfl (h1) rfl ?_;refine qK rfl (h2) rfl ?_;refine qE rfl (by kernel_rfl) (by kernel_rfl) ?_;exact qR rfl ⟨rfl,rfl⟩
theorem e0z{x y:Int}{k:Nat}(hx:Sm k x)(hy:Sm k y)(hk:k<8388608):EvF tt 136 [.v (eB (toB x)),.v (eB (toB y))] (.tup [.v (eB (toB ((Nat.gcd x.natAbs y.natAbs:Nat):Int))),I 0]):=by
 have lx:=a0d hx;have ly:=a0d hy;have r1:=a3m hx (by omega);have r2:=a3m hy (by omega);have lg:(dig (Nat.gcd x.natAbs y.natAbs)).length<=k:=by
  rcases Nat.eq_zero_or_pos x.natAbs with h|h
  ·rw [h,Nat.gcd_zero_left];exact ly
  exact Nat.le_trans (a0m (Nat.gcd_le_left _ h)) lx
 have hm:=a3z (s:=1) (by omega) ((Nat.gcd x.natAbs y.natAbs:Nat):Int) (Int.natAbs_natCast _) (fun h=>(a1b (by omega)).symm);refine evF (eIn Tryz.func136 rfl rfl ?_);refine qK rfl r1 rfl ?_;refine qN rfl rfl ?_;refine qK rfl r2 rfl ?_;refine qN rfl rfl ?_;refine qL (fun q:Nat×Nat=> [(6,L (ns (dig q.1))),(7,L (ns (dig q.2)))]) (fun _=> []) (fun q=>(dig q.1).length<=k/\(dig q.2).length<=k/\Nat.gcd q.1 q.2=Nat.gcd x.natAbs y.natAbs) (fun q=>q.2) (x.natAbs,y.natAbs) rfl rfl ⟨lx,ly,rfl⟩ ?_;rintro⟨u,v⟩ ⟨hu,hv,hg⟩ ih;have hu:(dig u).length<=k:=hu;have hv:(dig v).length<=k:=hv;have hg:Nat.gcd u v=Nat.gcd x.natAbs y.natAbs:=hg;have hvl:(ns (dig v)).length=(dig v).length:=List.length_map ..
 by_cases h:v=0
 ·subst h;clear ih;rw [Nat.gcd_zero_right]at hg;rw [<-hg]at hm;rw [<-hg];refine qN rfl (decide_eq_false (by show¬(0:Int)<(((ns (dig 0)).length:Nat):Int);rw [dig_zero];decide)) ?_;refine qK rfl (hm) rfl ?_;exact qR rfl ⟨rfl,rfl⟩
 have hlt:=Nat.mod_lt u (show v>0 by omega);have h3:0<(dig v).length:=List.length_pos_iff.2 (a7k h);have ho:=d0b (A:=u) (b:=v) (by omega) (by omega) (by omega);have g:=ih (v,u %v) ⟨hv,Nat.le_trans (a0m (Nat.le_of_lt hlt)) hv,by rw [<-hg];show Nat.gcd v (u %v)=Nat.gcd u v;rw [Nat.gcd_comm v,<-Nat.gcd_rec,Nat.gcd_comm]⟩ hlt;clear ih;refine qT rfl (decide_eq_true (by show(0:Int)<(((ns (dig v)).length:Nat):Int);omega)) ?_;refine qK rfl ho rfl ?_;exact qB g (by kernel_rfl)
theorem d9t{x y:Int}{k:Nat}(hx:Sm k x)(hy:Sm k y)(hk:k<8388608)(hy0:y≠0):EvF tt 229 [.v (eB (toB x)),.v (eB (toB y))] (.tup [.v (eB (toB (dq x y))),.v (eB (toB (dr x y))),I 0]):=by
 have lx:=a0d hx;have ly:=a0d hy;have r1:=a3m hx (by omega);have r2:=a3m hy (by omega);have hyn:y.natAbs≠0:=by omega
 have hmod:=Nat.mod_lt x.natAbs (show y.natAbs>0 by omega);have hdivle:x.natAbs/y.natAbs<=x.natAbs:=Nat.div_le_self _ _;have lq:=a0m hdivle;have lr:=a0m (Nat.le_of_lt hmod);have lq1:(dig (x.natAbs/y.natAbs+1)).length<=k+1:=by
  have h:Sm (k+1) ((x.natAbs/y.natAbs+1:Nat):Int):=by
   generalize x.natAbs/y.natAbs=q at*;unfold Sm at*;rw [Int.natAbs_natCast];simp only [pw];have:=pw_pos k;omega
  have:=a0d h
  rwa [Int.natAbs_natCast]at this
 have ls:=a0m (show y.natAbs-x.natAbs %y.natAbs<=y.natAbs by omega);have ho:=d0b (A:=x.natAbs) (b:=y.natAbs) (by omega) (by omega) (by omega);have e1:decide (0<=imul .i64 (sg x) (sg y))= !decide (x*y<0):=by
  rw [a4k];rcases a0b (x*y)with⟨h1,h2⟩|⟨h1,h2⟩|⟨h1,h2⟩<;>rw [h2]<;>simp<;>omega
 have e2:((((ns (dig (x.natAbs %y.natAbs))).length:Nat):Int)==0)= !decide (x.natAbs %y.natAbs≠0):=by
  rw [List.length_map]
  by_cases h:x.natAbs %y.natAbs=0
  ·rw [h,dig_zero];rfl
  have h3:0<(dig (x.natAbs %y.natAbs)).length:=List.length_pos_iff.2 (a7k h);rw [beq_false_of_ne (by omega),decide_eq_true h];rfl
 refine evF (eIn Tryz.func229 rfl rfl ?_);refine qK rfl r1 rfl ?_;refine qN rfl rfl ?_;refine qK rfl r2 rfl ?_;refine qN rfl rfl ?_;refine qN rfl (by show(sg y==0)=false;rcases a0b y with h|h|h<;>first|(rw [h.2];rfl)|omega) ?_;refine qK rfl ho rfl ?_
 by_cases hod:odd x y=true
 ·have hod2:x*y<0/\x.natAbs %y.natAbs≠0:=by unfold odd at hod;simpa using hod
  have p1:EvF tt 124 [L (ns (dig (x.natAbs/y.natAbs))),L [N 1]] (L (ns (dig (x.natAbs/y.natAbs+1)))):=by
   have:=d0v (x.natAbs/y.natAbs) 1 (by omega) (by rw [dig_one];simp)
   rwa [dig_one]at this
  have m1:=a3z (s:=-1) (v:=x.natAbs/y.natAbs+1) (by omega) (dq x y) (c6e hod).1 (fun _=>(c6e hod).2.symm);have s1:=c1b y.natAbs (x.natAbs %y.natAbs) (by omega) (by omega);have m2:=a3z (s:=sg y) (v:=y.natAbs-x.natAbs %y.natAbs) (by omega) (dr x y) (c5c hy0 hod).1 (fun _=>(c5c hy0 hod).2.symm);refine qN rfl (by show decide (0<=imul .i64 (sg x) (sg y))=false;rw [e1,decide_eq_true hod2.1];rfl) ?_;refine qN rfl (by show((((ns (dig (x.natAbs %y.natAbs))).length:Nat):Int)==0)=false;rw [e2,decide_eq_true hod2.2];rfl) ?_;refine qK rfl (p1) rfl ?_;refine qK rfl (m1) rfl ?_;refine qK rfl (s1) rfl ?_;refine qK rfl (m2) rfl ?_;refine qE rfl (by kernel_rfl) (by kernel_rfl) ?_;exact qR rfl ⟨rfl,rfl⟩
 have m1:=a3z (s:=imul .i64 (sg x) (sg y)) (v:=x.natAbs/y.natAbs) (by omega) (dq x y) (b5o hy0 hod).1 (fun h=>by rw [a4k];exact(b5o hy0 hod).2 h);have m2:=a3z (s:=sg x) (v:=x.natAbs %y.natAbs) (by omega) (dr x y) (b7g hod).1 (b7g hod).2
 by_cases hn:x*y<0
 ·have hz:x.natAbs %y.natAbs=0:=by
   unfold odd at hod;simp at hod;exact hod hn
  refine qN rfl (by show decide (0<=imul .i64 (sg x) (sg y))=false;rw [e1,decide_eq_true hn];rfl) ?_;refine qT rfl (by show((((ns (dig (x.natAbs %y.natAbs))).length:Nat):Int)==0)=true;rw [e2,decide_eq_false (by simp [hz])];rfl) ?_;refine qK rfl (m1) rfl ?_;refine qK rfl (m2) rfl ?_;refine qE rfl (by kernel_rfl) (by kernel_rfl) ?_;exact qR rfl ⟨rfl,rfl⟩
 refine qT rfl (by show decide (0<=imul .i64 (sg x) (sg y))=true;rw [e1,decide_eq_false hn];rfl) ?_;refine qK rfl (m1) rfl ?_;refine qK rfl (m2) rfl ?_;refine qE rfl (by kernel_rfl) (by kernel_rfl) ?_;exact qR rfl ⟨rfl,rfl⟩
set_option linter.unusedVariables false
set_option maxHeartbeats 4000000
set_option maxRecDepth 100000
theorem e7x{s:Int}(hs:s=1∨s=-1)(u:Nat):rem (s*u) 1048576=some (s*((u %1048576:Nat):Int)):=by
 have h:=a9u (x:=(u:Int)) (y:=1048576) (by omega) (by decide);rcases hs with rfl|rfl
 ·rw [Int.one_mul,Int.one_mul,h];congr 1
 unfold rem at h⊢;rw [if_neg (by decide)]at h⊢;have h2:=Option.some.inj h;rw [show(-1:Int)*(u:Int)=-(u:Int) by omega,Int.neg_tmod,h2]
 congr 1;omega
theorem f0k{s:Int}(hs:s=1∨s=-1){u:Nat}(hu:u<=9223372036854775808):quo .i64 (s*u) 1048576=some (s*((u/1048576:Nat):Int)):=by
 have h:(u:Int).tdiv 1048576=((u/1048576:Nat):Int):=by rw [Int.tdiv_eq_ediv_of_nonneg (by omega)];omega
 unfold quo;rw [if_neg (by decide)];rcases hs with rfl|rfl
 ·rw [Int.one_mul,Int.one_mul,h,a0t (by omega) (by omega)]
 rw [show(-1:Int)*(u:Int)=-(u:Int) by omega,Int.neg_tdiv,h,a0t (by omega) (by omega)]
 congr 1;omega
theorem e3m{x:Int}(h1:-9223372036854775808<=x)(h2:x<=9223372036854775807):EvF tt 137 [I x] (.v (eB (toB x))):=by
 have hl:=a7t (u:=x.natAbs) (by omega);refine evF (eIn Tryz.func137 rfl rfl ?_)
 by_cases h0:x=0
 ·subst h0;rw [toB_zero];refine qT rfl rfl ?_;exact qR rfl ⟨rfl,rfl⟩
 refine qN rfl (by simpa using h0) ?_
 by_cases hx:x<0
 ·refine qT rfl (decide_eq_true hx) ?_;refine qL (fun q:Int×List VT=> [(0,I q.1)]) (fun q=> [(0,.row 3 1 q.2)]) (fun q=>∃(u:Nat)(pre:List Int),q.1=-1*(u:Int)/\q.2=ns pre/\u<=x.natAbs/\pre++dig u=dig x.natAbs) (fun q=>q.1.natAbs) (x,[]) rfl rfl ⟨x.natAbs,[],by show x=-1*(x.natAbs:Int);omega,rfl,Nat.le_refl _,rfl⟩ ?_;rintro⟨z,ts⟩ ⟨u,pre,hz,hts,hu,hp⟩ ih;obtain rfl:z=-1*(u:Int):=hz;obtain rfl:ts=ns pre:=hts;have hpl:(ns pre).length=pre.length:=List.length_map ..;have hlen:=congrArg List.length hp;rw [List.length_append]at hlen
  by_cases hu0:u=0
  ·clear ih;subst hu0;rw [dig_zero,List.append_nil]at hp;subst hp;have m1:=a3z (s:=-1) (v:=x.natAbs) (by omega) x rfl (fun _=>(a1g hx).symm);refine qN rfl rfl ?_;refine qK rfl (m1) rfl ?_;exact qR rfl ⟨rfl,rfl⟩
  have hd:=a3o hu0;have hr:=e7x (s:=-1) (.inr rfl) u;have hq:=f0k (s:=-1) (.inr rfl) (u:=u) (by omega);have hlt:=Nat.mod_lt u (show 1048576>0 by decide);have g:=ih (-1*((u/1048576:Nat):Int),ns (pre++ [((u %1048576:Nat):Int)])) ⟨u/1048576,pre++ [((u %1048576:Nat):Int)],rfl,rfl,by omega,by rw [<-hp,hd];simp⟩ (by show(-1*((u/1048576:Nat):Int)).natAbs<(-1*(u:Int)).natAbs;omega);clear ih;refine qT rfl (by show(-1*(u:Int) !=0)=true;rw [bne_iff_ne];omega) ?_;refine qV rfl hr ?_
  by_cases hn:u %1048576=0
  ·refine qN rfl (decide_eq_false (by omega)) ?_;refine qAz 8 (ns (pre++ [((u %1048576:Nat):Int)])) rfl rfl (by rw [<-b1r];show ns pre++ [N (-1*((u %1048576:Nat):Int))]=_;congr 3;omega) rfl (by rw [hpl];simp;omega) ?_;refine qV rfl hq ?_;exact qB g (by kernel_rfl)
  refine qT rfl (decide_eq_true (by omega)) ?_;refine qAz 8 (ns (pre++ [((u %1048576:Nat):Int)])) rfl rfl (by rw [<-b1r];show ns pre++ [N (IntKind.i64.wrap (0- -1*((u %1048576:Nat):Int)))]=_;congr 3;rw [a0t (by omega) (by omega)];omega) rfl (by rw [hpl];simp;omega) ?_;refine qV rfl hq ?_;exact qB g (by kernel_rfl)
 refine qN rfl (decide_eq_false hx) ?_;refine qL (fun q:Int×List VT=> [(0,I q.1)]) (fun q=> [(0,.row 3 1 q.2)]) (fun q=>∃(u:Nat)(pre:List Int),q.1=1*(u:Int)/\q.2=ns pre/\u<=x.natAbs/\pre++dig u=dig x.natAbs) (fun q=>q.1.natAbs) (x,[]) rfl rfl ⟨x.natAbs,[],by show x=1*(x.natAbs:Int);omega,rfl,Nat.le_refl _,rfl⟩ ?_;rintro⟨z,ts⟩ ⟨u,pre,hz,hts,hu,hp⟩ ih;obtain rfl:z=1*(u:Int):=hz;obtain rfl:ts=ns pre:=hts;have hpl:(ns pre).length=pre.length:=List.length_map ..;have hlen:=congrArg List.length hp;rw [List.length_append]at hlen
 by_cases hu0:u=0
 ·clear ih;subst hu0;rw [dig_zero,List.append_nil]at hp;subst hp;have m1:=a3z (s:=1) (v:=x.natAbs) (by omega) x rfl (fun _=>(a1b (by omega)).symm);refine qN rfl rfl ?_;refine qK rfl (m1) rfl ?_;exact qR rfl ⟨rfl,rfl⟩
 have hd:=a3o hu0;have hr:=e7x (s:=1) (.inl rfl) u;have hq:=f0k (s:=1) (.inl rfl) (u:=u) (by omega);have hlt:=Nat.mod_lt u (show 1048576>0 by decide);have g:=ih (1*((u/1048576:Nat):Int),ns (pre++ [((u %1048576:Nat):Int)])) ⟨u/1048576,pre++ [((u %1048576:Nat):Int)],rfl,rfl,by omega,by rw [<-hp,hd];simp⟩ (by show(1*((u/1048576:Nat):Int)).natAbs<(1*(u:Int)).natAbs;omega);clear ih;refine qT rfl (by show(1*(u:Int) !=0)=true;rw [bne_iff_ne];omega) ?_;refine qV rfl hr ?_;refine qN rfl (decide_eq_false (by omega)) ?_;refine qAz 8 (ns (pre++ [((u %1048576:Nat):Int)])) rfl rfl (by rw [<-b1r];show ns pre++ [N (1*((u %1048576:Nat):Int))]=_;congr 3;omega) rfl (by rw [hpl];simp;omega) ?_;refine qV rfl hq ?_;exact qB g (by kernel_rfl)
theorem d4b{r X:Nat}(hr:r<10)(hX:X<1048576):iadd .i64 (imul .i64 (r:Int) 1048576) (X:Int)=((X+1048576*r:Nat):Int):=by
 have h1:imul .i64 (r:Int) 1048576=(r:Int)*1048576:=a0s (by omega) (by omega);rw [h1];have h2:iadd .i64 ((r:Int)*1048576) (X:Int)=(r:Int)*1048576+(X:Int):=a0e (by omega) (by omega);rw [h2];omega
theorem c7i{a:List Int}{i H:Nat}(ha:InR a)(hia:i<a.length)(hH:val (a.drop (i+1))=H):∃X R:Nat,a[i]?=some (X:Int)/\R/10<1048576/\quo .i64 (iadd .i64 (imul .i64 ((H %10:Nat):Int) 1048576) (X:Int)) 10=some ((R/10:Nat):Int)/\rem (iadd .i64 (imul .i64 ((H %10:Nat):Int) 1048576) (X:Int)) 10=some ((R %10:Nat):Int)/\val (a.drop i)=((X+1048576*H:Nat):Int)/\R %10=(X+1048576*H) %10/\∀qs:List Int,val qs=((H/10:Nat):Int)->val (((R/10:Nat):Int)::qs)=(((X+1048576*H)/10:Nat):Int):=by
 have hx:=List.getElem?_eq_getElem hia;have hxr:=ha a[i] (List.getElem_mem hia);have hvd:=a2v a i;rw [List.drop_eq_getElem_cons hia]at hvd;simp only [List.headD_cons]at hvd;rw [<-List.drop_eq_getElem_cons hia]at hvd;generalize a[i]=x at*;obtain⟨X,rfl⟩:=Int.eq_ofNat_of_zero_le hxr.1;have hX:X<1048576:=Int.ofNat_lt.1 hxr.2;obtain⟨s1,s2⟩:=b9b (x:=X) (H:=H) (b:=10) (by decide);have hmod:=Nat.mod_lt H (show 10>0 by decide);have ev:=d4b (r:=H %10) (X:=X) hmod hX;have hv2:val (a.drop i)=((X+1048576*H:Nat):Int):=by rw [hvd,hH];clear s1 s2 ev hmod;omega
 clear hvd hH;refine(fun h=>⟨X,X+1048576*(H %10),h⟩) ?_;rw [ev,s1,s2];clear ev s1 s2;generalize H %10=r at*;generalize H/10=q at*;have hR:X+1048576*r<10485760:=by omega
 generalize X+1048576*r=R at*;refine⟨hx,by omega,?_,?_,hv2,rfl,?_⟩
 ·rw [a8a (by omega) (by omega) (by decide)];congr 1
 ·rw [a9u (by omega) (by decide)];congr 1
 intro qs hq;simp only [val];rw [hq];clear hv2;generalize R/10=u;omega
theorem d6q{v:Nat}(hl:(dig v).length<536870800):EvF tt 138 [L (ns (dig v))] (.tup [L (ns (dig (v/10))),I ((v %10:Nat):Int)]):=by
 have ha:=a0i v;have hva:(val (dig v)).toNat=v:=by rw [a0h,Int.toNat_natCast]
 generalize hae:dig v=a at*;have hal:(ns a).length=a.length:=List.length_map ..;have e1:isub .i64 (((ns a).length:Nat):Int) 1=(a.length:Int)-1:=by rw [hal,a0c (by omega) (by omega)]
 have hts:List.replicate (Int.toNat (((ns a).length:Nat):Int)) (N 0)=ns (List.replicate a.length 0++ []):=by rw [hal,List.append_nil,Int.toNat_natCast];exact(List.map_replicate ..).symm
 refine evF (eIn Tryz.func138 rfl rfl ?_);have hqM:0<=(((ns a).length:Nat):Int)/\(Int.toNat (((ns a).length:Nat):Int))*8<=140737488355328:=by omega
 refine qM 8 rfl rfl hqM ?_;refine qL (fun q:Int×Int×List VT=> [(5,I q.1),(6,I q.2.1)]) (fun q=> [(0,.row 3 1 q.2.2)]) (fun q=>∃(i H:Nat)(qs:List Int),q.2.1=(i:Int)-1/\i<=a.length/\val (a.drop i)=H/\q.1=((H %10:Nat):Int)/\q.2.2=ns (List.replicate i 0++qs)/\InR qs/\qs.length=a.length-i/\val qs=((H/10:Nat):Int)) (fun q=>(q.2.1+1).toNat) (0,isub .i64 (((ns a).length:Nat):Int) 1,List.replicate (Int.toNat (((ns a).length:Nat):Int)) (N 0)) rfl rfl ⟨a.length,0,[],e1,Nat.le_refl _,by rw [a2l (Nat.le_refl _)];rfl,rfl,hts,InR.nil,by simp,rfl⟩ ?_;rintro⟨r,z,ts⟩ ⟨i,H,qs,hz,hi,hH,hr,hts2,hq,hql,hqv⟩ ih;obtain rfl:z=(i:Int)-1:=hz;obtain rfl:r=((H %10:Nat):Int):=hr
 replace hts2:ts=ns (List.replicate i 0++qs):=hts2
 rcases i with _|i
 ·clear ih;rw [List.replicate_zero,List.nil_append]at hts2;subst hts2;rw [List.drop_zero]at hH;have hHv:H=v:=by rw [<-hva,hH,Int.toNat_natCast]
  subst hHv;have ht:=a4m hq (by rw [hql];omega);rw [hqv,Int.toNat_natCast]at ht;refine qN rfl rfl ?_;refine qK rfl (ht) rfl ?_;exact qR rfl ⟨rfl,rfl⟩
 have hia:i<a.length:=by omega
 have ez:((i+1:Nat):Int)-1=(i:Int):=by omega
 rw [ez]at ih⊢;obtain⟨X,R,hx,hR,hq1,hq2,hv2,hm,hv3⟩:=c7i ha hia hH;have hix:ix ts (i:Int)=some (N 0):=by rw [hts2];exact c9m i qs
 have hset:ts.set (Int.toNat (i:Int)) (N ((R/10:Nat):Int))=ns (List.replicate i 0++((R/10:Nat):Int)::qs):=by
  rw [hts2,Int.toNat_natCast,<-List.map_set,List.replicate_succ',List.append_assoc,List.set_append_right _ _ (by simp),List.length_replicate,Nat.sub_self];rfl
 have hlq:((((R/10:Nat):Int))::qs).length=a.length-i:=by rw [List.length_cons,hql];clear hq1 hq2 hv2 hv3 hm hR;omega
 have g:=ih (((R %10:Nat):Int),isub .i64 (i:Int) 1,ts.set (Int.toNat (i:Int)) (N ((R/10:Nat):Int))) ⟨i,X+1048576*H,((R/10:Nat):Int)::qs,a0c (by omega) (by omega),by omega,hv2,congrArg Int.ofNat hm,hset,InR.cons (Int.natCast_nonneg _) (Int.ofNat_lt.2 hR) hq,hlq,hv3 qs hqv⟩ (by rw [show isub .i64 (i:Int) 1=(i:Int)-1 from a0c (by omega) (by omega)];show((i:Int)-1+1).toNat<((i:Int)+1).toNat;omega);clear ih;refine qT rfl (decide_eq_true (Int.natCast_nonneg i)) ?_;refine qXi (g:=N) rfl (Int.natCast_nonneg i) (by rw [Int.toNat_natCast];exact hx) ?_;refine qV rfl hq1 ?_;refine qV rfl hix ?_;refine qV rfl hq2 ?_;exact qB g (by kernel_rfl)
theorem c9n(r:Nat)(h:r<10):ssl [48,49,50,51,52,53,54,55,56,57] (r:Int) (iadd .i64 (r:Int) 1)=some [c8 r]:=by
 rw [a0e (by omega) (by omega)]
 match r,h with
 |0,_=>rfl
 |1,_=>rfl
 |2,_=>rfl
 |3,_=>rfl
 |4,_=>rfl
 |5,_=>rfl
 |6,_=>rfl
 |7,_=>rfl
 |8,_=>rfl
 |9,_=>rfl
 |r+10,h=>omega
def dcs(v:Nat):Bs:=if v=0 then []else Lib.decDigits v
theorem d8k{v:Nat}(h:v≠0):dcs v=dcs (v/10)++ [c8 v]:=by
 unfold dcs;rw [if_neg h]
 by_cases h1:v<10
 ·rw [if_pos (by omega),a0v h1];rfl
 rw [if_neg (by omega),a1c (v:=v) (by omega)]
theorem d0n{x:Int}{k:Nat}(h:Sm k x)(hk:k<1000000):EvF tt 72 [.v (eB (toB x))] (.v (.str (txt x))):=by
 have hl:=a0d h;have ht:=a6q h;have r1:=a3m h (by omega);refine evF (eIn Tryz.func72 rfl rfl ?_);refine qK rfl r1 rfl ?_;refine qN rfl rfl ?_
 by_cases h0:x=0
 ·subst h0;have h:txt 0= [48]:=by unfold txt;rw [if_neg (by omega),show(0:Int).natAbs=0 from rfl,a0v (by decide)];rfl
  rw [h];refine qT rfl rfl ?_;exact qR rfl ⟨rfl,rfl⟩
 refine qN rfl (by show(sg x==0)=false;rcases a0b x with⟨a,b⟩|⟨a,b⟩|⟨a,b⟩<;>rw [b]<;>first|rfl|exact absurd a h0) ?_;have hd:dcs x.natAbs=Lib.decDigits x.natAbs:=by unfold dcs;rw [if_neg (by omega)]
 have hdl:(Lib.decDigits x.natAbs).length<=7*k+2:=by unfold txt at ht;split at ht<;>(try simp only [List.length_cons]at ht)<;>omega
 refine qL (fun q:Bs×Nat=> [(3,.v (.str q.1)),(4,L (ns (dig q.2)))]) (fun _=> []) (fun q=>q.2<=x.natAbs/\dcs q.2++q.1=dcs x.natAbs) (fun q=>q.2) ([],x.natAbs) rfl rfl ⟨Nat.le_refl _,List.append_nil _⟩ ?_;rintro⟨s,v⟩ ⟨hv,hs⟩ ih
 replace hv:v<=x.natAbs:=hv
 replace hs:dcs v++s=dcs x.natAbs:=hs
 have hlv:=a0m hv;have hsl:=congrArg List.length hs;rw [List.length_append,hd]at hsl
 by_cases hv0:v=0
 ·clear ih;subst hv0
  replace hs:s=Lib.decDigits x.natAbs:=by rw [<-hd,<-hs];rfl
  refine qN rfl (by show decide ((0:Int)<((ns (dig 0)).length:Nat))=false;rw [dig_zero];rfl) ?_
  by_cases hx:x<0
  ·have hc:scat [45] s=some (txt x):=by unfold scat txt;rw [if_pos (by simp;omega),if_pos hx,hs];rfl
   refine qT rfl (by show decide (sg x<0)=true;rw [a1g hx];rfl) ?_;refine qV rfl hc ?_;exact qR rfl ⟨rfl,rfl⟩
  have hc:s=txt x:=by unfold txt;rw [if_neg hx,hs]
  refine qN rfl (by show decide (sg x<0)=false;rw [a1b (by omega)];rfl) ?_;rw [hc];exact qR rfl ⟨rfl,rfl⟩
 have hp:0<(dig v).length:=List.length_pos_iff.2 (a7k hv0);have t1:=d6q (v:=v) (by omega);have e8:c8 (v %10)=c8 v:=by unfold c8;congr 2;omega
 have hst:=d8k hv0;have hss:=c9n (v %10) (Nat.mod_lt _ (by decide));rw [e8]at hss;have hc:scat [c8 v] s=some (c8 v::s):=by unfold scat;rw [if_pos (by rw [hst]at hsl;simp at hsl⊢;omega)];rfl
 have g:=ih (c8 v::s,v/10) ⟨by show v/10<=x.natAbs;omega,by show dcs (v/10)++c8 v::s=_;rw [<-hs,hst];simp⟩ (by show v/10<v;omega);clear ih;refine qT rfl (decide_eq_true (by show(0:Int)<((ns (dig v)).length:Nat);rw [List.length_map];omega)) ?_;refine qK rfl t1 rfl ?_;refine qV rfl hss ?_;refine qV rfl hc ?_;exact qB g (by kernel_rfl)
set_option linter.unusedVariables false
set_option maxHeartbeats 4000000
set_option maxRecDepth 100000
theorem a2y{t:Bs}{i:Nat}{b:UInt8}{us:Bs}(h:t.drop i=b::us):sidx t (i:Int)=some (b.toNat:Int)/\t.drop (i+1)=us/\i<t.length:=by
 obtain⟨h1,h2,h3⟩:=d0j h;refine⟨?_,h2,h3⟩;rw [d0w]at h1;unfold sidx;rw [if_pos (by omega),Int.toNat_natCast,h1];rfl
theorem e3e{d:Nat}(h:d<1048576):EvF tt 126 [L [N (d:Int)]] (L (ns (dig d))):=by
 have hR:InR [(d:Int)]:=InR.cons (by omega) (by omega) InR.nil;have:=a4m hR (by simp)
 rwa [show(val [(d:Int)]).toNat=d by simp [val]]at this
theorem d7s{t:Bs}{i:Nat}(h:i<t.length):∃b us,t.drop i=b::us/\t.take (i+1)=t.take i++ [b]/\b∈t:=by
 cases hd:t.drop i with
 |nil=>have:=d9g hd;omega
 |cons b us=>
  refine⟨b,us,rfl,?_,List.mem_of_mem_drop (by rw [hd];simp:b∈t.drop i)⟩;have e:=List.take_append_drop i t;rw [hd]at e;have h4:(t.take i).length=i:=by rw [List.length_take];omega
  have e2:(t.take i++b::us).take (i+1)=t.take i++ [b]:=by
   rw [List.take_append,h4,List.take_of_length_le (by omega)];simp
  rwa [e]at e2
theorem c9f{t:Bs}(ht:t.all isd=true)(hl:(dig (dv 0 t)).length<=100){i:Nat}(hi:i<t.length):∃(b:UInt8)(us:Bs),t.drop i=b::us/\
 EvF tt 125 [L (ns (dig (dv 0 (t.take i)))),L [N 10]] (L (ns (dig (dv 0 (t.take i)*10))))/\
 EvF tt 126 [L [N (IntKind.i64.wrap (isub .u8 (b.toNat:Int) 48))]] (L (ns (dig (b.toNat-48))))/\
 EvF tt 124 [L (ns (dig (dv 0 (t.take i)*10))),L (ns (dig (b.toNat-48)))] (L (ns (dig (dv 0 (t.take (i+1)))))):=by
 obtain⟨b,us,hd,htk,hm⟩:=d7s hi;have hb:isd b=true:=List.all_eq_true.1 ht b hm;have hbr:=a2g hb;have h2:t=t.take (i+1)++us:=by
  have e:=List.take_append_drop (i+1) t;rw [(a2y hd).2.1]at e;exact e.symm
 have hle:dv 0 (t.take (i+1))<=dv 0 t:=by
  have h3:=e8c us (dv 0 (t.take (i+1)))
  rwa [<-a9d,<-h2]at h3
 have hlen:=a0m hle;have he:dv 0 (t.take (i+1))=dv 0 (t.take i)*10+(b.toNat-48):=by
  rw [htk,a9d,c0o,b4o];unfold ten1;omega
 rw [he]at hlen⊢;have h10:=a0m (show dv 0 (t.take i)*10<=dv 0 (t.take i)*10+(b.toNat-48) by omega);have hv:=a0m (show dv 0 (t.take i)<=dv 0 (t.take i)*10 by omega);have hbl:=b4h (v:=b.toNat-48) (by omega);have e2:IntKind.i64.wrap (isub .u8 (b.toNat:Int) 48)=((b.toNat-48:Nat):Int):=by
  rw [show isub .u8 (b.toNat:Int) 48=((b.toNat-48:Nat):Int) by unfold isub;rw [c5d];omega,a0t (by omega) (by omega)]
 refine⟨b,us,hd,?_,?_,?_⟩
 ·have:=d3j (dv 0 (t.take i)) 10 (by omega) (by rw [dig_ten];decide)
  rwa [dig_ten]at this
 ·rw [e2];exact e3e (by omega)
 exact d0v _ _ (by omega) (by omega)
theorem d0c{s:Bs}(hl:s.length<=500):EvF tt 66 [.v (.str s)] (.tup [.v (eB (a1s s).1),I (a1s s).2]):=by
 have hc:=c1u s;refine evF (eIn Tryz.func66 rfl rfl ?_);rcases s with _|⟨b,s⟩
 ·refine qN rfl rfl ?_;refine qT rfl rfl ?_;exact qR rfl ⟨rfl,rfl⟩
 by_cases hb:b=45
 ·subst hb;have hcut:ssl (45::s) 1 ((45:UInt8)::s).length=some s:=by unfold ssl;rw [if_pos ⟨by omega,by simp;omega,by omega⟩];simp
  refine qT rfl (decide_eq_true (by simp)) ?_;refine qV rfl rfl ?_;refine qT rfl rfl ?_;refine qV rfl hcut ?_;clear hcut hc;rcases s with _|⟨b,t⟩
  ·refine qT rfl rfl ?_;exact qR rfl ⟨rfl,rfl⟩
  refine qN rfl rfl ?_;refine qV rfl rfl ?_
  by_cases h48:b=48
  ·subst h48;refine qT rfl rfl ?_;refine qT rfl rfl ?_;exact qR rfl ⟨rfl,rfl⟩
  have h48':¬((b.toNat:Int)=48):=fun h=>h48 (UInt8.toNat_inj.1 (by show b.toNat=48;omega));refine qN rfl (by simpa using h48') ?_;have hgood:(b::t).all isd=true->a1s (45::b::t)=(toB (-((dv 0 (b::t):Nat):Int)),0):=fun h=>by
   have h2:=d1q h48 h;unfold a1s;rw [if_neg (by simp),show cut (45::b::t)=(b::t,true)from rfl,if_pos h2];rfl
  have hbad:(b::t).all isd=false->a1s (45::b::t)=(⟨0,[]⟩,2):=fun h=>by
   unfold a1s;rw [if_neg (by simp),show cut (45::b::t)=(b::t,true)from rfl,if_neg (by show¬good (b::t)=true;unfold good;rw [h];simp)]
  have hT:(b::t).length<=500:=by simp only [List.length_cons]at hl⊢;omega
  have hne:0<(b::t).length:=by simp
  generalize hTe:(b::t)=t at*;refine qL (fun z:Int=> [(6,I z)]) (fun _=> []) (fun z=>∃i:Nat,z=i/\i<=t.length/\(t.take i).all isd=true) (fun z=>t.length-z.toNat) 0 rfl rfl ⟨0,rfl,Nat.zero_le _,by simp⟩ ?_;rintro z ⟨i,rfl,hi,hall⟩ ih
  by_cases hit:i<t.length
  ·obtain⟨b,us,hd,htk,hm⟩:=d7s hit;obtain⟨h1,h2,h3⟩:=a2y hd
   by_cases hb:isd b=true
   ·have hr:=a2g hb;have g:=ih (iadd .i64 (i:Int) 1) ⟨i+1,a0a (by omega),hit,by rw [htk,List.all_append,hall];simp [hb]⟩ (by rw [a0a (by omega)];omega);clear ih;refine qT rfl (decide_eq_true (by omega)) ?_;refine qV rfl h1 ?_;refine qN rfl (decide_eq_false (by omega)) ?_;refine qV rfl h1 ?_;refine qN rfl (decide_eq_false (by omega)) ?_;exact qB g (by kernel_rfl)
   clear ih;have hb':isd b=false:=by simpa using hb
   have hall2:t.all isd=false:=by
    cases h:t.all isd with
    |false=>rfl
    |true=>have:=List.all_eq_true.1 h b hm;rw [hb']at this;cases this
   rw [hbad hall2];refine qT rfl (decide_eq_true (by omega)) ?_;refine qV rfl h1 ?_
   by_cases h48:(b.toNat:Int)<48
   ·refine qT rfl (decide_eq_true h48) ?_;exact qR rfl ⟨rfl,rfl⟩
   have h57:(57:Int)<b.toNat:=by
    unfold isd at hb';simp only [Bool.and_eq_false_iff,decide_eq_false_iff_not]at hb';omega
   refine qN rfl (decide_eq_false h48) ?_;refine qV rfl h1 ?_;refine qT rfl (decide_eq_true h57) ?_;exact qR rfl ⟨rfl,rfl⟩
  clear ih;have hall2:t.all isd=true:=by rw [List.take_of_length_le (by omega)]at hall;exact hall
  rw [hgood hall2];have hsm:=d7t hall2 (by omega);have hlen:=a0d hsm;rw [Int.natAbs_natCast]at hlen;have m1:=a3z (s:=-1) (v:=dv 0 t) (by omega) (-((dv 0 t:Nat):Int)) (by omega) (fun h=>(a1g (by omega)).symm);refine qN rfl (decide_eq_false (by omega)) ?_;refine qB ?_ rfl;refine qI ?_;obtain⟨b,us,hd,d1,d2,d3⟩:=c9f hall2 hlen hne;obtain⟨h1,_,_⟩:=a2y hd;rw [List.take_zero,b4o,Nat.zero_mul,dig_zero]at d1 d3;refine qT rfl (decide_eq_true (by omega)) ?_;refine qK rfl d1 rfl ?_;refine qV rfl h1 ?_;refine qK rfl d2 rfl ?_;refine qK rfl d3 rfl ?_;refine qE rfl (by kernel_rfl) (by kernel_rfl) ?_;clear d1 d2 d3 hd h1 hi hit hall i;refine qL (fun q:Int×List VT=> [(8,I q.1),(7,L q.2)]) (fun _=> []) (fun q=>∃i:Nat,q.1=i/\i<=t.length/\q.2=ns (dig (dv 0 (t.take i)))) (fun q=>t.length-q.1.toNat) (iadd .i64 0 1,ns (dig (dv 0 (t.take (0+1))))) rfl rfl ⟨1,rfl,hne,rfl⟩ ?_;rintro⟨z,l⟩ ⟨i,hz,hi,hl2⟩ ih;obtain rfl:z=i:=hz;obtain rfl:l=_:=hl2
  by_cases hit:i<t.length
  ·obtain⟨b,us,hd,d1,d2,d3⟩:=c9f hall2 hlen hit;obtain⟨h1,_,_⟩:=a2y hd;have g:=ih (iadd .i64 (i:Int) 1,ns (dig (dv 0 (t.take (i+1))))) ⟨i+1,a0a (by omega),hit,rfl⟩ (by show t.length-(iadd .i64 (i:Int) 1).toNat<t.length-(i:Int).toNat;rw [a0a (by omega)];omega);clear ih;refine qT rfl (decide_eq_true (by show(i:Int)<_;omega)) ?_;refine qK rfl d1 rfl ?_;refine qV rfl h1 ?_;refine qK rfl d2 rfl ?_;refine qK rfl d3 rfl ?_;refine qE rfl (by kernel_rfl) (by kernel_rfl) ?_;exact qB g (by kernel_rfl)
  clear ih;have e:t.take i=t:=List.take_of_length_le (by omega);rw [e];refine qN rfl (decide_eq_false (by show¬(i:Int)<_;omega)) ?_;refine qK rfl (m1) rfl ?_;exact qR rfl ⟨rfl,rfl⟩
 clear hc;have hb45:¬((b.toNat:Int)=45):=fun h=>hb (UInt8.toNat_inj.1 (by show b.toNat=45;omega));refine qT rfl (decide_eq_true (by simp)) ?_;refine qV rfl rfl ?_;refine qN rfl (by simpa using hb45) ?_;refine qN rfl rfl ?_;refine qV rfl rfl ?_
 by_cases h48:b=48
 ·subst h48
  by_cases hs:s= []
  ·subst hs;refine qT rfl rfl ?_;refine qN rfl rfl ?_;have hlen:(dig (dv 0 [48])).length<=100:=by rw [show dv 0 [48]=0 from rfl,dig_zero];decide
   obtain⟨b,us,hd,d1,d2,d3⟩:=c9f (t:= [48]) rfl hlen (i:=0) (by decide);obtain⟨rfl,rfl⟩:=List.cons.inj hd;rw [List.take_zero,b4o,Nat.zero_mul,dig_zero]at d1 d3;rw [show dv 0 (List.take (0+1) [48])=0 from rfl,dig_zero]at d3;rw [show(48:UInt8).toNat-48=0 from rfl,dig_zero]at d2 d3;have m1:=a3z (s:=1) (v:=0) (by rw [dig_zero];decide) 0 rfl (fun h=>absurd rfl h);rw [dig_zero]at m1;have e:a1s [48]=(toB 0,0):=by rw [toB_zero];rfl
   rw [e];refine qB ?_ rfl;refine qI ?_;refine qT rfl rfl ?_;refine qV rfl rfl ?_;refine qN rfl rfl ?_;refine qV rfl rfl ?_;refine qN rfl rfl ?_;refine qB ?_ rfl;refine qI ?_;refine qN rfl rfl ?_;refine qB ?_ rfl;refine qI ?_;refine qT rfl rfl ?_;refine qK rfl d1 rfl ?_;refine qV rfl rfl ?_;refine qK rfl d2 rfl ?_;refine qK rfl d3 rfl ?_;refine qE rfl (by kernel_rfl) (by kernel_rfl) ?_;refine qB ?_ rfl;refine qI ?_;refine qN rfl rfl ?_;refine qK rfl (m1) rfl ?_;exact qR rfl ⟨rfl,rfl⟩
  have hs2:(48::s==([48]:Bs))=false:=beq_false_of_ne (by simpa using hs);refine qT rfl rfl ?_;refine qT rfl (by show(!(48::s==([48]:Bs)))=true;rw [hs2];rfl) ?_;have e:a1s (48::s)=(⟨0,[]⟩,2):=by
   unfold a1s;rw [if_neg (by simpa using hs),c5l (by decide),if_neg (by simp [good])]
  rw [e];exact qR rfl ⟨rfl,rfl⟩
 have h48':¬((b.toNat:Int)=48):=fun h=>h48 (UInt8.toNat_inj.1 (by show b.toNat=48;omega));refine qN rfl (by simpa using h48') ?_;have hgood:(b::s).all isd=true->a1s (b::s)=(toB ((dv 0 (b::s):Nat):Int),0):=fun h=>by
  have h2:=d1q h48 h;unfold a1s;rw [if_neg (by intro e;exact h48 (List.cons.inj e).1),c5l hb,if_pos h2];rfl
 have hbad:(b::s).all isd=false->a1s (b::s)=(⟨0,[]⟩,2):=fun h=>by
  unfold a1s;rw [if_neg (by intro e;exact h48 (List.cons.inj e).1),c5l hb,if_neg (by show¬good (b::s)=true;unfold good;rw [h];simp)]
 have hT:(b::s).length<=500:=by simp only [List.length_cons]at hl⊢;omega
 have hne:0<(b::s).length:=by simp
 generalize hTe:(b::s)=t at*;refine qL (fun z:Int=> [(6,I z)]) (fun _=> []) (fun z=>∃i:Nat,z=i/\i<=t.length/\(t.take i).all isd=true) (fun z=>t.length-z.toNat) 0 rfl rfl ⟨0,rfl,Nat.zero_le _,by simp⟩ ?_;rintro z ⟨i,rfl,hi,hall⟩ ih
 by_cases hit:i<t.length
 ·obtain⟨b,us,hd,htk,hm⟩:=d7s hit;obtain⟨h1,h2,h3⟩:=a2y hd
  by_cases hb:isd b=true
  ·have hr:=a2g hb;have g:=ih (iadd .i64 (i:Int) 1) ⟨i+1,a0a (by omega),hit,by rw [htk,List.all_append,hall];simp [hb]⟩ (by rw [a0a (by omega)];omega);clear ih;refine qT rfl (decide_eq_true (by omega)) ?_;refine qV rfl h1 ?_;refine qN rfl (decide_eq_false (by omega)) ?_;refine qV rfl h1 ?_;refine qN rfl (decide_eq_false (by omega)) ?_;exact qB g (by kernel_rfl)
  clear ih;have hb':isd b=false:=by simpa using hb
  have hall2:t.all isd=false:=by
   cases h:t.all isd with
   |false=>rfl
   |true=>have:=List.all_eq_true.1 h b hm;rw [hb']at this;cases this
  rw [hbad hall2];refine qT rfl (decide_eq_true (by omega)) ?_;refine qV rfl h1 ?_
  by_cases h48:(b.toNat:Int)<48
  ·refine qT rfl (decide_eq_true h48) ?_;exact qR rfl ⟨rfl,rfl⟩
  have h57:(57:Int)<b.toNat:=by
   unfold isd at hb';simp only [Bool.and_eq_false_iff,decide_eq_false_iff_not]at hb';omega
  refine qN rfl (decide_eq_false h48) ?_;refine qV rfl h1 ?_;refine qT rfl (decide_eq_true h57) ?_;exact qR rfl ⟨rfl,rfl⟩
 clear ih;have hall2:t.all isd=true:=by rw [List.take_of_length_le (by omega)]at hall;exact hall
 rw [hgood hall2];have hsm:=d7t hall2 (by omega);have hlen:=a0d hsm;rw [Int.natAbs_natCast]at hlen;have m1:=a3z (s:=1) (v:=dv 0 t) (by omega) (((dv 0 t:Nat):Int)) (by omega) (fun h=>(a1b (by omega)).symm);refine qN rfl (decide_eq_false (by omega)) ?_;refine qB ?_ rfl;refine qI ?_;obtain⟨b,us,hd,d1,d2,d3⟩:=c9f hall2 hlen hne;obtain⟨h1,_,_⟩:=a2y hd;rw [List.take_zero,b4o,Nat.zero_mul,dig_zero]at d1 d3;refine qT rfl (decide_eq_true (by omega)) ?_;refine qK rfl d1 rfl ?_;refine qV rfl h1 ?_;refine qK rfl d2 rfl ?_;refine qK rfl d3 rfl ?_;refine qE rfl (by kernel_rfl) (by kernel_rfl) ?_;clear d1 d2 d3 hd h1 hi hit hall i;refine qL (fun q:Int×List VT=> [(8,I q.1),(7,L q.2)]) (fun _=> []) (fun q=>∃i:Nat,q.1=i/\i<=t.length/\q.2=ns (dig (dv 0 (t.take i)))) (fun q=>t.length-q.1.toNat) (iadd .i64 0 1,ns (dig (dv 0 (t.take (0+1))))) rfl rfl ⟨1,rfl,hne,rfl⟩ ?_;rintro⟨z,l⟩ ⟨i,hz,hi,hl2⟩ ih;obtain rfl:z=i:=hz;obtain rfl:l=_:=hl2
 by_cases hit:i<t.length
 ·obtain⟨b,us,hd,d1,d2,d3⟩:=c9f hall2 hlen hit;obtain⟨h1,_,_⟩:=a2y hd;have g:=ih (iadd .i64 (i:Int) 1,ns (dig (dv 0 (t.take (i+1))))) ⟨i+1,a0a (by omega),hit,rfl⟩ (by show t.length-(iadd .i64 (i:Int) 1).toNat<t.length-(i:Int).toNat;rw [a0a (by omega)];omega);clear ih;refine qT rfl (decide_eq_true (by show(i:Int)<_;omega)) ?_;refine qK rfl d1 rfl ?_;refine qV rfl h1 ?_;refine qK rfl d2 rfl ?_;refine qK rfl d3 rfl ?_;refine qE rfl (by kernel_rfl) (by kernel_rfl) ?_;exact qB g (by kernel_rfl)
 clear ih;have e:t.take i=t:=List.take_of_length_le (by omega);rw [e];refine qN rfl (decide_eq_false (by show¬(i:Int)<_;omega)) ?_;refine qK rfl (m1) rfl ?_;exact qR rfl ⟨rfl,rfl⟩
set_option linter.unusedVariables false
set_option maxHeartbeats 4000000
set_option maxRecDepth 100000
theorem sm_one:Sm 1 (1:Int):=by unfold Sm;decide
theorem a8p{f:Frac}{k:Nat}(hp:f.P.Digits.length<=k)(hq:f.Q.Digits.length<=k)(hk:k<8388608):EvF tt 71 [.v (eF f)] (B (a0f f)):=by
 have r1:=b5p (a:=f.P) (by omega);have r2:=b5p (a:=f.Q) (by omega);have hrf:a0f f=(a1f f.P&&a1f f.Q&&(f.Q.Sign==1)&&(Nat.gcd (ofB f.P).natAbs (ofB f.Q).natAbs==1)):=rfl;refine evF (eIn Tryz.func71 rfl rfl ?_);cases h1:a1f f.P with
 |false=>
  rw [h1]at r1;rw [hrf,h1];refine qK rfl (r1) rfl ?_;refine qT rfl rfl ?_;exact qR rfl ⟨rfl,rfl⟩
 |true=>
 cases h2:a1f f.Q with
 |false=>
  rw [h1]at r1;rw [h2]at r2;rw [hrf,h1,h2];refine qK rfl (r1) rfl ?_;refine qN rfl rfl ?_;refine qK rfl (r2) rfl ?_;refine qT rfl rfl ?_;exact qR rfl ⟨rfl,rfl⟩
 |true=>
 rw [h1]at r1;rw [h2]at r2;obtain⟨x,hx⟩:=a2b h1;obtain⟨y,hy⟩:=a2b h2;have s1:Sm k x:=a0n (by have:(toB x).Digits.length<=k:=hx▸hp;exact this);have s2:Sm k y:=a0n (by have:(toB y).Digits.length<=k:=hy▸hq;exact this);have hg:=e0z s1 s2 hk;rw [<-hx,<-hy]at hg;have hc:=b4n (k:=k+1) ((b5s s1 s2).mono (by omega)) (sm_one.mono (by omega)) (by omega);have ho:=e3m (x:=1) (by decide) (by decide);have hsg:f.Q.Sign=sg y:=by rw [hy];rfl
 by_cases h3:f.Q.Sign<1
 ·have e:a0f f=false:=by rw [hrf,h1,h2,beq_eq_false_iff_ne.2 (by omega)];rfl
  rw [e];refine qK rfl r1 rfl ?_;refine qN rfl rfl ?_;refine qK rfl r2 rfl ?_;refine qN rfl rfl ?_;refine qT rfl (decide_eq_true h3) ?_;exact qR rfl ⟨rfl,rfl⟩
 have hr:a0f f=((sg (((Nat.gcd x.natAbs y.natAbs:Nat):Int)-1))==0):=by
  have h4:f.Q.Sign=1:=by rcases a0b y with h|h|h<;>omega
  rw [hrf,h1,h2,h4,hx,hy,a3d,a3d];have:=a0b (((Nat.gcd x.natAbs y.natAbs:Nat):Int)-1)
  by_cases h:Nat.gcd x.natAbs y.natAbs=1
  ·rw [h];rfl
  have hne:sg (((Nat.gcd x.natAbs y.natAbs:Nat):Int)-1)≠0:=by omega
  rw [beq_eq_false_iff_ne.2 hne];simp [h]
 rw [hr];refine qK rfl r1 rfl ?_;refine qN rfl rfl ?_;refine qK rfl r2 rfl ?_;refine qN rfl rfl ?_;refine qN rfl (decide_eq_false h3) ?_;refine qK rfl (hg) rfl ?_;refine qK rfl (ho) rfl ?_;refine qK rfl (hc) rfl ?_;refine qE rfl (by kernel_rfl) (by kernel_rfl) ?_;exact qR rfl ⟨rfl,rfl⟩
theorem a2p{r:Rat}{k:Nat}(h:SmF k r)(hk:k<8388608):EvF tt 71 [.v (eF (toF r))] (B true):=by
 have:=a8p (f:=toF r) (a4a h).1 (a4a h).2 hk
 rwa [a2u]at this
section
variable{p q:Int}{k:Nat}(hp:Sm k p)(hq:Sm k q)(hk:k<8388608)
include hp hq hk
theorem e1a(h0:0<q):∃x y g:Int,Sm k g/\g≠0/\EvF tt 136 [.v (eB (toB p)),.v (eB (toB q))] (.tup [.v (eB (toB g)),I 0])/\EvF tt 229 [.v (eB (toB p)),.v (eB (toB g))] (.tup [.v (eB (toB (dq p g))),.v (eB (toB x)),I 0])/\
 EvF tt 229 [.v (eB (toB q)),.v (eB (toB g))] (.tup [.v (eB (toB (dq q g))),.v (eB (toB y)),I 0])/\toF (Rat.divInt p q)=⟨toB (dq p g),toB (dq q g)⟩:=by
 have hg:0<Nat.gcd p.natAbs q.natAbs:=Nat.gcd_pos_of_pos_right _ (by omega);have hgs:=b5s hp hq;obtain⟨e1,e2⟩:=a7f (p:=p) h0;exact⟨_,_,_,hgs,by omega,e0z hp hq hk,d9t hp hgs hk (by omega),d9t hq hgs hk (by omega),by unfold toF;rw [e1,e2,<-c3u (by omega),<-c3u (by omega)]⟩
theorem b7b(h0:q≠0):EvF tt 173 [.v (eB (toB p)),.v (eB (toB q))] (.tup [.v (eF (toF (Rat.divInt p q))),I 0]):=by
 have r1:=a3m hp (by omega);have r2:=a3m hq (by omega);have hs:=a0b q;refine evF (eIn Tryz.func173 rfl rfl ?_);refine qK rfl r1 rfl ?_;refine qN rfl rfl ?_;refine qK rfl r2 rfl ?_;refine qN rfl rfl ?_;refine qN rfl (by show(sg q==0)=false;rw [beq_eq_false_iff_ne];omega) ?_
 by_cases hn:sg q<0
 ·have n1:=c9c hp (by omega);have n2:=c9c hq (by omega);obtain⟨x,y,g,g1,g2,g3,g4,g5,g6⟩:=e1a hp.neg hq.neg hk (by omega);rw [a7v,g6];refine qT rfl (decide_eq_true hn) ?_;refine qK rfl (n1) rfl ?_;refine qK rfl (n2) rfl ?_;refine qK rfl (g3) rfl ?_;refine qK rfl (g4) rfl ?_;refine qK rfl (g5) rfl ?_;exact qR rfl ⟨rfl,rfl⟩
 obtain⟨x,y,g,g1,g2,g3,g4,g5,g6⟩:=e1a hp hq hk (by omega);rw [g6];refine qN rfl (decide_eq_false hn) ?_;refine qK rfl (g3) rfl ?_;refine qK rfl (g4) rfl ?_;refine qK rfl (g5) rfl ?_;exact qR rfl ⟨rfl,rfl⟩
end
section
variable{a b:Rat}{j k:Nat}(ha:SmF j a)(hb:SmF k b)(hk:j+k<4000000)
include ha hb hk
theorem rPQ:EvF tt 104 [.v (eB (toF a).P),.v (eB (toF b).Q)] (.tup [.v (eB (toB (a.num*b.den))),I 0]):=c8l (ha.1.mono (by omega:j<=j+k)) (hb.2.mono (by omega:k<=j+k)) (by omega)
theorem rPP:EvF tt 104 [.v (eB (toF a).P),.v (eB (toF b).P)] (.tup [.v (eB (toB (a.num*b.num))),I 0]):=c8l (ha.1.mono (by omega:j<=j+k)) (hb.1.mono (by omega:k<=j+k)) (by omega)
theorem rQQ:EvF tt 104 [.v (eB (toF a).Q),.v (eB (toF b).Q)] (.tup [.v (eB (toB ((a.den:Int)*b.den))),I 0]):=c8l (ha.2.mono (by omega:j<=j+k)) (hb.2.mono (by omega:k<=j+k)) (by omega)
theorem rfadd_e:EvF tt 170 [.v (eF (toF a)),.v (eF (toF b))] (.tup [.v (eF (toF (a+b))),I 0]):=by
 have m1:Sm (j+k+1) (a.num*b.den):=(ha.1.mul hb.2).mono (by omega);have m2:Sm (j+k+1) (b.num*a.den):=(hb.1.mul ha.2).mono (by omega);have m3:Sm (j+k+1) ((a.den:Int)*b.den):=(ha.2.mul hb.2).mono (by omega);have m4:Sm (j+k+1) (a.num*b.den+b.num*a.den):=(ha.1.mul hb.2).add ((hb.1.mul ha.2).mono (by omega));have hn:=b7b m4 m3 (by omega) (b2q (a4i a) (a4i b));rw [<-b7h]at hn;have fa:=a2p ha (by omega);have fb:=a2p hb (by omega);have t1:=rPQ ha hb hk;have t2:=rPQ hb ha (by omega);have t3:=rQQ ha hb hk;have t4:=e0t m1 m2 (by omega);refine evF (eIn Tryz.func170 rfl rfl ?_);refine qK rfl (fa) rfl ?_;refine qN rfl rfl ?_;refine qK rfl (fb) rfl ?_;refine qN rfl rfl ?_;refine qK rfl (t1) rfl ?_;refine qK rfl (t2) rfl ?_;refine qK rfl (t3) rfl ?_;refine qK rfl (t4) rfl ?_;refine qK rfl (hn) rfl ?_;exact qR rfl ⟨rfl,rfl⟩
theorem rfsub_e:EvF tt 273 [.v (eF (toF a)),.v (eF (toF b))] (.tup [.v (eF (toF (a-b))),I 0]):=by
 have m1:Sm (j+k+1) (a.num*b.den):=(ha.1.mul hb.2).mono (by omega);have m2:Sm (j+k+1) (b.num*a.den):=(hb.1.mul ha.2).mono (by omega);have m3:Sm (j+k+1) ((a.den:Int)*b.den):=(ha.2.mul hb.2).mono (by omega);have m4:Sm (j+k+1) (a.num*b.den-b.num*a.den):=(ha.1.mul hb.2).sub ((hb.1.mul ha.2).mono (by omega));have hn:=b7b m4 m3 (by omega) (b2q (a4i a) (a4i b));have er:a-b=Rat.divInt (a.num*b.den-b.num*a.den) (a.den*b.den):=by
  rw [Rat.sub_eq_add_neg,b7h,Rat.neg_num,Rat.neg_den,Int.neg_mul,<-Int.sub_eq_add_neg]
 rw [<-er]at hn;have fa:=a2p ha (by omega);have fb:=a2p hb (by omega);have t1:=rPQ ha hb hk;have t2:=rPQ hb ha (by omega);have t3:=rQQ ha hb hk;have t4:=e9i m1 m2 (by omega);refine evF (eIn Tryz.func273 rfl rfl ?_);refine qK rfl (fa) rfl ?_;refine qN rfl rfl ?_;refine qK rfl (fb) rfl ?_;refine qN rfl rfl ?_;refine qK rfl (t1) rfl ?_;refine qK rfl (t2) rfl ?_;refine qK rfl (t3) rfl ?_;refine qK rfl (t4) rfl ?_;refine qK rfl (hn) rfl ?_;exact qR rfl ⟨rfl,rfl⟩
theorem rfmul_e:EvF tt 226 [.v (eF (toF a)),.v (eF (toF b))] (.tup [.v (eF (toF (a*b))),I 0]):=by
 have hn:=b7b (ha.1.mul hb.1) (ha.2.mul hb.2) (by omega) (b2q (a4i a) (a4i b));rw [<-c1i]at hn;have fa:=a2p ha (by omega);have fb:=a2p hb (by omega);have t1:=rPP ha hb hk;have t3:=rQQ ha hb hk;refine evF (eIn Tryz.func226 rfl rfl ?_);refine qK rfl (fa) rfl ?_;refine qN rfl rfl ?_;refine qK rfl (fb) rfl ?_;refine qN rfl rfl ?_;refine qK rfl (t1) rfl ?_;refine qK rfl (t3) rfl ?_;refine qK rfl (hn) rfl ?_;exact qR rfl ⟨rfl,rfl⟩
theorem rfcmp_e:EvF tt 54 [.v (eF (toF a)),.v (eF (toF b))] (I (cmpQ a b)):=by
 have fa:=a2p ha (by omega);have fb:=a2p hb (by omega);have t1:=rPQ ha hb hk;have t2:=rPQ hb ha (by omega);have t3:=b4n (ha.1.mul hb.2) ((hb.1.mul ha.2).mono (by omega)) (by omega);refine evF (eIn Tryz.func54 rfl rfl ?_);refine qK rfl (fa) rfl ?_;refine qN rfl rfl ?_;refine qK rfl (fb) rfl ?_;refine qN rfl rfl ?_;refine qK rfl (t1) rfl ?_;refine qK rfl (t2) rfl ?_;refine qK rfl (t3) rfl ?_;exact qR rfl ⟨rfl,rfl⟩
end
section
variable{a:Rat}{k:Nat}(ha:SmF k a)(hk:k<4000000)
include ha hk
theorem rfsign_e:EvF tt 95 [.v (eF (toF a))] (I (sg a.num)):=by
 have fa:=a2p ha (by omega);refine evF (eIn Tryz.func95 rfl rfl ?_);refine qK rfl (fa) rfl ?_;refine qN rfl rfl ?_;exact qR rfl ⟨rfl,rfl⟩
end
theorem e0w{x y:Int}(h1:-9223372036854775808<=x)(h2:x<=9223372036854775807)(h3:-9223372036854775808<=y)(h4:y<=9223372036854775807)(h0:y≠0):EvF tt 106 [.v (N x),.v (N y)] (.tup [.v (eF (toF (Rat.divInt x y))),I 0]):=by
 have s1:Sm 4 x:=a0n (a7t (by omega));have s2:Sm 4 y:=a0n (a7t (by omega));have o1:=e3m h1 h2;have o2:=e3m h3 h4;have hn:=b7b s1 s2 (by decide) h0;refine evF (eIn Tryz.func106 rfl rfl ?_);refine qK rfl (o1) rfl ?_;refine qK rfl (o2) rfl ?_;refine qK rfl (hn) rfl ?_;exact qR rfl ⟨rfl,rfl⟩
theorem a3b{x:Int}(h1:-9223372036854775808<=x)(h2:x<=9223372036854775807):EvF tt 55 [.v (N x)] (.v (eF (toF (x:Rat)))):=by
 have o1:=e0w h1 h2 (y:=1) (by decide) (by decide) (by decide);have e1:Rat.divInt x 1=(x:Rat):=by first|exact(Rat.intCast_eq_divInt x).symm|(rw [show(1:Int)=((1:Nat):Int)from rfl,Rat.divInt_ofNat,Rat.mkRat_one])
 rw [e1]at o1;refine evF (eIn Tryz.func55 rfl rfl ?_);refine qK rfl (o1) rfl ?_;exact qR rfl ⟨rfl,rfl⟩
theorem d5t{r:Rat}{k:Nat}(h:SmF k r)(hk:k<1000000):EvF tt 38 [.v (eF (toF r))] (S (txt r.num++47::txt (r.den:Int))):=by
 have fa:=a2p h (by omega);have h1:=a6q h.1;have h2:=a6q h.2;refine evF (eIn Tryz.func38 rfl rfl ?_);refine qK rfl fa rfl ?_;refine qN rfl rfl ?_;refine qK rfl (d0n h.1 hk) rfl ?_;refine qS rfl (by show _+1<=_;omega) ?_;refine qK rfl (d0n h.2 hk) rfl ?_;refine qS rfl (by simp only [List.length_append];show _+1+_<=_;omega) ?_;refine qE rfl (by kernel_rfl) (by kernel_rfl) ?_;refine qR rfl ⟨?_,rfl⟩;show S ((txt r.num++ [47])++txt (r.den:Int))=_;simp
theorem b5c{f:Frac}{k:Nat}(hp:f.P.Digits.length<=k)(hq:f.Q.Digits.length<=k)(hk:k<1000000):EvF tt 38 [.v (eF f)] (S (a3a f)):=by
 cases hr:a0f f with
 |false=>
  have fa:=a8p hp hq (by omega);rw [hr]at fa;unfold a3a;rw [hr];refine evF (eIn Tryz.func38 rfl rfl ?_);refine qK rfl (fa) rfl ?_;refine qT rfl rfl ?_;exact qR rfl ⟨rfl,rfl⟩
 |true=>
  obtain⟨r,rfl⟩:=a3g hr;rw [a8j];exact d5t (k:=k) ⟨a0n hp,a0n hq⟩ hk
set_option linter.unusedVariables false
set_option maxHeartbeats 4000000
set_option maxRecDepth 100000
theorem d6i{s:Bs}(hl:s.length<1000000)(h1:(cutS s).1.length<=500)(h2:(cutS s).2.1.length<=500):EvF tt 32 [S s] (.tup [.v (eF (a2m s).1),I (a2m s).2]):=by
 refine evF (eIn Tryz.func32 rfl rfl ?_);refine qL (fun z:Int=> [(4,I z)]) (fun _=> []) (fun z=>∃i:Nat,z=i/\i<=s.length/\∀b∈s.take i,b≠47) (fun z=>s.length-z.toNat) 0 rfl rfl ⟨0,rfl,Nat.zero_le _,by simp⟩ ?_;rintro z ⟨i,rfl,hi,hno⟩ ih
 by_cases hit:i<s.length
 ·obtain⟨b,us,hd,htk,hm⟩:=d7s hit;obtain⟨g1,g2,g3⟩:=a2y hd
  by_cases hb:b=47
  ·clear ih;subst hb;have hs:s=s.take i++47::us:=by
    have e:=List.take_append_drop i s;rw [hd]at e;exact e.symm
   have hil:(s.take i).length=i:=by rw [List.length_take];omega
   generalize s.take i=u at*;clear htk hm g2 g3 hd;subst hs;subst hil;rw [cutS_append u us hno]at h1 h2
   replace h1:u.length<=500:=h1
   replace h2:us.length<=500:=h2
   have r1:=d0c h1;have r2:=d0c h2;have l1:=a4r u h1;have l2:=a4r us h2;have ef:a2m (u++47::us)=if(a1s u).2=0/\(a1s us).2=0/\a0f ⟨(a1s u).1,(a1s us).1⟩=true/\a3a ⟨(a1s u).1,(a1s us).1⟩=u++47::us then(⟨(a1s u).1,(a1s us).1⟩,0)else(zeroF,2):=by
    unfold a2m;rw [cutS_append u us hno]
   rw [ef];generalize a1s u=p at*;generalize a1s us=q at*;have ft:=b5c (f:=⟨p.1,q.1⟩) l1 l2 (by decide);refine qT rfl (decide_eq_true (by omega)) ?_;refine qV rfl g1 ?_;refine qN rfl rfl ?_;refine qN rfl (by rw [beq_eq_false_iff_ne];omega) ?_;refine qV rfl (c5t u us) ?_;refine qK rfl r1 rfl ?_;refine qV rfl (c4r u us (by omega)) ?_;refine qK rfl r2 rfl ?_
   by_cases e1:p.2=0
   ·refine qN rfl (by simpa using e1) ?_
    by_cases e2:q.2=0
    ·refine qN rfl (by simpa using e2) ?_;refine qK rfl ft rfl ?_
     by_cases e4:a3a ⟨p.1,q.1⟩=u++47::us
     ·have e3:a0f ⟨p.1,q.1⟩=true:=by
       cases h:a0f ⟨p.1,q.1⟩with
       |true=>rfl
       |false=>
        unfold a3a at e4;rw [h]at e4;simp at e4
      rw [if_pos ⟨e1,e2,e3,e4⟩];refine qN rfl (by simpa using e4) ?_;exact qR rfl ⟨rfl,rfl⟩
     rw [if_neg fun h=>e4 h.2.2.2];refine qT rfl (by simpa using e4) ?_;exact qR rfl ⟨rfl,rfl⟩
    rw [if_neg fun h=>e2 h.2.1];refine qT rfl (by simpa using e2) ?_;exact qR rfl ⟨rfl,rfl⟩
   rw [if_neg fun h=>e1 h.1];refine qT rfl (by simpa using e1) ?_;exact qR rfl ⟨rfl,rfl⟩
  have hb7:¬((b.toNat:Int)=47):=fun h=>hb (UInt8.toNat_inj.1 (by show b.toNat=47;omega));have g:=ih (iadd .i64 (i:Int) 1) ⟨i+1,a0a (by omega),hit,by
   intro c hc;rw [htk,List.mem_append]at hc;rcases hc with hc|hc
   ·exact hno c hc
   rw [List.mem_singleton]at hc;rw [hc];exact hb⟩ (by rw [a0a (by omega)];omega)
  clear ih;refine qT rfl (decide_eq_true (by omega)) ?_;refine qV rfl g1 ?_;refine qT rfl (by simpa using hb7) ?_;exact qB g (by kernel_rfl)
 clear ih;have e:s.take i=s:=List.take_of_length_le (by omega);rw [e]at hno;have ef:a2m s=(zeroF,2):=by
  rcases cutS_spec s with⟨_,_,h3⟩|⟨_,_,h3,h4⟩
  ·exact absurd rfl (hno 47 (by rw [h3];simp))
  unfold a2m;rw [h4,if_neg (fun h=>by have:=h.2.1;revert this;decide)]
 rw [ef];refine qN rfl (decide_eq_false (by omega)) ?_;refine qT rfl (by rw [beq_iff_eq];omega) ?_;exact qR rfl ⟨rfl,rfl⟩
set_option linter.unusedVariables false
set_option maxHeartbeats 4000000
set_option maxRecDepth 100000
theorem a3u(i n:Int):EvF tt 199 [I i,I n] (B (idx i n)):=by
 refine evF (eIn Tryz.func199 rfl rfl ?_);refine qC rfl (fun h=> ?_) (fun h=> ?_);refine qR rfl ⟨congrArg B ?_,rfl⟩;rotate_left;refine qR rfl ⟨congrArg B ?_,rfl⟩;rotate_left;all_goals grind [idx]
theorem c7c(i n m:Int):EvF tt 200 [I i,I n,I m] (B (btw i n m)):=by
 refine evF (eIn Tryz.func200 rfl rfl ?_);refine qC rfl (fun h=> ?_) (fun h=> ?_);refine qR rfl ⟨congrArg B ?_,rfl⟩;rotate_left;refine qR rfl ⟨congrArg B ?_,rfl⟩;rotate_left;all_goals grind [btw]
theorem e9c(e:Evi):EvF tt 139 [.v (eEv e)] (B (b9e e)):=by
 refine evF (eIn Tryz.func139 rfl rfl ?_);refine qB ?_ rfl
 iterate 8
  refine qI ?_;refine qT rfl rfl ?_;refine qV rfl rfl ?_;refine qV rfl rfl ?_;refine qV rfl rfl ?_;refine qC rfl (fun h=> ?_) (fun h=> ?_);refine qR rfl ⟨congrArg B ?_,rfl⟩;rotate_left;refine qB ?_ rfl
 refine qI ?_;refine qN rfl rfl ?_;refine qR rfl ⟨congrArg B ?_,rfl⟩;rotate_left;all_goals try simp only [List.length_map]at*
 all_goals grind [b9e]
theorem f1e(e:Evi)(m:Mve):EvF tt 141 [.v (eEv e),.v (eMo m)] (B (movR e m)):=by
 refine evF (eIn Tryz.func141 rfl rfl ?_);refine qK rfl (a3u _ _) rfl ?_;refine qC rfl (fun h=> ?_) (fun h=> ?_);refine qR rfl ⟨congrArg B ?_,rfl⟩;rotate_left;refine qK rfl (a3u _ _) rfl ?_;refine qC rfl (fun h=> ?_) (fun h=> ?_);refine qR rfl ⟨congrArg B ?_,rfl⟩;rotate_left;refine qC rfl (fun h=> ?_) (fun h=> ?_);refine qR rfl ⟨congrArg B ?_,rfl⟩;rotate_left;refine qXm rfl ⟨?_,?_⟩ fun v hv _=> ?_;rotate_left 2;refine qC rfl (fun h=> ?_) (fun h=> ?_);refine qR rfl ⟨congrArg B ?_,rfl⟩;rotate_left;refine qC rfl (fun h=> ?_) (fun h=> ?_);refine qR rfl ⟨congrArg B ?_,rfl⟩;rotate_left;refine qC rfl (fun h=> ?_) (fun h=> ?_);refine qC rfl (fun h=> ?_) (fun h=> ?_);refine qR rfl ⟨congrArg B ?_,rfl⟩;rotate_left;refine qXm rfl ⟨?_,?_⟩ fun v hv _=> ?_;rotate_left 2;refine qC rfl (fun h=> ?_) (fun h=> ?_);refine qR rfl ⟨congrArg B ?_,rfl⟩;rotate_left;refine qC rfl (fun h=> ?_) (fun h=> ?_);refine qR rfl ⟨congrArg B ?_,rfl⟩;rotate_left;refine qK rfl (a3u _ _) rfl ?_;refine qC rfl (fun h=> ?_) (fun h=> ?_);refine qK rfl (c7c _ _ _) rfl ?_;refine qR rfl ⟨congrArg B ?_,rfl⟩;rotate_left;refine qR rfl ⟨congrArg B ?_,rfl⟩;rotate_left;refine qXm rfl ⟨?_,?_⟩ fun v hv _=> ?_;rotate_left 2;refine qC rfl (fun h=> ?_) (fun h=> ?_);refine qR rfl ⟨congrArg B ?_,rfl⟩;rotate_left;refine qC rfl (fun h=> ?_) (fun h=> ?_);refine qR rfl ⟨congrArg B ?_,rfl⟩;rotate_left;refine qK rfl (a3u _ _) rfl ?_;refine qC rfl (fun h=> ?_) (fun h=> ?_);refine qK rfl (c7c _ _ _) rfl ?_;refine qR rfl ⟨congrArg B ?_,rfl⟩;rotate_left;refine qR rfl ⟨congrArg B ?_,rfl⟩;rotate_left;all_goals try simp only [List.length_map]at*
 all_goals grind [movR,a4u,idx]
theorem d8c(e:Evi)(hl:e.Places.length<1000000):EvF tt 140 [.v (eEv e)] (B (e.Places.all (plcR e))):=by
 refine evF (eIn Tryz.func140 rfl rfl ?_);refine qF e.Places.length (fun z _=> [(8,I z)]) (fun _ _=> []) (fun k(_:Unit)=>e.Places.all (plcR e)=(e.Places.drop k).all (plcR e)) () rfl rfl rfl ?_;intro k _ hk hJ ih;refine qXl rfl rfl rfl hk (fun a ha hd hlt=> ?_) (fun hd hk=> ?_)
 ·rw [hd,List.all_cons]at hJ;refine qK rfl (a3u _ _) rfl ?_;refine qC rfl (fun h=> ?_) (fun h=> ?_);refine qR rfl ⟨congrArg B ?_,rfl⟩;rotate_left;refine qC rfl (fun h=> ?_) (fun h=> ?_);refine qK rfl (a3u _ _) rfl ?_;refine qC rfl (fun h=> ?_) (fun h=> ?_);refine qR rfl ⟨congrArg B ?_,rfl⟩;rotate_left;refine qK rfl (a3u _ _) rfl ?_;refine qC rfl (fun h=> ?_) (fun h=> ?_);refine qR rfl ⟨congrArg B ?_,rfl⟩;rotate_left;refine qB (ih _ () (a0a (by omega)) hlt ?_) (by kernel_rfl);rotate_left;refine qC rfl (fun h=> ?_) (fun h=> ?_);refine qR rfl ⟨congrArg B ?_,rfl⟩;rotate_left;refine qC rfl (fun h=> ?_) (fun h=> ?_);refine qR rfl ⟨congrArg B ?_,rfl⟩;rotate_left;refine qB (ih _ () (a0a (by omega)) hlt ?_) (by kernel_rfl);rotate_left;all_goals clear ih
  all_goals grind [plcR,idx]
 rw [hd]at hJ;exact qR rfl ⟨congrArg B (by rw [hJ];rfl),rfl⟩
theorem e8w(e:Evi)(hc:e.Certs.length<1000000)(hr:e.Recalls.length<1000000)(hp:e.Purities.length<1000000):EvF tt 142 [.v (eEv e)] (B (a7u e)):=by
 refine evF (eIn Tryz.func142 rfl rfl ?_);refine qF e.Certs.length (fun z _=> [(13,I z)]) (fun _ _=> []) (fun k(_:Unit)=>e.Certs.all (crtR e)=(e.Certs.drop k).all (crtR e)) () rfl rfl rfl ?_;intro k _ hk hJ ih;refine qXl rfl rfl rfl hk (fun a ha hd hlt=> ?_) (fun hd hk=> ?_)
 ·rw [hd,List.all_cons]at hJ;refine qC rfl (fun h=> ?_) (fun h=> ?_);refine qC rfl (fun h=> ?_) (fun h=> ?_);refine qC rfl (fun h=> ?_) (fun h=> ?_);refine qR rfl ⟨congrArg B ?_,rfl⟩;rotate_left;refine qK rfl (a3u _ _) rfl ?_;refine qC rfl (fun h=> ?_) (fun h=> ?_);refine qR rfl ⟨congrArg B ?_,rfl⟩;rotate_left;refine qK rfl (c7c _ _ _) rfl ?_;refine qC rfl (fun h=> ?_) (fun h=> ?_);refine qR rfl ⟨congrArg B ?_,rfl⟩;rotate_left;refine qK rfl (c7c _ _ _) rfl ?_;refine qC rfl (fun h=> ?_) (fun h=> ?_);refine qR rfl ⟨congrArg B ?_,rfl⟩;rotate_left;refine qK rfl (c7c _ _ _) rfl ?_;refine qC rfl (fun h=> ?_) (fun h=> ?_);refine qR rfl ⟨congrArg B ?_,rfl⟩;rotate_left;refine qB (ih _ () (a0a (by omega)) hlt ?_) (by kernel_rfl);rotate_left;refine qR rfl ⟨congrArg B ?_,rfl⟩;rotate_left;refine qR rfl ⟨congrArg B ?_,rfl⟩;rotate_left;all_goals clear ih
  all_goals grind [a7u,crtR,idx,btw]
 rw [hd,List.all_nil]at hJ;clear ih;refine qF e.Recalls.length (fun z _=> [(64,I z)]) (fun _ _=> []) (fun k(_:Unit)=>e.Recalls.all (rclR e)=(e.Recalls.drop k).all (rclR e)) () rfl rfl rfl ?_;intro k _ hk hJ2 ih;refine qXl rfl rfl rfl hk (fun a ha hd hlt=> ?_) (fun hd hk=> ?_)
 ·rw [hd,List.all_cons]at hJ2;refine qK rfl (a3u _ _) rfl ?_;refine qC rfl (fun h=> ?_) (fun h=> ?_);refine qR rfl ⟨congrArg B ?_,rfl⟩;rotate_left;refine qK rfl (c7c _ _ _) rfl ?_;refine qC rfl (fun h=> ?_) (fun h=> ?_);refine qR rfl ⟨congrArg B ?_,rfl⟩;rotate_left;refine qB (ih _ () (a0a (by omega)) hlt ?_) (by kernel_rfl);rotate_left;all_goals clear ih
  all_goals grind [a7u,rclR,idx,btw]
 rw [hd,List.all_nil]at hJ2;clear ih;refine qF e.Purities.length (fun z _=> [(84,I z)]) (fun _ _=> []) (fun k(_:Unit)=>e.Purities.all (purR e)=(e.Purities.drop k).all (purR e)) () rfl rfl rfl ?_;intro k _ hk hJ3 ih;refine qXl rfl rfl rfl hk (fun a ha hd hlt=> ?_) (fun hd hk=> ?_)
 ·rw [hd,List.all_cons]at hJ3;refine qK rfl (a3u _ _) rfl ?_;refine qC rfl (fun h=> ?_) (fun h=> ?_);refine qR rfl ⟨congrArg B ?_,rfl⟩;rotate_left;refine qK rfl (a3u _ _) rfl ?_;refine qC rfl (fun h=> ?_) (fun h=> ?_);refine qR rfl ⟨congrArg B ?_,rfl⟩;rotate_left;refine qC rfl (fun h=> ?_) (fun h=> ?_);refine qR rfl ⟨congrArg B ?_,rfl⟩;rotate_left;refine qC rfl (fun h=> ?_) (fun h=> ?_);refine qR rfl ⟨congrArg B ?_,rfl⟩;rotate_left;refine qC rfl (fun h=> ?_) (fun h=> ?_);refine qR rfl ⟨congrArg B ?_,rfl⟩;rotate_left;refine qB (ih _ () (a0a (by omega)) hlt ?_) (by kernel_rfl);rotate_left;all_goals try simp only [List.length_map]at*
  all_goals clear ih
  all_goals grind [a7u,purR,idx,btw]
 rw [hd,List.all_nil]at hJ3;exact qR rfl ⟨congrArg B (by unfold a7u;rw [hJ,hJ2,hJ3];rfl),rfl⟩
theorem e9p(e:Evi)(hp:e.Places.length<1000000)(hm:e.Moves.length<1000000)(hc:e.Certs.length<1000000)(hr:e.Recalls.length<1000000)(hq:e.Purities.length<1000000):EvF tt 75 [.v (eEv e)] (I (a1t e)):=by
 refine evF (eIn Tryz.func75 rfl rfl ?_);refine qK rfl (e9c e) rfl ?_;refine qC rfl (fun h1=> ?_) (fun h1=> ?_)
 ·exact qR rfl ⟨congrArg I (by unfold a1t;rw [if_pos h1]),rfl⟩
 refine qC rfl (fun h=> ?_) (fun h=> ?_);refine qR rfl ⟨congrArg I ?_,rfl⟩;rotate_left;refine qC rfl (fun h=> ?_) (fun h=> ?_);refine qR rfl ⟨congrArg I ?_,rfl⟩;rotate_left;refine qC rfl (fun h=> ?_) (fun h=> ?_);refine qR rfl ⟨congrArg I ?_,rfl⟩;rotate_left;refine qK rfl (d8c e hp) rfl ?_;refine qC rfl (fun h=> ?_) (fun h=> ?_);refine qR rfl ⟨congrArg I ?_,rfl⟩;rotate_left
 ·have hpl:¬(e.Materials<1∨e.Households<0∨e.Scales<0∨e.Places.all (plcR e)=false):=by grind
  have hfl:a1t e=if chkM e 0 e.Moves≠0 then chkM e 0 e.Moves else if a7u e=true then 0 else 1:=by
   unfold a1t;rw [if_neg (by simp [h1]),if_neg hpl]
  refine qF e.Moves.length (fun z last=> [(31,I z),(3,I last)]) (fun _ _=> []) (fun k last=>chkM e 0 e.Moves=chkM e last (e.Moves.drop k)) 0 rfl rfl rfl ?_;intro k last hk hJ ih;refine qXl rfl rfl rfl hk (fun a ha hd hlt=> ?_) (fun hd hk=> ?_)
  ·rw [hd,show∀l m k,chkM e k (m::l)=if m.Day<k∨100000<m.Day then 17 else if movR e m=false then 1 else chkM e m.Day l from fun _ _ _=>rfl]at hJ;refine qC rfl (fun h=> ?_) (fun h=> ?_);refine qR rfl ⟨congrArg I ?_,rfl⟩;rotate_left;refine qC rfl (fun h=> ?_) (fun h=> ?_);refine qR rfl ⟨congrArg I ?_,rfl⟩;rotate_left;refine qK rfl (f1e e a) rfl ?_;refine qC rfl (fun h=> ?_) (fun h=> ?_);refine qR rfl ⟨congrArg I ?_,rfl⟩;rotate_left;refine qB (ih _ a.Day (a0a (by omega)) hlt ?_) (by kernel_rfl);rotate_left;all_goals (clear ih;grind)
  rw [hd]at hJ;have hJ:chkM e 0 e.Moves=0:=hJ;refine qK rfl (e8w e hc hr hq) rfl ?_;refine qC rfl (fun h=> ?_) (fun h=> ?_);refine qR rfl ⟨congrArg I ?_,rfl⟩;rotate_left;refine qR rfl ⟨congrArg I ?_,rfl⟩;rotate_left;all_goals (clear ih;grind)
 all_goals grind [a1t]
set_option linter.unusedVariables false
set_option maxHeartbeats 4000000
set_option maxRecDepth 100000
theorem a6u(n m:Int):EvF tt 293 [I n,I m] (B (btw n 0 m)):=by
 refine evF (eIn Tryz.func293 rfl rfl ?_);refine qC rfl (fun h=> ?_) (fun h=> ?_);refine qR rfl ⟨congrArg B ?_,rfl⟩;rotate_left;refine qR rfl ⟨congrArg B ?_,rfl⟩;rotate_left;all_goals grind [btw]
theorem d7u(c:Crt):EvF tt 311 [.v (eCr c)] (B (a0o c)):=by
 refine evF (eIn Tryz.func311 rfl rfl ?_);refine qC rfl (fun h=> ?_) (fun h=> ?_);refine qC rfl (fun h=> ?_) (fun h=> ?_);refine qC rfl (fun h=> ?_) (fun h=> ?_);refine qK rfl (a6u _ _) rfl ?_;refine qC rfl (fun h=> ?_) (fun h=> ?_);refine qK rfl (a6u _ _) rfl ?_;refine qC rfl (fun h=> ?_) (fun h=> ?_);refine qK rfl (a6u _ _) rfl ?_;refine qC rfl (fun h=> ?_) (fun h=> ?_);refine qK rfl (a6u _ _) rfl ?_;refine qR rfl ⟨congrArg B ?_,rfl⟩;rotate_left;refine qR rfl ⟨congrArg B ?_,rfl⟩;rotate_left;refine qR rfl ⟨congrArg B ?_,rfl⟩;rotate_left;refine qR rfl ⟨congrArg B ?_,rfl⟩;rotate_left;refine qR rfl ⟨congrArg B ?_,rfl⟩;rotate_left;refine qR rfl ⟨congrArg B ?_,rfl⟩;rotate_left;refine qR rfl ⟨congrArg B ?_,rfl⟩;rotate_left;all_goals grind [a0o,btw]
theorem b7q(c:Crt)(d:Int):EvF tt 290 [.v (eCr c),I d] (B (covC c d)):=by
 refine evF (eIn Tryz.func290 rfl rfl ?_);refine qK rfl (d7u _) rfl ?_;refine qC rfl (fun h=> ?_) (fun h=> ?_);refine qC rfl (fun h=> ?_) (fun h=> ?_);refine qR rfl ⟨congrArg B ?_,rfl⟩;rotate_left;refine qR rfl ⟨congrArg B ?_,rfl⟩;rotate_left;refine qR rfl ⟨congrArg B ?_,rfl⟩;rotate_left;all_goals grind [covC]
theorem e8h(cs:List Crt)(sc day:Int)(hl:cs.length<1000000):EvF tt 249 [L (cs.map eCr),I sc,I day] (.tup [I (a4n cs sc day 0 cs (0,false)).1,B (a4n cs sc day 0 cs (0,false)).2]):=by
 refine evF (eIn Tryz.func249 rfl rfl ?_);refine qF cs.length (fun z q=> [(14,I z),(9,B q.2),(8,I ((q.1:Nat):Int))]) (fun _ _=> []) (fun k(q:Nat×Bool)=>a4n cs sc day 0 cs (0,false)=a4n cs sc day k (cs.drop k) q/\(q.2=true->q.1<cs.length)) (0,false) rfl rfl ⟨rfl,by simp⟩ ?_;rintro k ⟨best,found⟩ hk ⟨hJ,hb⟩ ih;refine qXl rfl rfl rfl hk (fun a ha hd hlt=> ?_) (fun hd hk=> ?_)
 ·rw [hd,show∀l a k q,a4n cs sc day k (a::l) q=a4n cs sc day (k+1) l (if a.Scale=sc/\covC a day=true/\(q.2=false∨a7i cs q.1<=a.From)then(k,true)else q)from fun _ _ _ _=>rfl]at hJ;refine qC rfl (fun h=> ?_) (fun h=> ?_);refine qK rfl (b7q _ _) rfl ?_;refine qC rfl (fun h=> ?_) (fun h=> ?_);refine qC rfl (fun h=> ?_) (fun h=> ?_);refine qE rfl (by kernel_rfl) (by kernel_rfl) ?_;refine qB (ih _ (_,_) (a0a (by omega)) hlt ?_) rfl;rotate_left;refine qXm rfl ⟨?_,?_⟩ fun v hv _=> ?_;rotate_left 2;refine qE rfl (by kernel_rfl) (by kernel_rfl) ?_;refine qC rfl (fun h=> ?_) (fun h=> ?_);refine qB (ih _ (_,_) (a0a (by omega)) hlt ?_) rfl;rotate_left;refine qB (ih _ (_,_) (a0a (by omega)) hlt ?_) rfl;rotate_left;refine qE rfl (by kernel_rfl) (by kernel_rfl) ?_;refine qB (ih _ (_,_) (a0a (by omega)) hlt ?_) rfl;rotate_left;refine qE rfl (by kernel_rfl) (by kernel_rfl) ?_;refine qB (ih _ (_,_) (a0a (by omega)) hlt ?_) rfl;rotate_left;all_goals clear ih
  all_goals grind [a7i]
 rw [hd]at hJ;rw [hJ];exact qR rfl ⟨rfl,rfl⟩
abbrev rcH(d:Bool)(sc day:Int):DH:= [⟨0,0,false,d,false,.box 3 [I sc]⟩,⟨0,0,false,d,false,.box 3 [I day]⟩]
theorem f1j(r:Rcl)(sc day:Int):EvH tt 292 [.v (eRc r),.bp 0 0,.bp 1 0] (rcH false sc day) (B (decide (r.Scale=sc)&&decide (r.Since<=day))) (rcH false sc day):=by
 refine evF (eInH 2 Tryz.func292 rfl rfl rfl ?_);refine qC rfl (fun h=> ?_) (fun h=> ?_);refine qR rfl ⟨congrArg B ?_,rfl⟩;rotate_left;refine qR rfl ⟨congrArg B ?_,rfl⟩;rotate_left;all_goals grind
theorem e3y(rs:List Rcl)(sc day:Int)(hl:rs.length<1000000):∃z:Int,(0<=z↔rcld rs sc day=true)/\EvH tt 312 [L (rs.map eRc),.clo 292 [] [.bp 0 0,.bp 1 0]] (rcH false sc day) (I z) (rcH true sc day):=by
 refine evX (en:=I) (eInH 2 Tryz.func312 rfl rfl rfl ?_);refine qF rs.length (fun z _=> [(8,I z)]) (fun _ _=> []) (fun k(_:Unit)=>rcld rs sc day=rcld (rs.drop k) sc day) () rfl rfl rfl ?_;intro k _ hk hJ ih;have hJ:rcld rs sc day=rcld (rs.drop k) sc day:=hJ;refine qXl rfl rfl rfl hk (fun a ha hd hlt=> ?_) (fun hd hk=> ?_)
 ·rw [hd,show rcld (a::rs.drop (k+1)) sc day=((decide (a.Scale=sc)&&decide (a.Since<=day))||rcld (rs.drop (k+1)) sc day)from rfl]at hJ;refine qK rfl (f1j a sc day) rfl ?_;refine qC rfl (fun h=> ?_) (fun h=> ?_);refine qR rfl ?_;rotate_left;refine qB (ih _ () (a0a (by omega)) hlt ?_) (by kernel_rfl);rotate_left;all_goals clear ih
  ·exact⟨rfl,_,by grind,rfl⟩
  grind
 rw [hd]at hJ;refine qR rfl ⟨rfl,_,?_,rfl⟩;rw [hJ];simp [rcld]
theorem c6x(rs:List Rcl)(sc day:Int)(hl:rs.length<1000000):EvF tt 250 [L (rs.map eRc),I sc,I day] (B (rcld rs sc day)):=by
 obtain⟨z,hz,hi⟩:=e3y rs sc day hl;have hc:EvH tt 291 [L (rs.map eRc),.clo 292 [] [.bp 0 0,.bp 1 0]] (rcH false sc day) (B (rcld rs sc day)) (rcH true sc day):=by
  refine evF (eInH 2 Tryz.func291 rfl rfl rfl ?_);refine qK rfl (hi) rfl ?_;refine qR rfl ⟨congrArg B ?_,rfl⟩;rotate_left;all_goals grind
 refine evF (eIn Tryz.func250 rfl rfl ?_);refine qK rfl (hc) rfl ?_;exact qR rfl ⟨rfl,rfl⟩
theorem a3y{a b A C:Int}(h0:0<=a)(h1:a<=A)(h2:0<=b)(h3:b<=C):0<=a*b/\a*b<=A*C:=
 ⟨Int.mul_nonneg h0 h2,Int.mul_le_mul h1 h3 h2 (by omega)⟩
theorem a3r{x:Int}(h:x.natAbs<18446744073709551616):SmF 4 (x:Rat):=by
 refine⟨by rw [Rat.num_intCast];exact a0n (a7t h),?_⟩;rw [Rat.den_intCast];exact a0n (a7t (u:=1) (by decide))
theorem c0v{c:Crt}{reading day:Int}(h:covC c day=true/\btw reading 0 1099511627776=true):SmF 9 (errC c reading day):=by
 simp only [covC,a0o,btw,Bool.and_eq_true,decide_eq_true_eq]at h;have h1:=a3y (a:=c.PerMille) (b:=reading) (A:=1000) (C:=1099511627776) (by omega) (by omega) (by omega) (by omega);have h2:=a3y (a:=c.Drift) (b:=day-c.From) (A:=10000000) (C:=100000) (by omega) (by omega) (by omega) (by omega);unfold errC;exact((a4o (k:=4) (a0n (a7t (by omega))) (a0n (a7t (by decide))) (by decide)).add (a3r (by omega))).mono (by omega)
theorem e3b{c:Crt}{reading day:Int}(h:covC c day=true/\btw reading 0 1099511627776=true):EvF tt 251 [.v (eCr c),I reading,I day] (.tup [.v (eF (toF (errC c reading day))),B true]):=by
 have hh:=h;simp only [covC,a0o,btw,Bool.and_eq_true,decide_eq_true_eq]at hh;have h1:=a3y (a:=c.PerMille) (b:=reading) (A:=1000) (C:=1099511627776) (by omega) (by omega) (by omega) (by omega);have h2:=a3y (a:=c.Drift) (b:=day-c.From) (A:=10000000) (C:=100000) (by omega) (by omega) (by omega) (by omega);have hof:EvF tt 19 [I (imul .i64 c.PerMille reading),I 1000] (.tup [.v (eF (toF (Rat.divInt (c.PerMille*reading) 1000))),I 0]):=by
  rw [a0s (by omega) (by omega)];exact e9b (by omega) (by omega) (by decide) (by decide) (by decide)
 have hin:EvF tt 20 [I (iadd .i64 c.Grams (imul .i64 c.Drift (isub .i64 day c.From)))] (.v (eF (toF ((c.Grams+c.Drift*(day-c.From):Int):Rat)))):=by
  rw [a0c (by omega) (by omega),a0s (by omega) (by omega),a0e (by omega) (by omega)];exact a2f (by omega) (by omega)
 have had:=fadd_e (a4o (p:=c.PerMille*reading) (q:=1000) (k:=4) (a0n (a7t (by omega))) (a0n (a7t (by decide))) (by decide)) (a3r (x:=c.Grams+c.Drift*(day-c.From)) (by omega)) (by decide);refine evF (eIn Tryz.func251 rfl rfl ?_);refine qK rfl (b7q _ _) rfl ?_;refine qC rfl (fun h=> ?_) (fun h=> ?_);refine qR rfl ⟨?_,rfl⟩;rotate_left;refine qK rfl (a6u _ _) rfl ?_;refine qC rfl (fun h=> ?_) (fun h=> ?_);refine qR rfl ⟨?_,rfl⟩;rotate_left;refine qK rfl (hof) rfl ?_;refine qK rfl (hin) rfl ?_;refine qK rfl (had) rfl ?_;refine qE rfl (by kernel_rfl) (by kernel_rfl) ?_;exact qR rfl ⟨rfl,rfl⟩;all_goals grind
theorem e6p{c:Crt}{reading day:Int}(h:¬(covC c day=true/\btw reading 0 1099511627776=true)):EvF tt 251 [.v (eCr c),I reading,I day] (.tup [.v (eF zeroF),B false]):=by
 refine evF (eIn Tryz.func251 rfl rfl ?_);refine qK rfl (b7q _ _) rfl ?_;refine qC rfl (fun h1=> ?_) (fun h1=> ?_)
 ·exact qR rfl ⟨rfl,rfl⟩
 refine qK rfl (a6u _ _) rfl ?_;refine qC rfl (fun h2=> ?_) (fun h2=> ?_)
 ·exact qR rfl ⟨rfl,rfl⟩
 exact absurd ⟨by grind,by grind⟩ h
theorem b4p(e:Evi)(m:Mve)(hc:e.Certs.length<1000000)(hr:e.Recalls.length<1000000):EvF tt 203 [L (e.Certs.map eCr),L (e.Recalls.map eRc),I m.Scale,I m.Reading,I m.Day] (match itvl e m with
 |some (lo,hi)=> .tup [.v (eF (toF lo)),.v (eF (toF hi)),B true]
 |none=> .tup [.v (eF zeroF),.v (eF zeroF),B false]):=by
 refine evF (eIn Tryz.func203 rfl rfl ?_);refine qK rfl (e8h e.Certs m.Scale m.Day hc) rfl ?_;have hrec:=c6x e.Recalls m.Scale m.Day hr;have hb:∀(l:List Crt)(i:Nat)(s:Nat×Bool),(s.2=true->s.1<e.Certs.length)->e.Certs.drop i=l->(a4n e.Certs m.Scale m.Day i l s).2=true->(a4n e.Certs m.Scale m.Day i l s).1<e.Certs.length:=by
  intro l;induction l with
  |nil=>intro i s h1 _ h2;exact h1 h2
  |cons c l ih=>
   intro i s h1 h2 h3;have hlt:i<e.Certs.length:=by
    rcases Nat.lt_or_ge i e.Certs.length with h|h
    ·exact h
    rw [List.drop_eq_nil_of_le h]at h2;cases h2
   refine ih (i+1) _ ?_ ?_ h3
   ·split
    ·intro _;exact hlt
    exact h1
   rw [<-List.drop_drop,h2];rfl
 cases hf:a4n e.Certs m.Scale m.Day 0 e.Certs (0,false)with
 |mk best found=>
  have hb:=hb e.Certs 0 (0,false) (by simp) rfl;rw [hf]at hb;unfold itvl;rw [hf];cases found with
  |false=>
   refine qT rfl rfl ?_;exact qR rfl ⟨rfl,rfl⟩
  |true=>
   have hlt:best<e.Certs.length:=hb rfl;have hat:=List.getElem?_eq_getElem hlt;generalize e.Certs[best]=c at hat;dsimp only;rw [hat]
   by_cases hrc:rcld e.Recalls m.Scale m.Day=true
   ·rw [if_pos hrc];refine qN rfl rfl ?_;refine qK rfl hrec rfl ?_;refine qT rfl hrc ?_;exact qR rfl ⟨rfl,rfl⟩
   rw [if_neg hrc];have hrc:rcld e.Recalls m.Scale m.Day=false:=by simpa using hrc
   rw [hrc]at hrec;dsimp only
   by_cases hcv:covC c m.Day=true/\btw m.Reading 0 1099511627776=true
   ·rw [if_pos hcv];have hr:=a2q.1 hcv.2;have her:=e3b hcv;have hse:=c0v hcv;have hi:=a2f (x:=m.Reading) (by omega) (by omega);have hsi:=a3r (x:=m.Reading) (by omega);have hsub:=fsub_e hsi hse (by decide);have hadd:=fadd_e hsi hse (by decide);have hs2:=hsi.sub hse;have h0:=a2f (x:=0) (by decide) (by decide);have hmx:=fmax_e hs2 (a3r (x:=0) (by decide)) (by decide);refine qN rfl rfl ?_;refine qK rfl hrec rfl ?_;refine qN rfl rfl ?_;refine qXi rfl (by omega) hat ?_;refine qK rfl (her) rfl ?_;refine qN rfl rfl ?_;refine qK rfl (hi) rfl ?_;refine qK rfl (hsub) rfl ?_;refine qK rfl (hadd) rfl ?_;refine qK rfl (h0) rfl ?_;refine qK rfl (hmx) rfl ?_;refine qE rfl (by kernel_rfl) (by kernel_rfl) ?_;refine qE rfl (by kernel_rfl) (by kernel_rfl) ?_;exact qR rfl ⟨rfl,rfl⟩
   rw [if_neg hcv];have her:=e6p hcv;refine qN rfl rfl ?_;refine qK rfl hrec rfl ?_;refine qN rfl rfl ?_;refine qXi rfl (by omega) hat ?_;refine qK rfl (her) rfl ?_;refine qT rfl rfl ?_;exact qR rfl ⟨rfl,rfl⟩
set_option linter.unusedVariables false
set_option maxHeartbeats 4000000
set_option maxRecDepth 100000
theorem e9v{α:Type}(g:α->VT){q:Nat}(hg:∀x,c1k (g x)=q)(l:List α){z:Int}(k:Nat)(hz:z=k)(hk:k<=l.length){q':Nat}(hq:q'=q):lslQ q' (l.map g) 0 z=some ((l.take k).map g):=by
 subst hz hq;unfold lslQ lsl;rw [b1h hg];dsimp only;rw [if_pos ⟨by omega,by omega,by rw [List.length_map];omega⟩,Int.toNat_natCast,<-List.map_take];rfl
abbrev mkB(e:Evi):List DV:= [I e.Materials,I e.Households,I e.Scales,L (e.Places.map ePl),L (e.Moves.map eMo),L (e.Certs.map eCr),L (e.Recalls.map eRc),L (e.Purities.map ePu),.row 1 0,.row 2 0]
abbrev rwL(l:List (Rw×Org)):List VT:=l.map fun p=>eRw p.1
abbrev orL(l:List (Rw×Org)):List VT:=l.map fun p=>eOr p.2
abbrev mkH(e:Evi)(d b a:Bool)(l:List (Rw×Org)):DH:= [⟨0,0,false,d,false,.box 122 (mkB e)⟩,⟨0,0,false,b,a,.row 187 6 (rwL l)⟩,⟨0,0,false,b,a,.row 228 4 (orL l)⟩]
theorem e1e(e:Evi)(l:List (Rw×Org))(mv mat:Int)(hm:0<=e.Materials/\e.Materials<=6)(h1:0<=mv/\mv<=1000000)(h2:0<=mat/\mat<=10):EvH tt 201 [.bp 0 0,I mv,I mat] (mkH e false false false l) (I (mv*e.Materials+mat)) (mkH e false false false l):=by
 have hr:=a3y h1.1 h1.2 hm.1 hm.2;rw [<-a0e (by omega) (by omega),<-a0s (by omega) (by omega)];refine evF (eInH 3 Tryz.func201 rfl rfl rfl ?_);exact qR rfl ⟨rfl,rfl⟩
theorem b8m(e:Evi)(l:List (Rw×Org))(terms:List Trm)(kind:Int)(v:Rat)(o:Org)(hl:l.length<1000000):EvH tt 202 [.bp 0 0,L (terms.map eTm),I kind,.v (eF (toF v)),.v (eOr o)] (mkH e false false false l) (.tup []) (mkH e true true true (l++ [(⟨terms,kind,v⟩,o)])):=by
 refine evF (eInH 3 Tryz.func202 rfl rfl rfl ?_);refine qA 96 rfl rfl ?_ ?_ (fun _=>rfl);rotate_left;refine qE rfl (by kernel_rfl) (by kernel_rfl) ?_;refine qA 32 rfl rfl ?_ ?_ (fun _=>rfl);rotate_left;refine qE rfl (by kernel_rfl) (by kernel_rfl) ?_;refine qR rfl ?_;rotate_left
 ·simp;omega
 ·simp;omega
 refine⟨rfl,?_⟩;unfold mkH rwL orL;rw [List.map_append,List.map_append];rfl
theorem b7m{e:Evi}{x y:Mve}{k j:Nat}{L:List Mve}(hy:L[j]?=some y):((zipI 0 (L.take (j+1))).filterMap (a8g e x k)).map eTm=((zipI 0 (L.take j)).filterMap (a8g e x k)).map eTm++((a8g e x k (j,y)).toList.map eTm):=by
 rw [a6o _ 0 j y hy,List.filterMap_append,List.map_append,Nat.zero_add];cases h:a8g e x k (j,y)<;>simp [h]
theorem e3v(e:Evi)(l:List (Rw×Org))(i:Nat)(x:Mve)(hx:e.Moves[i]?=some x)(hm:1<=e.Materials/\e.Materials<=6)(hl:e.Moves.length<1000000)(hll:l.length<100000):EvH tt 143 [.bp 0 0,I i] (mkH e false false false l) (.tup []) (mkH e true true true (l++(List.range e.Materials.toNat).map fun mat=>(stkR e i x mat,(⟨0,i,mat,-1⟩:Org)))):=by
 refine evF (eInH 3 Tryz.func143 rfl rfl rfl ?_);refine qXi rfl (by omega) hx ?_;have h0:EvF tt 20 [I 0] (.v (eF (toF 0))):=a2f (x:=0) (by decide) (by decide);refine qC rfl (fun hAll=> ?_) (fun hAll=> ?_);all_goals
  refine qFa e.Materials.toNat (fun z _=> [(26,I z)]) (fun _ q=> [(1,.row 187 6 (rwL q.1)),(2,.row 228 4 (orL q.1))]) (fun q=> [(1,q.2),(2,q.2)]) (fun k q=>(q.1=l++(List.range k).map fun mat=>(stkR e i x mat,(⟨0,i,mat,-1⟩:Org)))/\(q.2=false->k=0)) (l,false) rfl rfl ⟨by simp,fun _=>rfl⟩ ?_;rintro k ⟨q,b⟩ hk ⟨hq,hb⟩ ih;cases b;all_goals
   have hq:q=l++(List.range k).map fun mat=>(stkR e i x mat,(⟨0,i,mat,-1⟩:Org)):=hq
   by_cases hlt:(k:Int)<e.Materials
   ·refine qT rfl (decide_eq_true hlt) ?_;have hi:=(List.getElem?_eq_some_iff.1 hx).1;refine qV rfl (e9v eMo (q:=6) (fun _=>rfl) e.Moves (i+1) (a0a (by omega)) (by omega) rfl) ?_;have hk6:k<=6:=by omega
    have hlt':k<e.Materials.toNat:=by omega
    have hql:q.length<=100006:=by rw [hq];simp;omega
    have htl:(e.Moves.take (i+1)).length<=1000000:=by rw [List.length_take];omega
    refine qF (e.Moves.take (i+1)).length (fun z _=> [(38,I z)]) (fun _ ts=> [(3,.row 131 5 ts)]) (fun j ts=>ts=((zipI 0 ((e.Moves.take (i+1)).take j)).filterMap (a8g e x k)).map eTm/\ts.length<=j) [] rfl rfl ⟨rfl,Nat.le_refl _⟩ ?_;rintro j ts hj ⟨hts,htn⟩ ih2;have hts:ts=((zipI 0 ((e.Moves.take (i+1)).take j)).filterMap (a8g e x k)).map eTm:=hts;have htn:ts.length<=j:=htn;refine qXl rfl rfl rfl hj (fun y hy hd hjl=> ?_) (fun hd hj=> ?_)
    ·have hv:=e1e e q j k (by omega) (by omega) (by omega);have hi1:=a2f (x:=1) (by decide) (by decide);have hi2:=a2f (x:=-1) (by decide) (by decide);refine qC rfl (fun h=> ?_) (fun h=> ?_);refine qT rfl rfl ?_;refine qK rfl (hv) rfl ?_;refine qK rfl (hi2) rfl ?_;refine qA 72 rfl rfl ?_ ?_;rotate_left;refine qB (ih2 _ _ (a0a (by omega)) hjl ?_) rfl;rotate_left;refine qC rfl (fun h=> ?_) (fun h=> ?_);refine qT rfl rfl ?_;refine qK rfl (hv) rfl ?_;refine qK rfl (hi1) rfl ?_;refine qA 72 rfl rfl ?_ ?_;rotate_left;refine qB (ih2 _ _ (a0a (by omega)) hjl ?_) rfl;rotate_left;refine qN rfl rfl ?_;refine qB (ih2 _ _ (a0a (by omega)) hjl ?_) rfl;rotate_left;all_goals clear ih ih2
     ·simp;omega
     ·refine⟨?_,by simp;omega⟩;rw [b7m hy,<-hts];unfold a8g;rw [if_pos h];rfl
     ·simp;omega
     ·rename_i h';refine⟨?_,by simp;omega⟩;rw [b7m hy,<-hts];unfold a8g;rw [if_neg h',if_pos h];rfl
     rename_i h';refine⟨?_,by omega⟩;rw [b7m hy,<-hts];unfold a8g;rw [if_neg h',if_neg h];simp
    rw [hj,List.take_length]at hts;subst hts;refine qK rfl (h0) rfl ?_;refine qK rfl (b8m e q ((zipI 0 (e.Moves.take (i+1))).filterMap (a8g e x k)) _ 0 ⟨0,i,k,-1⟩ (by omega)) rfl ?_;refine qB (ih _ (_,true) (a0a (by omega)) (by omega) ?_) rfl;rotate_left;clear ih ih2;refine⟨?_,fun h=>by cases h⟩;show q++ [_]=_;rw [hq,List.range_succ,List.map_append,<-List.append_assoc];simp [stkR,hAll]
   refine qN rfl (decide_eq_false hlt) ?_;first
    |(exfalso;have:=hb rfl;omega)
    |(obtain rfl:k=e.Materials.toNat:=by omega
      subst hq;exact qR rfl ⟨rfl,rfl⟩)
set_option linter.unusedVariables false
set_option maxHeartbeats 4000000
set_option maxRecDepth 100000
theorem b0s{e:Evi}{i k:Nat}{by' own more:Int}:((List.range (k+1)).filterMap (b0a e i by' own more)).map eTm=((List.range k).filterMap (b0a e i by' own more)).map eTm++((b0a e i by' own more k).toList.map eTm):=by
 rw [List.range_succ,List.filterMap_append,List.map_append];cases h:b0a e i by' own more k<;>simp [h]
theorem c3l(e:Evi)(l:List (Rw×Org))(i:Nat)(by' own more:Int)(hm:0<=e.Materials/\e.Materials<=6)(hi:i<1000000)(h1:-1000000<=by'/\by'<=1000000)(h2:-1000000<=more/\more<=1000000):EvH tt 204 [.bp 0 0,I i,I by',I own,I more] (mkH e false false false l) (L ((sumT e i by' own more).map eTm)) (mkH e true true false l):=by
 refine evF (eInH 3 Tryz.func204 rfl rfl rfl ?_);refine qF e.Materials.toNat (fun z _=> [(19,I z)]) (fun _ ts=> [(3,.row 131 5 ts)]) (fun k ts=>ts=((List.range k).filterMap (b0a e i by' own more)).map eTm/\ts.length<=k) [] rfl rfl ⟨rfl,Nat.le_refl _⟩ ?_;rintro k ts hk ⟨hts,htn⟩ ih;have hts:ts=((List.range k).filterMap (b0a e i by' own more)).map eTm:=hts;have htn:ts.length<=k:=htn
 by_cases hlt:(k:Int)<e.Materials
 ·refine qT rfl (decide_eq_true hlt) ?_;have hv:=e1e e l i k (by omega) (by omega) (by omega);have hc1:EvF tt 20 [I (iadd .i64 by' more)] (.v (eF (toF ((by'+more:Int):Rat)))):=by rw [a0e (by omega) (by omega)];exact a2f (by omega) (by omega)
  have hc2:=a2f (x:=by') (by omega) (by omega);have had:iadd .i64 by' more=by'+more:=a0e (by omega) (by omega)
  refine qC rfl (fun h=> ?_) (fun h=> ?_);refine qC rfl (fun h=> ?_) (fun h=> ?_);refine qK rfl (hv) rfl ?_;refine qK rfl (hc1) rfl ?_;refine qA 72 rfl rfl ?_ ?_;rotate_left;refine qB (ih _ _ (a0a (by omega)) (by omega) ?_) rfl;rotate_left;refine qB (ih _ _ (a0a (by omega)) (by omega) ?_) rfl;rotate_left;refine qC rfl (fun h=> ?_) (fun h=> ?_);refine qK rfl (hv) rfl ?_;refine qK rfl (hc2) rfl ?_;refine qA 72 rfl rfl ?_ ?_;rotate_left;refine qB (ih _ _ (a0a (by omega)) (by omega) ?_) rfl;rotate_left;refine qB (ih _ _ (a0a (by omega)) (by omega) ?_) rfl;rotate_left;all_goals clear ih
  ·simp;omega
  ·rename_i h';rw [had]at h;refine⟨?_,by simp;omega⟩;rw [b0s,<-hts];simp only [b0a];rw [if_pos h',if_neg h];rfl
  ·rename_i h';rw [had]at h;refine⟨?_,by omega⟩;rw [b0s,<-hts];simp only [b0a];rw [if_pos h',if_pos (Classical.not_not.1 h)];simp
  ·simp;omega
  ·rename_i h';refine⟨?_,by simp;omega⟩;rw [b0s,<-hts];simp only [b0a];rw [if_neg h',if_neg h];rfl
  rename_i h';refine⟨?_,by omega⟩;rw [b0s,<-hts];simp only [b0a];rw [if_neg h',if_pos (Classical.not_not.1 h)];simp
 refine qN rfl (decide_eq_false hlt) ?_;obtain rfl:k=e.Materials.toNat:=by omega
 subst hts;exact qR rfl ⟨rfl,rfl⟩
theorem c2v(e:Evi)(l:List (Rw×Org))(i:Nat)(x:Mve)(hx:e.Moves[i]?=some x)(hw:x.Scale=-1∨itvl e x=none)(hl:e.Moves.length<1000000)(hc:e.Certs.length<1000000)(hr:e.Recalls.length<1000000):EvH tt 144 [.bp 0 0,I i] (mkH e false false false l) (.tup []) (mkH e false false false l):=by
 refine evF (eInH 3 Tryz.func144 rfl rfl rfl ?_);refine qXi rfl (by omega) hx ?_;have hi:=b4p e x hc hr
 by_cases hs:x.Scale=-1
 ·refine qT rfl (beq_iff_eq.2 hs) ?_;exact qR rfl ⟨rfl,rfl⟩
 refine qN rfl (beq_eq_false_iff_ne.2 hs) ?_;rw [hw.resolve_left hs]at hi;refine qK rfl (hi) rfl ?_;refine qE rfl (by kernel_rfl) (by kernel_rfl) ?_;refine qN rfl rfl ?_;exact qR rfl ⟨rfl,rfl⟩
theorem d7b(e:Evi)(l:List (Rw×Org))(i:Nat)(x:Mve){lo hi:Rat}(hx:e.Moves[i]?=some x)(hs:x.Scale≠-1)(hw:itvl e x=some (lo,hi))(hm:0<=e.Materials/\e.Materials<=6)(hll:l.length<100000)(hl:e.Moves.length<1000000)(hc:e.Certs.length<1000000)(hr:e.Recalls.length<1000000):EvH tt 144 [.bp 0 0,I i] (mkH e false false false l) (.tup []) (mkH e true true true (l++wgts e i x)):=by
 have hw2:l++wgts e i x=l++ [(⟨sumT e i 1 (-1) 0,0,lo⟩,⟨1,i,-1,-1⟩)]++ [(⟨sumT e i 1 (-1) 0,1,hi⟩,⟨2,i,-1,-1⟩)]:=by
  unfold wgts;rw [if_neg hs,hw,List.append_assoc];rfl
 rw [hw2];have hlt:=(List.getElem?_eq_some_iff.1 hx).1;refine evF (eInH 3 Tryz.func144 rfl rfl rfl ?_);refine qXi rfl (by omega) hx ?_;have hi:=b4p e x hc hr;rw [hw]at hi;refine qN rfl (beq_eq_false_iff_ne.2 hs) ?_;refine qK rfl (hi) rfl ?_;refine qE rfl (by kernel_rfl) (by kernel_rfl) ?_;refine qT rfl rfl ?_;refine qK rfl (c3l e _ i 1 (-1) 0 hm (by omega) (by omega) (by omega)) rfl ?_;refine qK rfl (b8m e _ (sumT e i 1 (-1) 0) _ _ ⟨_,_,_,_⟩ (by first|omega|(simp;omega))) rfl ?_;refine qE rfl (by kernel_rfl) (by kernel_rfl) ?_;refine qK rfl (c3l e _ i 1 (-1) 0 hm (by omega) (by omega) (by omega)) rfl ?_;refine qK rfl (b8m e _ (sumT e i 1 (-1) 0) _ _ ⟨_,_,_,_⟩ (by first|omega|(simp;omega))) rfl ?_;refine qE rfl (by kernel_rfl) (by kernel_rfl) ?_;exact qR rfl ⟨rfl,rfl⟩
theorem evXH{P:Program}{T:Ty P}{α:Type}{R:α->Prop}{en:α->DV}{hn:α->DH}{f:FuncId}{az:List DV}{H:DH}(h:Ev T f az H fun r' H'=>∃a,R a/\r'=en a/\H'=hn a):∃a,R a/\EvH T f az H (en a) (hn a):=by
 obtain⟨n,r',H',h1,a,ha,rfl,rfl⟩:=h;exact⟨a,ha,n,h1⟩
theorem a4z{e:Evi}{i k:Nat}{y:Pur}(hy:e.Purities[k]?=some y):(zipI 0 (e.Purities.take (k+1))).flatMap (a0r e i)=(zipI 0 (e.Purities.take k)).flatMap (a0r e i)++a0r e i (k,y):=by
 rw [a6o _ 0 k y hy,List.flatMap_append,Nat.zero_add];simp
theorem e8n(e:Evi)(l:List (Rw×Org))(i:Nat)(hi:i<1000000)(hm:0<=e.Materials/\e.Materials<=6)(hl:e.Purities.length<100000)(hll:l.length<100000)(hp:∀p∈e.Purities,0<=p.Least/\p.Least<=p.Most/\p.Most<=1000):∃b:Bool,True/\EvH tt 145 [.bp 0 0,I i] (mkH e false false false l) (.tup []) (mkH e true true b (l++purs e i)):=by
 refine evXH (en:=fun _=> .tup []) (hn:=fun b=>mkH e true true b (l++purs e i)) (eInH 3 Tryz.func145 rfl rfl rfl ?_);refine qFa e.Purities.length (fun z _=> [(13,I z)]) (fun _ q=> [(1,.row 187 6 (rwL q.1)),(2,.row 228 4 (orL q.1))]) (fun q=> [(1,q.2),(2,q.2)]) (fun k q=>q.1=l++(zipI 0 (e.Purities.take k)).flatMap (a0r e i)/\q.1.length<=l.length+2*k) (l,false) rfl rfl ⟨by simp [zipI],Nat.le_refl _⟩ ?_;rintro k ⟨q,b⟩ hk ⟨hq,hql⟩ ih;have hq:q=l++(zipI 0 (e.Purities.take k)).flatMap (a0r e i):=hq;have hql:q.length<=l.length+2*k:=hql;cases b;all_goals
  refine qXl rfl rfl rfl hk (fun y hy hd hlt=> ?_) (fun hd hk=> ?_)
  ·obtain⟨p1,p2,p3⟩:=hp y (List.mem_of_getElem? hy);have h0:EvF tt 20 [I 0] (.v (eF (toF 0))):=a2f (x:=0) (by decide) (by decide);have hneg:IntKind.i64.wrap (0-y.Least)=-y.Least:=(a0c (x:=0) (y:=y.Least) (by omega) (by omega)).trans (by omega);have hs1:∀q,EvH tt 204 [.bp 0 0,I i,I (IntKind.i64.wrap (0-y.Least)),I y.Material,I 1000] (mkH e false false false q) (L ((sumT e i (-y.Least) y.Material 1000).map eTm)) (mkH e true true false q):=fun q=>by rw [hneg];exact c3l e q i _ _ _ hm hi (by omega) (by omega)
   have hs2:∀q,EvH tt 204 [.bp 0 0,I i,I y.Most,I y.Material,I (-1000)] (mkH e false false false q) (L ((sumT e i y.Most y.Material (-1000)).map eTm)) (mkH e true true false q):=fun q=>c3l e q i _ _ _ hm hi (by omega) (by omega);refine qC rfl (fun h=> ?_) (fun h=> ?_);refine qB (ih _ (_,_) (a0a (by omega)) hlt ?_) rfl;rotate_left;refine qK rfl (hs1 _) rfl ?_;refine qK rfl (h0) rfl ?_;refine qK rfl (b8m e _ (sumT e i (-y.Least) y.Material 1000) _ 0 ⟨_,_,_,_⟩ (by first|omega|(simp;omega))) rfl ?_;refine qE rfl (by kernel_rfl) (by kernel_rfl) ?_;refine qK rfl (hs2 _) rfl ?_;refine qK rfl (h0) rfl ?_;refine qK rfl (b8m e _ (sumT e i y.Most y.Material (-1000)) _ 0 ⟨_,_,_,_⟩ (by first|omega|(simp;omega))) rfl ?_;refine qE rfl (by kernel_rfl) (by kernel_rfl) ?_;refine qB (ih _ (_,_) (a0a (by omega)) hlt ?_) rfl;rotate_left;all_goals clear ih
   ·refine⟨?_,by show q.length<=_;omega⟩;show q=_;rw [a4z hy,<-List.append_assoc,<-hq];unfold a0r;rw [if_neg h];simp
   refine⟨?_,by simp;omega⟩;rw [a4z hy,<-List.append_assoc,<-hq];unfold a0r;rw [if_pos (Classical.not_not.1 h)];simp
  have:purs e i=(zipI 0 (e.Purities.take k)).flatMap (a0r e i):=by unfold purs;rw [hk,List.take_length]
  rw [this,<-hq];first
   |exact qR rfl ⟨false,trivial,rfl,rfl⟩
   |exact qR rfl ⟨true,trivial,rfl,rfl⟩
set_option linter.unusedVariables false
set_option maxHeartbeats 4000000
set_option maxRecDepth 100000
structure Good(e:Evi):Prop where
 mat:1<=e.Materials/\e.Materials<=6
 plc:e.Places.length<=100
 mov:e.Moves.length<=200
 crt:e.Certs.length<=100
 rcl:e.Recalls.length<=30
 pur:e.Purities.length<=200
 mv:∀m∈e.Moves,movR e m=true
 day:∀m∈e.Moves,0<=m.Day/\m.Day<=100000
 pr:∀p∈e.Purities,purR e p=true
theorem b8g{e:Evi}:∀{l:List Mve}{last:Int},0<=last->chkM e last l=0->(∀m∈l,movR e m=true)/\∀m∈l,0<=m.Day/\m.Day<=100000
 | [],_,_,_=>⟨by simp,by simp⟩
 |m::l,last,h0,h=>by
  unfold chkM at h;split at h
  ·cases h
  rename_i hd;split at h
  ·cases h
  rename_i hm;obtain⟨h1,h2⟩:=b8g (l:=l) (last:=m.Day) (by omega) h;have hm:movR e m=true:=by simpa using hm
  refine⟨fun x hx=> ?_,fun x hx=> ?_⟩
  ·rcases List.mem_cons.1 hx with rfl|hx
   ·exact hm
   exact h1 x hx
  rcases List.mem_cons.1 hx with rfl|hx
  ·omega
  exact h2 x hx
theorem a1o{e:Evi}(h:a1t e=0):Good e:=by
 unfold a1t at h;split at h
 ·cases h
 rename_i hf;split at h
 ·cases h
 rename_i h2;split at h
 ·rename_i h3;exact absurd h h3
 rename_i h3;split at h
 ·rename_i h4;simp only [b9e,Bool.or_eq_true,decide_eq_true_eq,not_or]at hf;simp only [not_or]at h2;have h3:chkM e 0 e.Moves=0:=Classical.not_not.1 h3;obtain⟨k1,k2⟩:=b8g (Int.le_refl 0) h3;unfold a7u at h4;simp only [Bool.and_eq_true]at h4;refine⟨by omega,by omega,by omega,by omega,by omega,by omega,k1,k2,fun p hp=>List.all_eq_true.1 h4.2 p hp⟩
 cases h
theorem Good.from'{e:Evi}(h:Good e){m:Mve}(hm:m∈e.Moves):∃p,0<=m.From/\e.Places[m.From.toNat]?=some p/\a4u e m.From=p.Kind:=by
 have:=h.mv m hm;unfold movR at this;split at this
 ·cases this
 rename_i h1;simp only [not_or,Bool.not_eq_false,a3w]at h1;have hlt:m.From.toNat<e.Places.length:=by omega
 exact⟨_,h1.1.1,List.getElem?_eq_getElem hlt,by unfold a4u;rw [List.getElem?_eq_getElem hlt]⟩
theorem Good.purs{e:Evi}(h:Good e):∀p∈e.Purities,0<=p.Least/\p.Least<=p.Most/\p.Most<=1000:=fun p hp=>by
 have:=h.pr p hp;unfold purR at this;simp only [Bool.and_eq_true,decide_eq_true_eq]at this;omega
structure Sy where
 N:Int
 Rows:List Rw
def eSy(s:Sy):VT:= .agg [.int .i64 s.N,.sl (s.Rows.map eRw)]
theorem d7q(e:Evi)(i:Nat):(purs e i).length<=2*e.Purities.length:=by
 have:∀(l:List Pur)(k:Nat),((zipI k l).flatMap (a0r e i)).length<=2*l.length:=by
  intro l;induction l with
  |nil=>intro k;simp [zipI]
  |cons x l ih=>
   intro k;have h1:=ih (k+1);have h2:(a0r e i (k,x)).length<=2:=by unfold a0r;split<;>simp
   simp only [zipI,List.flatMap_cons,List.length_append,List.length_cons];omega
 exact this _ _
theorem b3o{e:Evi}(h:Good e)(q:Nat×Mve):(a7q e q).length<=408:=by
 have h1:=d7q e q.1;have h2:(stks e q.1 q.2).length<=6:=by
  unfold stks;split
  ·simp
  rw [List.length_map,List.length_range];have:=h.mat;omega
 have h3:(wgts e q.1 q.2).length<=2:=by
  unfold wgts;split
  ·simp
  split<;>simp
 have:=h.pur;unfold a7q;simp only [List.length_append];omega
theorem b8l{e:Evi}{k:Nat}{y:Mve}(hy:e.Moves[k]?=some y):(zipI 0 (e.Moves.take (k+1))).flatMap (a7q e)=(zipI 0 (e.Moves.take k)).flatMap (a7q e)++a7q e (k,y):=by
 rw [a6o _ 0 k y hy,List.flatMap_append,Nat.zero_add];simp
abbrev mkR(e:Evi)(l:List (Rw×Org)):DH:= [⟨0,0,false,true,true,.box 122 (mkB e)⟩,⟨0,0,false,true,true,.row 187 6 (rwL l)⟩,⟨0,0,false,true,true,.row 228 4 (orL l)⟩]
theorem e8b{e:Evi}(h:Good e):EvH tt 76 [.v (eEv e)] [] (.bp 0 0) (mkR e (a8z e)):=by
 have hl1:=h.mov;have hl2:=h.pur;have hl3:=h.crt;have hl4:=h.rcl;have hl5:=h.mat;refine evF (eIn Tryz.func76 rfl rfl ?_);refine qF e.Moves.length (fun z _=> [(12,I z)]) (fun _ q=> [(1,.row 187 6 (rwL q)),(2,.row 228 4 (orL q))]) (fun k q=>q=(zipI 0 (e.Moves.take k)).flatMap (a7q e)/\q.length<=408*k) [] rfl rfl ⟨rfl,Nat.le_refl _⟩ ?_;rintro k q hk ⟨hq,hql⟩ ih;have hq:q=(zipI 0 (e.Moves.take k)).flatMap (a7q e):=hq;have hql:q.length<=408*k:=hql;refine qXl rfl rfl rfl hk (fun y hy hd hlt=> ?_) (fun hd hk=> ?_)
 ·obtain⟨p,f1,f2,f3⟩:=h.from' (List.mem_of_getElem? hy)
  refine qXi rfl f1 f2 ?_;have hr1:=b3o h (k,y);have hr2:a7q e (k,y)=stks e k y++wgts e k y++purs e k:=rfl;have hJ:q++stks e k y++wgts e k y++purs e k=(zipI 0 (e.Moves.take (k+1))).flatMap (a7q e)/\(q++stks e k y++wgts e k y++purs e k).length<=408*(k+1):=by
   rw [b8l hy,hr2,<-hq];rw [hr2]at hr1;simp only [List.length_append,List.append_assoc,true_and]at*;omega
  have hsl:(q++stks e k y).length<=90000/\(q++stks e k y++wgts e k y).length<=90000:=by
   rw [hr2]at hr1;simp only [List.length_append]at*;omega
  have hw:EvH tt 144 [.bp 0 0,I k] (mkH e false false false (q++stks e k y)) (.tup []) (mkH e false false false (q++stks e k y++wgts e k y))∨EvH tt 144 [.bp 0 0,I k] (mkH e false false false (q++stks e k y)) (.tup []) (mkH e true true true (q++stks e k y++wgts e k y)):=by
   by_cases hs:y.Scale=-1
   ·left;have:wgts e k y= []:=by unfold wgts;rw [if_pos hs]
    rw [this,List.append_nil];exact c2v e _ k y hy (.inl hs) (by omega) (by omega) (by omega)
   cases hi:itvl e y with
   |none=>
    left;have:wgts e k y= []:=by unfold wgts;rw [if_neg hs,hi]
    rw [this,List.append_nil];exact c2v e _ k y hy (.inr hi) (by omega) (by omega) (by omega)
   |some lh=>exact .inr (d7b e _ k y hy hs hi (by omega) (by omega) (by omega) (by omega) (by omega))
  obtain⟨b,-,hpu⟩:=e8n e (q++stks e k y++wgts e k y) k (by omega) (by omega) (by omega) (by omega) h.purs;generalize hL:q++stks e k y++wgts e k y++purs e k=L at hpu hJ;generalize hM:q++stks e k y++wgts e k y=M at hpu hw
  by_cases hk0:p.Kind=0
  ·have hs0:stks e k y= []:=by unfold stks;rw [if_pos (f3.trans hk0)]
   rw [hs0,List.append_nil]at hw;refine qN rfl (by rw [hk0];rfl) ?_;clear hq hql hsl hr1 hr2 hL hM;rcases hw with hw|hw<;>cases b
   all_goals
    refine qK rfl (hw) rfl ?_;refine qK rfl (hpu) rfl ?_;refine qB (ih _ _ (a0a (by omega)) hlt hJ) rfl
  have hst:EvH tt 143 [.bp 0 0,I k] (mkH e false false false q) (.tup []) (mkH e true true true (q++stks e k y)):=by
   have:=e3v e q k y hy (by omega) (by omega) (by omega);unfold stks;rw [if_neg (by rw [f3];exact hk0)];exact this
  generalize q++stks e k y=K at hst hw;refine qT rfl (by rw [bne_iff_ne];exact hk0) ?_;clear hq hql hsl hr1 hr2 hL hM;rcases hw with hw|hw<;>cases b
  all_goals
   refine qK rfl (hst) rfl ?_;refine qK rfl (hw) rfl ?_;refine qK rfl (hpu) rfl ?_;refine qB (ih _ _ (a0a (by omega)) hlt hJ) rfl
 have hr:a8z e=q:=by unfold a8z;rw [hq,hk,List.take_length]
 rw [hr];exact qR rfl ⟨rfl,rfl⟩
def sysE(e:Evi):Sy:=⟨e.Moves.length*e.Materials,(a8z e).map (·.1)⟩
theorem d7f(e:Evi)(hp:e.Places.length<1000000)(hm:e.Moves.length<1000000)(hc:e.Certs.length<1000000)(hr:e.Recalls.length<1000000)(hq:e.Purities.length<1000000):EvF tt 40 [.v (eEv e)] (.tup [.v (eSy (if a1t e=0 then sysE e else⟨0,[]⟩)),I (a1t e)]):=by
 have hf:=e9p e hp hm hc hr hq;refine evF (eIn Tryz.func40 rfl rfl ?_)
 by_cases h0:a1t e=0
 ·rw [if_pos h0];have hma:=e8b (a1o h0);have hmul:imul .i64 (e.Moves.length:Int) e.Materials=e.Moves.length*e.Materials:=by
   have h1:=(a1o h0).mat;have h2:=(a1o h0).mov;have:=a3y (a:=(e.Moves.length:Int)) (b:=e.Materials) (A:=200) (C:=6) (by omega) (by omega) (by omega) (by omega);exact a0s (by omega) (by omega)
  refine qK rfl hf rfl ?_;refine qN rfl (by rw [h0];rfl) ?_;refine qK rfl (hma) rfl ?_;refine qE rfl (by kernel_rfl) (by kernel_rfl) ?_;refine qR rfl ⟨?_,rfl⟩;rotate_left;rw [h0];show DV.tup [.v (.agg [N (imul .i64 ((e.Moves.map eMo).length:Int) e.Materials),.sl (rwL (a8z e))]),I 0]=_;rw [List.length_map,hmul];unfold sysE eSy rwL;rw [List.map_map];rfl
 rw [if_neg h0];refine qK rfl hf rfl ?_;refine qT rfl (bne_iff_ne.2 h0) ?_;exact qR rfl ⟨rfl,rfl⟩
set_option linter.unusedVariables false
set_option maxHeartbeats 4000000
set_option maxRecDepth 100000
def rtT(n:Int):Int->List Trm->Bool |_,[]=>true |last,t::l=>decide (last<t.1)&&decide (t.1<n)&&decide (t.2≠0)&&rtT n t.1 l
def rowR(n:Int)(r:Rw):Bool:=rtT n (-1) r.Terms&&btw r.Kind 0 2
def sysR(s:Sy):Bool:=btw s.N 0 1500&&decide (s.Rows.length<=6000)&&s.Rows.all (rowR s.N)
structure SyOk(s:Sy)(k:Nat):Prop where
 len:s.Rows.length<=100000
 terms:∀r∈s.Rows,r.Terms.length<=10000/\(∀t∈r.Terms,SmF k t.2)/\SmF k r.Value
theorem b3w{r:Rat}:(sg r.num==0)=decide (r=0):=by
 rw [a5x,d1w]
theorem a6w{n:Int}{l:List Trm}{k:Nat}(hl:l.length<=10000)(hs:∀t∈l,SmF k t.2)(hk:k<4000000)(hn:0<=n):EvF tt 81 [L (l.map eTm),I n] (B (rtT n (-1) l)):=by
 refine evF (eIn Tryz.func81 rfl rfl ?_);refine qN rfl (decide_eq_false (by omega)) ?_;refine qF l.length (fun z q=> [(12,I z),(5,I q)]) (fun _ _=> []) (fun j q=>rtT n (-1) l=rtT n q (l.drop j)) (-1) rfl rfl rfl ?_;rintro j q hj hq ih;have hq:rtT n (-1) l=rtT n q (l.drop j):=hq;refine qXl rfl rfl rfl hj (fun t ht hd hlt=> ?_) (fun hd hj=> ?_)
 ·rw [hd,show rtT n q (t::l.drop (j+1))=(decide (q<t.1)&&decide (t.1<n)&&decide (t.2≠0)&&rtT n t.1 (l.drop (j+1)))from rfl]at hq;have hsg:=fsign_e (hs t (List.mem_of_getElem? ht)) hk;have hs0:=b3w (r:=t.2);refine qC rfl (fun h=> ?_) (fun h=> ?_);refine qR rfl ⟨congrArg B ?_,rfl⟩;rotate_left;refine qC rfl (fun h=> ?_) (fun h=> ?_);refine qR rfl ⟨congrArg B ?_,rfl⟩;rotate_left;refine qK rfl (hsg) rfl ?_;refine qC rfl (fun h=> ?_) (fun h=> ?_);refine qR rfl ⟨congrArg B ?_,rfl⟩;rotate_left;refine qB (ih _ _ (a0a (by omega)) hlt ?_) rfl;rotate_left;all_goals clear ih
  all_goals grind
 rw [hd]at hq;rw [hq];exact qR rfl ⟨rfl,rfl⟩
theorem b5k{s:Sy}{k:Nat}(hS:SyOk s k)(hk:k<4000000):EvF tt 80 [.v (eSy s)] (B (sysR s)):=by
 refine evF (eIn Tryz.func80 rfl rfl ?_);have hll:=hS.len;refine qC rfl (fun h=> ?_) (fun h=> ?_);refine qR rfl ⟨congrArg B ?_,rfl⟩;rotate_left;refine qC rfl (fun h=> ?_) (fun h=> ?_);refine qR rfl ⟨congrArg B ?_,rfl⟩;rotate_left;refine qC rfl (fun h=> ?_) (fun h=> ?_);refine qR rfl ⟨congrArg B ?_,rfl⟩;rotate_left
 ·refine qF s.Rows.length (fun z _=> [(22,I z)]) (fun _ _=> []) (fun j(_:Unit)=>s.Rows.all (rowR s.N)=(s.Rows.drop j).all (rowR s.N)) () rfl rfl rfl ?_;rintro j _ hj hq ih;have hq:s.Rows.all (rowR s.N)=(s.Rows.drop j).all (rowR s.N):=hq;refine qXl rfl rfl rfl hj (fun r hr hd hlt=> ?_) (fun hd hj=> ?_)
  ·obtain⟨h1,h2,h3⟩:=hS.terms r (List.mem_of_getElem? hr);rw [hd,List.all_cons]at hq;refine qK rfl (a6w h1 h2 hk (by omega)) rfl ?_;refine qC rfl (fun h=> ?_) (fun h=> ?_);refine qR rfl ⟨congrArg B ?_,rfl⟩;rotate_left;refine qC rfl (fun h=> ?_) (fun h=> ?_);refine qR rfl ⟨congrArg B ?_,rfl⟩;rotate_left;refine qC rfl (fun h=> ?_) (fun h=> ?_);refine qR rfl ⟨congrArg B ?_,rfl⟩;rotate_left;refine qK rfl (a4w h3 (by omega)) rfl ?_;refine qN rfl rfl ?_;refine qB (ih _ () (a0a (by omega)) hlt ?_) (by kernel_rfl);rotate_left;all_goals clear ih
   all_goals rw [List.length_map]at*
   all_goals grind [sysR,rowR,btw]
  rw [hd,List.all_nil]at hq;rw [List.length_map]at*;exact qR rfl ⟨congrArg B (by grind [sysR,btw]),rfl⟩
 all_goals try rw [List.length_map]at*
 all_goals grind [sysR,btw]
theorem c3y{s:Sy}{k:Nat}(hS:SyOk s k)(hk:k<4000000)(y:List Frac)(hy:∀f∈y,f.P.Digits.length<=k/\f.Q.Digits.length<=k)(hl:y.length<=100000):EvF tt 208 [.v (eSy s),L (fs y)] (B (sysR s&&decide (y.length=s.Rows.length)&&y.all a0f)):=by
 refine evF (eIn Tryz.func208 rfl rfl ?_);refine qK rfl (b5k hS hk) rfl ?_;refine qC rfl (fun h=> ?_) (fun h=> ?_);refine qR rfl ⟨congrArg B ?_,rfl⟩;rotate_left;refine qC rfl (fun h=> ?_) (fun h=> ?_);refine qR rfl ⟨congrArg B ?_,rfl⟩;rotate_left
 ·refine qF y.length (fun z _=> [(20,I z)]) (fun _ _=> []) (fun j(_:Unit)=>y.all a0f=(y.drop j).all a0f) () rfl rfl rfl ?_;rintro j _ hj hq ih;have hq:y.all a0f=(y.drop j).all a0f:=hq;refine qXl rfl rfl rfl hj (fun f hf hd hlt=> ?_) (fun hd hj=> ?_)
  ·obtain⟨h1,h2⟩:=hy f (List.mem_of_getElem? hf);rw [hd,List.all_cons]at hq;refine qK rfl (a4c h1 h2 (by omega)) rfl ?_;refine qC rfl (fun h=> ?_) (fun h=> ?_);refine qR rfl ⟨congrArg B ?_,rfl⟩;rotate_left;refine qB (ih _ () (a0a (by omega)) hlt ?_) (by kernel_rfl);rotate_left;all_goals clear ih
   all_goals simp only [List.length_map]at*
   all_goals grind
  rw [hd,List.all_nil]at hq;simp only [List.length_map]at*;exact qR rfl ⟨congrArg B (by grind),rfl⟩
 all_goals try simp only [List.length_map]at*
 all_goals grind
def toQ(f:Frac):Rat:=Rat.divInt (ofB f.P) (ofB f.Q)
theorem a7s(r:Rat):toQ (toF r)=r:=by
 unfold toQ;show Rat.divInt (ofB (toB r.num)) (ofB (toB (r.den:Int)))=r;rw [a3d,a3d];exact Rat.num_divInt_den r
theorem b3k{f:Frac}{k:Nat}(h:f.P.Digits.length<=k/\f.Q.Digits.length<=k)(hr:a0f f=true):f=toF (toQ f)/\SmF k (toQ f):=by
 obtain⟨r,rfl,h2⟩:=c8k h hr;rw [a7s];exact⟨rfl,h2⟩
def sgnL:List Rw->List Rat->Bool |r::rs,m::ms=>(if r.Kind=0 then decide (0<=m)else if r.Kind=1 then decide (m<=0)else true)&&sgnL rs ms |_,_=>true
def mulS(s:Sy)(y:List Frac):Bool:=sysR s&&decide (y.length=s.Rows.length)&&y.all a0f
def sgnS(s:Sy)(y:List Frac):Bool:=mulS s y&&sgnL s.Rows (y.map toQ)
theorem d3h{s:Sy}{k:Nat}(hS:SyOk s k)(hk:k<4000000)(y:List Frac)(hy:∀f∈y,f.P.Digits.length<=k/\f.Q.Digits.length<=k)(hl:y.length<=100000):EvF tt 149 [.v (eSy s),L (fs y)] (B (sgnS s y)):=by
 have hm:EvF tt 208 [.v (eSy s),L (fs y)] (B (mulS s y)):=c3y hS hk y hy hl;refine evF (eIn Tryz.func149 rfl rfl ?_);refine qK rfl hm rfl ?_;cases hms:mulS s y with
 |false=>
  refine qT rfl rfl ?_;refine qR rfl ⟨congrArg B ?_,rfl⟩;rotate_left;unfold sgnS;rw [hms];rfl
 |true=>
  have hm2:=hms;unfold mulS at hm2;simp only [Bool.and_eq_true,decide_eq_true_eq]at hm2;obtain⟨⟨m1,m2⟩,m3⟩:=hm2;refine qN rfl rfl ?_;refine qF y.length (fun z _=> [(14,I z)]) (fun _ _=> []) (fun j(_:Unit)=>sgnL s.Rows (y.map toQ)=sgnL (s.Rows.drop j) ((y.drop j).map toQ)) () rfl rfl rfl ?_;rintro j _ hj hq ih;have hq:sgnL s.Rows (y.map toQ)=sgnL (s.Rows.drop j) ((y.drop j).map toQ):=hq;refine qXl rfl rfl rfl hj (fun f hf hd hlt=> ?_) (fun hd hj=> ?_)
  ·have hfm:=List.mem_of_getElem? hf;obtain⟨e1,e2⟩:=b3k (hy f hfm) (List.all_eq_true.1 m3 f hfm);have hrl:j<s.Rows.length:=by omega
   have hr:=List.getElem?_eq_getElem hrl;generalize s.Rows[j]=r at hr;rw [hd,a1p hr,List.map_cons]at hq;have hq2:sgnL s.Rows (y.map toQ)=((if r.Kind=0 then decide (0<=toQ f)else if r.Kind=1 then decide (toQ f<=0)else true)&&sgnL (s.Rows.drop (j+1)) ((y.drop (j+1)).map toQ)):=hq;generalize toQ f=g at*;subst e1;have hsg:=fsign_e e2 hk;have hc:=a0q g 0;rw [<-a5x]at hc;refine qK rfl hsg rfl ?_;refine qXi rfl (by omega) hr ?_;refine qC rfl (fun h=> ?_) (fun h=> ?_);refine qC rfl (fun h=> ?_) (fun h=> ?_);refine qR rfl ⟨congrArg B ?_,rfl⟩;rotate_left;refine qB (ih _ () (a0a (by omega)) hlt ?_) (by kernel_rfl);rotate_left;refine qC rfl (fun h=> ?_) (fun h=> ?_);refine qC rfl (fun h=> ?_) (fun h=> ?_);refine qR rfl ⟨congrArg B ?_,rfl⟩;rotate_left;refine qB (ih _ () (a0a (by omega)) hlt ?_) (by kernel_rfl);rotate_left;refine qB (ih _ () (a0a (by omega)) hlt ?_) (by kernel_rfl);rotate_left;all_goals clear ih
   all_goals (simp only [sgnS,hms,Bool.true_and]at*;grind)
  rw [hd]at hq;have hq:sgnL s.Rows (y.map toQ)=true:=by rw [hq];cases s.Rows.drop j<;>rfl
  refine qR rfl ⟨congrArg B ?_,rfl⟩;unfold sgnS;rw [hms,hq];rfl
end Dp
end Go.Proofs.YtjegnogjkddnbaaGreatDoor
