/- Several texts in one, for FormStraight.card: what the theorem leans on. -/
import Derived.Test.YthaegflpecbfgaaGreatDoorRows
import Derived.Test.YthaegflpecbfgaaGreatDoorPs6
set_option maxHeartbeats 1000000
set_option maxRecDepth 1000000
set_option linter.unusedVariables false
set_option linter.unusedSimpArgs false
namespace Go.Proofs.YthaegflpecbfgaaGreatDoor.D
open Go Rt M
theorem c8g{a:Big}(hl:a.Digits.length<1099511627776):Ev (fun n=>a1n n a) (a9e a):=⟨a.Digits.length+1,fun _ hn=>e1g hl hn⟩
theorem a4f{x:Int}{k:Nat}(h:Sm k x)(hk:k<1099511627776):Ev (fun n=>a1n n (toB x)) true:=by
 have:=a1k h
 exact(c8g (a:=toB x) (by simp only [toB];omega)).eq (b6m x)
theorem e7d(s:Int){v:Nat}(h:(dig v).length<1099511627776):Ev (fun n=>a1q n s (dig v)) (if v=0 then⟨0,[]⟩else⟨s,dig v⟩):=by
 refine⟨(dig v).length+1,fun n hn=> ?_⟩
 have h1:=e9d s (a2b v) h (n:=n) (by omega)
 rw [a1l,Int.toNat_natCast]at h1
 exact h1
theorem a9k{s:Int}{v:Nat}(h:(dig v).length<1099511627776)(z:Int)(hz:z.natAbs=v)(hs:v≠0->s=sg z):Ev (fun n=>a1q n s (dig v)) (toB z):=(e7d s h).eq (a4r z hz hs)
theorem d4f(u v:Nat)(hu:(dig u).length<1073741824)(hv:(dig v).length<1073741824):Ev (fun n=>a7s n (dig u) (dig v)) (dig (u+v)):=
 (e7y (a2b u) (a2b v) hu hv).eq (by rw [a1l,a1l,<-Int.natCast_add,Int.toNat_natCast])
theorem c2i(u v:Nat)(hu:(dig u).length<1073741824)(h:v<=u):Ev (fun n=>a3e n (dig u) (dig v)) (dig (u-v)):=
 (e0y (a2b u) (a2b v) hu (a4o h) (by rw [a1l,a1l];omega)).eq (by rw [a1l,a1l];congr 1;omega)
theorem d4h(u v:Nat)(hu:(dig u).length<1099511627776)(hv:(dig v).length<1099511627776):Ev (fun n=>a6c n (dig u) (dig v)) (decide (u<v)):=
 ⟨max (dig u).length (dig v).length+1,fun n hn=>by
  show a6c n (dig u) (dig v)=_
  rw [e3j (a2b u) (a2b v) hu hv (by omega),a1l,a1l]
  congr 1
  by_cases h:u<v<;>simp [h]⟩
theorem e0i(u v:Nat)(hu:(dig u).length<536870912)(hv:(dig v).length<536870912):Ev (fun n=>a4j n (dig u) (dig v)) (dig (u*v)):=
 ⟨(dig u).length+(dig v).length+3,fun n hn=>c9d hu hv (by omega)⟩
theorem d3h(u v:Nat)(h:v≠0)(hu:(dig u).length<536870800)(hv:(dig v).length<536870800):Ev (fun n=>a8m n (dig u) (dig v)) (dig (u/v),dig (u %v)):=
 ⟨(dig u).length+2*(dig v).length+1048601,fun n hn=>e8v (by omega) hu hv (by omega)⟩
theorem d1p{x:Int}{k:Nat}(h:Sm k x)(hk:k<1073741824):Ev (fun n=>b1b n (toB x)) (toB (-x)):=by
 have hl:=a1k h
 unfold b1b
 refine Ev.bind (a4f h (by omega)) ?_
 refine Ev.else rfl ?_
 refine Ev.bind (a9k (v:=x.natAbs) (by omega) (-x) (by omega) (fun hne=> ?_)) (Ev.pure _)
 show IntKind.i64.wrap (0-sg x)=sg (-x)
 rcases a0t x with⟨a,b⟩|⟨a,b⟩|⟨a,b⟩<;>rw [b]
 ·rw [a3p (by omega)];decide
 ·omega
 ·rw [a4b (by omega)];decide
theorem d9a{x y:Int}{k:Nat}(hx:Sm k x)(hy:Sm k y)(hk:k<268435456):Ev (fun n=>a6o n (toB x) (toB y)) (toB (x*y),0):=by
 have lx:=a1k hx
 have ly:=a1k hy
 unfold a6o
 refine Ev.bind (a4f hx (by omega)) ?_
 refine Ev.bind (a:=false) (Ev.else rfl (Ev.bind (a4f hy (by omega)) (Ev.pure _))) ?_
 refine Ev.else rfl ?_
 refine Ev.bind (e0i x.natAbs y.natAbs (by omega) (by omega)) ?_
 have lm:(dig (x.natAbs*y.natAbs)).length<=k+k:=by
  have:=a1k (hx.mul hy)
  rwa [Int.natAbs_mul]at this
 refine Ev.bind (a9k (by omega) (x*y) (Int.natAbs_mul x y) (fun _=> ?_)) (Ev.pure _)
 exact b5v x y
theorem d7g{x y:Int}{k:Nat}(hx:Sm k x)(hy:Sm k y)(hk:k<536870912):Ev (fun n=>b2y n (toB x) (toB y)) (toB (x+y),0):=by
 have lx:=a1k hx
 have ly:=a1k hy
 unfold b2y
 refine Ev.bind (a4f hx (by omega)) ?_
 refine Ev.bind (a:=false) (Ev.else rfl (Ev.bind (a4f hy (by omega)) (Ev.pure _))) ?_
 refine Ev.else rfl ?_
 have hplus:∀s,(x.natAbs+y.natAbs≠0->s=sg (x+y))->(x+y).natAbs=x.natAbs+y.natAbs->Ev (fun n=>(a7s n (dig x.natAbs) (dig y.natAbs)).bind fun v5=>(a1q n s v5).bind fun v6=>some ((⟨v6.Sign,v6.Digits⟩:Big),(0:Int))) (toB (x+y),0):=by
  intro s hs hz
  have lp:(dig (x.natAbs+y.natAbs)).length<=k+1:=by
   have:=a1k (hx.add hy)
   rwa [hz]at this
  refine Ev.bind (d4f x.natAbs y.natAbs (by omega) (by omega)) ?_
  exact Ev.bind (a9k (by omega) (x+y) hz hs) (Ev.pure _)
 have hless:(0<x/\y<0)∨(x<0/\0<y)->Ev (fun n=>(a6c n (dig x.natAbs) (dig y.natAbs)).bind fun v7=>
  bif v7 then
   (a3e n (dig y.natAbs) (dig x.natAbs)).bind fun v8=>
   (a1q n (sg y) v8).bind fun v9=>
   some ((⟨v9.Sign,v9.Digits⟩:Big),(0:Int))
  else
   (a3e n (dig x.natAbs) (dig y.natAbs)).bind fun v10=>
   (a1q n (sg x) v10).bind fun v11=>
   some ((⟨v11.Sign,v11.Digits⟩:Big),0)) (toB (x+y),0):=by
  intro hs
  refine Ev.bind (d4h x.natAbs y.natAbs (by omega) (by omega)) ?_
  by_cases hl:x.natAbs<y.natAbs
  ·have l1:=a4o (Nat.sub_le y.natAbs x.natAbs)
   refine Ev.then (by simpa using hl) ?_
   refine Ev.bind (c2i y.natAbs x.natAbs (by omega) (by omega)) ?_
   refine Ev.bind (a9k (by omega) (x+y) (by omega) (fun _=> ?_)) (Ev.pure _)
   rcases hs with⟨h1,h2⟩|⟨h1,h2⟩
   ·rw [a4b h2,a4b (by omega)]
   ·rw [a3p h2,a3p (by omega)]
  ·have l1:=a4o (Nat.sub_le x.natAbs y.natAbs)
   refine Ev.else (by simpa using hl) ?_
   refine Ev.bind (c2i x.natAbs y.natAbs (by omega) (by omega)) ?_
   refine Ev.bind (a9k (by omega) (x+y) (by omega) (fun hne=> ?_)) (Ev.pure _)
   rcases hs with⟨h1,h2⟩|⟨h1,h2⟩
   ·rw [a3p h1,a3p (by omega)]
   ·rw [a4b h1,a4b (by omega)]
 rcases a0t x with⟨a,b⟩|⟨a,b⟩|⟨a,b⟩<;>rcases a0t y with⟨c,d⟩|⟨c,d⟩|⟨c,d⟩
 ·refine Ev.bind (a:=false) (Ev.else (by show(sg x==0)=false;rw [b];rfl) ((Ev.pure _).eq (by show(sg y==0)=false;rw [d];rfl))) ?_
  refine Ev.bind (a:=true) (Ev.else rfl ((Ev.pure _).eq (by show(sg x==sg y)=true;rw [b,d];rfl))) ?_
  exact Ev.then rfl (hplus _ (fun _=>by show ior .i64 (sg x) (sg y)=_;rw [b,d,a4b (by omega)];decide) (by omega))
 ·refine Ev.bind (a:=true) (Ev.else (by show(sg x==0)=false;rw [b];rfl) ((Ev.pure _).eq (by show(sg y==0)=true;rw [d];rfl))) ?_
  refine Ev.bind (a:=true) (Ev.then rfl (Ev.pure _)) ?_
  exact Ev.then rfl (hplus _ (fun _=>by show ior .i64 (sg x) (sg y)=_;rw [b,d,a4b (by omega)];decide) (by omega))
 ·refine Ev.bind (a:=false) (Ev.else (by show(sg x==0)=false;rw [b];rfl) ((Ev.pure _).eq (by show(sg y==0)=false;rw [d];rfl))) ?_
  refine Ev.bind (a:=false) (Ev.else rfl ((Ev.pure _).eq (by show(sg x==sg y)=false;rw [b,d];rfl))) ?_
  exact Ev.else rfl (hless (.inr ⟨a,c⟩))
 ·refine Ev.bind (a:=true) (Ev.then (by show(sg x==0)=true;rw [b];rfl) (Ev.pure _)) ?_
  refine Ev.bind (a:=true) (Ev.then rfl (Ev.pure _)) ?_
  exact Ev.then rfl (hplus _ (fun _=>by show ior .i64 (sg x) (sg y)=_;rw [b,d,a4b (by omega)];decide) (by omega))
 ·refine Ev.bind (a:=true) (Ev.then (by show(sg x==0)=true;rw [b];rfl) (Ev.pure _)) ?_
  refine Ev.bind (a:=true) (Ev.then rfl (Ev.pure _)) ?_
  exact Ev.then rfl (hplus _ (fun h=>by omega) (by omega))
 ·refine Ev.bind (a:=true) (Ev.then (by show(sg x==0)=true;rw [b];rfl) (Ev.pure _)) ?_
  refine Ev.bind (a:=true) (Ev.then rfl (Ev.pure _)) ?_
  exact Ev.then rfl (hplus _ (fun _=>by show ior .i64 (sg x) (sg y)=_;rw [b,d,a3p (by omega)];decide) (by omega))
 ·refine Ev.bind (a:=false) (Ev.else (by show(sg x==0)=false;rw [b];rfl) ((Ev.pure _).eq (by show(sg y==0)=false;rw [d];rfl))) ?_
  refine Ev.bind (a:=false) (Ev.else rfl ((Ev.pure _).eq (by show(sg x==sg y)=false;rw [b,d];rfl))) ?_
  exact Ev.else rfl (hless (.inl ⟨a,c⟩))
 ·refine Ev.bind (a:=true) (Ev.else (by show(sg x==0)=false;rw [b];rfl) ((Ev.pure _).eq (by show(sg y==0)=true;rw [d];rfl))) ?_
  refine Ev.bind (a:=true) (Ev.then rfl (Ev.pure _)) ?_
  exact Ev.then rfl (hplus _ (fun _=>by show ior .i64 (sg x) (sg y)=_;rw [b,d,a3p (by omega)];decide) (by omega))
 ·refine Ev.bind (a:=false) (Ev.else (by show(sg x==0)=false;rw [b];rfl) ((Ev.pure _).eq (by show(sg y==0)=false;rw [d];rfl))) ?_
  refine Ev.bind (a:=true) (Ev.else rfl ((Ev.pure _).eq (by show(sg x==sg y)=true;rw [b,d];rfl))) ?_
  exact Ev.then rfl (hplus _ (fun _=>by show ior .i64 (sg x) (sg y)=_;rw [b,d,a3p (by omega)];decide) (by omega))
theorem e4q{x y:Int}{k:Nat}(hx:Sm k x)(hy:Sm k y)(hk:k<536870912):Ev (fun n=>b5s n (toB x) (toB y)) (toB (x-y),0):=by
 unfold b5s
 refine Ev.bind (a4f hy (by omega)) ?_
 refine Ev.else rfl ?_
 refine Ev.bind (Ev.bind (d1p hy (by omega)) (Ev.bind (d7g hx hy.neg hk) (Ev.pure _))) ((Ev.pure _).eq ?_)
 rw [Int.sub_eq_add_neg]
theorem d9m{x y:Int}{k:Nat}(hx:Sm k x)(hy:Sm k y)(hk:k<8388608)(hy0:y≠0):Ev (fun n=>b0d n (toB x) (toB y)) (toB (dq x y),toB (dr x y),0):=by
 have lx:=a1k hx
 have ly:=a1k hy
 have hyn:y.natAbs≠0:=by omega
 have hmod:=Nat.mod_lt x.natAbs (show y.natAbs>0 by omega)
 have hdivle:x.natAbs/y.natAbs<=x.natAbs:=Nat.div_le_self _ _
 have lq:=a4o hdivle
 have lr:=a4o (Nat.le_of_lt hmod)
 have lq1:(dig (x.natAbs/y.natAbs+1)).length<=k+1:=by
  have h:Sm (k+1) ((x.natAbs/y.natAbs+1:Nat):Int):=by
   generalize x.natAbs/y.natAbs=q at*
   unfold Sm at*
   rw [Int.natAbs_natCast]
   simp only [pw];have:=pw_pos k;omega
  have:=a1k h
  rwa [Int.natAbs_natCast]at this
 have ls:=a4o (show y.natAbs-x.natAbs %y.natAbs<=y.natAbs by omega)
 unfold b0d
 refine Ev.bind (a4f hx (by omega)) ?_
 refine Ev.bind (a:=false) (Ev.else rfl (Ev.bind (a4f hy (by omega)) (Ev.pure _))) ?_
 refine Ev.else rfl ?_
 refine Ev.else (by show(sg y==0)=false;rcases a0t y with h|h|h<;>first|(rw [h.2];rfl)|omega) ?_
 refine Ev.bind (d3h x.natAbs y.natAbs hyn (by omega) (by omega)) ?_
 refine Ev.step (a:= !odd x y) (by
  show(bif decide (0<=imul .i64 (sg x) (sg y))then some true else some (((dig (x.natAbs %y.natAbs)).length:Int)==0))=_
  rw [b5v]
  unfold odd
  have e1:decide (0<=sg (x*y))= !decide (x*y<0):=by
   rcases a0t (x*y)with⟨h1,h2⟩|⟨h1,h2⟩|⟨h1,h2⟩<;>rw [h2]<;>simp<;>omega
  have e2:(((dig (x.natAbs %y.natAbs)).length:Int)==0)= !decide (x.natAbs %y.natAbs≠0):=by
   by_cases h:x.natAbs %y.natAbs=0
   ·rw [h,dig_zero];rfl
   ·have:=b6z h
    have h3:0<(dig (x.natAbs %y.natAbs)).length:=List.length_pos_iff.2 this
    rw [beq_false_of_ne (by omega),decide_eq_true h];rfl
  rw [e1,e2]
  cases decide (x*y<0)<;>rfl) ?_
 by_cases ho:odd x y=true
 ·refine Ev.else (by rw [ho];rfl) ?_
  refine Ev.bind (a:=dig (x.natAbs/y.natAbs+1)) (by
   have:=d4f (x.natAbs/y.natAbs) 1 (by omega) (by rw [dig_one];simp)
   rwa [dig_one]at this) ?_
  refine Ev.bind (a9k (by omega) (dq x y) (d3t ho).1 (fun _=>(d3t ho).2.symm)) ?_
  refine Ev.bind (c2i y.natAbs (x.natAbs %y.natAbs) (by omega) (by omega)) ?_
  exact Ev.bind (a9k (by omega) (dr x y) (d3r hy0 ho).1 (fun _=>(d3r hy0 ho).2.symm)) (Ev.pure _)
 ·refine Ev.then (by simpa using ho) ?_
  refine Ev.bind (a9k (by omega) (dq x y) (c6b hy0 ho).1 (fun h=>by show imul .i64 (sg x) (sg y)=_;rw [b5v];exact(c6b hy0 ho).2 h)) ?_
  exact Ev.bind (a9k (by omega) (dr x y) (c7n ho).1 (c7n ho).2) (Ev.pure _)
end Go.Proofs.YthaegflpecbfgaaGreatDoor.D
namespace Go.Proofs.YthaegflpecbfgaaGreatDoor.D
open Go Rt M
theorem d6n(n:Nat)(a b:Big)(kont:Option Bool)(hl:a.Digits.length=b.Digits.length)(hla:a.Digits.length<1099511627776):∀(us:List Int)(i m:Nat),a.Digits.drop i=us->us.length<m->ref04_Same_L1 n a b kont m (i:Int)=bif decide (us=b.Digits.drop i)then kont else some false
 | [],i,m+1,hd,_=>by
  rw [ref04_Same_L1_s]
  have:=drop_nil hd
  have hb:b.Digits.drop i= []:=List.drop_eq_nil_of_le (by omega)
  rw [show decide ((i:Int)<(a.Digits.length:Int))=false by simp;omega,hb];rfl
 |x::xs,i,m+1,hd,hm=>by
  rw [ref04_Same_L1_s]
  obtain⟨f1,f2,f3⟩:=drop_cons hd
  have hdb:b.Digits.drop i=b.Digits[i]::b.Digits.drop (i+1):=List.drop_eq_getElem_cons (by omega)
  rw [show decide ((i:Int)<(a.Digits.length:Int))=true by simp;omega,cond_true,f1,Option.bind_some,(drop_cons hdb).1,Option.bind_some,hdb]
  by_cases h:x=b.Digits[i]
  ·rw [show(x !=b.Digits[i])=false by simp [h],cond_false,inc64 (by omega),d6n n a b kont hl hla xs (i+1) m f2 (by simpa using hm),e2y,show decide (x=b.Digits[i])=true by simpa using h,Bool.true_and]
  ·rw [show(x !=b.Digits[i])=true by simpa using h,cond_true,e2y,show decide (x=b.Digits[i])=false by simpa using h];rfl
 |_,_,0,_,h=>by omega
theorem e2i{a b:Big}(hl:a.Digits.length<1099511627776):Ev (fun n=>b0z n a b) (decide (a=b)):=by
 unfold b0z
 obtain⟨s,l⟩:=a
 obtain⟨t,k⟩:=b
 by_cases h:s=t
 ·subst h
  by_cases hlen:l.length=k.length
  ·refine Ev.step (a:=false) (by simp [hlen]) ?_
   refine Ev.else rfl ⟨l.length+1,fun n hn=> ?_⟩
   have h1:=d6n n ⟨s,l⟩ ⟨s,k⟩ (some true) hlen hl l 0 n rfl (by omega)
   rw [show((0:Nat):Int)=0 from rfl,List.drop_zero]at h1
   dsimp only at h1⊢
   rw [h1]
   by_cases h2:l=k
   ·simp [h2]
   ·simp [h2]
  ·refine Ev.step (a:=true) (by simp;omega) ?_
   have:l≠k:=fun e=>hlen (by rw [e])
   exact Ev.then rfl ((Ev.pure _).eq (by simp [this]))
 ·refine Ev.step (a:=true) (by rw [show(s !=t)=true by simpa using h,cond_true]) ?_
  exact Ev.then rfl ((Ev.pure _).eq (by simp [h]))
theorem d8y{x y:Int}{k:Nat}(h:Sm k x)(hk:k<1099511627776):Ev (fun n=>b0z n (toB x) (toB y)) (decide (x=y)):=by
 have h1:=e2i (a:=toB x) (b:=toB y) (by have:=a1k h;simp only [toB];omega)
 refine h1.eq ?_
 by_cases hxy:x=y
 ·simp [hxy]
 ·have:toB x≠toB y:=fun e=>hxy (e6i e)
  simp [hxy,this]
end Go.Proofs.YthaegflpecbfgaaGreatDoor.D
namespace Go.Proofs.YthaegflpecbfgaaGreatDoor.D
open Go Rt M
theorem e9x(v:Nat):∀(u:Nat),(dig u).length<16777216->(dig v).length<16777216->∃N,∀n,N<=n->∀(kont:List Int->Option (Big×Int))m,v<m->a8t n kont m (dig u) (dig v)=kont (dig (Nat.gcd u v)):=by
 induction v using Nat.strongRecOn with
 |ind v ih=>
  intro u hu hv
  by_cases h:v=0
  ·subst h
   refine⟨0,fun n _ kont m hm=> ?_⟩
   obtain⟨m,rfl⟩:∃m',m=m'+1:=⟨m-1,by omega⟩
   rw [dig_zero,Nat.gcd_zero_right];rfl
  ·have hlt:=Nat.mod_lt u (show v>0 by omega)
   obtain⟨N1,h1⟩:=d3h u v h (by omega) (by omega)
   obtain⟨N2,h2⟩:=ih (u %v) hlt v hv (by have:=a4o (Nat.le_of_lt hlt);omega)
   refine⟨max N1 N2,fun n hn kont m hm=> ?_⟩
   obtain⟨m,rfl⟩:∃m',m=m'+1:=⟨m-1,by omega⟩
   have h3:0<(dig v).length:=List.length_pos_iff.2 (b6z h)
   unfold a8t
   rw [show decide (0<((dig v).length:Int))=true by simp;omega,cond_true,(show a8m n (dig u) (dig v)=_ from h1 n (by omega)),Option.bind_some]
   show a8t n kont m (dig v) (dig (u %v))=_
   rw [h2 n (by omega) kont m (by omega),Nat.gcd_comm v,<-Nat.gcd_rec,Nat.gcd_comm]
theorem d8s{x y:Int}{k:Nat}(hx:Sm k x)(hy:Sm k y)(hk:k<8388608):Ev (fun n=>b1v n (toB x) (toB y)) (toB (Nat.gcd x.natAbs y.natAbs:Nat),0):=by
 have lx:=a1k hx
 have ly:=a1k hy
 unfold b1v
 refine Ev.bind (a4f hx (by omega)) ?_
 refine Ev.bind (a:=false) (Ev.else rfl (Ev.bind (a4f hy (by omega)) (Ev.pure _))) ?_
 refine Ev.else rfl ?_
 obtain⟨N,hN⟩:=e9x y.natAbs x.natAbs (by omega) (by omega)
 have lg:(dig (Nat.gcd x.natAbs y.natAbs)).length<=k:=by
  rcases Nat.eq_zero_or_pos x.natAbs with h|h
  ·rw [h,Nat.gcd_zero_left];exact ly
  ·exact Nat.le_trans (a4o (Nat.gcd_le_left _ h)) lx
 refine Ev.from (g:=fun n=>(a1q n 1 (dig (Nat.gcd x.natAbs y.natAbs))).bind fun v3=>some ((⟨v3.Sign,v3.Digits⟩:Big),(0:Int))) (max N (y.natAbs+1)) (fun n hn=>hN n (by omega) _ n (by omega)) ?_
 exact Ev.bind (a9k (by omega) ((Nat.gcd x.natAbs y.natAbs:Nat):Int) (Int.natAbs_natCast _) (fun h=>(a3p (by omega)).symm)) (Ev.pure _)
theorem d0j{x y:Int}{k:Nat}(hx:Sm k x)(hy:Sm k y)(hk:k<536870912):Ev (fun n=>a8w n (toB x) (toB y)) (sg (x-y)):=by
 have lx:=a1k hx
 have ly:=a1k hy
 unfold a8w
 refine Ev.bind (a4f hx (by omega)) ?_
 refine Ev.bind (a:=false) (Ev.else rfl (Ev.bind (a4f hy (by omega)) (Ev.pure _))) ?_
 refine Ev.bind (Ev.else rfl (Ev.bind (d8y (y:=y) hx (by omega)) (Ev.pure _))) ?_
 by_cases hxy:x=y
 ·exact Ev.then (by simpa using hxy) ((Ev.pure _).eq (by rw [hxy,Int.sub_self];rfl))
 refine Ev.else (by simpa using hxy) ?_
 show Ev (fun n=>bif sg x !=sg y then(bif decide (sg x<sg y)then some (-1)else some 1)else(a6c n (dig x.natAbs) (dig y.natAbs)).bind fun v4=>bif v4==decide (0<sg x)then some (-1)else some 1) (sg (x-y))
 have hless:=d4h x.natAbs y.natAbs (by omega) (by omega)
 rcases a0t x with⟨a,b⟩|⟨a,b⟩|⟨a,b⟩<;>rcases a0t y with⟨c,d⟩|⟨c,d⟩|⟨c,d⟩<;>rw [b,d]
 ·refine Ev.else rfl (Ev.bind hless ?_)
  by_cases h:x.natAbs<y.natAbs
  ·rw [decide_eq_true h,a3p (by omega)];exact Ev.pure _
  ·rw [decide_eq_false h,a4b (by omega)];exact Ev.pure _
 ·rw [a4b (by omega)];exact Ev.pure _
 ·rw [a4b (by omega)];exact Ev.pure _
 ·rw [a3p (by omega)];exact Ev.pure _
 ·omega
 ·rw [a4b (by omega)];exact Ev.pure _
 ·rw [a3p (by omega)];exact Ev.pure _
 ·rw [a3p (by omega)];exact Ev.pure _
 ·refine Ev.else rfl (Ev.bind hless ?_)
  by_cases h:x.natAbs<y.natAbs
  ·rw [decide_eq_true h,a4b (by omega)];exact Ev.pure _
  ·rw [decide_eq_false h,a3p (by omega)];exact Ev.pure _
end Go.Proofs.YthaegflpecbfgaaGreatDoor.D
namespace Go.Proofs.YthaegflpecbfgaaGreatDoor.D
open Go Rt M
theorem f1e{s:Int}(hs:s=1∨s=-1)(u:Nat):rem (s*u) 1048576=some (s*((u %1048576:Nat):Int)):=by
 have h:=c3k (x:=(u:Int)) (y:=1048576) (by omega) (by decide)
 rcases hs with rfl|rfl
 ·rw [Int.one_mul,Int.one_mul,h];congr 1
 ·unfold rem at h⊢
  rw [if_neg (by decide)]at h⊢
  have h2:=Option.some.inj h
  rw [show(-1:Int)*(u:Int)=-(u:Int) by omega,Int.neg_tmod,h2]
  congr 1;omega
theorem f0t{s:Int}(hs:s=1∨s=-1){u:Nat}(hu:u<=9223372036854775808):quo .i64 (s*u) 1048576=some (s*((u/1048576:Nat):Int)):=by
 have h:(u:Int).tdiv 1048576=((u/1048576:Nat):Int):=by rw [Int.tdiv_eq_ediv_of_nonneg (by omega)];omega
 unfold quo
 rw [if_neg (by decide)]
 rcases hs with rfl|rfl
 ·rw [Int.one_mul,Int.one_mul,h,a5f (by omega) (by omega)]
 ·rw [show(-1:Int)*(u:Int)=-(u:Int) by omega,Int.neg_tdiv,h,a5f (by omega) (by omega)]
  congr 1;omega
theorem e8h(n:Nat)(kont:List Int->Option Big){s:Int}(hs:s=1∨s=-1):∀(u m:Nat)(acc:List Int),u<=9223372036854775808->(dig u).length<m->acc.length+(dig u).length<1099511627776->a9p n kont m (s*(u:Int)) acc=kont (acc++dig u):=by
 intro u
 induction u using Nat.strongRecOn with
 |ind u ih=>
  intro m acc hu hm ha
  obtain⟨m,rfl⟩:∃m',m=m'+1:=⟨m-1,by omega⟩
  unfold a9p
  by_cases h:u=0
  ·subst h
   rw [dig_zero,List.append_nil,show(s*((0:Nat):Int) !=0)=false by simp];rfl
  ·have hd:=b3o h
   rw [hd]at hm ha
   simp only [List.length_cons]at hm ha
   have hne:(s*(u:Int) !=0)=true:=by
    rw [bne_iff_ne];rcases hs with rfl|rfl<;>omega
   rw [hne,cond_true,f1e hs,Option.bind_some]
   have e1:(bif decide (s*((u %1048576:Nat):Int)<0)then some (IntKind.i64.wrap (0-s*((u %1048576:Nat):Int)))else some (s*((u %1048576:Nat):Int)))=some ((u %1048576:Nat):Int):=by
    have hlt:=Nat.mod_lt u (show 1048576>0 by decide)
    generalize u %1048576=r at*
    by_cases hn:s*(r:Int)<0
    ·rw [decide_eq_true hn,cond_true]
     congr 1
     rcases hs with rfl|rfl
     ·omega
     ·rw [a5f (by omega) (by omega)];omega
    ·rw [decide_eq_false hn,cond_false]
     congr 1
     rcases hs with rfl|rfl<;>omega
   rw [e1,Option.bind_some,b8y (by simp;omega),Option.bind_some,f0t hs hu,Option.bind_some,ih (u/1048576) (by omega) m _ (by omega) (by omega) (by simp;omega),hd]
   simp
theorem d5x{x:Int}(h1:-9223372036854775808<=x)(h2:x<=9223372036854775807):Ev (fun n=>b2h n x) (toB x):=by
 have hl:=c9i (u:=x.natAbs) (by omega)
 by_cases h0:x=0
 ·subst h0
  exact(Ev.pure _).eq toB_zero.symm
 have hm:∀s:Int,s=sg x->Ev (fun n=>(a1q n s (dig x.natAbs)).bind fun v1=>some (⟨v1.Sign,v1.Digits⟩:Big)) (toB x):=fun s hs=>Ev.bind (a9k (by omega) x rfl (fun _=>hs)) (Ev.pure _)
 refine Ev.from (g:=fun n=>(a1q n (sg x) (dig x.natAbs)).bind fun v1=>some (⟨v1.Sign,v1.Digits⟩:Big)) 5 (fun n hn=> ?_) (hm _ rfl)
 show b2h n x=_
 unfold b2h
 rw [show(x==0)=false from beq_false_of_ne h0,cond_false]
 by_cases hx:x<0
 ·rw [decide_eq_true hx,cond_true,Option.bind_some,a4b hx]
  have h3:=e8h n (fun(l2:List Int)=>(a1q n (-1) l2).bind fun v1=>some (⟨v1.Sign,v1.Digits⟩:Big)) (s:=-1) (.inr rfl) x.natAbs n [] (by omega) (by omega) (by simp;omega)
  rw [show(-1:Int)*(x.natAbs:Int)=x by omega,List.nil_append]at h3
  exact h3
 ·rw [decide_eq_false hx,cond_false,Option.bind_some,a3p (by omega)]
  have h3:=e8h n (fun(l2:List Int)=>(a1q n 1 l2).bind fun v1=>some (⟨v1.Sign,v1.Digits⟩:Big)) (s:=1) (.inl rfl) x.natAbs n [] (by omega) (by omega) (by simp;omega)
  rw [show(1:Int)*(x.natAbs:Int)=x by omega,List.nil_append]at h3
  exact h3
end Go.Proofs.YthaegflpecbfgaaGreatDoor.D
namespace Go.Proofs.YthaegflpecbfgaaGreatDoor.D
open Go Rt M
theorem d4g{f:Big}{k:Nat}(h:f.Digits.length<=k)(hk:k<8388608):Ev (fun n=>a1n n f) (a9e f):=c8g (by omega)
theorem e0b{f:Frac}{k:Nat}(hp:f.P.Digits.length<=k)(hq:f.Q.Digits.length<=k)(hk:k<8388608):Ev (fun n=>a6g n f) (a8p f):=by
 unfold a6g
 refine Ev.bind (d4g (f:=f.P) hp hk) ?_
 cases hP:a9e f.P with
 |false=>exact Ev.bind (a:=true) (Ev.then rfl (Ev.pure _)) (Ev.bind (a:=true) (Ev.then rfl (Ev.pure _)) (Ev.then rfl ((Ev.pure _).eq (by unfold a8p;rw [hP];rfl))))
 |true=>
  refine Ev.bind (a:= !a9e f.Q) (Ev.else rfl (Ev.bind (d4g (f:=f.Q) hq hk) (Ev.pure _))) ?_
  cases hQ:a9e f.Q with
  |false=>exact Ev.bind (a:=true) (Ev.then rfl (Ev.pure _)) (Ev.then rfl ((Ev.pure _).eq (by unfold a8p;rw [hP,hQ];rfl)))
  |true=>
   obtain⟨P,Q⟩:=f
   obtain⟨p,rfl⟩:=a8s hP
   obtain⟨q,rfl⟩:=a8s hQ
   have hp':Sm k p:=a6n hp
   have hq':Sm k q:=a6n hq
   refine Ev.bind (a:=decide (sg q<1)) (Ev.else rfl (Ev.pure _)) ?_
   by_cases hs:0<q
   ·refine Ev.else (by rw [a3p hs];rfl) ?_
    have hg:=c6l hp' hq'
    refine Ev.bind (d8s hp' hq' hk) ?_
    refine Ev.bind (d5x (x:=1) (by decide) (by decide)) ?_
    refine Ev.bind (d0j (k:=k+1) (hg.mono (by omega)) (sm01 (by decide) (by decide) (by omega)) (by omega)) ((Ev.pure _).eq ?_)
    unfold a8p
    have hs1:(toB q).Sign=1:=a3p hs
    rw [hP,hQ,b6a,b6a,hs1]
    have e:(sg ((Nat.gcd p.natAbs q.natAbs:Nat)-1:Int)==0)=decide (((Nat.gcd p.natAbs q.natAbs:Nat):Int)-1=0):=b4c _
    rw [e]
    by_cases hg:Nat.gcd p.natAbs q.natAbs=1
    ·rw [hg];rfl
    ·rw [decide_eq_false (by omega)];simp [hg]
   ·refine Ev.then (by
     have:=a0t q
     exact decide_eq_true (by omega)) ((Ev.pure _).eq ?_)
    unfold a8p
    have hs1:((toB q).Sign==1)=false:=by
     have h1:(toB q).Sign=sg q:=rfl
     have:=a0t q
     rw [h1,beq_eq_false_iff_ne];omega
    rw [hP,hQ,hs1];rfl
theorem b6e{r:Rat}{k:Nat}(h:SmF k r)(hk:k<8388608):Ev (fun n=>a6g n (toF r)) true:=(e0b (b2q h).1 (b2q h).2 hk).eq (c0j r)
section
variable{p q:Int}{k:Nat}(hp:Sm k p)(hq:Sm k q)(hk:k<8388608)
include hp hq hk
theorem c9h(h0:0<q):Ev (fun n=>
 (b1v n (⟨(toB p).Sign,(toB p).Digits⟩:Big) (⟨(toB q).Sign,(toB q).Digits⟩:Big)).bind fun v3=>
 (b0d n (⟨(toB p).Sign,(toB p).Digits⟩:Big) (⟨v3.1.Sign,v3.1.Digits⟩:Big)).bind fun v4=>
 (b0d n (⟨(toB q).Sign,(toB q).Digits⟩:Big) (⟨v3.1.Sign,v3.1.Digits⟩:Big)).bind fun v5=>
 some ((⟨(⟨v4.1.Sign,v4.1.Digits⟩:Big),(⟨v5.1.Sign,v5.1.Digits⟩:Big)⟩:Frac),(0:Int))) (toF (Rat.divInt p q),0):=by
 have hg:0<Nat.gcd p.natAbs q.natAbs:=Nat.gcd_pos_of_pos_right _ (by omega)
 have hgs:=c6l hp hq
 obtain⟨e1,e2⟩:=b3e (p:=p) h0
 refine Ev.bind (d8s hp hq hk) ?_
 refine Ev.bind (d9m hp hgs hk (by omega)) ?_
 refine Ev.bind (d9m hq hgs hk (by omega)) ((Ev.pure _).eq ?_)
 unfold toF
 rw [e1,e2,<-d2i (by omega),<-d2i (by omega)]
theorem d0h(h0:q≠0):Ev (fun n=>b1s n (toB p) (toB q)) (toF (Rat.divInt p q),0):=by
 unfold b1s
 refine Ev.bind (a4f hp (by omega)) ?_
 refine Ev.bind (a:=false) (Ev.else rfl (Ev.bind (a4f hq (by omega)) (Ev.pure _))) ?_
 refine Ev.else rfl ?_
 refine Ev.else (by show(sg q==0)=false;rw [b4c];simpa using h0) ?_
 by_cases hn:q<0
 ·refine Ev.bind (Ev.then (by show decide (sg q<0)=true;rw [a4b hn];rfl) (Ev.bind (d1p hp (by omega)) (Ev.bind (d1p hq (by omega)) (Ev.pure _)))) ?_
  rw [b7p]
  exact c9h hp.neg hq.neg hk (by omega)
 ·refine Ev.bind (Ev.else (by show decide (sg q<0)=false;rw [a3p (by omega)];rfl) (Ev.pure _)) ?_
  exact c9h hp hq hk (by omega)
end
section
variable{a b:Rat}{j k:Nat}(ha:SmF j a)(hb:SmF k b)(hk:j+k<4000000)
include ha hb hk
theorem rmul_PQ:Ev (fun n=>a6o n (⟨(toF a).P.Sign,(toF a).P.Digits⟩:Big) (⟨(toF b).Q.Sign,(toF b).Q.Digits⟩:Big)) (toB (a.num*b.den),0):=
 d9a (ha.1.mono (by omega:j<=j+k)) (hb.2.mono (by omega:k<=j+k)) (by omega)
theorem rmul_QQ:Ev (fun n=>a6o n (⟨(toF a).Q.Sign,(toF a).Q.Digits⟩:Big) (⟨(toF b).Q.Sign,(toF b).Q.Digits⟩:Big)) (toB ((a.den:Int)*b.den),0):=
 d9a (ha.2.mono (by omega:j<=j+k)) (hb.2.mono (by omega:k<=j+k)) (by omega)
theorem QAdd_ev:Ev (fun n=>d0b n (toF a) (toF b)) (toF (a+b),0):=by
 have m1:Sm (j+k+1) (a.num*b.den):=(ha.1.mul hb.2).mono (by omega)
 have m2:Sm (j+k+1) (b.num*a.den):=(hb.1.mul ha.2).mono (by omega)
 have m3:Sm (j+k+1) ((a.den:Int)*b.den):=(ha.2.mul hb.2).mono (by omega)
 have m4:Sm (j+k+1) (a.num*b.den+b.num*a.den):=(ha.1.mul hb.2).add ((hb.1.mul ha.2).mono (by omega))
 unfold d0b
 refine Ev.bind (b6e ha (by omega)) ?_
 refine Ev.bind (a:=false) (Ev.else rfl (Ev.bind (b6e hb (by omega)) (Ev.pure _))) ?_
 refine Ev.else rfl ?_
 refine Ev.bind (rmul_PQ ha hb hk) (Ev.bind (rmul_PQ hb ha (by omega)) (Ev.bind (rmul_QQ ha hb hk) ?_))
 refine Ev.bind (d7g m1 m2 (by omega)) ?_
 refine Ev.bind (d0h m4 m3 (by omega) (c0v (b2m a) (b2m b))) ((Ev.pure _).eq ?_)
 rw [c6j]
theorem QSub_ev:Ev (fun n=>b3d n (toF a) (toF b)) (toF (a-b),0):=by
 have m1:Sm (j+k+1) (a.num*b.den):=(ha.1.mul hb.2).mono (by omega)
 have m2:Sm (j+k+1) (b.num*a.den):=(hb.1.mul ha.2).mono (by omega)
 have m3:Sm (j+k+1) ((a.den:Int)*b.den):=(ha.2.mul hb.2).mono (by omega)
 have m4:Sm (j+k+1) (a.num*b.den-b.num*a.den):=(ha.1.mul hb.2).sub ((hb.1.mul ha.2).mono (by omega))
 unfold b3d
 refine Ev.bind (b6e ha (by omega)) ?_
 refine Ev.bind (a:=false) (Ev.else rfl (Ev.bind (b6e hb (by omega)) (Ev.pure _))) ?_
 refine Ev.else rfl ?_
 refine Ev.bind (rmul_PQ ha hb hk) (Ev.bind (rmul_PQ hb ha (by omega)) (Ev.bind (rmul_QQ ha hb hk) ?_))
 refine Ev.bind (e4q m1 m2 (by omega)) ?_
 refine Ev.bind (d0h m4 m3 (by omega) (c0v (b2m a) (b2m b))) ((Ev.pure _).eq ?_)
 have e:a-b=Rat.divInt (a.num*b.den-b.num*a.den) (a.den*b.den):=by
  rw [Rat.sub_eq_add_neg,c6j,Rat.neg_num,Rat.neg_den,Int.neg_mul,<-Int.sub_eq_add_neg]
 rw [e]
end
section
variable{a:Rat}{k:Nat}(ha:SmF k a)(hk:k<1000000)
include ha hk
end
theorem f0p{x y:Int}(h1:-9223372036854775808<=x)(h2:x<=9223372036854775807)(h3:-9223372036854775808<=y)(h4:y<=9223372036854775807)(h0:y≠0):Ev (fun n=>b9r n x y) (toF (Rat.divInt x y),0):=by
 have s1:Sm 4 x:=a6n (c9i (by omega))
 have s2:Sm 4 y:=a6n (c9i (by omega))
 unfold b9r
 exact Ev.bind (d5x h1 h2) (Ev.bind (d5x h3 h4) (Ev.bind (d0h s1 s2 (by decide) h0) (Ev.pure _)))
theorem d7q{x:Int}(h1:-9223372036854775808<=x)(h2:x<=9223372036854775807):Ev (fun n=>a6a n x) (toF (x:Rat)):=by
 unfold a6a
 refine Ev.bind (f0p h1 h2 (y:=1) (by decide) (by decide) (by decide)) ((Ev.pure _).eq ?_)
 rw [d4x]
end Go.Proofs.YthaegflpecbfgaaGreatDoor.D
namespace Go.Proofs.YthaegflpecbfgaaGreatDoor.Fe
open Go Rt M Ta Tp D
theorem e8b{x:M.Expr}:∀{y:M.Expr},y∈x.Args->cnt y<cnt x/\dep y<dep x:=by
 obtain⟨o,n,s,l⟩:=x
 have h1:cnt ⟨o,n,s,l⟩=cnts l+1:=rfl
 have h2:dep ⟨o,n,s,l⟩=deps l+1:=rfl
 have h3:∀(l:List M.Expr)(y:M.Expr),y∈l->cnt y<=cnts l/\dep y<=deps l:=by
  intro l
  induction l with
  |nil=>intro y hy;cases hy
  |cons z l ih=>
   intro y hy
   have e1:cnts (z::l)=cnt z+cnts l:=rfl
   have e2:deps (z::l)=max (dep z) (deps l):=rfl
   rcases List.mem_cons.1 hy with rfl|hy
   ·omega
   ·have:=ih y hy;omega
 intro y hy
 have:=h3 l y hy
 omega
theorem a7w{x y:M.Expr}(h:Frm x)(hy:y∈x.Args):Frm y:=by
 have h1:=e8b hy
 refine⟨⟨by have:=h.1.1;omega,by have:=h.1.2;omega⟩,?_⟩
 obtain⟨o,n,s,l⟩:=x
 exact h.2.inv.2.2.2.2 y hy
theorem a7v{x y:M.Expr}(h:Fit x)(hy:y∈x.Args):Fit y:=by
 cases h with
 |mk _ h2=>exact h2 y hy
theorem e7j{names:List Rt.Bs}(hn:names.length<4611686018427387904)(hnm:named names=true){x:M.Expr}(hx:Fit x)(hf:Frm x){k:Int}(ht:Typ names x k):Ev (fun n=>b1i n x names) (k,0):=by
 unfold b1i
 refine Ev.bind (b9c hn) (Ev.else (by rw [hnm];rfl) ?_)
 obtain⟨b,eb,hb⟩:=e0f hx
 obtain rfl:=hb.2 hf
 refine Ev.bind eb (Ev.else rfl ?_)
 obtain⟨r,er,hr⟩:=c6q hx names hn hf.2
 obtain rfl:=hr.2 k ht
 exact Ev.bind er (Ev.pure _)
theorem c5q{p q:Int}(h:wd p q≠2):p≠2/\q≠2:=by
 unfold wd at h
 constructor
 ·intro e;subst e;exact h rfl
 ·intro e;subst e;apply h;cases p==2<;>rfl
theorem d2r{names:List Rt.Bs}{E E':Env}(hl:E.lf=E'.lf)(hp:E.pers=E'.pers)(hf:E.flats=E'.flats){x:M.Expr}{k:Int}(ht:Typ names x k):k≠2->vl E x=vl E' x:=by
 have v2:∀{o:Int}{a b:M.Expr},vl E a=vl E' a->vl E b=vl E' b->vl E ⟨o,0,[],[a,b]⟩=vl E' ⟨o,0,[],[a,b]⟩:=by
  intro o a b ha hb
  show d1j E o 0 [] [vl E a,vl E b]=d1j E' o 0 [] [vl E' a,vl E' b]
  rw [ha,hb];rfl
 induction ht with
 |num=>intro _;rfl
 |lifts _ hs=>intro _;show((E.lf _:Rat),false)=_;rw [hl];rfl
 |pers=>intro _;show((E.pers:Rat),false)=_;rw [hp];rfl
 |flats=>intro _;show((E.flats:Rat),false)=_;rw [hf];rfl
 |wgt _ hs=>intro h;exact absurd rfl h
 |ari _ _ _ _ _ ha hb=>intro h;exact v2 (ha (c5q h).1) (hb (c5q h).2)
 |mul _ _ _ _ _ ha hb=>intro h;exact v2 (ha (c5q h).1) (hb (c5q h).2)
 |div _ _ _ _ ha=>intro h;exact v2 (ha h) rfl
 | @ite c a b _ _ _ _ _ _ _ hc ha hb=>
  intro h
  show d1j E 11 0 [] [vl E c,vl E a,vl E b]=d1j E' 11 0 [] [vl E' c,vl E' a,vl E' b]
  rw [hc (by decide),ha (c5q h).1,hb (c5q h).2];rfl
 |rel _ _ _ ha hb=>intro _;exact v2 (ha (by decide)) (hb (by decide))
 | @not a _ ha=>
  intro _
  show d1j E 14 0 [] [vl E a]=d1j E' 14 0 [] [vl E' a]
  rw [ha (by decide)];rfl
 |bin _ _ _ ha hb=>intro _;exact v2 (ha (by decide)) (hb (by decide))
theorem d6x{names:List Rt.Bs}{E E':Env}(hl:E.lf=E'.lf)(hp:E.pers=E'.pers)(hf:E.flats=E'.flats){x:M.Expr}{k:Int}(ht:Typ names x k)(hk:k≠2):num E x=num E' x:=by
 unfold num;rw [d2r hl hp hf ht hk]
theorem d9l{names:List Rt.Bs}{E E':Env}(hl:E.lf=E'.lf)(hp:E.pers=E'.pers)(hf:E.flats=E'.flats){x:M.Expr}(ht:Typ names x 0):tru E x=tru E' x:=by
 unfold tru;rw [d2r hl hp hf ht (by decide)]
end Go.Proofs.YthaegflpecbfgaaGreatDoor.Fe
namespace Go.Proofs.YthaegflpecbfgaaGreatDoor.Fm
open Go Rt M Ta Tp D Fe
def b9n(k:Nat):Nat->RFm->Bool
 |_,[]=>true
 |c,l::f=>decide (c*l.length*k<=200)&&b9n k (c*l.length) f
def oppB(f:RFm):Option RFm:=if b9n f.length 1 f=true then some (opp f)else none
def b9a(n:Nat)(f:RFm)(c:Rat):Option RFm:=if c=0 then some (cst n 0)else if 0<c then some (scl c f)else(oppB f).map (scl (-c))
def c7e(o:Int)(f g:RFm):Nat:=if o=9 then sz f+sz g else if o=10 then sz f*g.length+sz g*f.length else sz f*sz g
def c1k(o:Int)(f g:RFm):RFm:=if o=9 then f++g else if o=10 then join (·++·) f g else join sums f g
def c4z(o:Int)(f g:RFm):Option RFm:=(if o=6 then oppB g else some g).bind fun g=>if c7e o f g<=200 then some (c1k o f g)else none
def mkN(names:List Rt.Bs)(o:Int)(s:Rt.Bs)(v:Rat):List (Rat×Bool)->List (Bool×Option RFm)->Bool×Option RFm
 | [va,vb],[a,b]=>if(a.1||b.1)=true then(true,if o=7 then(if a.1=true then a.2.bind fun f=>b9a names.length f vb.1 else b.2.bind fun f=>b9a names.length f va.1)else if o=8 then a.2.map (scl (1/vb.1))else a.2.bind fun f=>b.2.bind fun g=>c4z o f g)else(false,some (cst names.length v))
 | [vc,_,_],[_,a,b]=>if(a.1||b.1)=true then(true,if vc.2=true then a.2 else b.2)else(false,some (cst names.length v))
 |_,_=>if o=4 then(true,some (wgt names.length (names.idxOf s)))else(false,some (cst names.length v))
theorem b0m(names:List Rt.Bs)(o:Int)(s:Rt.Bs)(v:Rat)(va vb:Rat×Bool)(a b:Bool×Option RFm):mkN names o s v [va,vb] [a,b]=if(a.1||b.1)=true then(true,if o=7 then(if a.1=true then a.2.bind fun f=>b9a names.length f vb.1 else b.2.bind fun f=>b9a names.length f va.1)else if o=8 then a.2.map (scl (1/vb.1))else a.2.bind fun f=>b.2.bind fun g=>c4z o f g)else(false,some (cst names.length v)):=rfl
theorem b9e(names:List Rt.Bs)(o:Int)(s:Rt.Bs)(v:Rat)(vc va vb:Rat×Bool)(c a b:Bool×Option RFm):mkN names o s v [vc,va,vb] [c,a,b]=if(a.1||b.1)=true then(true,if vc.2=true then a.2 else b.2)else(false,some (cst names.length v)):=rfl
mutual
def mk(names:List Rt.Bs)(E:Fe.Env):M.Expr->Bool×Option RFm
 |⟨o,m,s,l⟩=>mkN names o s (num E ⟨o,m,s,l⟩) (vls E l) (mks names E l)
def mks(names:List Rt.Bs)(E:Fe.Env):List M.Expr->List (Bool×Option RFm)
 | []=> []
 |x::l=>mk names E x::mks names E l
 end
theorem c2a{k:Nat}:∀{f:RFm}{c:Nat},b9n k c f=true->f≠ []->c*prd f*k<=200
 | [],_,_,h=>absurd rfl h
 | [l],c,h,_=>by
  unfold b9n at h
  simp only [Bool.and_eq_true,decide_eq_true_eq]at h
  show c*(l.length*1)*k<=200
  rw [Nat.mul_one];exact h.1
 |l::m::f,c,h,_=>by
  unfold b9n at h
  simp only [Bool.and_eq_true]at h
  have:=c2a h.2 (by simp)
  show c*(l.length*prd (m::f))*k<=200
  rw [<-Nat.mul_assoc c];exact this
theorem d7w{f g:RFm}(h:oppB f=some g):g=opp f/\sz g<=200:=by
 unfold oppB at h
 split at h
 ·rename_i hk
  cases h
  refine⟨rfl,?_⟩
  rw [e4c]
  by_cases h0:f= []
  ·subst h0;decide
  ·have:=c2a hk h0
   rw [Nat.one_mul]at this;exact this
 ·cases h
structure Gd(n B:Nat)(f:RFm):Prop where
 wide:Wide n f
 sm:∀p,p∈f->∀a,a∈p->SmF B a.1/\∀c,c∈a.2->SmF B c
theorem sm0{B:Nat}(hB:1<=B):SmF B 0:=c7t (x:=0) (sm01 (by decide) (by decide) hB) hB
theorem sm1{B:Nat}(hB:1<=B):SmF B 1:=c7t (x:=1) (sm01 (by decide) (by decide) hB) hB
section
variable{n A B:Nat}{f g:RFm}
theorem Gd.mono(h:Gd n A f)(hk:A<=B):Gd n B f:=⟨h.wide,fun p hp a ha=>⟨(h.sm p hp a ha).1.mono hk,fun c hc=>((h.sm p hp a ha).2 c hc).mono hk⟩⟩
theorem e3e{c:Rat}(hc:SmF B c)(hB:1<=B):Gd n B (cst n c):=by
 refine⟨e0s n c,fun p hp a ha=> ?_⟩
 obtain rfl:=List.mem_singleton.1 hp
 obtain rfl:=List.mem_singleton.1 ha
 refine⟨hc,fun d hd=> ?_⟩
 obtain⟨_,rfl⟩:=List.mem_replicate.1 hd
 exact sm0 hB
theorem e3k{k:Nat}(hB:1<=B):Gd n B (wgt n k):=by
 refine⟨e0z n k,fun p hp a ha=> ?_⟩
 obtain rfl:=List.mem_singleton.1 hp
 obtain rfl:=List.mem_singleton.1 ha
 refine⟨sm0 hB,fun d hd=> ?_⟩
 rcases List.mem_or_eq_of_mem_set hd with h|rfl
 ·obtain⟨_,rfl⟩:=List.mem_replicate.1 h
  exact sm0 hB
 ·exact sm1 hB
theorem e4a(h:Gd n B f)(k:Gd n B g):Gd n B (f++g):=by
 refine⟨e2q h.wide k.wide,fun p hp=> ?_⟩
 rcases List.mem_append.1 hp with hp|hp
 ·exact h.sm p hp
 ·exact k.sm p hp
theorem e0c(h:Gd n B f)(k:Gd n B g):Gd n B (join (·++·) f g):=by
 refine⟨d8o h.wide k.wide,fun p hp a ha=> ?_⟩
 obtain⟨x,y,hx,hy,rfl⟩:=b2d.1 hp
 rcases List.mem_append.1 ha with ha|ha
 ·exact h.sm x hx a ha
 ·exact k.sm y hy a ha
theorem d7f{α:Type}{op:α->α->α}{c:α}:∀{a b:List α},c∈List.zipWith op a b->∃x y,x∈a/\y∈b/\c=op x y
 | [],_,h=>by simp at h
 |_::_,[],h=>by simp at h
 |x::a,y::b,h=>by
  rcases List.mem_cons.1 h with rfl|h
  ·exact⟨x,y,by simp,by simp,rfl⟩
  ·obtain⟨p,q,hp,hq,e⟩:=d7f h
   exact⟨p,q,by simp [hp],by simp [hq],e⟩
theorem e5g{a b:RA}(ha:SmF A a.1/\∀c,c∈a.2->SmF A c)(hb:SmF B b.1/\∀c,c∈b.2->SmF B c):SmF (A+B+1) (addA a b).1/\∀c,c∈(addA a b).2->SmF (A+B+1) c:=by
 refine⟨ha.1.add hb.1,fun c hc=> ?_⟩
 obtain⟨x,y,hx,hy,rfl⟩:=d7f hc
 exact(ha.2 x hx).add (hb.2 y hy)
theorem e7a{a:RA}{c:Rat}(ha:SmF A a.1/\∀c,c∈a.2->SmF A c)(hc:SmF B c):SmF (A+B) (mulA c a).1/\∀d,d∈(mulA c a).2->SmF (A+B) d:=by
 refine⟨ha.1.mul hc,fun d hd=> ?_⟩
 obtain⟨x,hx,rfl⟩:=List.mem_map.1 hd
 exact(ha.2 x hx).mul hc
theorem e7z{a:RA}(ha:SmF A a.1/\∀c,c∈a.2->SmF A c):SmF A (mulA (-1) a).1/\∀d,d∈(mulA (-1) a).2->SmF A d:=by
 have e:∀x:Rat,x*(-1)=-x:=fun x=>by grind
 refine⟨?_,fun d hd=> ?_⟩
 ·show SmF A (a.1*(-1));rw [e];exact ha.1.neg
 ·obtain⟨x,hx,rfl⟩:=List.mem_map.1 hd
  show SmF A (x*(-1));rw [e];exact(ha.2 x hx).neg
theorem c6e(h:Gd n A f)(k:Gd n B g):Gd n (A+B+1) (join sums f g):=by
 refine⟨d9u h.wide k.wide,fun p hp a ha=> ?_⟩
 obtain⟨x,y,hx,hy,rfl⟩:=b2d.1 hp
 obtain⟨b,c,hb,hc,rfl⟩:=c1z.1 ha
 exact e5g (h.sm x hx b hb) (k.sm y hy c hc)
theorem d2m{c:Rat}(h:Gd n A f)(hc:SmF B c):Gd n (A+B) (scl c f):=by
 refine⟨e0p h.wide,fun p hp a ha=> ?_⟩
 unfold scl at hp
 obtain⟨x,hx,rfl⟩:=List.mem_map.1 hp
 obtain⟨b,hb,rfl⟩:=List.mem_map.1 ha
 exact e7a (h.sm x hx b hb) hc
theorem d8b(h:Gd n A f):Gd n A (opp f):=by
 refine⟨d3l h.wide,fun p hp a ha=> ?_⟩
 obtain⟨q,b,hq,hb,rfl⟩:=(c0q.1 hp).all a ha
 exact e7z (h.sm q hq b hb)
end
structure Is(n B:Nat)(f:RFm)(V:List Rat->Rat):Prop where
 gd:Gd n B f
 sz:sz f<=200
 val:∀ws:List Rat,ws.length=n->IsV f ws (V ws)
section
variable{n A B:Nat}{f g:RFm}{U V:List Rat->Rat}
theorem Is.ne(h:Is n B f V):f≠ []/\∀p,p∈f->p≠ []:=by
 obtain⟨h1,p,hp,_⟩:=h.val (List.replicate n 0) (by simp)
 refine⟨fun e=>(by subst e;cases hp),fun p hp e=> ?_⟩
 obtain⟨a,ha,_⟩:=h1 p hp
 subst e;cases ha
theorem len_sz:∀{f:RFm},(∀p,p∈f->p≠ [])->f.length<=Fm.sz f
 | [],_=>Nat.le_refl _
 |p::f,h=>by
  have h1:0<p.length:=List.length_pos_iff.2 (h p (by simp))
  have:=len_sz (f:=f) (fun q hq=>h q (by simp [hq]))
  show f.length+1<=p.length+Fm.sz f
  omega
theorem Is.len(h:Is n B f V):f.length<=200:=Nat.le_trans (len_sz h.ne.2) h.sz
theorem e3p{c:Rat}(hc:SmF B c)(hB:1<=B)(hV:∀ws:List Rat,ws.length=n->V ws=c):Is n B (cst n c) V:=
 ⟨e3e hc hB,by show 1+0<=200;decide,fun ws hl=>by rw [hV ws hl];exact e4y n c ws⟩
theorem d6w{c:Rat}(h:Is n A f U)(hc:SmF B c)(hB:1<=B)(hV:∀ws:List Rat,ws.length=n->V ws=U ws*c)(hg:b9a n f c=some g):Is n (A+B) g V:=by
 unfold b9a at hg
 split at hg
 ·rename_i h0
  cases hg;subst h0
  exact e3p (sm0 (by omega)) (by omega) (fun ws hl=>by rw [hV ws hl,Rat.mul_zero])
 ·rename_i h0
  split at hg
  ·rename_i h1
   cases hg
   exact⟨d2m h.gd hc,by rw [c9m];exact h.sz,fun ws hl=>by rw [hV ws hl];exact d1n h1 (h.val ws hl)⟩
  ·rename_i h1
   obtain⟨k,hk,rfl⟩:=Option.map_eq_some_iff.1 hg
   obtain⟨rfl,h2⟩:=d7w hk
   refine⟨d2m (d8b h.gd) hc.neg,by rw [c9m];exact h2,fun ws hl=> ?_⟩
   have:V ws=-U ws*-c:=by rw [hV ws hl];grind
   rw [this]
   exact d1n (by grind) (d5w (h.val ws hl))
theorem e5l{o:Int}{r:RFm}(ho:o=5∨o=6∨o=9∨o=10)(h:Is n A f U)(k:Is n B g V){W:List Rat->Rat}(hW:∀ws:List Rat,ws.length=n->W ws=two o (U ws) (V ws))(hr:c4z o f g=some r):Is n (A+B+1) r W:=by
 unfold c4z at hr
 obtain⟨g',hg,hr⟩:=Option.bind_eq_some_iff.1 hr
 split at hr
 ·rename_i hs
  cases hr
  rcases ho with rfl|rfl|rfl|rfl
  ·cases hg
   exact⟨c6e h.gd k.gd,by show Fm.sz (join sums f g)<=200;rw [sz_sums];exact hs,fun ws hl=>by rw [hW ws hl];exact d7s h.gd.wide k.gd.wide (h.val ws hl) (k.val ws hl)⟩
  ·obtain⟨rfl,_⟩:=d7w hg
   refine⟨c6e h.gd (d8b k.gd),by show Fm.sz (join sums f (opp g))<=200;rw [sz_sums];exact hs,fun ws hl=> ?_⟩
   have:W ws=U ws+-V ws:=by rw [hW ws hl,e7c,Rat.sub_eq_add_neg]
   rw [this]
   exact d7s h.gd.wide (d3l k.gd.wide) (h.val ws hl) (d5w (k.val ws hl))
  ·cases hg
   exact⟨e4a (h.gd.mono (by omega)) (k.gd.mono (by omega)),by show Fm.sz (f++g)<=200;rw [sz_app];exact hs,fun ws hl=>by rw [hW ws hl,d7i];exact e5x (h.val ws hl) (k.val ws hl)⟩
  ·cases hg
   exact⟨e0c (h.gd.mono (by omega)) (k.gd.mono (by omega)),by show Fm.sz (join (·++·) f g)<=200;rw [sz_both];exact hs,fun ws hl=>by rw [hW ws hl,d8d];exact e4p (h.val ws hl) (k.val ws hl)⟩
 ·cases hr
theorem Is.mono(h:Is n A f V)(hk:A<=B):Is n B f V:=⟨h.gd.mono hk,h.sz,h.val⟩
theorem Is.to(h:Is n A f U)(hV:∀ws:List Rat,ws.length=n->V ws=U ws):Is n A f V:=⟨h.gd,h.sz,fun ws hl=>by rw [hV ws hl];exact h.val ws hl⟩
end
def E0(names:List Rt.Bs)(f:Facts):Fe.Env:=mkE names f (List.replicate names.length 0)
theorem wd2{p q:Int}(hp:p=1∨p=2)(hq:q=1∨q=2):(wd p q==2)=((p==2)||(q==2)):=by
 rcases hp with rfl|rfl<;>rcases hq with rfl|rfl<;>rfl
theorem r12{names:List Rt.Bs}{x:M.Expr}{k:Int}(h:Typ names x k)(hk:k≠0):k=1∨k=2:=by
 rcases h.range with h|h|h
 ·exact absurd h hk
 ·exact .inl h
 ·exact .inr h
section
variable{names:List Rt.Bs}{fc:Facts}(hf:RF names fc (List.replicate names.length 0))(hn:names.length<4611686018427387904)
include hf hn
theorem c0m{x:M.Expr}{k:Int}(ht:Typ names x k)(hk:k≠0)(hc:cnt x<=1000):SmF (4*cnt x) (num (E0 names fc) x):=
 c9e (W:=4) hf (by decide) (by decide) (fun w hw=>by obtain⟨_,rfl⟩:=List.mem_replicate.1 hw;exact sm0 (by decide)) hn ht hk hc
omit hf hn in
theorem e8f(x:M.Expr){k:Int}(ht:Typ names x k)(hk:k≠2)(ws:List Rat):num (mkE names fc ws) x=num (E0 names fc) x:=d6x (E:=mkE names fc ws) (E':=E0 names fc) rfl rfl rfl ht hk
theorem e9m{x:M.Expr}(ht:Typ names x 1)(hc:cnt x<=1000)(hp:1<=cnt x):Is names.length (4*cnt x) (cst names.length (num (E0 names fc) x)) (fun ws=>num (mkE names fc ws) x):=
 e3p (c0m hf hn ht (by decide) hc) (by omega) (fun ws _=>e8f x ht (by decide) ws)
omit hf hn in
theorem b2r(x:M.Expr):1<=cnt x:=by obtain⟨o,n,s,l⟩:=x;show 1<=cnts l+1;omega
def Mk(names:List Rt.Bs)(fc:Facts)(x:M.Expr)(k:Int):Prop:=
 (mk names (E0 names fc) x).1=(k==2)/\(k=1->(mk names (E0 names fc) x).2=some (cst names.length (num (E0 names fc) x)))/\∀F,(mk names (E0 names fc) x).2=some F->Is names.length (4*cnt x) F (fun ws=>num (mkE names fc ws) x)
theorem c1b{x:M.Expr}(ht:Typ names x 1)(hc:cnt x<=1000)(h:mk names (E0 names fc) x=(false,some (cst names.length (num (E0 names fc) x)))):Mk names fc x 1:=by
 refine⟨by rw [h];rfl,fun _=>by rw [h],fun F hF=> ?_⟩
 rw [h]at hF;cases hF
 exact e9m hf hn ht hc (b2r x)
omit hf hn in
theorem b4p(o m:Int)(s:Rt.Bs)(a b:M.Expr):mk names (E0 names fc) ⟨o,m,s,[a,b]⟩=mkN names o s (num (E0 names fc) ⟨o,m,s,[a,b]⟩) [vl (E0 names fc) a,vl (E0 names fc) b] [mk names (E0 names fc) a,mk names (E0 names fc) b]:=rfl
theorem b4r{x:M.Expr}{k:Int}(ht:Typ names x k):cnt x<=1000->k≠0->Mk names fc x k:=by
 have c2:∀(o n:Int)(s:Rt.Bs)(a b:M.Expr),cnt ⟨o,n,s,[a,b]⟩=cnt a+cnt b+1:=fun o n s a b=>by show cnt a+(cnt b+0)+1=_;omega
 have ht0:=ht
 induction ht with
 |num h0 h1=>intro hc _;exact c1b hf hn ht0 hc rfl
 |lifts h0 h1=>intro hc _;exact c1b hf hn ht0 hc rfl
 |pers=>intro hc _;exact c1b hf hn ht0 hc rfl
 |flats=>intro hc _;exact c1b hf hn ht0 hc rfl
 | @wgt s h0 hs=>
  intro hc _
  refine⟨rfl,fun h=>(by cases h),fun F hF=> ?_⟩
  cases hF
  refine⟨e3k (by show 1<=4*1;decide),by show 1+0<=200;decide,fun ws hl=>e7t hl ?_⟩
  show ws[names.idxOf s]?=some (Fe.look names ws 0 s)
  have:=d1d (0:Rat) hs hl.symm
  rwa [b1z]at this
 | @ari o a b p q ho ha hb hp hq iha ihb=>
  intro hc _
  rw [c2]at hc
  obtain⟨a1,a2,a3⟩:=iha ha (by omega) hp
  obtain⟨b1,b2,b3⟩:=ihb hb (by omega) hq
  have hw:=wd2 (r12 ha hp) (r12 hb hq)
  have hcond:((mk names (E0 names fc) a).1||(mk names (E0 names fc) b).1)=(wd p q==2):=by rw [a1,b1,hw]
  cases h2:(wd p q==2)with
  |false=>
   have h1:wd p q=1:=by rcases a9h p q with h|h;exact h;rw [h]at h2;cases h2
   rw [h1]at ht0⊢
   refine c1b hf hn ht0 (by rw [c2];omega) ?_
   rw [b4p,b0m]
   rw [if_neg (by rw [hcond,h2];decide)]
  |true=>
   have e:mk names (E0 names fc) ⟨o,0,[],[a,b]⟩=(true,(mk names (E0 names fc) a).2.bind fun f=>(mk names (E0 names fc) b).2.bind fun g=>c4z o f g):=by
    rw [b4p,b0m]
    rw [if_pos (by rw [hcond,h2]),if_neg (by omega),if_neg (by omega)]
   refine⟨by rw [e,h2],fun h=>(by rw [h]at h2;cases h2),fun F hF=> ?_⟩
   rw [e]at hF
   obtain⟨f,hf1,hF⟩:=Option.bind_eq_some_iff.1 hF
   obtain⟨g,hg1,hF⟩:=Option.bind_eq_some_iff.1 hF
   rw [c2]
   exact(e5l ho (a3 f hf1) (b3 g hg1) (fun ws hl=>num_two ..) hF).mono (by omega)
 | @mul a b p q ha hb hp hq hpq iha ihb=>
  intro hc _
  rw [c2]at hc
  obtain⟨a1,a2,a3⟩:=iha ha (by omega) hp
  obtain⟨b1,b2,b3⟩:=ihb hb (by omega) hq
  have hw:=wd2 (r12 ha hp) (r12 hb hq)
  have hcond:((mk names (E0 names fc) a).1||(mk names (E0 names fc) b).1)=(wd p q==2):=by rw [a1,b1,hw]
  cases h2:(wd p q==2)with
  |false=>
   have h1:wd p q=1:=by rcases a9h p q with h|h;exact h;rw [h]at h2;cases h2
   rw [h1]at ht0⊢
   refine c1b hf hn ht0 (by rw [c2];omega) ?_
   rw [b4p,b0m]
   rw [if_neg (by rw [hcond,h2];decide)]
  |true=>
   have e:mk names (E0 names fc) ⟨7,0,[],[a,b]⟩=(true,if(mk names (E0 names fc) a).1=true then(mk names (E0 names fc) a).2.bind fun f=>b9a names.length f (num (E0 names fc) b)else(mk names (E0 names fc) b).2.bind fun f=>b9a names.length f (num (E0 names fc) a)):=by
    rw [b4p,b0m]
    rw [if_pos (by rw [hcond,h2]),if_pos rfl];rfl
   refine⟨by rw [e,h2],fun h=>(by rw [h]at h2;cases h2),fun F hF=> ?_⟩
   rw [e]at hF
   dsimp only at hF
   rw [c2]
   split at hF
   ·rename_i hA
    obtain⟨f,hf1,hF⟩:=Option.bind_eq_some_iff.1 hF
    have hp2:p=2:=by rw [a1]at hA;exact of_decide_eq_true hA
    have hq1:q=1:=by rcases r12 hb hq with h|h;exact h;exact absurd ⟨hp2,h⟩ hpq
    subst hq1
    refine(d6w (a3 f hf1) (c0m hf hn hb (by decide) (by omega)) (by have:=b2r b;omega) (fun ws hl=> ?_) hF).mono (by omega)
    rw [num_two,d7b,e8f b hb (by decide) ws]
   ·rename_i hA
    obtain⟨f,hf1,hF⟩:=Option.bind_eq_some_iff.1 hF
    have hp1:p=1:=by
     rcases r12 ha hp with h|h
     ·exact h
     ·rw [a1,h]at hA;exact absurd rfl hA
    subst hp1
    refine(d6w (b3 f hf1) (c0m hf hn ha (by decide) (by omega)) (by have:=b2r a;omega) (fun ws hl=> ?_) hF).mono (by omega)
    rw [num_two,d7b,e8f a ha (by decide) ws,Rat.mul_comm]
 | @div a m p ha hp h1 h2 iha=>
  intro hc _
  rw [c2]at hc
  obtain⟨a1,a2,a3⟩:=iha ha (by omega) hp
  have hb:(mk names (E0 names fc) ⟨0,m,[],[]⟩).1=false:=rfl
  rcases r12 ha hp with rfl|rfl
  ·refine c1b hf hn ht0 (by rw [c2];omega) ?_
   rw [b4p,b0m]
   rw [if_neg (by rw [a1,hb];decide)]
  ·have e:mk names (E0 names fc) ⟨8,0,[],[a,⟨0,m,[],[]⟩]⟩=(true,(mk names (E0 names fc) a).2.map (scl (1/(m:Rat)))):=by
    rw [b4p,b0m]
    rw [if_pos (by rw [a1,hb];decide),if_neg (by decide),if_pos rfl];rfl
   refine⟨by rw [e];rfl,fun h=>(by cases h),fun F hF=> ?_⟩
   rw [e]at hF
   obtain⟨f,hf1,rfl⟩:=Option.map_eq_some_iff.1 hF
   have hm:(0:Rat)<(m:Rat):=by
    have:=Rat.intCast_lt_intCast.2 (show(0:Int)<m by omega)
    simpa using this
   have hm':(0:Rat)<1/(m:Rat):=by rw [Rat.div_def,Rat.one_mul];exact Rat.inv_pos.2 hm
   have hs:SmF 5 (1/(m:Rat)):=e5y (j:=1) (k:=4) (sm1 (by decide)) (smI (x:=m) (by omega) (by omega) (by decide)) (by rw [Rat.num_intCast];omega)
   rw [c2]
   refine⟨(d2m (a3 f hf1).gd hs).mono (by show 4*cnt a+5<=4*(cnt a+(0+1)+1);omega),by rw [c9m];exact(a3 f hf1).sz,fun ws hl=> ?_⟩
   have:num (mkE names fc ws) ⟨8,0,[],[a,⟨0,m,[],[]⟩]⟩=num (mkE names fc ws) a*(1/(m:Rat)):=by
    rw [num_two,num_num,e6b,Rat.div_def,Rat.div_def,Rat.one_mul]
   show IsV _ ws (num (mkE names fc ws) ⟨8,0,[],[a,⟨0,m,[],[]⟩]⟩)
   rw [this]
   exact d1n hm' ((a3 f hf1).val ws hl)
 | @ite c a b p q hc0 ha hb hp hq ihc iha ihb=>
  intro hc _
  have hc3:cnt ⟨11,0,[],[c,a,b]⟩=cnt c+cnt a+cnt b+1:=by show cnt c+(cnt a+(cnt b+0))+1=_;omega
  rw [hc3]at hc
  obtain⟨a1,a2,a3⟩:=iha ha (by omega) hp
  obtain⟨b1,b2,b3⟩:=ihb hb (by omega) hq
  have hw:=wd2 (r12 ha hp) (r12 hb hq)
  have hcond:((mk names (E0 names fc) a).1||(mk names (E0 names fc) b).1)=(wd p q==2):=by rw [a1,b1,hw]
  have e0:mk names (E0 names fc) ⟨11,0,[],[c,a,b]⟩=mkN names 11 [] (num (E0 names fc) ⟨11,0,[],[c,a,b]⟩) [vl (E0 names fc) c,vl (E0 names fc) a,vl (E0 names fc) b] [mk names (E0 names fc) c,mk names (E0 names fc) a,mk names (E0 names fc) b]:=rfl
  cases h2:(wd p q==2)with
  |false=>
   have h1:wd p q=1:=by rcases a9h p q with h|h;exact h;rw [h]at h2;cases h2
   rw [h1]at ht0⊢
   refine c1b hf hn ht0 (by rw [hc3];omega) ?_
   rw [e0,b9e]
   rw [if_neg (by rw [hcond,h2];decide)]
  |true=>
   have e:mk names (E0 names fc) ⟨11,0,[],[c,a,b]⟩=(true,if tru (E0 names fc) c=true then(mk names (E0 names fc) a).2 else(mk names (E0 names fc) b).2):=by
    rw [e0,b9e]
    rw [if_pos (by rw [hcond,h2])];rfl
   refine⟨by rw [e,h2],fun h=>(by rw [h]at h2;cases h2),fun F hF=> ?_⟩
   rw [e]at hF
   dsimp only at hF
   rw [hc3]
   have ht:∀ws,tru (mkE names fc ws) c=tru (E0 names fc) c:=fun ws=>d9l (E:=mkE names fc ws) (E':=E0 names fc) rfl rfl rfl hc0
   split at hF
   ·rename_i hA
    exact((a3 F hF).mono (by omega)).to (fun ws _=>by rw [num_ite,ht,if_pos hA])
   ·rename_i hA
    exact((b3 F hF).mono (by omega)).to (fun ws _=>by rw [num_ite,ht,if_neg hA])
 |rel=>intro _ h;exact absurd rfl h
 |not=>intro _ h;exact absurd rfl h
 |bin=>intro _ h;exact absurd rfl h
end
end Go.Proofs.YthaegflpecbfgaaGreatDoor.Fm
namespace Go.Proofs.YthaegflpecbfgaaGreatDoor.Rt
open Go
theorem mulN{x y:Nat}(h:x*y<=9223372036854775807):imul .i64 (x:Int) (y:Int)=((x*y:Nat):Int):=by
 have e:((x*y:Nat):Int)=(x:Int)*(y:Int):=Int.natCast_mul x y
 rw [a6w (by rw [<-e];omega) (by rw [<-e];omega),e]
section
variable{α β σ ρ κ:Type}{xs:List α}{h:α->β}
theorem d6l{L:Nat->κ->Nat->Int->σ->Option ρ}(fin:κ->σ->Option ρ)(Inv:List α->σ->Prop)(Ex:ρ->Prop)
 (hb:∀p x q s,xs=p++x::q->Inv p s->(∃s',Inv (p++ [x]) s'/\∃N,∀n K m,N<=n->L n K (m+1) (p.length:Int) s=L n K m ((p.length+1:Nat):Int) s')∨(∃r,Ex r/\∃N,∀n K m,N<=n->L n K (m+1) (p.length:Int) s=some r))
 (he:∀s,Inv xs s->∃N,∀n K m,N<=n->L n K (m+1) (xs.length:Int) s=fin K s) {s0:σ} (h0:Inv [] s0):(∃s',Inv xs s'/\∃N,∀n K,N<=n->L n K n 0 s0=fin K s')∨(∃r,Ex r/\∃N,∀n K,N<=n->L n K n 0 s0=some r):=by
 have go:∀q p s,xs=p++q->Inv p s->(∃s',Inv xs s'/\∃N,∀n K m,N<=n->q.length<m->L n K m (p.length:Int) s=fin K s')∨(∃r,Ex r/\∃N,∀n K m,N<=n->q.length<m->L n K m (p.length:Int) s=some r):=by
  intro q
  induction q with
  |nil=>
   intro p s hx hp
   rw [List.append_nil]at hx
   subst hx
   obtain⟨N,e⟩:=he s hp
   refine .inl ⟨s,hp,N,fun n K m hn hm=> ?_⟩
   obtain⟨m,rfl⟩:∃j,m=j+1:=⟨m-1,by simp only [List.length_nil]at hm;omega⟩
   exact e n K m hn
  |cons x q ih=>
   intro p s hx hp
   rcases hb p x q s hx hp with⟨s',hi,N1,e1⟩|⟨r,hr,N1,e1⟩
   ·rcases ih (p++ [x]) s' (by rw [hx];simp) hi with⟨s2,hi2,N2,e2⟩|⟨r,hr,N2,e2⟩
    ·refine .inl ⟨s2,hi2,max N1 N2,fun n K m hn hm=> ?_⟩
     obtain⟨m,rfl⟩:∃j,m=j+1:=⟨m-1,by simp only [List.length_cons]at hm;omega⟩
     rw [e1 n _ _ (by omega)]
     have:=e2 n K m (by omega) (by simp only [List.length_cons]at hm;omega)
     rwa [List.length_append,List.length_singleton]at this
    ·refine .inr ⟨r,hr,max N1 N2,fun n K m hn hm=> ?_⟩
     obtain⟨m,rfl⟩:∃j,m=j+1:=⟨m-1,by simp only [List.length_cons]at hm;omega⟩
     rw [e1 n _ _ (by omega)]
     have:=e2 n K m (by omega) (by simp only [List.length_cons]at hm;omega)
     rwa [List.length_append,List.length_singleton]at this
   ·refine .inr ⟨r,hr,N1,fun n K m hn hm=> ?_⟩
    obtain⟨m,rfl⟩:∃j,m=j+1:=⟨m-1,by simp only [List.length_cons]at hm;omega⟩
    rw [e1 n _ _ (by omega)]
 rcases go xs [] s0 rfl h0 with⟨s',hi,N,e⟩|⟨r,hr,N,e⟩
 ·exact .inl ⟨s',hi,N+xs.length+1,fun n K hn=>e n K n (by omega) (by omega)⟩
 ·exact .inr ⟨r,hr,N+xs.length+1,fun n K hn=>e n K n (by omega) (by omega)⟩
theorem lpR(hl:xs.length<=9223372036854775807){L:Nat->(σ->Option ρ)->Nat->Int->σ->Option ρ}{B:Nat->Int->β->σ->(σ->Option ρ)->Option ρ}
 (hs:∀n K m i s,L n K (m+1) i s=bif decide (i<(xs.length:Int))then(ix (xs.map h) i).bind fun x=>B n i x s (L n K m (iadd .i64 i 1))else K s)
 (Inv:List α->σ->Prop) (Ex:ρ->Prop)
 (hb:∀p x q s,xs=p++x::q->Inv p s->(∃s',Inv (p++ [x]) s'/\∃N,∀n k,N<=n->B n (p.length:Int) (h x) s k=k s')∨(∃r,Ex r/\∃N,∀n k,N<=n->B n (p.length:Int) (h x) s k=some r))
 {s0:σ} (h0:Inv [] s0):(∃s',Inv xs s'/\∃N,∀n K,N<=n->L n K n 0 s0=K s')∨(∃r,Ex r/\∃N,∀n K,N<=n->L n K n 0 s0=some r):=by
 refine d6l (κ:=σ->Option ρ) (fun K s=>K s) Inv Ex (fun p x q s hx hp=> ?_) (fun s _=>⟨0,fun n K m _=>by rw [hs,decide_eq_false (by omega)];rfl⟩) h0
 have hlen:xs.length=p.length+(q.length+1):=by rw [hx,List.length_append,List.length_cons]
 have hix:ix (xs.map h) (p.length:Int)=some (h x):=by
  rw [hx,List.map_append,List.map_cons]
  exact a5s _ _ _ (by rw [List.length_map])
 have one:∀n K m,L n K (m+1) (p.length:Int) s=B n (p.length:Int) (h x) s (L n K m ((p.length+1:Nat):Int)):=by
  intro n K m
  rw [hs,decide_eq_true (by omega),hix,show iadd .i64 (p.length:Int) 1=((p.length+1:Nat):Int)from(a1s (by omega) (by omega)).trans (by omega)];rfl
 rcases hb p x q s hx hp with⟨s',hi,N1,e1⟩|⟨r,hr,N1,e1⟩
 ·exact .inl ⟨s',hi,N1,fun n K m hn=>by rw [one,e1 n _ hn]⟩
 ·exact .inr ⟨r,hr,N1,fun n K m hn=>by rw [one,e1 n _ hn]⟩
theorem c4s(hl:xs.length<=9223372036854775807){L:Nat->(σ->Option ρ)->Nat->Int->σ->Option ρ}{B:Nat->Int->β->σ->(σ->Option ρ)->Option ρ}
 (hs:∀n K m i s,L n K (m+1) i s=bif decide (i<(xs.length:Int))then(ix (xs.map h) i).bind fun x=>B n i x s (L n K m (iadd .i64 i 1))else K s)
 (F:List α->σ) (hb:∀p x q,xs=p++x::q->∃N,∀n k,N<=n->B n (p.length:Int) (h x) (F p) k=k (F (p++ [x]))) {s0:σ} (h0:F []=s0):∃N,∀n K,N<=n->L n K n 0 s0=K (F xs):=by
 subst h0
 rcases lpR hl hs (fun p s=>s=F p) (fun _=>False) (fun p x q s hx hp=> .inl ⟨_,rfl,by subst hp;exact hb p x q hx⟩) rfl with⟨s',rfl,h⟩|⟨r,hr,_⟩
 ·exact h
 ·exact hr.elim
end
section
variable{σ ρ:Type}
theorem d5d{L:Nat->(σ->Option ρ)->Option ρ}{s:σ}{K:Nat->σ->Option ρ}{r:ρ}(h:∃N,∀n k,N<=n->L n k=k s)(hk:Ev (fun n=>K n s) r):Ev (fun n=>L n (K n)) r:=by
 obtain⟨N,e⟩:=h
 exact Ev.from N (fun n hn=>e n _ hn) hk
end
end Go.Proofs.YthaegflpecbfgaaGreatDoor.Rt
namespace Go.Proofs.YthaegflpecbfgaaGreatDoor.Fm
open Go Rt M Ta Tp D Fe
def toA(a:RA):Affine:=⟨toF a.1,a.2.map toF⟩
def toP(p:List RA):List Affine:=p.map toA
def toFm(f:RFm):M.Form:=⟨f.map toP⟩
def SmA(B:Nat)(a:RA):Prop:=SmF B a.1/\∀c,c∈a.2->SmF B c
theorem b8m{α:Type}(a:α){k:Nat}(hk:k<=1000):Ev (fun n=>a2z n [a] (k:Int)) (List.replicate k a):=by
 refine Ev.all fun n=> ?_
 show(if 0<=(k:Int)/\(k:Int)<=1000 then some (List.replicate (k:Int).toNat a)else none)=_
 rw [if_pos ⟨by omega,by omega⟩,Int.toNat_natCast]
theorem e9v{x y:Int}(h1:-9223372036854775808<=x)(h2:x<=9223372036854775807)(h3:-9223372036854775808<=y)(h4:y<=9223372036854775807)(h0:y≠0):Ev (fun n=>c2q n x y) (toF (Rat.divInt x y),0):=by
 have s1:Sm 4 x:=a6n (c9i (by omega))
 have s2:Sm 4 y:=a6n (c9i (by omega))
 unfold c2q
 exact Ev.bind (e6w h1 h2) (Ev.bind (e6w h3 h4) (Ev.bind (c6p s1 s2 (by decide) h0) (Ev.pure _)))
theorem FInt0:Ev (fun n=>a3q n 0) (toF 0):=b5n (x:=0) (by decide) (by decide)
theorem FInt1:Ev (fun n=>a3q n 1) (toF 1):=b5n (x:=1) (by decide) (by decide)
theorem FIntm:Ev (fun n=>a3q n (-1)) (toF (-1)):=b5n (x:=-1) (by decide) (by decide)
theorem c6n(n:Nat)(c:Rat):toFm (cst n c)=⟨[[⟨toF c,List.replicate n (toF 0)⟩]]⟩:=by
 unfold toFm cst toP toA
 simp only [List.map_cons,List.map_nil,List.map_replicate]
theorem c2z(m:maker)(c:Rat)(hn:m.names.length<=1000):Ev (fun n=>a1d n m (toF c)) (m,toFm (cst m.names.length c)):=by
 unfold a1d
 rw [c6n]
 exact Ev.bind FInt0 (Ev.bind (b8m _ hn) (Ev.pure _))
theorem c8k{a:RA}(hl:a.2.length<=1000000){F:Nat->Int->Frac->Option Frac}{c:Rat}(hc:Ev (fun n=>F n (-1) (toF a.1)) (toF c))(G:List Rat->List Rat)(h0:G []= [])
 (hG:∀p x q,a.2=p++x::q->∃y,Ev (fun n=>F n (p.length:Int) (toF x)) (toF y)/\G (p++ [x])=G p++ [y]/\(G p).length<=p.length):Ev (fun n=>a7o n (toA a) (F n)) (toA (c,G a.2)):=by
 unfold a7o
 refine Ev.bind hc ?_
 refine d5d (L:=fun n K=>minmax_affine_L1 n (toA a) (F n) K n 0 ([]:List Frac)) (s:=(G a.2).map toF) (K:=fun _ l2=>some (⟨toF c,l2⟩:Affine)) ?_ (Ev.pure _)
 refine c4s (xs:=a.2) (h:=toF) (by omega) (L:=fun n K m i s=>minmax_affine_L1 n (toA a) (F n) K m i s) (B:=fun n i x s k=>(F n i x).bind fun v2=>(app 64 s [v2]).bind k) (fun n K m i s=> ?_) (fun p=>(G p).map toF) (fun p x q hx=> ?_) (by rw [h0];rfl)
 ·rw [minmax_affine_L1_s];simp only [toA,List.length_map]
 ·obtain⟨y,⟨N,hN⟩,hy,hlen⟩:=hG p x q hx
  dsimp only at hN
  have h5:p.length<=1000000:=by rw [hx,List.length_append]at hl;omega
  refine⟨N,fun n k hn=> ?_⟩
  rw [hN n hn,Option.bind_some,b0f (by simp only [List.length_map,List.length_singleton];omega),Option.bind_some,hy,List.map_append];rfl
theorem c9t{j k:Nat}{a b:Rat}(ha:SmF j a)(hb:SmF k b)(hk:j+k<4000000)(i:Int):Ev (fun n=>a5q n i (toF a) (toF b)) (toF (a*b)):=by
 unfold a5q
 exact Ev.bind (FMul_ev ha hb hk) (Ev.pure _)
theorem b3x{A B:Nat}{a:RA}{b:Rat}(ha:SmA A a)(hb:SmF B b)(hk:A+B<4000000)(hl:a.2.length<=1000000):Ev (fun n=>a6d n (toA a) (toF b)) (toA (mulA b a)):=by
 unfold a6d
 refine Ev.bind (c8k hl (F:=fun n q0 q1=>a5q n q0 q1 (toF b)) (c:=a.1*b) (c9t ha.1 hb hk _) (fun p=>p.map (·*b)) rfl (fun p x q hx=>⟨x*b,c9t (ha.2 x (by rw [hx];simp)) hb hk _,by simp,by simp⟩)) (Ev.pure _)
theorem d3w{α:Type}{l:List α}{k:Nat}(h:k<l.length):∃p y q,l=p++y::q/\p.length=k:=by
 refine⟨l.take k,l[k],l.drop (k+1),?_,by rw [List.length_take];omega⟩
 rw [<-List.drop_eq_getElem_cons h,List.take_append_drop]
theorem d2n{α:Type}{op:α->α->α}:∀{p p2:List α}{x y:α}{q2:List α},p2.length=p.length->List.zipWith op (p++ [x]) (p2++y::q2)=List.zipWith op p (p2++y::q2)++ [op x y]
 | [],[],x,y,q2,_=>rfl
 |a::p,b::p2,x,y,q2,h=>by
  show op a b::List.zipWith op (p++ [x]) (p2++y::q2)=op a b::(List.zipWith op p (p2++y::q2)++ [op x y])
  rw [d2n (by simpa using h)]
 | [],_::_,_,_,_,h=>by simp at h
 |_::_,[],_,_,_,h=>by simp at h
theorem d5o{A B:Nat}{b:RA}{x y:Rat}{i:Int}(hx:SmF A x)(hy:SmF B y)(hk:A+B<4000000)(h:(0<=i/\ix (b.2.map toF) i=some (toF y))∨(i<0/\y=b.1)):Ev (fun n=>a7f n i (toF x) (toA b)) (toF (x+y)):=by
 unfold a7f
 rcases h with⟨h0,h1⟩|⟨h0,rfl⟩
 ·refine Ev.bind (a:=((toF y).P.Sign,(toF y).P.Digits,(toF y).Q.Sign,(toF y).Q.Digits)) (Ev.then (decide_eq_true h0) (Ev.step (a:=toF y) h1 (Ev.pure _))) ?_
  exact Ev.bind (FAdd_ev hx hy hk) (Ev.pure _)
 ·refine Ev.bind (a:=((toF b.1).P.Sign,(toF b.1).P.Digits,(toF b.1).Q.Sign,(toF b.1).Q.Digits)) (Ev.else (decide_eq_false (by omega)) (Ev.pure _)) ?_
  exact Ev.bind (FAdd_ev hx hy hk) (Ev.pure _)
theorem e8k{A B:Nat}{a b:RA}(ha:SmA A a)(hb:SmA B b)(hk:A+B<4000000)(hl:a.2.length<=1000000)(he:b.2.length=a.2.length):Ev (fun n=>b1a n (toA a) (toA b)) (toA (addA a b)):=by
 unfold b1a
 refine Ev.bind (c8k hl (F:=fun n q0 q1=>a7f n q0 q1 (toA b)) (c:=a.1+b.1) (d5o ha.1 hb.1 hk (.inr ⟨by decide,rfl⟩)) (fun p=>List.zipWith (·+·) p b.2) rfl (fun p x q hx=> ?_)) (Ev.pure _)
 obtain⟨p2,y,q2,hb2,hp2⟩:=d3w (l:=b.2) (k:=p.length) (by rw [he,hx];simp)
 refine⟨x+y,d5o (ha.2 x (by rw [hx];simp)) (hb.2 y (by rw [hb2];simp)) hk (.inl ⟨by omega,?_⟩),?_,?_⟩
 ·rw [hb2,List.map_append,List.map_cons]
  exact a5s _ _ _ (by rw [List.length_map,hp2])
 ·rw [hb2,d2n hp2]
 ·simp only [List.length_zipWith];omega
theorem gdA{n B:Nat}{f:RFm}(h:Gd n B f){p:List RA}(hp:p∈f){a:RA}(ha:a∈p):SmA B a:=h.sm p hp a ha
theorem e0d(f:RFm)(hs:Fm.sz f<=1000000)(hl:f.length<=1000000):Ev (fun n=>a4g n (toFm f)) (Fm.sz f:Int):=by
 unfold a4g
 refine d5d (L:=fun n K=>minmax_size_L1 n (toFm f) K n 0 0) (s:=((Fm.sz f:Nat):Int)) (K:=fun _ nx2=>some nx2) ?_ (Ev.pure _)
 refine c4s (xs:=f) (h:=toP) (by omega) (L:=fun n K m i s=>minmax_size_L1 n (toFm f) K m s i) (B:=fun n i x s k=>k (iadd .i64 s (x.length:Int))) (fun n K m i s=> ?_) (fun p=>((Fm.sz p:Nat):Int)) (fun p x q hx=>⟨0,fun n k _=> ?_⟩) rfl
 ·rw [minmax_size_L1_s];simp only [toFm,List.length_map]
 ·have h1:Fm.sz p+x.length<=Fm.sz f:=by rw [hx,sz_app];show _<=Fm.sz p+(x.length+Fm.sz q);omega
  have h2:Fm.sz (p++ [x])=Fm.sz p+x.length:=by rw [sz_app];rfl
  have h3:(toP x).length=x.length:=List.length_map ..
  rw [h2,h3,a1s (by omega) (by omega)];congr 1
theorem d1l{A B nn:Nat}{l:List RA}{b:Rat}(hl:l.length<=1000000)(ha:∀a,a∈l->SmA A a/\a.2.length=nn)(hn:nn<=1000000)(hb:SmF B b)(hk:A+B<4000000):
 ∃N,∀n K,N<=n->minmax_scaled_L2 n (toF b).P.Sign (toF b).P.Digits (toF b).Q.Sign (toF b).Q.Digits (toP l) K n 0 ([]:List Affine)=K (toP (l.map (mulA b))):=by
 refine c4s (xs:=l) (h:=toA) (by omega) (L:=fun n K m i s=>minmax_scaled_L2 n (toF b).P.Sign (toF b).P.Digits (toF b).Q.Sign (toF b).Q.Digits (toP l) K m i s) (B:=fun n i x s k=>(a6d n x (toF b)).bind fun v1=>(app 88 s [v1]).bind k) (fun n K m i s=> ?_) (fun p=>toP (p.map (mulA b))) (fun p x q hx=> ?_) rfl
 ·rw [minmax_scaled_L2_s];simp only [toP,List.length_map]
 ·have h5:p.length<=1000000:=by rw [hx,List.length_append]at hl;omega
  obtain⟨h6,h7⟩:=ha x (by rw [hx];simp)
  obtain⟨N,hN⟩:=b3x h6 hb hk (by omega)
  dsimp only at hN
  refine⟨N,fun n k hn=> ?_⟩
  rw [hN n hn,Option.bind_some,b0f (by simp only [toP,List.length_map,List.length_singleton];omega),Option.bind_some]
  simp only [toP,List.map_append,List.map_cons,List.map_nil]
theorem d9c{A B nn:Nat}{f:RFm}{b:Rat}(hf:Gd nn A f)(hs:Fm.sz f<=1000000)(hl:f.length<=1000000)(hn:nn<=1000000)(hb:SmF B b)(hk:A+B<4000000):Ev (fun n=>a5m n (toFm f) (toF b)) (toFm (scl b f)):=by
 unfold a5m
 refine d5d (L:=fun n K=>minmax_scaled_L1 n (toFm f) (fun l _=>K l) n 0 ([]:List (List Affine)) [] (toF b).P.Sign (toF b).P.Digits (toF b).Q.Sign (toF b).Q.Digits) (s:=(scl b f).map toP) (K:=fun _ l2=>some (⟨l2⟩:M.Form)) ?_ (Ev.pure _)
 refine c4s (xs:=f) (h:=toP) (by omega) (L:=fun n K m i s=>minmax_scaled_L1 n (toFm f) (fun l _=>K l) m i s [] (toF b).P.Sign (toF b).P.Digits (toF b).Q.Sign (toF b).Q.Digits) (B:=fun n i x s k=>minmax_scaled_L2 n (toF b).P.Sign (toF b).P.Digits (toF b).Q.Sign (toF b).Q.Digits x (fun l4=>(app 24 s [l4]).bind k) n 0 ([]:List Affine)) (fun n K m i s=> ?_) (fun p=>(scl b p).map toP) (fun p x q hx=> ?_) rfl
 ·rw [minmax_scaled_L1_s];simp only [toFm,List.length_map]
 ·have h5:p.length<=1000000:=by rw [hx,List.length_append]at hl;omega
  have hxs:x.length<=1000000:=by rw [hx,sz_app]at hs;have:Fm.sz (x::q)=x.length+Fm.sz q:=rfl;omega
  have hxm:x∈f:=by rw [hx];simp
  obtain⟨N,hN⟩:=d1l (b:=b) hxs (fun a ha=>⟨gdA hf hxm ha,hf.wide x hxm a ha⟩) hn hb hk
  refine⟨N,fun n k hn=> ?_⟩
  rw [hN n _ hn,b0f (by simp only [scl,List.length_map,List.length_singleton];omega),Option.bind_some]
  simp only [scl,List.map_append,List.map_cons,List.map_nil]
theorem d9p(n:Nat)(m:maker)(k:Int):a2l n m k=some (⟨m.names,m.facts,m.full||decide (200<k)⟩, !(m.full||decide (200<k))):=by
 unfold a2l
 cases m.full<;>rfl
theorem e2v{A nn:Nat}{l:List RA}{c:List RA}(hl:l.length<=1000000)(hc:c.length<=1000)(ha:∀a,a∈l->SmA A a/\a.2.length=nn)(hn:nn<=1000000)(hk:A+1<4000000){s0:RFm}(hs0:s0.length<=1000000):
 ∃N,∀n K,N<=n->minmax_maker_opposite_L3 n (toP l) (toP c) K n 0 (s0.map toP)=K ((s0++l.map fun a=>c++ [mulA (-1) a]).map toP):=by
 refine c4s (xs:=l) (h:=toA) (by omega) (L:=fun n K m i s=>minmax_maker_opposite_L3 n (toP l) (toP c) K m i s) (B:=fun n i x s k=>(a1a n (toP c)).bind fun v2=>(a3q n (-1)).bind fun v3=>(a6d n x v3).bind fun v4=>(app 88 v2 [v4]).bind fun l5=>(app 24 s [l5]).bind k) (fun n K m i s=> ?_) (fun p=>(s0++p.map fun a=>c++ [mulA (-1) a]).map toP) (fun p x q hx=> ?_) (by simp)
 ·rw [minmax_maker_opposite_L3_s];simp only [toP,List.length_map]
 ·have h5:p.length<=1000000:=by rw [hx,List.length_append]at hl;omega
  obtain⟨h6,h7⟩:=ha x (by rw [hx];simp)
  obtain⟨N,hN⟩:=b3x h6 (b:=-1) (B:=1) (c7t (x:=-1) (sm01 (by decide) (by decide) (by decide)) (by decide)) hk (by omega)
  dsimp only at hN
  obtain⟨N2,hN2⟩:=FIntm
  dsimp only at hN2
  refine⟨max N N2,fun n k hn=> ?_⟩
  have hcl:a1a n (toP c)=some (toP c):=by
   unfold a1a
   exact b0f (l:= []) (by simp only [toP,List.length_map,List.length_nil];omega)
  rw [hcl,Option.bind_some,hN2 n (by omega),Option.bind_some,hN n (by omega),Option.bind_some,b0f (by simp only [toP,List.length_map,List.length_singleton];omega),Option.bind_some,b0f (by simp only [List.length_map,List.length_append,List.length_singleton];omega),Option.bind_some]
  simp only [toP,List.map_append,List.map_cons,List.map_nil,List.append_assoc]
theorem e1e{A nn:Nat}{l:List RA}{cs:RFm}(hl:l.length<=200)(hcs:cs.length<=200)(hc:∀c,c∈cs->c.length<=1000)(ha:∀a,a∈l->SmA A a/\a.2.length=nn)(hn:nn<=1000000)(hk:A+1<4000000)(f15 f16:List (List Affine))(m:maker):
 ∃N,∀n K,N<=n->minmax_maker_opposite_L2 n (cs.map toP) (toP l) K n 0 [] f15 f16 m.names m.facts.Lifts m.facts.Persons m.facts.Flats m.full=K ((step cs l).map toP) f15 f16 m.names m.facts.Lifts m.facts.Persons m.facts.Flats m.full:=by
 have hlen:(cs.map toP).length=cs.length:=List.length_map ..
 have L:=d6l (xs:=cs) (σ:=List (List Affine)) (ρ:=maker×M.Form) (L:=fun n K mm i s=>minmax_maker_opposite_L2 n (cs.map toP) (toP l) K mm i s f15 f16 m.names m.facts.Lifts m.facts.Persons m.facts.Flats m.full)
  (fun K s=>K s f15 f16 m.names m.facts.Lifts m.facts.Persons m.facts.Flats m.full) (fun p s=>s=(step p l).map toP) (fun _=>False) (fun p x q s hx hs=> .inl ⟨_,rfl,?_⟩) (fun s _=>⟨0,fun n K mm _=> ?_⟩) (s0:= []) rfl
 ·rcases L with⟨s',rfl,L⟩|⟨r,hr,_⟩
  ·exact L
  ·exact hr.elim
 ·subst hs
  have h5:p.length<=200:=by rw [hx,List.length_append]at hcs;omega
  have h6:(step p l).length<=1000000:=by rw [d3a];exact Nat.le_trans (Nat.mul_le_mul h5 hl) (by decide)
  obtain⟨N,hN⟩:=e2v (l:=l) (c:=x) (by omega) (hc x (by rw [hx];simp)) ha hn hk h6
  refine⟨N,fun n K mm hnn=> ?_⟩
  have hix:ix (cs.map toP) (p.length:Int)=some (toP x):=by
   rw [hx,List.map_append,List.map_cons]
   exact a5s _ _ _ (by rw [List.length_map])
  rw [minmax_maker_opposite_L2_s,decide_eq_true (by rw [hlen,hx,List.length_append,List.length_cons];omega),cond_true,hix,Option.bind_some,hN n _ hnn,Rt.inc64 (by omega)]
  unfold step
  simp only [List.flatMap_append,List.flatMap_cons,List.flatMap_nil,List.append_nil]
 ·rw [minmax_maker_opposite_L2_s,decide_eq_false (by rw [hlen];omega)];rfl
theorem c7g{A nn:Nat}{f:RFm}(hf:Gd nn A f)(hs:Fm.sz f<=200)(hl:f.length<=200)(hn:nn<=1000000)(hk:A+1<4000000)(m:maker):
 ((f= []∨m.full=false)/\b9n f.length 1 f=true/\Ev (fun n=>a2c n m (toFm f)) (m,toFm (opp f)))∨((f≠ []/\m.full=true∨b9n f.length 1 f=false)/\Ev (fun n=>a2c n m (toFm f)) (⟨m.names,m.facts,true⟩,⟨[]⟩)):=by
 have hlen:(toFm f).Pieces.length=f.length:=List.length_map ..
 have L:=d6l (xs:=f) (σ:=List (List Affine)) (ρ:=maker×M.Form) (L:=fun n K mm i s=>minmax_maker_opposite_L1 n (toFm f) K mm s i [] (f.map toP) m.names m.facts.Lifts m.facts.Persons m.facts.Flats m.full)
  (fun K s=>K s [] m.names m.facts.Lifts m.facts.Persons m.facts.Flats m.full) (fun p s=>s=(opp p).map toP/\(p= []∨m.full=false)/\(prd p*f.length<=200∨p= [])/\∀q,f=p++q->b9n f.length 1 f=b9n f.length (prd p) q) (fun r=>r=(⟨m.names,m.facts,true⟩,⟨[]⟩)/\(f≠ []/\m.full=true∨b9n f.length 1 f=false)) (fun p x q s hx⟨hi,hfu,hpr,hok⟩=> ?_) (fun s _=>⟨0,fun n K mm _=> ?_⟩) (s0:= [[]]) ⟨rfl,.inl rfl,.inr rfl,fun q hq=>by rw [show f=q by simpa using hq];rfl⟩
 ·unfold a2c
  rcases L with⟨s',⟨rfl,h1,h2,h3⟩,L⟩|⟨r,⟨rfl,h1⟩,L⟩
  ·left
   refine⟨h1,by rw [h3 [] (by simp)];rfl,?_⟩
   obtain⟨N,e⟩:=L
   exact⟨N,fun n hn=>e n _ hn⟩
  ·right
   refine⟨h1,?_⟩
   obtain⟨N,e⟩:=L
   exact⟨N,fun n hn=>e n _ hn⟩
 ·have hlf:f.length=p.length+(q.length+1):=by rw [hx,List.length_append,List.length_cons]
  have hix:ix (f.map toP) (p.length:Int)=some (toP x):=by
   rw [hx,List.map_append,List.map_cons]
   exact a5s _ _ _ (by rw [List.length_map])
  have hxl:x.length<=200:=by rw [hx,sz_app]at hs;have:Fm.sz (x::q)=x.length+Fm.sz q:=rfl;omega
  have hpl:prd p<=200:=by
   rcases hpr with h|h
   ·have:prd p*1<=prd p*f.length:=Nat.mul_le_mul_left _ (by omega)
    omega
   ·rw [h];decide
  have hm:prd p*x.length<=40000:=Nat.mul_le_mul hpl hxl
  have hm2:prd p*x.length*f.length<=8000000:=Nat.mul_le_mul hm hl
  have hsl:((opp p).map toP).length=prd p:=by rw [List.length_map,c6t]
  have hnum:imul .i64 (imul .i64 (((opp p).map toP).length:Int) ((toP x).length:Int)) ((f.map toP).length:Int)=((prd p*x.length*f.length:Nat):Int):=by
   have e1:(toP x).length=x.length:=List.length_map ..
   rw [hsl,e1,List.length_map,mulN (by omega),mulN (by omega)]
  have hstep:∀(n:Nat)(K:_)(mm:Nat),minmax_maker_opposite_L1 n (toFm f) K (mm+1) s (p.length:Int) [] (f.map toP) m.names m.facts.Lifts m.facts.Persons m.facts.Flats m.full=
   (a2l n m ((prd p*x.length*f.length:Nat):Int)).bind fun v1=>bif !v1.2 then some (v1.1,(⟨[]⟩:M.Form))else
    minmax_maker_opposite_L2 n s (toP x) (fun l2 f22 f23 f24 f25 f26 f27 f28=>minmax_maker_opposite_L1 n (toFm f) K mm l2 ((p.length+1:Nat):Int) f22 f23 f24 f25 f26 f27 f28) n 0 [] [] (f.map toP) v1.1.names v1.1.facts.Lifts v1.1.facts.Persons v1.1.facts.Flats v1.1.full:=by
   intro n K mm
   rw [minmax_maker_opposite_L1_s,decide_eq_true (by rw [hlen];omega),cond_true]
   show(ix (f.map toP) (p.length:Int)).bind _=_
   rw [hix,Option.bind_some,hi,hnum,Rt.inc64 (by omega)]
  have hok1:=hok (x::q) hx
  have hok2:b9n f.length (prd p) (x::q)=(decide (prd p*x.length*f.length<=200)&&b9n f.length (prd p*x.length) q):=rfl
  have hprd:prd (p++ [x])=prd p*x.length:=by
   have:∀p:RFm,prd (p++ [x])=prd p*x.length:=by
    intro p
    induction p with
    |nil=>show x.length*1=1*x.length;omega
    |cons y p ih=>show y.length*prd (p++ [x])=y.length*prd p*x.length;rw [ih,Nat.mul_assoc]
   exact this p
  have bad:(m.full||decide ((200:Int)<((prd p*x.length*f.length:Nat):Int)))=true->(∃r,(r=(⟨m.names,m.facts,true⟩,⟨[]⟩)/\(f≠ []/\m.full=true∨b9n f.length 1 f=false))/\∃N,∀n K mm,N<=n->minmax_maker_opposite_L1 n (toFm f) K (mm+1) s (p.length:Int) [] (f.map toP) m.names m.facts.Lifts m.facts.Persons m.facts.Flats m.full=some r):=by
   intro hbad
   refine⟨_,⟨rfl,?_⟩,0,fun n K mm _=>by rw [hstep,d9p,hbad];rfl⟩
   rcases Bool.or_eq_true _ _▸hbad with h|h
   ·exact .inl ⟨by rw [hx];simp,h⟩
   ·right
    rw [hok1,hok2,decide_eq_false (by have:=of_decide_eq_true h;omega)];rfl
  cases hb:(m.full||decide ((200:Int)<((prd p*x.length*f.length:Nat):Int)))with
  |true=>exact .inr (bad hb)
  |false=>
   left
   obtain⟨hb1,hb2⟩:=Bool.or_eq_false_iff.1 hb
   have hle:prd p*x.length*f.length<=200:=by have:=of_decide_eq_false hb2;omega
   have hxm:x∈f:=by rw [hx];simp
   obtain⟨N,hN⟩:=e1e (cs:=opp p) (l:=x) hxl (by rw [c6t];exact hpl) (fun c hc=>by rw [(c0q.1 hc).len];omega) (fun a ha=>⟨gdA hf hxm ha,hf.wide x hxm a ha⟩) hn hk [] (f.map toP) ⟨m.names,m.facts,m.full⟩
   refine⟨(opp (p++ [x])).map toP,⟨rfl,.inr hb1,.inl (by rw [hprd];exact hle),fun q' hq'=> ?_⟩,N,fun n K mm hnn=> ?_⟩
   ·have:q'=q:=by
     rw [hx,List.append_assoc]at hq'
     have:=List.append_cancel_left hq'
     simpa using this.symm
    subst this
    rw [hok1,hok2,hprd,decide_eq_true hle];rfl
   ·rw [hstep,d9p,hb,hi]
    show minmax_maker_opposite_L2 n ((opp p).map toP) (toP x) _ n 0 [] [] (f.map toP) m.names m.facts.Lifts m.facts.Persons m.facts.Flats false=_
    rw [hb1]at hN
    rw [hN n _ hnn]
    have e:opp (p++ [x])=step (opp p) x:=by unfold opp;rw [List.foldl_append];rfl
    rw [e,hb1]
 ·rw [minmax_maker_opposite_L1_s,decide_eq_false (by rw [hlen];omega)];rfl
end Go.Proofs.YthaegflpecbfgaaGreatDoor.Fm
namespace Go.Proofs.YthaegflpecbfgaaGreatDoor.Fm
open Go Rt M Ta Tp D Fe
section
variable{f g:RFm}{op:List RA->List RA->List RA}{P:Nat->List Affine->List Affine->Option (List Affine)}
theorem d7l(x:List RA)(hg:g.length<=1000)(hP:∀y,y∈g->Ev (fun n=>P n (toP x) (toP y)) (toP (op x y))){s0:RFm}(hs0:s0.length<=1000000):
 ∃N,∀n K,N<=n->minmax_join_L2 n (P n) (g.map toP) (toP x) K n 0 (s0.map toP)=K ((s0++g.map (op x)).map toP):=by
 refine c4s (xs:=g) (h:=toP) (by omega) (L:=fun n K m i s=>minmax_join_L2 n (P n) (g.map toP) (toP x) K m i s) (B:=fun n i y s k=>(P n (toP x) y).bind fun v1=>(app 24 s [v1]).bind k) (fun n K m i s=> ?_) (fun p=>(s0++p.map (op x)).map toP) (fun p y q hx=> ?_) (by simp)
 ·rw [minmax_join_L2_s];simp only [List.length_map]
 ·have h5:p.length<=1000:=by rw [hx,List.length_append]at hg;omega
  obtain⟨N,hN⟩:=hP y (by rw [hx];simp)
  dsimp only at hN
  refine⟨N,fun n k hn=> ?_⟩
  rw [hN n hn,Option.bind_some,b0f (by simp only [List.length_map,List.length_append,List.length_singleton];omega),Option.bind_some]
  simp only [List.map_append,List.map_cons,List.map_nil,List.append_assoc]
theorem b1l(hf:f.length<=1000)(hg:g.length<=1000)(hP:∀x,x∈f->∀y,y∈g->Ev (fun n=>P n (toP x) (toP y)) (toP (op x y))):Ev (fun n=>a4k n (toFm f) (toFm g) (P n)) (toFm (join op f g)):=by
 unfold a4k
 refine d5d (L:=fun n K=>minmax_join_L1 n (toFm f) (P n) (fun l _=>K l) n 0 ([]:List (List Affine)) [] (g.map toP)) (s:=(join op f g).map toP) (K:=fun _ l2=>some (⟨l2⟩:M.Form)) ?_ (Ev.pure _)
 refine c4s (xs:=f) (h:=toP) (by omega) (L:=fun n K m i s=>minmax_join_L1 n (toFm f) (P n) (fun l _=>K l) m i s [] (g.map toP)) (B:=fun n i x s k=>minmax_join_L2 n (P n) (g.map toP) x k n 0 s) (fun n K m i s=> ?_) (fun p=>(join op p g).map toP) (fun p x q hx=> ?_) rfl
 ·rw [minmax_join_L1_s];simp only [toFm,List.length_map]
 ·have h5:p.length<=1000:=by rw [hx,List.length_append]at hf;omega
  have h6:(join op p g).length<=1000000:=by rw [d4c];exact Nat.le_trans (Nat.mul_le_mul h5 hg) (by decide)
  obtain⟨N,hN⟩:=d7l (op:=op) x hg (hP x (by rw [hx];simp)) h6
  refine⟨N,fun n k hn=> ?_⟩
  rw [hN n _ hn]
  unfold join
  simp only [List.flatMap_append,List.flatMap_cons,List.flatMap_nil,List.append_nil]
end
theorem d7k{A B nn:Nat}{a:RA}{y:List RA}(hy:y.length<=1000)(ha:SmA A a/\a.2.length=nn)(hb:∀b,b∈y->SmA B b/\b.2.length=nn)(hn:nn<=1000000)(hk:A+B<4000000){s0:List RA}(hs0:s0.length<=1000000):
 ∃N,∀n K,N<=n->minmax_sums_L2 n (toP y) (toA a) K n 0 (toP s0)=K (toP (s0++y.map (addA a))):=by
 refine c4s (xs:=y) (h:=toA) (by omega) (L:=fun n K m i s=>minmax_sums_L2 n (toP y) (toA a) K m i s) (B:=fun n i b s k=>(b1a n (toA a) b).bind fun v1=>(app 88 s [v1]).bind k) (fun n K m i s=> ?_) (fun p=>toP (s0++p.map (addA a))) (fun p b q hx=> ?_) (by simp)
 ·rw [minmax_sums_L2_s];simp only [toP,List.length_map]
 ·have h5:p.length<=1000:=by rw [hx,List.length_append]at hy;omega
  obtain⟨h6,h7⟩:=hb b (by rw [hx];simp)
  obtain⟨N,hN⟩:=e8k ha.1 h6 hk (by omega) (by rw [h7,ha.2])
  dsimp only at hN
  refine⟨N,fun n k hn=> ?_⟩
  rw [hN n hn,Option.bind_some,b0f (by simp only [toP,List.length_map,List.length_append,List.length_singleton];omega),Option.bind_some]
  simp only [toP,List.map_append,List.map_cons,List.map_nil,List.append_assoc]
theorem d5t{A B nn:Nat}{x y:List RA}(hx0:x.length<=1000)(hy:y.length<=1000)(ha:∀a,a∈x->SmA A a/\a.2.length=nn)(hb:∀b,b∈y->SmA B b/\b.2.length=nn)(hn:nn<=1000000)(hk:A+B<4000000):Ev (fun n=>a4u n (toP x) (toP y)) (toP (sums x y)):=by
 unfold a4u
 refine d5d (L:=fun n K=>minmax_sums_L1 n (toP x) (toP y) K n 0 ([]:List Affine)) (s:=toP (sums x y)) (K:=fun _ l2=>some l2) ?_ (Ev.pure _)
 refine c4s (xs:=x) (h:=toA) (by omega) (L:=fun n K m i s=>minmax_sums_L1 n (toP x) (toP y) K m i s) (B:=fun n i a s k=>minmax_sums_L2 n (toP y) a k n 0 s) (fun n K m i s=> ?_) (fun p=>toP (sums p y)) (fun p a q hx=> ?_) rfl
 ·rw [minmax_sums_L1_s];simp only [toP,List.length_map]
 ·have h5:p.length<=1000:=by rw [hx,List.length_append]at hx0;omega
  have h6:(sums p y).length<=1000000:=by rw [sums_len];exact Nat.le_trans (Nat.mul_le_mul h5 hy) (by decide)
  obtain⟨N,hN⟩:=d7k hy (ha a (by rw [hx];simp)) hb hn hk h6
  refine⟨N,fun n k hn=> ?_⟩
  rw [hN n _ hn]
  unfold sums
  simp only [List.flatMap_append,List.flatMap_cons,List.flatMap_nil,List.append_nil]
theorem e7m{α:Type}(n:Nat){k:Int}(h:0<=k)(h2:k<=1000000):b3m n ([]:List α) k=some []:=by show(if 0<=k/\k<=1000000 then some ([]:List α)else none)=_;rw [if_pos ⟨h,h2⟩]
theorem e5k{α:Type}(n:Nat){k:Int}(h:0<=k)(h2:k<=1000000):b3y n ([]:List α) k=some []:=by show(if 0<=k/\k<=1000000 then some ([]:List α)else none)=_;rw [if_pos ⟨h,h2⟩]
theorem d5a{x y:List RA}(hx:x.length<=100000)(hy:y.length<=100000):Ev (fun n=>a1o n [toP x,toP y]) (toP (x++y)):=by
 refine Ev.from 3 (g:=fun _=>some (toP (x++y))) (fun n hn=> ?_) (Ev.pure _)
 obtain⟨m,rfl⟩:∃m,n=m+3:=⟨n-3,by omega⟩
 have h1:(toP x).length=x.length:=List.length_map ..
 have h2:(toP y).length=y.length:=List.length_map ..
 have e1:iadd .i64 0 ((toP x).length:Int)=(x.length:Int):=by rw [h1,a1s (by omega) (by omega)];omega
 have e2:iadd .i64 (x.length:Int) ((toP y).length:Int)=((x.length+y.length:Nat):Int):=by rw [h2,a1s (by omega) (by omega)];omega
 have a1:app 88 [] (toP x)=some (toP x):=b0f (l:= []) (by simp only [List.length_nil];omega)
 have a2:app 88 (toP x) (toP y)=some (toP x++toP y):=b0f (by omega)
 have hc:toP (x++y)=toP x++toP y:=List.map_append ..
 have i1:iadd .i64 0 1=1:=by decide
 have i2:iadd .i64 1 1=2:=by decide
 have x0:ix [toP x,toP y] 0=some (toP x):=rfl
 have x1:ix [toP x,toP y] 1=some (toP y):=rfl
 have d0:decide ((0:Int)<([toP x,toP y].length:Int))=true:=rfl
 have d1:decide ((1:Int)<([toP x,toP y].length:Int))=true:=rfl
 have d2:decide ((2:Int)<([toP x,toP y].length:Int))=false:=rfl
 unfold a1o
 rw [slices_Concat_api_Affine_api_Affine_L1_s,d0,cond_true,x0,Option.bind_some,e1,decide_eq_false (by omega),cond_false,i1,slices_Concat_api_Affine_api_Affine_L1_s,d1,cond_true,x1,Option.bind_some,e2,decide_eq_false (by omega),cond_false,i2,slices_Concat_api_Affine_api_Affine_L1_s,d2,cond_false,
  e7m _ (by omega) (by omega),Option.bind_some,slices_Concat_api_Affine_api_Affine_L2_s,d0,cond_true,x0,Option.bind_some,a1,Option.bind_some,i1,slices_Concat_api_Affine_api_Affine_L2_s,d1,cond_true,x1,Option.bind_some,a2,Option.bind_some,i2,slices_Concat_api_Affine_api_Affine_L2_s,d2,cond_false,hc]
theorem d5l{x y:List (List Affine)}(hx:x.length<=100000)(hy:y.length<=100000):Ev (fun n=>a0h n [x,y]) (x++y):=by
 refine Ev.from 3 (g:=fun _=>some (x++y)) (fun n hn=> ?_) (Ev.pure _)
 obtain⟨m,rfl⟩:∃m,n=m+3:=⟨n-3,by omega⟩
 have e1:iadd .i64 0 (x.length:Int)=(x.length:Int):=by rw [a1s (by omega) (by omega)];omega
 have e2:iadd .i64 (x.length:Int) (y.length:Int)=((x.length+y.length:Nat):Int):=by rw [a1s (by omega) (by omega)];omega
 have a1:app 24 [] x=some x:=b0f (l:= []) (by simp only [List.length_nil];omega)
 have a2:app 24 x y=some (x++y):=b0f (by omega)
 have i1:iadd .i64 0 1=1:=by decide
 have i2:iadd .i64 1 1=2:=by decide
 have x0:ix [x,y] 0=some (x):=rfl
 have x1:ix [x,y] 1=some (y):=rfl
 have d0:decide ((0:Int)<([x,y].length:Int))=true:=rfl
 have d1:decide ((1:Int)<([x,y].length:Int))=true:=rfl
 have d2:decide ((2:Int)<([x,y].length:Int))=false:=rfl
 unfold a0h
 rw [slices_Concat_LLapi_Affine_api_Affine_L1_s,d0,cond_true,x0,Option.bind_some,e1,decide_eq_false (by omega),cond_false,i1,slices_Concat_LLapi_Affine_api_Affine_L1_s,d1,cond_true,x1,Option.bind_some,e2,decide_eq_false (by omega),cond_false,i2,slices_Concat_LLapi_Affine_api_Affine_L1_s,d2,cond_false,
  e5k _ (by omega) (by omega),Option.bind_some,slices_Concat_LLapi_Affine_api_Affine_L2_s,d0,cond_true,x0,Option.bind_some,a1,Option.bind_some,i1,slices_Concat_LLapi_Affine_api_Affine_L2_s,d1,cond_true,x1,Option.bind_some,a2,Option.bind_some,i2,slices_Concat_LLapi_Affine_api_Affine_L2_s,d2,cond_false]
theorem e0o{x y:List RA}(hx:x.length<=100000)(hy:y.length<=100000):Ev (fun n=>a4w n (toP x) (toP y)) (toP (x++y)):=by
 unfold a4w
 exact Ev.bind (d5a hx hy) (Ev.pure _)
structure Gb(nn B:Nat)(g:RFm):Prop where
 gd:Gd nn B g
 sz:Fm.sz g<=200
 len:g.length<=200
theorem Gb.mono{nn A B:Nat}{g:RFm}(h:Gb nn A g)(hk:A<=B):Gb nn B g:=⟨h.gd.mono hk,h.sz,h.len⟩
theorem d8t(nn B:Nat):Gb nn B []:=⟨⟨fun p hp=>(by cases hp),fun p hp=>(by cases hp)⟩,by decide,by decide⟩
theorem Is.gb{nn B:Nat}{g:RFm}{V:List Rat->Rat}(h:Is nn B g V):Gb nn B g:=⟨h.gd,h.sz,h.len⟩
def Res(names:List Rt.Bs)(fc:Facts)(B:Nat)(o:Option RFm)(r:maker×M.Form):Prop:=∃g,r.2=toFm g/\Gb names.length B g/\(o=some g/\r.1=⟨names,fc,false⟩∨o=none/\r.1=⟨names,fc,true⟩)
section
variable{names:List Rt.Bs}{fc:Facts}{A B:Nat}{f g:RFm}
theorem Res.weak{o:Option RFm}{r:maker×M.Form}(h:Res names fc A o r)(hk:A<=B):Res names fc B o r:=by
 obtain⟨g,h1,h2,h3⟩:=h
 exact⟨g,h1,h2.mono hk,h3⟩
theorem d1c(h:prd f*f.length<=200)(h2:f≠ []):prd f<=200:=by
 have:1<=f.length:=List.length_pos_iff.2 h2
 have:prd f*1<=prd f*f.length:=Nat.mul_le_mul_left _ this
 omega
theorem e9y(h:Gb names.length A f)(hok:b9n f.length 1 f=true):Gb names.length A (opp f):=by
 refine⟨d8b h.gd,?_,?_⟩
 ·rw [e4c]
  by_cases h0:f= []
  ·subst h0;decide
  ·have:=c2a hok h0;rwa [Nat.one_mul]at this
 ·rw [c6t]
  by_cases h0:f= []
  ·subst h0;decide
  ·have:=c2a hok h0;rw [Nat.one_mul]at this
   exact d1c this h0
theorem c5o(h:Gb names.length A f)(hn:names.length<=1000)(hk:A+1<4000000)(b:Bool):Tt (Res names fc A (if b=true then none else oppB f)) (fun n=>a2c n ⟨names,fc,b⟩ (toFm f)):=by
 rcases c7g h.gd h.sz h.len (by omega) hk ⟨names,fc,b⟩with⟨h1,h2,h3⟩|⟨h1,h3⟩
 ·refine Tt.of h3 ⟨opp f,rfl,e9y h h2,?_⟩
  cases b with
  |false=>exact .inl ⟨by unfold oppB;rw [if_neg (by decide),if_pos h2],rfl⟩
  |true=>exact .inr ⟨rfl,rfl⟩
 ·refine Tt.of h3 ⟨[],rfl,d8t _ _,.inr ⟨?_,rfl⟩⟩
  cases b with
  |true=>rfl
  |false=>
   rw [if_neg (by decide)]
   unfold oppB
   rcases h1 with⟨_,h1⟩|h1
   ·cases h1
   ·rw [if_neg (by rw [h1];decide)]
theorem c3r{c:Rat}(h:Gb names.length A f)(hc:SmF B c)(hn:names.length<=1000)(hk:A+B<4000000):Ev (fun n=>a5m n (toFm f) (toF c)) (toFm (scl c f))/\Gb names.length (A+B) (scl c f):=
 ⟨d9c h.gd (by have:=h.sz;omega) (by have:=h.len;omega) (by omega) hc hk,d2m h.gd hc,by rw [c9m];exact h.sz,by rw [e7n];exact h.len⟩
theorem c6a(c:Rat)(hc:SmF B c)(hB:1<=B)(hn:names.length<=1000)(b:Bool):Tt (Res names fc B (if b=true then none else some (cst names.length c))) (fun n=>a1d n ⟨names,fc,b⟩ (toF c)):=by
 refine Tt.of (c2z _ c hn) ⟨cst names.length c,rfl,⟨e3e hc hB,by show 1+0<=200;decide,by show 1<=200;decide⟩,?_⟩
 cases b
 ·exact .inl ⟨rfl,rfl⟩
 ·exact .inr ⟨rfl,rfl⟩
theorem a0t(c:Rat):(c=0/\sg c.num=0)∨(0<c/\sg c.num=1)∨(c<0/\sg c.num=-1):=by
 rw [e3n]
 rcases b3g c 0 with⟨h1,h2⟩|⟨h1,h2⟩|⟨h1,h2⟩
 ·exact .inr (.inr ⟨h1,h2⟩)
 ·exact .inl ⟨h1,h2⟩
 ·exact .inr (.inl ⟨h1,h2⟩)
theorem e6e{α β:Type}{b:Bool}{o:Option α}{F:α->β}:(if b=true then none else o).map F=if b=true then none else o.map F:=by cases b<;>rfl
theorem b9x{c:Rat}(h:Gb names.length A f)(hc:SmF B c)(hB:1<=B)(hn:names.length<=1000)(hk:A+B+1<1000000)(b:Bool):Tt (Res names fc (A+B) (if b=true then none else b9a names.length f c)) (fun n=>a3r n ⟨names,fc,b⟩ (toFm f) (toF c)):=by
 unfold a3r b9a
 refine Tt.evb (FSign_ev hc (by omega)) ?_
 rcases a0t c with⟨h1,h2⟩|⟨h1,h2⟩|⟨h1,h2⟩
 ·rw [h2,if_pos h1]
  refine Tt.bif (fun _=> ?_) (fun h=>by cases h)
  refine Tt.bind (c6a c hc hB hn b) fun r hr=>Tt.pure ?_
  subst h1
  exact Res.weak hr (by omega)
 ·rw [h2,if_neg (Rat.ne_of_gt h1),if_pos h1]
  refine Tt.bif (fun h=>by cases h) (fun _=>Tt.bif (fun _=> ?_) (fun h=>by cases h))
  obtain⟨e,hg⟩:=c3r h hc hn (by omega)
  refine Tt.evb e (Tt.pure ⟨_,rfl,hg,?_⟩)
  cases b
  ·exact .inl ⟨rfl,rfl⟩
  ·exact .inr ⟨rfl,rfl⟩
 ·have hnp:¬(0<c):=by grind
  rw [h2,if_neg (Rat.ne_of_lt h1),if_neg hnp]
  refine Tt.bif (fun h=>by cases h) (fun _=>Tt.bif (fun h=>by cases h) (fun _=> ?_))
  refine Tt.bind (c5o (fc:=fc) h hn (by omega) b) fun r⟨g,hr1,hr2,hr3⟩=> ?_
  refine Tt.evb (FNeg_ev hc (by omega)) ?_
  obtain⟨e,hg⟩:=c3r hr2 hc.neg hn (by omega)
  rw [hr1]
  refine Tt.evb e (Tt.pure ⟨_,rfl,hg,?_⟩)
  rw [<-e6e]
  rcases hr3 with⟨e1,e2⟩|⟨e1,e2⟩
  ·exact .inl ⟨by rw [e1];rfl,e2⟩
  ·exact .inr ⟨by rw [e1];rfl,e2⟩
end
end Go.Proofs.YthaegflpecbfgaaGreatDoor.Fm
namespace Go.Proofs.YthaegflpecbfgaaGreatDoor.Fm
open Go Rt M Ta Tp D Fe
section
variable{names:List Rt.Bs}{fc:Facts}{A B:Nat}{f g:RFm}
theorem d6s{α β:Type}{b:Bool}{o:Option α}{F:α->Option β}:(if b=true then none else o).bind F=if b=true then none else o.bind F:=by cases b<;>rfl
theorem mem_len:∀{f:RFm}{p:List RA},p∈f->p.length<=Fm.sz f
 |q::f,p,hp=>by
  show p.length<=q.length+Fm.sz f
  rcases List.mem_cons.1 hp with rfl|hp
  ·omega
  ·have:=mem_len hp;omega
theorem c2f{o:Int}(hf:Gb names.length A f)(hg:Gb names.length B g)(hn:names.length<=1000)(hk:A+B+1<1000000)(ho:o=5∨o=6∨o=9∨o=10)(b:Bool){k:Int}(hsz:k=((c7e o f g:Nat):Int))(hlen:b=false->c7e o f g<=200->(c1k o f g).length<=200):
 Tt (Res names fc (A+B+1) (if b=true then none else if c7e o f g<=200 then some (c1k o f g)else none)) (fun n=>(a2l n ⟨names,fc,b⟩ k).bind fun v5=>bif !v5.2 then some (v5.1,(⟨[]⟩:M.Form))else
  bif o==9 then(a0h n [(toFm f).Pieces,g.map toP]).bind fun v6=>some (v5.1,(⟨v6⟩:M.Form))else
  bif o==10 then(a4k n (toFm f) (⟨g.map toP⟩:M.Form) (a4w n)).bind fun v7=>some (v5.1,v7)else
  (a4k n (toFm f) (⟨g.map toP⟩:M.Form) (a4u n)).bind fun v8=>some (v5.1,v8)):=by
 refine Tt.evb (Ev.all fun n=>d9p n _ _) ?_
 dsimp only
 cases hb:(b||decide (200<k))with
 |true=>
  refine Tt.bif (fun _=>Tt.pure ⟨[],rfl,d8t _ _,.inr ⟨?_,rfl⟩⟩) (fun h=>by cases h)
  cases b with
  |true=>rfl
  |false=>
   have:=of_decide_eq_true (show decide (200<k)=true from hb)
   rw [if_neg (by decide),if_neg (by omega)]
 |false=>
  obtain⟨rfl,h2⟩:=Bool.or_eq_false_iff.1 hb
  have h2:=of_decide_eq_false h2
  have hs:c7e o f g<=200:=by omega
  rw [if_neg (by decide),if_pos hs]
  refine Tt.bif (fun h=>by cases h) (fun _=> ?_)
  have hl:=hlen rfl hs
  have hfl:=hf.len
  have hgl:=hg.len
  have hfs:=hf.sz
  have hgs:=hg.sz
  have fin:∀{e:Nat->Option M.Form},Ev e (toFm (c1k o f g))->Gd names.length (A+B+1) (c1k o f g)->Fm.sz (c1k o f g)=c7e o f g->Tt (Res names fc (A+B+1) (some (c1k o f g))) (fun n=>(e n).bind fun v=>some ((⟨names,fc,false⟩:maker),v)):=by
   intro e he hgd hz
   exact Tt.evb he (Tt.pure ⟨c1k o f g,rfl,⟨hgd,by rw [hz];exact hs,hl⟩,.inl ⟨rfl,rfl⟩⟩)
  rcases ho with rfl|rfl|rfl|rfl
  ·refine Tt.bif (fun h=>by cases h) (fun _=>Tt.bif (fun h=>by cases h) (fun _=> ?_))
   exact fin (b1l (op:=sums) (by omega) (by omega) (fun x hx y hy=>d5t (by have:=mem_len hx;omega) (by have:=mem_len hy;omega) (fun a ha=>⟨gdA hf.gd hx ha,hf.gd.wide x hx a ha⟩) (fun a ha=>⟨gdA hg.gd hy ha,hg.gd.wide y hy a ha⟩) (by omega) (by omega))) (c6e hf.gd hg.gd) (sz_sums f g)
  ·refine Tt.bif (fun h=>by cases h) (fun _=>Tt.bif (fun h=>by cases h) (fun _=> ?_))
   exact fin (b1l (op:=sums) (by omega) (by omega) (fun x hx y hy=>d5t (by have:=mem_len hx;omega) (by have:=mem_len hy;omega) (fun a ha=>⟨gdA hf.gd hx ha,hf.gd.wide x hx a ha⟩) (fun a ha=>⟨gdA hg.gd hy ha,hg.gd.wide y hy a ha⟩) (by omega) (by omega))) (c6e hf.gd hg.gd) (sz_sums f g)
  ·refine Tt.bif (fun _=> ?_) (fun h=>by cases h)
   have e:Ev (fun n=>(a0h n [(toFm f).Pieces,g.map toP]).bind fun v6=>some (⟨v6⟩:M.Form)) (toFm (c1k 9 f g)):=by
    refine Ev.bind (d5l (by show(f.map toP).length<=_;rw [List.length_map];omega) (by rw [List.length_map];omega)) ((Ev.pure _).eq ?_)
    show(⟨f.map toP++g.map toP⟩:M.Form)=⟨(f++g).map toP⟩
    rw [List.map_append]
   have:=fin e (e4a (hf.gd.mono (by omega)) (hg.gd.mono (by omega))) (sz_app f g)
   obtain⟨r,hr,h⟩:=this
   exact⟨r,Ev.conv (fun n=>by cases a0h n [(toFm f).Pieces,g.map toP]<;>rfl) hr,h⟩
  ·refine Tt.bif (fun h=>by cases h) (fun _=>Tt.bif (fun _=> ?_) (fun h=>by cases h))
   exact fin (b1l (op:=(·++·)) (by omega) (by omega) (fun x hx y hy=>e0o (by have:=mem_len hx;omega) (by have:=mem_len hy;omega))) (e0c (hf.gd.mono (by omega)) (hg.gd.mono (by omega))) (sz_both f g)
theorem d9e{o:Int}(hf:Gb names.length A f)(hg:Gb names.length B g)(hn:names.length<=1000)(hk:A+B+1<1000000)(ho:o=5∨o=6∨o=9∨o=10)(b:Bool)(hlen:b=false->∀r,c4z o f g=some r->r.length<=200):
 Tt (Res names fc (A+B+1) (if b=true then none else c4z o f g)) (fun n=>a5w n ⟨names,fc,b⟩ o (toFm f) (toFm g)):=by
 unfold a5w
 refine Tt.bind (P:=fun r=>∃g' b',r=(g'.map toP,names,fc.Lifts,fc.Persons,fc.Flats,b')/\Gb names.length B g'/\(if b=true then none else(if o=6 then oppB g else some g))=(if b'=true then none else some g')/\(b'=false->b=false)) ?_ ?_
 ·refine Tt.bif (fun h6=> ?_) (fun h6=> ?_)
  ·have h6:o=6:=by simpa using h6
   refine Tt.bind (c5o (fc:=fc) hg hn (by omega) b) fun r⟨g',hr1,hr2,hr3⟩=>Tt.pure ?_
   rcases hr3 with⟨e1,e2⟩|⟨e1,e2⟩
   ·refine⟨g',false,by rw [hr1,e2];rfl,hr2,by rw [if_pos h6,e1];rfl,fun _=> ?_⟩
    cases b
    ·rfl
    ·cases e1
   ·exact⟨g',true,by rw [hr1,e2];rfl,hr2,by rw [if_pos h6,e1];rfl,fun h=>by cases h⟩
  ·have h6:¬o=6:=by simpa using h6
   exact Tt.pure ⟨g,b,rfl,hg,by rw [if_neg h6],id⟩
 ·rintro _ ⟨g',b',rfl,hg',hb,hbb⟩
  dsimp only
  have hfl:=hf.len
  have hfs:=hf.sz
  have hgl:=hg'.len
  have hgs:=hg'.sz
  have s1:Ev (fun n=>a4g n (toFm f)) (Fm.sz f:Int):=e0d f (by omega) (by omega)
  have s2:Ev (fun n=>a4g n (⟨g'.map toP⟩:M.Form)) (Fm.sz g':Int):=e0d g' (by omega) (by omega)
  have m1:=Nat.mul_le_mul hfs hgl
  have m2:=Nat.mul_le_mul hgs hfl
  have m3:=Nat.mul_le_mul hfs hgs
  have hpb:(if b=true then none else c4z o f g)=(if b'=true then none else if c7e o f g'<=200 then some (c1k o f g')else none):=by
   have e:(if b=true then none else c4z o f g)=(if b=true then none else(if o=6 then oppB g else some g)).bind fun g=>if c7e o f g<=200 then some (c1k o f g)else none:=by rw [d6s];rfl
   rw [e,hb,d6s];rfl
  have hlen':b'=false->c7e o f g'<=200->(c1k o f g').length<=200:=by
   intro h1 h2
   have h3:=hbb h1
   refine hlen h3 _ ?_
   rw [h3,h1,if_neg (by decide),if_neg (by decide),if_pos h2]at hpb
   exact hpb
  rw [hpb]
  refine Tt.evb s1 (Tt.evb s2 ?_)
  have mi:∀{x y:Nat},x*y<=40000->imul .i64 (x:Int) (y:Int)=((x*y:Nat):Int):=fun h=>mulN (by omega)
  rcases ho with rfl|rfl|rfl|rfl
  ·refine Tt.bif (fun h=>by cases h) (fun _=>Tt.bif (fun h=>by cases h) (fun _=> ?_))
   exact c2f (k:=imul .i64 (Fm.sz f:Int) (Fm.sz g':Int)) hf hg' hn hk (by decide) b' (mi m3) hlen'
  ·refine Tt.bif (fun h=>by cases h) (fun _=>Tt.bif (fun h=>by cases h) (fun _=> ?_))
   exact c2f (k:=imul .i64 (Fm.sz f:Int) (Fm.sz g':Int)) hf hg' hn hk (by decide) b' (mi m3) hlen'
  ·refine Tt.bif (fun _=> ?_) (fun h=>by cases h)
   refine Tt.evb s1 (Tt.evb s2 ?_)
   exact c2f (k:=iadd .i64 (Fm.sz f:Int) (Fm.sz g':Int)) hf hg' hn hk (by decide) b' (by rw [a1s (by omega) (by omega)];rfl) hlen'
  ·refine Tt.bif (fun h=>by cases h) (fun _=>Tt.bif (fun _=> ?_) (fun h=>by cases h))
   refine Tt.evb s1 (Tt.evb s2 ?_)
   refine c2f (k:=iadd .i64 (imul .i64 (Fm.sz f:Int) ((g'.map toP).length:Int)) (imul .i64 (Fm.sz g':Int) ((toFm f).Pieces.length:Int))) hf hg' hn hk (by decide) b' ?_ hlen'
   have l1:(toFm f).Pieces.length=f.length:=List.length_map ..
   rw [List.length_map,l1,mi m1,mi m2,a1s (by omega) (by omega)];rfl
end
section
variable{names:List Rt.Bs}{fc:Facts}(hf:RF names fc (List.replicate names.length 0))(hnm:named names=true)(hn:names.length<=1000)
include hf hnm hn
omit hf hnm hn in
theorem d6f(k:Nat):∀w,w∈List.replicate k (0:Rat)->SmF 4 w:=fun w hw=>by obtain⟨_,rfl⟩:=List.mem_replicate.1 hw;exact sm0 (by decide)
theorem e6l{x:M.Expr}(hx:Fit x)(hfr:Frm x){k:Int}(ht:Typ names x k)(hk:k≠0):Ev (fun n=>a4l n (⟨[97],x,-1⟩:Tariff) names fc (List.replicate names.length (toF 0))) (toF (num (E0 names fc) x),0):=by
 have:=(d2o (t:=⟨[97],x,-1⟩) hx (by omega) (d6f names.length) (by decide) (by decide) (by omega) ⟨hnm,⟨show Lx.name [97]=true by decide,hfr,show(-1:Int)<=-1 by decide,show(-1:Int)<=1099511627776 by decide⟩,k,hk,ht⟩ hf).1
 rwa [List.map_replicate]at this
theorem b3b{x:M.Expr}(hx:Fit x)(hfr:Frm x){k:Int}(ht:Typ names x k)(hk:k≠0)(b:Bool):Ev (fun n=>a2o n ⟨names,fc,b⟩ x) (⟨names,fc,b⟩,toF (num (E0 names fc) x)):=by
 unfold a2o
 exact Ev.bind FInt0 (Ev.bind (b8m _ hn) (Ev.bind (Ev.bind (e6l hf hnm hn hx hfr ht hk) (Ev.pure _)) (Ev.pure _)))
theorem e1j{c a e:M.Expr}(hx:Fit c)(hfr:Frm ⟨11,0,[],[c,a,e]⟩)(ht:Typ names c 0)(b:Bool):Ev (fun n=>a5i n ⟨names,fc,b⟩ c) (⟨names,fc,b⟩,tru (E0 names fc) c):=by
 unfold a5i
 have f0:Fit ⟨11,0,[],[c,⟨0,1,[],[]⟩,⟨0,0,[],[]⟩]⟩:=Fit.mk (by simp) (fun y hy=>by
  simp only [List.mem_cons,List.not_mem_nil,or_false]at hy
  rcases hy with rfl|rfl|rfl
  ·exact hx
  ·exact Fit.leaf _ _ _
  ·exact Fit.leaf _ _ _)
 have t0:Typ names ⟨11,0,[],[c,⟨0,1,[],[]⟩,⟨0,0,[],[]⟩]⟩ (wd 1 1):=Typ.ite ht (Typ.num (by decide) (by decide)) (Typ.num (by decide) (by decide)) (by decide) (by decide)
 have hc1:cnt ⟨11,0,[],[c,a,e]⟩=cnt c+(cnt a+(cnt e+0))+1:=rfl
 have hc2:cnt ⟨11,0,[],[c,⟨0,1,[],[]⟩,⟨0,0,[],[]⟩]⟩=cnt c+(1+(1+0))+1:=rfl
 have hd1:dep ⟨11,0,[],[c,a,e]⟩=max (dep c) (max (dep a) (max (dep e) 0))+1:=rfl
 have hd2:dep ⟨11,0,[],[c,⟨0,1,[],[]⟩,⟨0,0,[],[]⟩]⟩=max (dep c) (max 1 (max 1 0))+1:=rfl
 have pa:=b2r a
 have pe:=b2r e
 have da:1<=dep a:=by obtain⟨o,n,s,l⟩:=a;show 1<=deps l+1;omega
 have r1:Frm ⟨11,0,[],[c,⟨0,1,[],[]⟩,⟨0,0,[],[]⟩]⟩:=⟨⟨by have:=hfr.1.1;omega,by have:=hfr.1.2;omega⟩,t0.shx⟩
 refine Ev.bind (b3b hf hnm hn f0 r1 t0 (by decide) b) ?_
 have hv:num (E0 names fc) ⟨11,0,[],[c,⟨0,1,[],[]⟩,⟨0,0,[],[]⟩]⟩=if tru (E0 names fc) c=true then 1 else 0:=by rw [num_ite,num_num,num_num];rfl
 rw [hv]
 cases tru (E0 names fc) c with
 |true=>exact Ev.bind (FSign_ev (k:=1) (sm1 (by decide)) (by decide)) ((Ev.pure _).eq rfl)
 |false=>exact Ev.bind (FSign_ev (k:=1) (sm0 (by decide)) (by decide)) ((Ev.pure _).eq rfl)
omit hf in
theorem b7y{x:M.Expr}(hx:Fit x)(hfr:Frm x){k:Int}(ht:Typ names x k)(b:Bool):Ev (fun n=>a4a n ⟨names,fc,b⟩ x) (⟨names,fc,b⟩,k):=by
 unfold a4a
 exact Ev.bind (e7j (by omega) hnm hx hfr ht) (Ev.pure _)
omit hf hnm hn in
theorem d8l{x:M.Expr}:Ev (fun n=>minmax_maker_made n ⟨names,fc,true⟩ x) (⟨names,fc,true⟩,⟨[]⟩):=Ev.suc (fun n=>minmax_maker_made_s _ _ n) (Ev.then rfl (Ev.pure _))
theorem e1u{x:M.Expr}(hx:Fit x)(hfr:Frm x)(ht:Typ names x 1){K:Nat->maker×Int->Option (maker×M.Form)}:Tt (Res names fc (4*cnt x) (some (cst names.length (num (E0 names fc) x)))) (fun n=>(a4a n ⟨names,fc,false⟩ x).bind fun v1=>bif v1.2==1 then(a2o n v1.1 x).bind fun v2=>(a1d n v2.1 v2.2).bind fun v3=>some (v3.1,v3.2)else K n v1):=by
 refine Tt.evb (b7y hnm hn hx hfr ht false) (Tt.bif (fun _=> ?_) (fun h=>by cases h))
 refine Tt.evb (b3b hf hnm hn hx hfr ht (by decide) false) ?_
 have hc:cnt x<=1000:=by have:=hfr.1.2;omega
 refine Tt.bind (c6a (fc:=fc) (num (E0 names fc) x) (c0m hf (by omega) ht (by decide) hc) (by have:=b2r x;omega) hn false) fun r hr=>Tt.pure ?_
 exact hr
omit hf hnm hn in
theorem e2g{n k:Nat}(hk:k<n):setw (toFm (cst n 0)).Pieces (k:Int) (toF 1)=some (toFm (wgt n k)).Pieces:=by
 rw [c6n]
 unfold setw
 dsimp only
 have h1:lset (List.replicate n (toF 0)) (k:Int) (toF 1)=some ((List.replicate n (toF 0)).set k (toF 1)):=by
  unfold lset
  rw [if_pos ⟨by omega,by simp;omega⟩,Int.toNat_natCast]
 rw [h1]
 unfold toFm wgt toP toA
 simp only [List.map_cons,List.map_nil,List.map_set,List.map_replicate,Option.bind_some]
theorem f0m{x:M.Expr}{k:Int}(ht:Typ names x k):Fit x->Frm x->k≠0->Tt (Res names fc (4*cnt x) (mk names (E0 names fc) x).2) (fun n=>minmax_maker_made n ⟨names,fc,false⟩ x):=by
 have c2:∀(o n:Int)(s:Rt.Bs)(a b:M.Expr),cnt ⟨o,n,s,[a,b]⟩=cnt a+cnt b+1:=fun o n s a b=>by show cnt a+(cnt b+0)+1=_;omega
 have num1:∀{x:M.Expr},Typ names x 1->Fit x->Frm x->Tt (Res names fc (4*cnt x) (mk names (E0 names fc) x).2) (fun n=>minmax_maker_made n ⟨names,fc,false⟩ x):=by
  intro x ht hx hfr
  rw [(b4r hf (by omega) ht (by have:=hfr.1.2;omega) (by decide)).2.1 rfl]
  exact Tt.suc (fun n=>minmax_maker_made_s _ _ n) (Tt.bif (fun h=>by cases h) (fun _=>e1u hf hnm hn hx hfr ht))
 have ht0:=ht
 induction ht with
 |num h0 h1=>intro hx hfr _;exact num1 ht0 hx hfr
 |lifts h0 h1=>intro hx hfr _;exact num1 ht0 hx hfr
 |pers=>intro hx hfr _;exact num1 ht0 hx hfr
 |flats=>intro hx hfr _;exact num1 ht0 hx hfr
 | @wgt s h0 hs=>
  intro hx hfr _
  refine Tt.suc (fun n=>minmax_maker_made_s _ _ n) (Tt.bif (fun h=>by cases h) (fun _=> ?_))
  refine Tt.evb (b7y hnm hn hx hfr ht0 false) (Tt.bif (fun h=>by cases h) (fun _=>Tt.bif (fun _=> ?_) (fun h=>by cases h)))
  refine Tt.evb FInt0 (Tt.evb (c2z _ 0 hn) ?_)
  have hi:names.idxOf s<names.length:=List.idxOf_lt_length_of_mem hs
  refine Tt.step (a:= [⟨toF 0,List.replicate names.length (toF 0)⟩]) (by rw [c6n];rfl) ?_
  refine Tt.step (a:=⟨toF 0,List.replicate names.length (toF 0)⟩) rfl ?_
  refine Tt.evb (d4e s (by show names.length<_;omega)) ?_
  rw [if_pos (show s∈names from hs)]
  refine Tt.evb FInt1 ?_
  refine Tt.step (a:=toF 0) (by rw [b1z];show(List.replicate names.length (toF 0))[names.idxOf s]?=_;rw [List.getElem?_replicate,if_pos hi]) ?_
  refine Tt.step (e2g hi) (Tt.pure ?_)
  exact⟨wgt names.length (names.idxOf s),rfl,⟨e3k (by show 1<=4*1;decide),by show 1+0<=200;decide,by show 1<=200;decide⟩,.inl ⟨rfl,rfl⟩⟩
 | @ari o a b p q ho ha hb hp hq iha ihb=>
  intro hx hfr _
  have hxa:=a7v hx (y:=a) (by simp)
  have hxb:=a7v hx (y:=b) (by simp)
  have hra:=a7w hfr (y:=a) (by simp)
  have hrb:=a7w hfr (y:=b) (by simp)
  have hcx:=hfr.1.2
  rw [c2]at hcx
  have ma:=b4r hf (by omega) ha (by omega) hp
  have mb:=b4r hf (by omega) hb (by omega) hq
  have hw:=wd2 (r12 ha hp) (r12 hb hq)
  rcases a9h p q with h1|h2
  ·rw [h1]at ht0;exact num1 ht0 hx hfr
  ·rw [h2]at ht0
   have hcond:((mk names (E0 names fc) a).1||(mk names (E0 names fc) b).1)=true:=by rw [ma.1,mb.1,<-hw,h2];rfl
   have e:(mk names (E0 names fc) ⟨o,0,[],[a,b]⟩).2=(mk names (E0 names fc) a).2.bind fun f=>(mk names (E0 names fc) b).2.bind fun g=>c4z o f g:=by
    rw [b4p,b0m]
    rw [if_pos hcond,if_neg (by omega),if_neg (by omega)]
   have hm:=b4r hf (by omega) ht0 (by rw [c2];omega) (by decide)
   rw [e]
   have ne:∀k:Int,(k=4∨k=11∨k=8∨k=7)->(o==k)=false:=fun k hk=>by rw [beq_eq_false_iff_ne];omega
   refine Tt.suc (fun n=>minmax_maker_made_s _ _ n) (Tt.bif (fun h=>by cases h) (fun _=> ?_))
   refine Tt.evb (b7y hnm hn hx hfr ht0 false) (Tt.bif (fun h=>by cases h) (fun _=> ?_))
   refine Tt.bif (fun h=>by rw [show(o==4)=false from ne 4 (by decide)]at h;cases h) (fun _=>Tt.bif (fun h=>by rw [show(o==11)=false from ne 11 (by decide)]at h;cases h) (fun _=>Tt.bif (fun h=>by rw [show(o==8)=false from ne 8 (by decide)]at h;cases h) (fun _=>Tt.bif (fun h=>by rw [show(o==7)=false from ne 7 (by decide)]at h;cases h) (fun _=> ?_))))
   refine Tt.step (a:=a) rfl (Tt.bind (iha ha hxa hra hp) fun r1⟨f,f1,f2,f3⟩=>Tt.step (a:=b) rfl ?_)
   rw [c2]
   rcases f3 with⟨f3,f4⟩|⟨f3,f4⟩
   ·rw [f4]
    refine Tt.bind (ihb hb hxb hrb hq) fun r2⟨g,g1,g2,g3⟩=> ?_
    rw [f1,g1,f3]
    rcases g3 with⟨g3,g4⟩|⟨g3,g4⟩
    ·rw [g3,g4]
     refine Tt.bind (d9e (fc:=fc) f2 g2 hn (by omega) ho false fun _ r hr=> ?_) fun r3 hr3=>Tt.pure (Res.weak hr3 (by omega))
     exact(hm.2.2 r (by rw [e,f3,g3];exact hr)).len
    ·rw [g3,g4]
     refine Tt.bind (d9e (fc:=fc) f2 g2 hn (by omega) ho true fun h=>by cases h) fun r3 hr3=>Tt.pure (Res.weak hr3 (by omega))
   ·rw [f4]
    refine Tt.evb d8l ?_
    rw [f1,f3]
    refine Tt.bind (d9e (fc:=fc) (B:=0) f2 (d8t _ _) hn (by omega) ho true fun h=>by cases h) fun r3 hr3=>Tt.pure (Res.weak hr3 (by omega))
 | @mul a b p q ha hb hp hq hpq iha ihb=>
  intro hx hfr _
  have hxa:=a7v hx (y:=a) (by simp)
  have hxb:=a7v hx (y:=b) (by simp)
  have hra:=a7w hfr (y:=a) (by simp)
  have hrb:=a7w hfr (y:=b) (by simp)
  have hcx:=hfr.1.2
  rw [c2]at hcx
  have ma:=b4r hf (by omega) ha (by omega) hp
  have mb:=b4r hf (by omega) hb (by omega) hq
  have hw:=wd2 (r12 ha hp) (r12 hb hq)
  rcases a9h p q with h1|h2
  ·rw [h1]at ht0;exact num1 ht0 hx hfr
  ·rw [h2]at ht0
   have hcond:((mk names (E0 names fc) a).1||(mk names (E0 names fc) b).1)=true:=by rw [ma.1,mb.1,<-hw,h2];rfl
   have e:(mk names (E0 names fc) ⟨7,0,[],[a,b]⟩).2=if(mk names (E0 names fc) a).1=true then(mk names (E0 names fc) a).2.bind fun f=>b9a names.length f (num (E0 names fc) b)else(mk names (E0 names fc) b).2.bind fun f=>b9a names.length f (num (E0 names fc) a):=by
    rw [b4p,b0m]
    rw [if_pos hcond,if_pos rfl];rfl
   rw [e]
   refine Tt.suc (fun n=>minmax_maker_made_s _ _ n) (Tt.bif (fun h=>by cases h) (fun _=> ?_))
   refine Tt.evb (b7y hnm hn hx hfr ht0 false) (Tt.bif (fun h=>by cases h) (fun _=> ?_))
   refine Tt.bif (fun h=>by cases h) (fun _=>Tt.bif (fun h=>by cases h) (fun _=>Tt.bif (fun h=>by cases h) (fun _=>Tt.bif (fun _=> ?_) (fun h=>by cases h))))
   refine Tt.step (a:=a) rfl (Tt.evb (b7y hnm hn hxa hra ha false) ?_)
   rw [c2]
   refine Tt.bif (fun h1=> ?_) (fun h1=> ?_)
   ·have hp1:p=1:=by simpa using h1
    subst hp1
    rw [ma.1,if_neg (by decide)]
    refine Tt.step (a:=b) rfl (Tt.step (a:=a) rfl ?_)
    refine Tt.bind (ihb hb hxb hrb hq) fun r1⟨f,f1,f2,f3⟩=> ?_
    rw [f1]
    have hs:=c0m hf (by omega) ha (by decide) (by omega)
    rcases f3 with⟨f3,f4⟩|⟨f3,f4⟩
    ·rw [f4,f3]
     refine Tt.evb (b3b hf hnm hn hxa hra ha (by decide) false) ?_
     exact Tt.bind (b9x (fc:=fc) f2 hs (by have:=b2r a;omega) hn (by omega) false) fun r3 hr3=>Tt.pure (Res.weak hr3 (by omega))
    ·rw [f4,f3]
     refine Tt.evb (b3b hf hnm hn hxa hra ha (by decide) true) ?_
     exact Tt.bind (b9x (fc:=fc) f2 hs (by have:=b2r a;omega) hn (by omega) true) fun r3 hr3=>Tt.pure (Res.weak hr3 (by omega))
   ·have hp2:p=2:=by
     rcases r12 ha hp with h|h
     ·subst h;cases h1
     ·exact h
    have hq1:q=1:=by rcases r12 hb hq with h|h;exact h;exact absurd ⟨hp2,h⟩ hpq
    subst hp2;subst hq1
    rw [ma.1,if_pos (by decide)]
    refine Tt.step (a:=a) rfl (Tt.step (a:=b) rfl ?_)
    refine Tt.bind (iha ha hxa hra hp) fun r1⟨f,f1,f2,f3⟩=> ?_
    rw [f1]
    have hs:=c0m hf (by omega) hb (by decide) (by omega)
    rcases f3 with⟨f3,f4⟩|⟨f3,f4⟩
    ·rw [f4,f3]
     refine Tt.evb (b3b hf hnm hn hxb hrb hb (by decide) false) ?_
     exact Tt.bind (b9x (fc:=fc) f2 hs (by have:=b2r b;omega) hn (by omega) false) fun r3 hr3=>Tt.pure (Res.weak hr3 (by omega))
    ·rw [f4,f3]
     refine Tt.evb (b3b hf hnm hn hxb hrb hb (by decide) true) ?_
     exact Tt.bind (b9x (fc:=fc) f2 hs (by have:=b2r b;omega) hn (by omega) true) fun r3 hr3=>Tt.pure (Res.weak hr3 (by omega))
 | @div a m p ha hp h1 h2 iha=>
  intro hx hfr _
  have hxa:=a7v hx (y:=a) (by simp)
  have hra:=a7w hfr (y:=a) (by simp)
  have hcx:=hfr.1.2
  rw [c2]at hcx
  have ma:=b4r hf (by omega) ha (by omega) hp
  rcases r12 ha hp with rfl|rfl
  ·exact num1 ht0 hx hfr
  ·have e:(mk names (E0 names fc) ⟨8,0,[],[a,⟨0,m,[],[]⟩]⟩).2=(mk names (E0 names fc) a).2.map (scl (1/(m:Rat))):=by
    have hb:(mk names (E0 names fc) ⟨0,m,[],[]⟩).1=false:=rfl
    rw [b4p,b0m]
    rw [if_pos (by rw [ma.1,hb];decide),if_neg (by decide),if_pos rfl];rfl
   rw [e]
   refine Tt.suc (fun n=>minmax_maker_made_s _ _ n) (Tt.bif (fun h=>by cases h) (fun _=> ?_))
   refine Tt.evb (b7y hnm hn hx hfr ht0 false) (Tt.bif (fun h=>by cases h) (fun _=> ?_))
   refine Tt.bif (fun h=>by cases h) (fun _=>Tt.bif (fun h=>by cases h) (fun _=>Tt.bif (fun _=> ?_) (fun h=>by cases h)))
   refine Tt.step (a:=⟨0,m,[],[]⟩) rfl ?_
   have hdv:Rat.divInt 1 m=1/(m:Rat):=by rw [Rat.divInt_eq_div];rfl
   have hof:=e9v (x:=1) (y:=m) (by decide) (by decide) (by omega) (by omega) (by omega)
   rw [hdv]at hof
   refine Tt.evb hof (Tt.step (a:=a) rfl ?_)
   have hs:SmF 5 (1/(m:Rat)):=e5y (j:=1) (k:=4) (sm1 (by decide)) (smI (x:=m) (by omega) (by omega) (by decide)) (by rw [Rat.num_intCast];omega)
   have hcl:cnt ⟨0,m,[],[]⟩=1:=rfl
   rw [c2]
   refine Tt.bind (iha ha hxa hra hp) fun r1⟨f,f1,f2,f3⟩=> ?_
   rw [f1]
   obtain⟨e5,hg5⟩:=c3r f2 hs hn (by omega)
   refine Tt.evb e5 (Tt.pure ⟨_,rfl,hg5.mono (by omega),?_⟩)
   rcases f3 with⟨f3,f4⟩|⟨f3,f4⟩
   ·exact .inl ⟨by rw [f3];rfl,f4⟩
   ·exact .inr ⟨by rw [f3];rfl,f4⟩
 | @ite c a b p q hc0 ha hb hp hq ihc iha ihb=>
  intro hx hfr _
  have hxc:=a7v hx (y:=c) (by simp)
  have hxa:=a7v hx (y:=a) (by simp)
  have hxb:=a7v hx (y:=b) (by simp)
  have hra:=a7w hfr (y:=a) (by simp)
  have hrb:=a7w hfr (y:=b) (by simp)
  have hcx:=hfr.1.2
  have hc3:cnt ⟨11,0,[],[c,a,b]⟩=cnt c+cnt a+cnt b+1:=by show cnt c+(cnt a+(cnt b+0))+1=_;omega
  rw [hc3]at hcx
  have ma:=b4r hf (by omega) ha (by omega) hp
  have mb:=b4r hf (by omega) hb (by omega) hq
  have hw:=wd2 (r12 ha hp) (r12 hb hq)
  rcases a9h p q with h1|h2
  ·rw [h1]at ht0;exact num1 ht0 hx hfr
  ·rw [h2]at ht0
   have hcond:((mk names (E0 names fc) a).1||(mk names (E0 names fc) b).1)=true:=by rw [ma.1,mb.1,<-hw,h2];rfl
   have e:(mk names (E0 names fc) ⟨11,0,[],[c,a,b]⟩).2=if tru (E0 names fc) c=true then(mk names (E0 names fc) a).2 else(mk names (E0 names fc) b).2:=by
    show(mkN names 11 [] (num (E0 names fc) ⟨11,0,[],[c,a,b]⟩) [vl (E0 names fc) c,vl (E0 names fc) a,vl (E0 names fc) b] [mk names (E0 names fc) c,mk names (E0 names fc) a,mk names (E0 names fc) b]).2=_
    rw [b9e,if_pos hcond];rfl
   rw [e]
   refine Tt.suc (fun n=>minmax_maker_made_s _ _ n) (Tt.bif (fun h=>by cases h) (fun _=> ?_))
   refine Tt.evb (b7y hnm hn hx hfr ht0 false) (Tt.bif (fun h=>by cases h) (fun _=> ?_))
   refine Tt.bif (fun h=>by cases h) (fun _=>Tt.bif (fun _=> ?_) (fun h=>by cases h))
   refine Tt.step (a:=c) rfl (Tt.evb (e1j hf hnm hn hxc hfr hc0 false) ?_)
   rw [hc3]
   cases tru (E0 names fc) c with
   |true=>
    refine Tt.bif (fun _=> ?_) (fun h=>by cases h)
    exact Tt.step (a:=a) rfl (Tt.bind (iha ha hxa hra hp) fun r hr=>Tt.pure (Res.weak hr (by omega)))
   |false=>
    refine Tt.bif (fun h=>by cases h) (fun _=> ?_)
    exact Tt.step (a:=b) rfl (Tt.bind (ihb hb hxb hrb hq) fun r hr=>Tt.pure (Res.weak hr (by omega)))
 |rel=>intro _ _ h;exact absurd rfl h
 |not=>intro _ _ h;exact absurd rfl h
 |bin=>intro _ _ h;exact absurd rfl h
end
end Go.Proofs.YthaegflpecbfgaaGreatDoor.Fm
namespace Go.Proofs.YthaegflpecbfgaaGreatDoor.Fm
open Go Rt M Ta Tp D Fe
theorem d0c{names:List Rt.Bs}{f:Facts}{t:Tariff}(hx:Fit t.Fee)(hn:names.length<=1000)(hl:f.Lifts.length<=1000000){weights:List Frac}{k:Nat}(hw:Lim k weights)(hk:k<=30)(hk4:4<=k)(hwl:weights.length<=1000000):
 ∃e,Ev (fun n=>a3v n t names) e/\(e=0↔Chk names t)/\(e≠0->Ev (fun n=>a4l n t names f weights) (zeroF,e))/\(e=0->b7k names f weights=false->Ev (fun n=>a4l n t names f weights) (zeroF,1))/\
  (e=0->∀ws:List Rat,weights=ws.map toF->RF names f ws->(∀w,w∈ws->SmF k w)->Ev (fun n=>a4l n t names f weights) (toF (fv names f ws t),0)/\SmF 3000 (fv names f ws t)):=by
 obtain⟨e,he,hq⟩:=d1h hx names (by omega)
 refine⟨e,he,hq,fun h=> ?_,fun h hr=> ?_,fun h ws hws hrf hsm=> ?_⟩
 ·unfold a4l
  exact Ev.bind he (Ev.then (by simpa using h) (Ev.pure _))
 ·unfold a4l
  subst h
  refine Ev.bind he (Ev.else rfl (Ev.bind (d2f hw hk hl hwl) ?_))
  rw [hr]
  exact Ev.then rfl (Ev.pure _)
 ·subst hws
  exact d2o hx (by omega) hsm hk hk4 (by omega) (hq.1 h) hrf
def FR(names:List Rt.Bs)(f:Facts):Prop:=RF names f (List.replicate names.length 0)
theorem f1g{names:List Rt.Bs}{f:Facts}{ws:List Rat}(h:RF names f ws):FR names f:=⟨h.hl,by simp,h.p1,h.p2,h.f1,h.f2,h.l1,fun w hw=>by obtain⟨_,rfl⟩:=List.mem_replicate.1 hw;exact Rat.le_refl⟩
theorem f0v{names:List Rt.Bs}{f:Facts}{ws:List Rat}(h:FR names f)(hl:ws.length=names.length)(h0:∀w,w∈ws->0<=w):RF names f ws:=⟨h.hl,hl,h.p1,h.p2,h.f1,h.f2,h.l1,h0⟩
theorem lim0(k:Nat):Lim 4 (List.replicate k (toF 0)):=by
 intro w hw
 obtain⟨_,rfl⟩:=List.mem_replicate.1 hw
 exact b2q (sm0 (by decide))
theorem e8o{names:List Rt.Bs}{f:Facts}:b7k names f (List.replicate names.length (toF 0))=true↔FR names f:=by
 constructor
 ·intro h
  obtain⟨ws,_,h2,_⟩:=d4z (lim0 _) h
  exact f1g h2
 ·intro h
  have:=d0a h
  rwa [List.map_replicate]at this
theorem e9b{names:List Rt.Bs}{f:Facts}{t:Tariff}(hx:Fit t.Fee)(hn:names.length<=1000)(hl:f.Lifts.length<=1000000):
 ∃e,Ev (fun n=>a3v n t names) e/\(e=0↔Chk names t)/\(e≠0->Ev (fun n=>a6p n t names f) (⟨[]⟩,e))/\(e=0->¬FR names f->Ev (fun n=>a6p n t names f) (⟨[]⟩,1))/\
  (e=0->FR names f->(∀g,(mk names (E0 names f) t.Fee).2=some g->Ev (fun n=>a6p n t names f) (toFm g,0))/\((mk names (E0 names f) t.Fee).2=none->Ev (fun n=>a6p n t names f) (⟨[]⟩,6))):=by
 obtain⟨e,he,hq⟩:=d1h hx names (by omega)
 have num:e=0->∃e2,(e2=0↔FR names f)/\(e2≠0->e2=1)/\Ev (fun n=>(a3q n 0).bind fun v3=>(a2z n [v3] (names.length:Int)).bind fun v4=>(a4l n (⟨[97],(⟨0,0,[],[]⟩:M.Expr),(-1)⟩:Tariff) names f v4).bind fun v5=>some v5.2) e2:=by
  intro h0
  have hc:=hq.1 h0
  have hc2:Chk names ⟨[97],⟨0,0,[],[]⟩,-1⟩:=⟨hc.1,⟨show Lx.name [97]=true by decide,⟨⟨by decide,by decide⟩,(Typ.num (names:= []) (by decide) (by decide)).shx⟩,show(-1:Int)<=-1 by decide,show(-1:Int)<=1099511627776 by decide⟩,1,by decide,Typ.num (by decide) (by decide)⟩
  obtain⟨e3,g1,g2,g3,g4,g5⟩:=d0c (names:=names) (f:=f) (t:=⟨[97],⟨0,0,[],[]⟩,-1⟩) (weights:=List.replicate names.length (toF 0)) (k:=4) (Fit.leaf _ _ _) hn hl (lim0 _) (by decide) (by decide) (by simp;omega)
  have h3:=g2.2 hc2
  by_cases hr:FR names f
  ·refine⟨0,⟨fun _=>hr,fun _=>rfl⟩,fun h=>absurd rfl h,?_⟩
   exact Ev.bind FInt0 (Ev.bind (b8m _ hn) (Ev.bind (g5 h3 (List.replicate names.length 0) (by rw [List.map_replicate]) hr (d6f _)).1 (Ev.pure _)))
  ·refine⟨1,⟨fun h=>(by cases h),fun h=>absurd h hr⟩,fun _=>rfl,?_⟩
   have hr2:b7k names f (List.replicate names.length (toF 0))=false:=by
    cases h:b7k names f (List.replicate names.length (toF 0))with
    |false=>rfl
    |true=>exact absurd (e8o.1 h) hr
   exact Ev.bind FInt0 (Ev.bind (b8m _ hn) (Ev.bind (g4 h3 hr2) (Ev.pure _)))
 refine⟨e,he,hq,fun h=> ?_,fun h hr=> ?_,fun h hr=> ?_⟩
 ·unfold a6p
  exact Ev.bind he (Ev.then (by simpa using h) (Ev.pure _))
 ·obtain⟨e2,h1,h2,h3⟩:=num h
  have h4:e2≠0:=fun h=>hr (h1.1 h)
  have h5:=h2 h4
  subst h5
  unfold a6p
  exact Ev.bind he (Ev.else (by rw [h];rfl) (Ev.bind h3 (Ev.then rfl (Ev.pure _))))
 ·obtain⟨e2,h1,h2,h3⟩:=num h
  have h5:=h1.2 hr
  subst h5
  obtain⟨hc1,hc2,k,hk,ht⟩:=hq.1 h
  obtain⟨r,hr1,g,hr2,hr3,hr4⟩:=f0m hr hc1 hn ht hx hc2.2.1 hk
  have main:∀{res:M.Form×Int},(bif r.1.full then some ((⟨[]⟩:M.Form),(6:Int))else some (r.2,0))=some res->Ev (fun n=>a6p n t names f) res:=by
   intro res hres
   unfold a6p
   refine Ev.bind he (Ev.else (by rw [h];rfl) (Ev.bind h3 (Ev.else rfl (Ev.bind hr1 ?_))))
   rw [hres];exact Ev.pure _
  refine⟨fun g' hg'=> ?_,fun hnone=> ?_⟩
  ·rcases hr4 with⟨e1,e3⟩|⟨e1,e3⟩
   ·rw [hg']at e1;cases e1
    exact main (by rw [e3,hr2];rfl)
   ·rw [hg']at e1;cases e1
  ·rcases hr4 with⟨e1,e3⟩|⟨e1,e3⟩
   ·rw [hnone]at e1;cases e1
   ·exact main (by rw [e3];rfl)
def rat(f:Frac):Rat:=Rat.divInt (ofB f.P) (ofB f.Q)
def LimF(k:Nat)(w:Frac):Prop:=w.P.Digits.length<=k/\w.Q.Digits.length<=k
def decA(a:Affine):RA:=(rat a.Const,a.Coefs.map rat)
def decX(x:M.Form):RFm:=x.Pieces.map (·.map decA)
def badC(c:Frac):Bool:= !a8p c
def oddA(k:Int)(a:Affine):Bool:=(badC a.Const||((a.Coefs.length:Int) !=k))||a.Coefs.any badC
def badL(k:Int)(l:List Affine):Bool:=((l.length:Int)==0)||l.any (oddA k)
def f0i(x:M.Form)(k:Int):Bool:=decide (0<(x.Pieces.length:Int))&& !(x.Pieces.any (badL k))
def e4j(x:M.Form)(weights:List Frac):Bool:=weights.any badC|| !f0i x (weights.length:Int)
structure LimX(k:Nat)(x:M.Form):Prop where
 len:x.Pieces.length<=1000
 lens:∀l,l∈x.Pieces->l.length<=9223372036854775807
 coefs:∀l,l∈x.Pieces->∀a,a∈l->a.Coefs.length<=1000
 con:∀l,l∈x.Pieces->∀a,a∈l->LimF k a.Const
 lim:∀l,l∈x.Pieces->∀a,a∈l->Lim k a.Coefs
section
variable{k:Nat}(hk:k<4000000)
include hk
end
end Go.Proofs.YthaegflpecbfgaaGreatDoor.Fm
namespace Go.Proofs.YthaegflpecbfgaaGreatDoor.Fm
open Go Rt M Ta Tp D Fe
section
variable{A W:Nat}{ws:List Rat}(hw:∀w,w∈ws->SmF W w)
include hw
def Gr(l:List RA)(ws:List Rat)(v:Rat):Prop:=(∃a,a∈l/\v<=evA ws a)/\∀a,a∈l->evA ws a<=v
omit hw in
theorem e9t(a:RA):Gr [a] ws (evA ws a):=⟨⟨a,by simp,Rat.le_refl⟩,fun b hb=>by obtain rfl:=List.mem_singleton.1 hb;exact Rat.le_refl⟩
omit hw in
theorem Gr.uniq{l:List RA}{u v:Rat}(h:Gr l ws u)(k:Gr l ws v):u=v:=by
 obtain⟨⟨a,ha,h1⟩,h2⟩:=h
 obtain⟨⟨b,hb,k1⟩,k2⟩:=k
 exact Rat.le_antisymm (Rat.le_trans h1 (k2 a ha)) (Rat.le_trans k1 (h2 b hb))
omit hw in
theorem e5m{l:List RA}{v:Rat}(h:IsV [l] ws v):Gr l ws v:=by
 obtain⟨h1,p,hp,h2⟩:=h
 obtain rfl:=List.mem_singleton.1 hp
 exact⟨h1 p hp,h2⟩
end
def AtS(x:M.Form)(weights:List Frac)(B:Nat)(r:Frac×Bool):Prop:=
 (e4j x weights=false/\∃v,r=(toF v,true)/\SmF B v/\IsV (decX x) (weights.map rat) v)∨(e4j x weights=true/\r=(zeroF,false))
theorem AtS.uniq{x:M.Form}{weights:List Frac}{B C:Nat}{r s:Frac×Bool}(h:AtS x weights B r)(k:AtS x weights C s):r=s:=by
 rcases h with⟨h1,u,rfl,_,h2⟩|⟨h1,rfl⟩<;>rcases k with⟨k1,v,rfl,_,k2⟩|⟨k1,rfl⟩
 ·rw [h2.uniq k2]
 ·rw [h1]at k1;cases k1
 ·rw [h1]at k1;cases k1
 ·rfl
end Go.Proofs.YthaegflpecbfgaaGreatDoor.Fm
namespace Go.Proofs.YthaegflpecbfgaaGreatDoor.Ta
open Go Rt M
theorem orT(c d:Bool):(bif c then some true else some d)=some (c||d):=by cases c<;>rfl
theorem andT(c d:Bool):(bif c then some d else some false)=some (c&&d):=by cases c<;>rfl
theorem d7h(n:Nat){o:Int}(h1:0<=o)(h2:o<=16):a8h n o=some (b7s o):=by
 unfold a8h b7s
 rw [decide_eq_false (show¬o<0 by omega),cond_false,Option.bind_some,decide_eq_false (show¬17<=o by omega),cond_false]
 by_cases h3:o<=4
 ·rw [decide_eq_true h3,if_pos h3];rfl
 ·rw [decide_eq_false h3,if_neg h3,cond_false]
  by_cases h4:o=14
  ·subst h4;rfl
  ·rw [show(o==14)=false by simpa using h4,if_neg h4,cond_false]
   by_cases h5:o=11
   ·subst h5;rfl
   ·rw [show(o==11)=false by simpa using h5,if_neg h5];rfl
theorem d8m(n:Nat){o:Int}(h:¬(0<=o/\o<=16)):a8h n o=some (-1):=by
 unfold a8h
 rw [orT,Option.bind_some,show(decide (o<0)||decide (17<=o))=true by by_cases h1:o<0<;>simp [h1];omega];rfl
theorem d3m(x:M.Expr)(hl:x.Args.length<=1000000):∀(us:List M.Expr)(i:Nat),x.Args.drop i=us->(∀y,y∈us->∃b,Ev (fun n=>tariff_shaped n y) b/\Ev (fun n=>ref35_shaped n y) b)->
 ∃N r,∀n m,N<=n->us.length<m->slices_IndexFunc_api_Expr_api_Expr_L1 n x.Args (tariff_shaped_1 n) (some (-1)) m (i:Int)=some r/\ref35_shaped_L1 n (ref35_shaped n) x (some true) m (i:Int)=some (!decide (0<=r))
 | [],i,hd,_=>by
  refine⟨0,-1,fun n m _ hm=> ?_⟩
  obtain⟨m,rfl⟩:=left hm
  rw [slices_IndexFunc_api_Expr_api_Expr_L1_s,a5z hd,ref35_shaped_L1_s,a5z hd]
  exact⟨rfl,rfl⟩
 |y::us,i,hd,H=>by
  obtain⟨h1,h2,h3⟩:=drop_cons hd
  obtain⟨b,⟨N1,e1⟩,⟨N2,e2⟩⟩:=H y (by simp)
  obtain⟨N,r,ih⟩:=d3m x hl us (i+1) h2 (fun z hz=>H z (by simp [hz]))
  refine⟨max N (max (N1+1) N2),if b=true then r else(i:Int),fun n m hn hm=> ?_⟩
  obtain⟨m,rfl,hm2⟩:=pred (by simpa using hm)
  obtain⟨n',rfl⟩:∃k,n=k+1:=⟨n-1,by omega⟩
  have e1:tariff_shaped n' y=some b:=e1 n' (by omega)
  have e2:ref35_shaped (n'+1) y=some b:=e2 (n'+1) (by omega)
  have ih:=ih (n'+1) m (by omega) hm2
  rw [slices_IndexFunc_api_Expr_api_Expr_L1_s,a1z hd,cond_true,h1,Option.bind_some,a7j,e1,Option.bind_some,Option.bind_some,ref35_shaped_L1_s,a1z hd,cond_true,h1,Option.bind_some,e2,Option.bind_some]
  cases b with
  |true=>rw [Bool.not_true,cond_false,cond_false,if_pos rfl,inc64 (by omega)];exact ih
  |false=>
   rw [if_neg (by decide),decide_eq_true (show(0:Int)<=(i:Int) by omega)]
   exact⟨rfl,rfl⟩
theorem e1i{x:M.Expr}(hx:Fit x):∃b,Ev (fun n=>tariff_shaped n x) b/\Ev (fun n=>ref35_shaped n x) b:=by
 induction hx with
 | @mk o k s l hl _ ih=>
  by_cases hr:0<=o/\o<=16
  rotate_left
  ·refine⟨false,Ev.suc (fun n=>tariff_shaped_s _ n) ?_,Ev.suc (fun n=>ref35_shaped_s _ n) ?_⟩
   ·refine Ev.bind (a:=true) (Ev.all fun n=> ?_) (Ev.bind (a:=true) (Ev.then rfl (Ev.pure _)) (Ev.then rfl (Ev.pure _)))
    rw [orT];dsimp only
    congr 1
    by_cases h1:o<0<;>simp [h1]
    omega
   ·refine Ev.bind (Ev.all fun n=>d8m n hr) ?_
    exact Ev.bind (a:=true) (Ev.then (by dsimp only;rw [bne_iff_ne];omega) (Ev.pure _)) (Ev.then rfl (Ev.pure _))
  have d1:decide (o<0)=false:=decide_eq_false (by omega)
  have d2:decide (17<=o)=false:=decide_eq_false (by omega)
  by_cases ha:(l.length:Int)=b7s o
  rotate_left
  ·have d3:((l.length:Int) !=b7s o)=true:=by simpa using ha
   refine⟨false,Ev.suc (fun n=>tariff_shaped_s _ n) ?_,Ev.suc (fun n=>ref35_shaped_s _ n) ?_⟩
   ·exact Ev.bind (a:=false) (Ev.else d1 ((Ev.pure _).eq d2)) (Ev.bind (a:=true) (Ev.else rfl (Ev.bind (Ev.all fun n=>d2l n _) ((Ev.pure _).eq d3))) (Ev.then rfl (Ev.pure _)))
   ·exact Ev.bind (Ev.all fun n=>d7h n hr.1 hr.2) (Ev.bind (a:=true) (Ev.then d3 (Ev.pure _)) (Ev.then rfl (Ev.pure _)))
  have d3:((l.length:Int) !=b7s o)=false:=by simpa using ha
  have code:∀{b:Bool}{f:Nat->Option Bool},Ev f b->Ev (fun n=>(bif decide (o<0)then some true else some (decide (17<=o))).bind fun v1=>(bif v1 then some true else(a9s n o).bind fun v11=>some ((l.length:Int) !=v11)).bind fun v2=>bif v2 then some false else f n) b:=fun h=>
   Ev.bind (a:=false) (Ev.else d1 ((Ev.pure _).eq d2)) (Ev.bind (a:=false) (Ev.else rfl (Ev.bind (Ev.all fun n=>d2l n _) ((Ev.pure _).eq d3))) (Ev.else rfl h))
  obtain⟨N,r,hL⟩:=d3m ⟨o,k,s,l⟩ hl l 0 rfl ih
  have loopR:Ev (fun n=>ref35_shaped_L1 n (ref35_shaped n) ⟨o,k,s,l⟩ (some true) n 0) (!decide (0<=r)):=⟨N+l.length+1,fun n hn=>(hL n n (by omega) (by omega)).2⟩
  have loopC:Ev (fun n=>a0l n l (tariff_shaped_1 n)) (decide (0<=r)):=by
   unfold a0l a1i
   exact Ev.bind (a:=r) ⟨N+l.length+1,fun n hn=>(hL n n (by omega) (by omega)).1⟩ (Ev.pure _)
  have loop0:b7s o=0->(!decide (0<=r))=true:=by
   intro h0
   have hz:l= []:=List.length_eq_zero_iff.1 (by omega)
   subst hz
   have h1:=(hL (N+1) 1 (by omega) (by simp)).1
   rw [slices_IndexFunc_api_Expr_api_Expr_L1_s]at h1
   have h2:(some (-1):Option Int)=some r:=h1
   cases h2;rfl
  have ref:∀{vn:Bool},Lx.name s=vn->Ev (fun n=>ref35_shaped n ⟨o,k,s,l⟩) (!((o !=0&&k !=0)||((((o==1||o==4)&& !vn)||(!(o==1||o==4)&& !(s== [])))||(o==0&&(decide (k<0)||decide (1099511627776<k)))))&& !decide (0<=r)):=by
   intro vn hvn
   refine Ev.suc (fun n=>ref35_shaped_s _ n) ?_
   refine Ev.bind (Ev.all fun n=>d7h n hr.1 hr.2) ?_
   refine Ev.bind (a:=(o !=0&&k !=0)) (Ev.else d3 (Ev.all fun n=>by rw [andT];rfl)) ?_
   cases(o !=0&&k !=0)with
   |true=>exact Ev.then rfl ((Ev.pure _).eq rfl)
   |false=>
    refine Ev.else rfl ?_
    refine Ev.bind (a:=(o==1||o==4)) (Ev.all fun n=>orT _ _) ?_
    refine Ev.bind (a:=((o==1||o==4)&& !vn)) ?_ ?_
    ·cases(o==1||o==4)with
     |true=>exact Ev.then rfl (Ev.bind ((c7c s).eq hvn) (Ev.pure _))
     |false=>exact Ev.else rfl (Ev.pure _)
    refine Ev.bind (a:=(((o==1||o==4)&& !vn)||(!(o==1||o==4)&& !(s== [])))) ?_ ?_
    ·cases((o==1||o==4)&& !vn)with
     |true=>exact Ev.then rfl (Ev.pure _)
     |false=>exact Ev.else rfl (Ev.all fun n=>by rw [andT];rfl)
    refine Ev.bind (a:=((((o==1||o==4)&& !vn)||(!(o==1||o==4)&& !(s== [])))||(o==0&&(decide (k<0)||decide (1099511627776<k))))) ?_ ?_
    ·cases(((o==1||o==4)&& !vn)||(!(o==1||o==4)&& !(s== [])))with
     |true=>exact Ev.then rfl (Ev.pure _)
     |false=>
      refine Ev.else rfl (Ev.bind (a:=(o==0&&(decide (k<0)||decide (1099511627776<k)))) ?_ ((Ev.pure _).eq (by simp)))
      cases o==0 with
      |true=>exact Ev.then rfl (Ev.all fun n=>by rw [orT];rfl)
      |false=>exact Ev.else rfl (Ev.pure _)
    cases((((o==1||o==4)&& !vn)||(!(o==1||o==4)&& !(s== [])))||(o==0&&(decide (k<0)||decide (1099511627776<k))))with
    |true=>exact Ev.then rfl (Ev.pure _)
    |false=>exact Ev.else rfl (loopR.eq (by simp))
  by_cases o0:o=0
  ·refine⟨(decide (0<=k)&&decide (k<=1099511627776))&&s== [],Ev.suc (fun n=>tariff_shaped_s _ n) (code (Ev.then (by simpa using o0) ?_)),(ref rfl).eq ?_⟩
   ·refine Ev.bind (a:=(decide (0<=k)&&decide (k<=1099511627776))) (Ev.all fun n=>andT _ _) ?_
    exact Ev.bind (a:=((decide (0<=k)&&decide (k<=1099511627776))&&s== [])) (Ev.all fun n=>andT _ _) (Ev.pure _)
   ·rw [loop0 (by rw [o0];rfl)]
    subst o0
    by_cases k1:k<0
    ·rw [decide_eq_true k1,decide_eq_false (show¬0<=k by omega)];simp
    ·by_cases k2:1099511627776<k
     ·rw [decide_eq_true k2,decide_eq_false (show¬k<=1099511627776 by omega)];simp
     ·rw [decide_eq_false k1,decide_eq_false k2,decide_eq_true (show 0<=k by omega),decide_eq_true (show k<=1099511627776 by omega)];simp
  have f0:(o==0)=false:=by simpa using o0
  have g0:(o !=0)=true:=by simpa using o0
  by_cases o1:(o==1||o==4)=true
  ·refine⟨k==0&&Lx.name s,Ev.suc (fun n=>tariff_shaped_s _ n) (code (Ev.else f0 (Ev.bind (a:=true) ((Ev.all fun n=>orT _ _).eq o1) (Ev.then rfl (Ev.bind (a:=(k==0&&Lx.name s)) ?_ (Ev.pure _)))))),(ref rfl).eq ?_⟩
   ·cases hk:k==0 with
    |true=>exact Ev.then rfl (Ev.bind (c0b s) ((Ev.pure _).eq (by simp)))
    |false=>exact Ev.else rfl (Ev.pure _)
   ·have h4:o=1∨o=4:=by simpa using o1
    rw [loop0 (by rcases h4 with h|h<;>rw [h]<;>rfl),o1,f0,g0]
    cases hk:k==0<;>cases Lx.name s<;>simp [bne,hk]
  ·have o1':(o==1||o==4)=false:=by simpa using o1
   refine⟨(k==0&&s== [])&& !decide (0<=r),Ev.suc (fun n=>tariff_shaped_s _ n) (code (Ev.else f0 (Ev.bind (a:=false) ((Ev.all fun n=>orT _ _).eq o1') (Ev.else rfl ?_)))),(ref rfl).eq ?_⟩
   ·refine Ev.bind (a:=(k==0&&s== [])) (Ev.all fun n=>andT _ _) ?_
    refine Ev.bind (a:=((k==0&&s== [])&& !decide (0<=r))) ?_ (Ev.pure _)
    cases(k==0&&s== [])with
    |true=>exact Ev.then rfl (Ev.bind loopC ((Ev.pure _).eq (by simp)))
    |false=>exact Ev.else rfl (Ev.pure _)
   ·rw [o1',f0,g0]
    cases hk:k==0<;>cases s== []<;>simp [bne,hk]
theorem e3w{x:M.Expr}(hx:Fit x):∃b,Ev (fun n=>a7a n x) b/\Ev (fun n=>b0y n x) b/\(b=true->Shp x):=by
 obtain⟨b1,z,e1,e2⟩:=f0u hx
 obtain⟨b2,e3,e4⟩:=e1i hx
 obtain⟨b3,e5,hS⟩:=e2j hx
 have hb:b3=b2:=e5.uniq e3
 refine⟨b1&&b2,?_,?_,fun h=>hS (by rw [hb];simp at h;exact h.2)⟩
 ·unfold a7a
  refine Ev.bind e1 (Ev.bind (a:=b1&&b2) ?_ (Ev.pure _))
  cases b1 with
  |true=>exact Ev.then rfl (Ev.bind e3 ((Ev.pure _).eq (by simp)))
  |false=>exact Ev.else rfl (Ev.pure _)
 ·unfold b0y
  refine Ev.bind e2 (Ev.bind (a:=b1&&b2) ?_ (Ev.pure _))
  cases b1 with
  |true=>exact Ev.then rfl (Ev.bind e4 ((Ev.pure _).eq (by simp)))
  |false=>exact Ev.else rfl (Ev.pure _)
theorem e0m{t:Tariff}(hx:Fit t.Fee):∃b,Ev (fun n=>a4v n t) b/\Ev (fun n=>b3i n t) b/\(b=true->Shp t.Fee):=by
 obtain⟨b,e1,e2,hS⟩:=e3w hx
 refine⟨((Lx.name t.Name&&b)&&decide (-1<=t.Cap))&&decide (t.Cap<=1099511627776),?_,?_,fun h=>hS (by simp at h;exact h.1.1.2)⟩
 ·unfold a4v
  refine Ev.bind (c0b _) (Ev.bind (a:=(Lx.name t.Name&&b)) ?_ (Ev.bind (Ev.all fun n=>andT _ _) (Ev.bind (Ev.all fun n=>andT _ _) (Ev.pure _))))
  cases Lx.name t.Name with
  |true=>exact Ev.then rfl (Ev.bind e1 ((Ev.pure _).eq (by simp)))
  |false=>exact Ev.else rfl (Ev.pure _)
 ·unfold b3i
  refine Ev.bind (c7c _) (Ev.bind (a:=(Lx.name t.Name&&b)) ?_ (Ev.bind (Ev.all fun n=>andT _ _) (Ev.bind (Ev.all fun n=>andT _ _) (Ev.pure _))))
  cases Lx.name t.Name with
  |true=>exact Ev.then rfl (Ev.bind e2 ((Ev.pure _).eq (by simp)))
  |false=>exact Ev.else rfl (Ev.pure _)
end Go.Proofs.YthaegflpecbfgaaGreatDoor.Ta
namespace Go.Proofs.YthaegflpecbfgaaGreatDoor.Ta
open Go Rt M
def c1r(a b:Int):Int:=bif a==2||b==2 then 2 else 1
theorem d6m(n:Nat)(a b:Int):a7i n a b=some (c1r a b):=by
 unfold a7i c1r
 rw [orT,Option.bind_some]
 cases a==2||b==2<;>rfl
theorem f0e(n:Nat)(a b:Int):a1e n a b=some (bif a==0||b==0 then(0,13)else(c1r a b,0)):=by
 unfold a1e c1r
 rw [orT,Option.bind_some,orT,Option.bind_some]
 cases a==0||b==0<;>cases a==2||b==2<;>rfl
theorem d1b(a b:Int):0<=c1r a b/\c1r a b<=2:=by
 unfold c1r
 cases a==2||b==2<;>decide
theorem d2g(n:Nat)(p q:Int):a3n n 12 [p,q]=some (0,p==1&&q==1)/\a3n n 13 [p,q]=some (0,p==1&&q==1):=by
 constructor<;>(show((bif p==1 then some (q==1)else some false).bind fun v4=>some ((0:Int),v4))=_;rw [andT];rfl)
theorem d5z(n:Nat)(p q:Int):a3n n 15 [p,q]=some (0,p==0&&q==0)/\a3n n 16 [p,q]=some (0,p==0&&q==0):=by
 constructor<;>(show((bif p==0 then some (q==0)else some false).bind fun v4=>some ((0:Int),v4))=_;rw [andT];rfl)
theorem e4x(n:Nat)(p:Int):a3n n 14 [p]=some (0,p==0):=rfl
theorem f0b(n:Nat)(p q r:Int):a3n n 11 [p,q,r]=some (c1r q r,(p==0&&q !=0)&&r !=0):=by
 show((a7i n q r).bind fun v5=>(bif p==0 then some (q !=0)else some false).bind fun v6=>(bif v6 then some (r !=0)else some false).bind fun v7=>some (v5,v7))=_
 rw [d6m,Option.bind_some,andT,Option.bind_some,andT];rfl
theorem e5p(n:Nat)(p q:Int):a3n n 7 [p,q]=some (c1r p q,(p !=0&&q !=0)&&(p==1||q==1)):=by
 show((bif p !=0 then some (q !=0)else some false).bind fun v8=>((bif v8 then(bif p==1 then some true else some (q==1)).bind fun v11=>some v11 else some false).bind fun v10=>some v10).bind fun numbers1=>(a7i n p q).bind fun v9=>some (v9,numbers1))=_
 rw [andT,Option.bind_some,orT,d6m]
 cases p !=0&&q !=0<;>rfl
theorem e4m(n:Nat)(p q:Int){o:Int}(ho:o=5∨o=6∨o=8∨o=9∨o=10):a3n n o [p,q]=some (c1r p q,p !=0&&q !=0):=by
 have h:(bif p !=0 then some (q !=0)else some false).bind (fun v8=>(some v8).bind fun numbers1=>(a7i n p q).bind fun v9=>some (v9,numbers1))=some (c1r p q,p !=0&&q !=0):=by
  rw [andT,Option.bind_some,Option.bind_some,d6m];rfl
 rcases ho with rfl|rfl|rfl|rfl|rfl<;>exact h
theorem all2(k p q w:Int):Ev (fun n=>a3j n k [p,q] w) (bif p==w&&q==w then(k,0)else(0,13)):=by
 refine⟨3,fun n hn=> ?_⟩
 obtain⟨n,rfl⟩:∃j,n=j+3:=⟨n-3,by omega⟩
 show((bif p !=w then some (0:Int)else bif q !=w then some 1 else some (-1)).bind fun v1=>some (decide (0<=v1))).bind (fun v1=>bif v1 then some ((0:Int),(13:Int))else some (k,0))=_
 cases hp:p==w<;>cases hq:q==w<;>simp [bne,hp,hq]
theorem all1(k p w:Int):Ev (fun n=>a3j n k [p] w) (bif p==w then(k,0)else(0,13)):=by
 refine⟨3,fun n hn=> ?_⟩
 obtain⟨n,rfl⟩:∃j,n=j+3:=⟨n-3,by omega⟩
 show((bif p !=w then some (0:Int)else some (-1)).bind fun v1=>some (decide (0<=v1))).bind (fun v1=>bif v1 then some ((0:Int),(13:Int))else some (k,0))=_
 cases hp:p==w<;>simp [bne,hp]
theorem d2s(n:Nat)(l:List Rt.Bs)(s:Rt.Bs)(hl:l.length<4611686018427387904):∀(us:List Rt.Bs)(i m:Nat),l.drop i=us->us.length<m->
 ref35_Number_L1 n l s (some (-1)) m (i:Int)=some (if s∈us then((i+us.idxOf s:Nat):Int)else-1)
 | [],i,m+1,hd,_=>by rw [ref35_Number_L1_s,a5z hd];rfl
 |x::us,i,m+1,hd,hm=>by
  obtain⟨h1,h2,h3⟩:=drop_cons hd
  have ih:=d2s n l s hl us (i+1) m h2 (by simp only [List.length_cons]at hm;omega)
  rw [ref35_Number_L1_s,a1z hd,cond_true,h1,Option.bind_some]
  by_cases h:x=s
  ·subst h
   rw [beq_self_eq_true,cond_true,if_pos (by simp)];simp
  ·have e:(x==s)=false:=by simpa using h
   rw [e,cond_false,inc64 (by omega),ih]
   by_cases h5:s∈us
   ·rw [if_pos h5,if_pos (List.mem_cons_of_mem _ h5),List.idxOf_cons,e]
    simp only [cond_false];congr 1;omega
   ·rw [if_neg h5,if_neg (by simp only [List.mem_cons,not_or];exact⟨fun h6=>h h6.symm,h5⟩)]
theorem c9r{l:List Rt.Bs}(s:Rt.Bs)(hl:l.length<4611686018427387904):Ev (fun n=>(a8u n l s).bind fun v6=>some (decide (v6<0))) (!decide (s∈l)):=by
 refine⟨l.length+1,fun n hn=> ?_⟩
 unfold a8u
 dsimp only
 have h:ref35_Number_L1 n l s (some (-1)) n 0=_:=d2s n l s hl l 0 n rfl (by omega)
 rw [h,Option.bind_some]
 by_cases h5:s∈l
 ·rw [if_pos h5,decide_eq_true h5,decide_eq_false (by omega)];rfl
 ·rw [if_neg h5,decide_eq_false h5];rfl
def Ty(r:Int×Int):Prop:=r.2=0->0<=r.1/\r.1<=2
theorem d6q(x:M.Expr)(names:List Rt.Bs)(hx:x.Args.length<=1000000):∀(us:List M.Expr)(i:Nat)(acc:List Int),x.Args.drop i=us->acc.length=i->i<=x.Args.length->(∀t,t∈acc->0<=t/\t<=2)->
 (∀y,y∈us->∃r,Ev (fun n=>tariff_typed n y names) r/\Ev (fun n=>ref35_typed n y names) r/\Ty r)->
 (∃(N:Nat)(e:Int),e≠0/\∀n m kont kont',N<=n->us.length<m->tariff_typed_L1 n (tariff_typed n) x names kont m (i:Int) acc=some (0,e)/\ref35_typed_L1 n (ref35_typed n) x names kont' m (i:Int) acc=some (0,e))∨
 ∃(N:Nat)(l2:List Int),l2.length=x.Args.length/\(∀t,t∈l2->0<=t/\t<=2)/\∀n m kont kont',N<=n->us.length<m->tariff_typed_L1 n (tariff_typed n) x names kont m (i:Int) acc=kont l2/\ref35_typed_L1 n (ref35_typed n) x names kont' m (i:Int) acc=kont' l2
 | [],i,acc,hd,ha,hi,ht,_=>by
  refine .inr ⟨0,acc,by have:=Rt.drop_nil hd;omega,ht,fun n m kont kont' _ hm=> ?_⟩
  obtain⟨m,rfl⟩:=left hm
  rw [tariff_typed_L1_s,a5z hd,ref35_typed_L1_s,a5z hd];exact⟨rfl,rfl⟩
 |y::us,i,acc,hd,ha,hi,ht,H=>by
  obtain⟨h1,h2,h3⟩:=drop_cons hd
  obtain⟨⟨k,e⟩,⟨N1,e1⟩,⟨N2,e2⟩,hty⟩:=H y (by simp)
  by_cases he:e=0
  ·subst he
   have hk:=hty rfl
   have step:∀n m kont kont',max N1 N2<=n->tariff_typed_L1 n (tariff_typed n) x names kont (m+1) (i:Int) acc=tariff_typed_L1 n (tariff_typed n) x names kont m ((i+1:Nat):Int) (acc++ [k])/\ref35_typed_L1 n (ref35_typed n) x names kont' (m+1) (i:Int) acc=ref35_typed_L1 n (ref35_typed n) x names kont' m ((i+1:Nat):Int) (acc++ [k]):=by
    intro n m kont kont' hn
    have e1:tariff_typed n y names=some (k,0):=e1 n (by omega)
    have e2:ref35_typed n y names=some (k,0):=e2 n (by omega)
    constructor
    ·rw [tariff_typed_L1_s,a1z hd,cond_true,h1,Option.bind_some,e1,Option.bind_some]
     show((app 8 acc [k]).bind fun l3=>_)=_
     rw [b0f (by simp only [List.length_cons,List.length_nil];omega),Option.bind_some,inc64 (by omega)]
    ·rw [ref35_typed_L1_s,a1z hd,cond_true,h1,Option.bind_some,e2,Option.bind_some]
     show((app 8 acc [k]).bind fun l3=>_)=_
     rw [b0f (by simp only [List.length_cons,List.length_nil];omega),Option.bind_some,inc64 (by omega)]
   have ht2:∀t,t∈acc++ [k]->0<=t/\t<=2:=by
    intro t h
    rcases List.mem_append.1 h with h|h
    ·exact ht t h
    ·rw [List.mem_singleton]at h;subst h;exact hk
   rcases d6q x names hx us (i+1) (acc++ [k]) h2 (by simp [ha]) (by omega) ht2 (fun z hz=>H z (by simp [hz]))with⟨N,e,he,ih⟩|⟨N,l2,hl2,ht3,ih⟩
   ·refine .inl ⟨max N (max N1 N2),e,he,fun n m kont kont' hn hm=> ?_⟩
    obtain⟨m,rfl,hm2⟩:=pred (by simpa using hm)
    have h5:=step n m kont kont' (by omega)
    rw [h5.1,h5.2]
    exact ih n m kont kont' (by omega) hm2
   ·refine .inr ⟨max N (max N1 N2),l2,hl2,ht3,fun n m kont kont' hn hm=> ?_⟩
    obtain⟨m,rfl,hm2⟩:=pred (by simpa using hm)
    have h5:=step n m kont kont' (by omega)
    rw [h5.1,h5.2]
    exact ih n m kont kont' (by omega) hm2
  ·refine .inl ⟨max N1 N2,e,he,fun n m kont kont' hn hm=> ?_⟩
   obtain⟨m,rfl⟩:=left hm
   have e1:tariff_typed n y names=some (k,e):=e1 n (by omega)
   have e2:ref35_typed n y names=some (k,e):=e2 n (by omega)
   have hb:(e !=0)=true:=by simpa using he
   constructor
   ·rw [tariff_typed_L1_s,a1z hd,cond_true,h1,Option.bind_some,e1,Option.bind_some]
    dsimp only
    rw [hb];rfl
   ·rw [ref35_typed_L1_s,a1z hd,cond_true,h1,Option.bind_some,e2,Option.bind_some]
    dsimp only
    rw [hb];rfl
end Go.Proofs.YthaegflpecbfgaaGreatDoor.Ta
namespace Go.Proofs.YthaegflpecbfgaaGreatDoor.Ta
open Go Rt M
def d6k(names:List Rt.Bs)(x:M.Expr)(n:Nat)(l2:List Int):Option (Int×Int):=
 (bif x.Op==1 then
  some true
 else
  some (x.Op==4)).bind fun v1=>
 bif v1 then
  (a0u n names x.Name).bind fun v2=>
  bif !v2 then
   some (0,11)
  else
   bif x.Op==4 then
    some (2,0)
   else
    some (1,0)
 else
  (bif x.Op==0 then
   some true
  else
   bif x.Op==2 then
    some true
   else
    some (x.Op==3)).bind fun v3=>
  bif v3 then
   some (1,0)
  else
   (bif x.Op==12 then
    some true
   else
    some (x.Op==13)).bind fun v4=>
   bif v4 then
    (a3j n 0 l2 1).bind fun v5=>
    some (v5.1,v5.2)
   else
    (bif x.Op==14 then
     some true
    else
     bif x.Op==15 then
      some true
     else
      some (x.Op==16)).bind fun v6=>
    bif v6 then
     (a3j n 0 l2 0).bind fun v7=>
     some (v7.1,v7.2)
    else
     bif x.Op==11 then
      (ix l2 0).bind fun ex=>
      bif ex !=0 then
       some (0,13)
      else
       (ix l2 1).bind fun w2=>
       (ix l2 2).bind fun w3=>
       (a1e n w2 w3).bind fun v8=>
       some (v8.1,v8.2)
     else
      bif x.Op==7 then
       (ix l2 0).bind fun w4=>
       (bif w4==2 then
        (ix l2 1).bind fun w7=>
        some (w7==2)
       else
        some false).bind fun v9=>
       bif v9 then
        some (0,13)
       else
        (ix l2 0).bind fun w5=>
        (ix l2 1).bind fun w6=>
        (a1e n w5 w6).bind fun v10=>
        some (v10.1,v10.2)
      else
       bif x.Op==8 then
        (ix x.Args 1).bind fun w8=>
        bif w8.Op !=0 then
         some (0,13)
        else
         bif w8.N==0 then
          some (0,14)
         else
          (ix l2 0).bind fun w9=>
          (ix l2 1).bind fun w0=>
          (a1e n w9 w0).bind fun v11=>
          some (v11.1,v11.2)
       else
        (ix l2 0).bind fun w1=>
        (ix l2 1).bind fun w2=>
        (a1e n w1 w2).bind fun v12=>
        some (v12.1,v12.2)
def refK(names:List Rt.Bs)(x:M.Expr)(n:Nat)(l2:List Int):Option (Int×Int):=
 (bif x.Op==1 then
  some true
 else
  some (x.Op==4)).bind fun v1=>
 (bif v1 then
  (a8u n names x.Name).bind fun v6=>
  some (decide (v6<0))
 else
  some false).bind fun v2=>
 bif v2 then
  some (0,11)
 else
  bif x.Op==4 then
   some (2,0)
  else
   bif(l2.length:Int)==0 then
    some (1,0)
   else
    bif x.Op==8 then
     (ix x.Args 1).bind fun ex=>
     (bif ex.Op==0 then
      (ix x.Args 1).bind fun ex3=>
      some (ex3.N==0)
     else
      some false).bind fun v3=>
     bif v3 then
      some (0,14)
     else
      (ix x.Args 1).bind fun ex2=>
      bif ex2.Op !=0 then
       some (0,13)
      else
       (a3n n x.Op l2).bind fun v4=>
       bif !v4.2 then
        some (0,13)
       else
        some (v4.1,0)
    else
     (a3n n x.Op l2).bind fun v5=>
     bif !v5.2 then
      some (0,13)
     else
      some (v5.1,0)
theorem c4i(n:Nat)(x:M.Expr)(names:List Rt.Bs):tariff_typed (n+1) x names=tariff_typed_L1 n (tariff_typed n) x names (d6k names x n) n 0 []:=rfl
theorem d2w(n:Nat)(x:M.Expr)(names:List Rt.Bs):ref35_typed (n+1) x names=ref35_typed_L1 n (ref35_typed n) x names (refK names x n) n 0 []:=rfl
def c5g(p q:Int):Int×Int:=bif p==0||q==0 then(0,13)else(c1r p q,0)
theorem b3t(p q:Int):Ty (c5g p q):=by
 unfold c5g
 cases p==0||q==0
 ·exact fun _=>d1b p q
 ·exact fun h=>by cases h
theorem b1l(p q:Int):Ev (fun n=>(a1e n p q).bind fun v=>some (v.1,v.2)) (c5g p q):=Ev.all fun n=>by rw [f0e];rfl
theorem ty0(b:Bool):Ty (bif b then((0:Int),(0:Int))else(0,13)):=by
 cases b
 ·exact fun h=>by cases h
 ·exact fun _=>⟨by decide,by decide⟩
theorem c3e{o p q:Int}(ho:o=5∨o=6∨o=8∨o=9∨o=10):Ev (fun n=>(a3n n o [p,q]).bind fun v5=>bif !v5.2 then some ((0:Int),(13:Int))else some (v5.1,0)) (c5g p q):=Ev.all fun n=>by
 rw [e4m n p q ho]
 unfold c5g
 cases hp:p==0<;>cases hq:q==0<;>simp [bne,hp,hq]
theorem e1z(p q w:Int):Ev (fun n=>(a3j n 0 [p,q] w).bind fun v5=>some (v5.1,v5.2)) (bif p==w&&q==w then(0,0)else(0,13)):=Ev.bind (all2 0 p q w) (Ev.pure _)
theorem f0z(p w:Int):Ev (fun n=>(a3j n 0 [p] w).bind fun v5=>some (v5.1,v5.2)) (bif p==w then(0,0)else(0,13)):=Ev.bind (all1 0 p w) (Ev.pure _)
theorem fitb{o:Int}{l:List Int}{b:Bool}(h:∀n,a3n n o l=some (0,b)):Ev (fun n=>(a3n n o l).bind fun v5=>bif !v5.2 then some ((0:Int),(13:Int))else some (v5.1,0)) (bif b then(0,0)else(0,13)):=
 Ev.all fun n=>by rw [h n];cases b<;>rfl
theorem d6b{x:M.Expr}(hx:Fit x)(names:List Rt.Bs)(hn:names.length<4611686018427387904):Shp x->∃r,Ev (fun n=>tariff_typed n x names) r/\Ev (fun n=>ref35_typed n x names) r/\Ty r:=by
 induction hx with
 | @mk o k s l hl _ ih=>
  intro hs
  cases hs with
  |mk h1 h2 h3 h4=>
  rcases d6q ⟨o,k,s,l⟩ names hl l 0 [] rfl rfl (by simp) (by simp) (fun y hy=>ih y hy (h4 y hy))with⟨N,e,he,hL⟩|⟨N,l2,hl2,ht,hL⟩
  ·exact⟨(0,e),Ev.suc (fun n=>c4i n _ _) ⟨N+l.length+1,fun n hn=>(hL n n _ (fun _=>none) (by omega) (by omega)).1⟩,Ev.suc (fun n=>d2w n _ _) ⟨N+l.length+1,fun n hn=>(hL n n (fun _=>none) _ (by omega) (by omega)).2⟩,fun h=>absurd h he⟩
  have out:∀r:Int×Int,Ty r->Ev (fun n=>d6k names ⟨o,k,s,l⟩ n l2) r->Ev (fun n=>refK names ⟨o,k,s,l⟩ n l2) r->∃r,Ev (fun n=>tariff_typed n ⟨o,k,s,l⟩ names) r/\Ev (fun n=>ref35_typed n ⟨o,k,s,l⟩ names) r/\Ty r:=by
   intro r hty hf hg
   exact⟨r,Ev.suc (fun n=>c4i n _ _) (Ev.from (N+l.length+1) (fun n hn=>(hL n n _ (fun _=>none) (by omega) (by omega)).1) hf),Ev.suc (fun n=>d2w n _ _) (Ev.from (N+l.length+1) (fun n hn=>(hL n n (fun _=>none) _ (by omega) (by omega)).2) hg),hty⟩
  replace hl2:(l2.length:Int)=b7s o:=by rw [<-h3];exact congrArg Int.ofNat hl2
  clear hL
  have len0:(l2.length:Int)=0->l2= []:=fun h=>List.length_eq_zero_iff.1 (by omega)
  have len1:(l2.length:Int)=1->∃p,l2= [p]:=fun h=>by
   match l2,h with
   | [p],_=>exact⟨p,rfl⟩
   | [],h=>simp at h
   |_::_::_,h=>simp at h;omega
  have len2:(l2.length:Int)=2->∃p q,l2= [p,q]/\(0<=p/\p<=2)/\(0<=q/\q<=2):=fun h=>by
   match l2,h,ht with
   | [p,q],_,ht=>exact⟨p,q,rfl,ht p (by simp),ht q (by simp)⟩
   | [],h,_=>simp at h
   | [_],h,_=>simp at h
   |_::_::_::_,h,_=>simp at h;omega
  have len3:(l2.length:Int)=3->∃p q r,l2= [p,q,r]:=fun h=>by
   match l2,h with
   | [p,q,r],_=>exact⟨p,q,r,rfl⟩
   | [],h=>simp at h
   | [_],h=>simp at h
   | [_,_],h=>simp at h
   |_::_::_::_::_,h=>simp at h;omega
  have hc:o=0∨o=1∨o=2∨o=3∨o=4∨o=5∨o=6∨o=7∨o=8∨o=9∨o=10∨o=11∨o=12∨o=13∨o=14∨o=15∨o=16:=by omega
  have lf:∀t:Int,0<=t->t<=2->Ty (bif !decide (s∈names)then((0:Int),(11:Int))else(t,0)):=by
   intro t h5 h6
   cases decide (s∈names)
   ·exact fun h=>by cases h
   ·exact fun _=>⟨h5,h6⟩
  have t10:Ty ((1:Int),(0:Int)):=fun _=>⟨by decide,by decide⟩
  rcases hc with rfl|rfl|rfl|rfl|rfl|rfl|rfl|rfl|rfl|rfl|rfl|rfl|rfl|rfl|rfl|rfl|rfl
  ·obtain rfl:=len0 hl2
   exact out (1,0) t10 (Ev.all fun n=>rfl) (Ev.all fun n=>rfl)
  ·obtain rfl:=len0 hl2
   refine out _ (lf 1 (by decide) (by decide)) ?_ ?_
   ·exact Ev.bind (f:=fun n v2=>bif !v2 then some (0,11)else some (1,0)) (b1d s hn) (by cases decide (s∈names)<;>exact Ev.pure _)
   ·exact Ev.bind (f:=fun n v2=>bif v2 then some (0,11)else some (1,0)) (c9r s hn) (by cases decide (s∈names)<;>exact Ev.pure _)
  ·obtain rfl:=len0 hl2
   exact out (1,0) t10 (Ev.all fun n=>rfl) (Ev.all fun n=>rfl)
  ·obtain rfl:=len0 hl2
   exact out (1,0) t10 (Ev.all fun n=>rfl) (Ev.all fun n=>rfl)
  ·obtain rfl:=len0 hl2
   refine out _ (lf 2 (by decide) (by decide)) ?_ ?_
   ·exact Ev.bind (f:=fun n v2=>bif !v2 then some (0,11)else some (2,0)) (b1d s hn) (by cases decide (s∈names)<;>exact Ev.pure _)
   ·exact Ev.bind (f:=fun n v2=>bif v2 then some (0,11)else some (2,0)) (c9r s hn) (by cases decide (s∈names)<;>exact Ev.pure _)
  ·obtain⟨p,q,rfl,_,_⟩:=len2 hl2
   exact out _ (b3t p q) (b1l p q) (c3e (o:=5) (by decide))
  ·obtain⟨p,q,rfl,_,_⟩:=len2 hl2
   exact out _ (b3t p q) (b1l p q) (c3e (o:=6) (by decide))
  ·obtain⟨p,q,rfl,hp,hq⟩:=len2 hl2
   refine out (bif p==2&&q==2 then(0,13)else c5g p q) ?_ ?_ ?_
   ·cases p==2&&q==2
    ·exact b3t p q
    ·exact fun h=>by cases h
   ·show Ev (fun n=>(bif p==2 then some (q==2)else some false).bind fun v9=>bif v9 then some (0,13)else(a1e n p q).bind fun v=>some (v.1,v.2)) _
    refine Ev.bind (a:=p==2&&q==2) (Ev.all fun n=>andT _ _) ?_
    cases p==2&&q==2
    ·exact Ev.else rfl (b1l p q)
    ·exact Ev.then rfl (Ev.pure _)
   ·show Ev (fun n=>(a3n n 7 [p,q]).bind fun v5=>bif !v5.2 then some ((0:Int),(13:Int))else some (v5.1,0)) _
    refine Ev.all fun n=> ?_
    rw [e5p]
    unfold c5g
    have hp3:p=0∨p=1∨p=2:=by omega
    have hq3:q=0∨q=1∨q=2:=by omega
    rcases hp3 with rfl|rfl|rfl<;>rcases hq3 with rfl|rfl|rfl<;>rfl
  ·obtain⟨p,q,rfl,_,_⟩:=len2 hl2
   have h8:(l.length:Int)=2:=h3
   obtain⟨u,v,rfl⟩:∃u v,l= [u,v]:=by
    match l,h8 with
    | [u,v],_=>exact⟨u,v,rfl⟩
    | [],h=>simp at h
    | [_],h=>simp at h
    |_::_::_::_,h=>simp at h;omega
   refine out (bif v.Op !=0 then(0,13)else bif v.N==0 then(0,14)else c5g p q) ?_ ?_ ?_
   ·cases v.Op !=0
    ·cases v.N==0
     ·exact b3t p q
     ·exact fun h=>by cases h
    ·exact fun h=>by cases h
   ·show Ev (fun n=>bif v.Op !=0 then some (0,13)else bif v.N==0 then some (0,14)else(a1e n p q).bind fun v=>some (v.1,v.2)) _
    cases v.Op !=0
    ·cases v.N==0
     ·exact Ev.else rfl (Ev.else rfl (b1l p q))
     ·exact Ev.else rfl (Ev.then rfl (Ev.pure _))
    ·exact Ev.then rfl (Ev.pure _)
   ·show Ev (fun n=>(bif v.Op==0 then some (v.N==0)else some false).bind fun v3=>bif v3 then some (0,14)else bif v.Op !=0 then some (0,13)else(a3n n 8 [p,q]).bind fun v5=>bif !v5.2 then some ((0:Int),(13:Int))else some (v5.1,0)) _
    refine Ev.bind (a:=v.Op==0&&v.N==0) (Ev.all fun n=>andT _ _) ?_
    unfold bne
    cases v.Op==0
    ·exact Ev.else rfl (Ev.then rfl (Ev.pure _))
    ·cases v.N==0
     ·exact Ev.else rfl (Ev.else rfl (c3e (o:=8) (by decide)))
     ·exact Ev.then rfl (Ev.pure _)
  ·obtain⟨p,q,rfl,_,_⟩:=len2 hl2
   exact out _ (b3t p q) (b1l p q) (c3e (o:=9) (by decide))
  ·obtain⟨p,q,rfl,_,_⟩:=len2 hl2
   exact out _ (b3t p q) (b1l p q) (c3e (o:=10) (by decide))
  ·obtain⟨p,q,r,rfl⟩:=len3 hl2
   refine out (bif p !=0 then(0,13)else c5g q r) ?_ ?_ ?_
   ·cases p !=0
    ·exact b3t q r
    ·exact fun h=>by cases h
   ·show Ev (fun n=>bif p !=0 then some (0,13)else(a1e n q r).bind fun v=>some (v.1,v.2)) _
    cases p !=0
    ·exact Ev.else rfl (b1l q r)
    ·exact Ev.then rfl (Ev.pure _)
   ·show Ev (fun n=>(a3n n 11 [p,q,r]).bind fun v5=>bif !v5.2 then some ((0:Int),(13:Int))else some (v5.1,0)) _
    refine Ev.all fun n=> ?_
    rw [f0b]
    unfold c5g
    cases hp:p==0<;>cases hq:q==0<;>cases hr:r==0<;>simp [bne,hp,hq,hr]
  ·obtain⟨p,q,rfl,_,_⟩:=len2 hl2
   exact out _ (ty0 (p==1&&q==1)) (e1z p q 1) (fitb fun n=>(d2g n p q).1)
  ·obtain⟨p,q,rfl,_,_⟩:=len2 hl2
   exact out _ (ty0 (p==1&&q==1)) (e1z p q 1) (fitb fun n=>(d2g n p q).2)
  ·obtain⟨p,rfl⟩:=len1 hl2
   exact out _ (ty0 (p==0)) (f0z p 0) (fitb fun n=>e4x n p)
  ·obtain⟨p,q,rfl,_,_⟩:=len2 hl2
   exact out _ (ty0 (p==0&&q==0)) (e1z p q 0) (fitb fun n=>(d5z n p q).1)
  ·obtain⟨p,q,rfl,_,_⟩:=len2 hl2
   exact out _ (ty0 (p==0&&q==0)) (e1z p q 0) (fitb fun n=>(d5z n p q).2)
theorem Check_2{t:Tariff}(hx:Fit t.Fee)(names:List Rt.Bs)(hn:names.length<4611686018427387904):∃e,Ev (fun n=>a3v n t names) e/\Ev (fun n=>d0y n t names) e:=by
 obtain⟨b,w1,w2,hS⟩:=e0m hx
 cases hnm:named names with
 |false=>exact⟨1,Ev.bind ((b9c hn).eq hnm) (Ev.then rfl (Ev.pure _)),Ev.bind ((c2b names).eq hnm) (Ev.then rfl (Ev.pure _))⟩
 |true=>
  cases b with
  |false=>exact⟨2,Ev.bind ((b9c hn).eq hnm) (Ev.else rfl (Ev.bind w1 (Ev.then rfl (Ev.pure _)))),Ev.bind ((c2b names).eq hnm) (Ev.else rfl (Ev.bind w2 (Ev.then rfl (Ev.pure _))))⟩
  |true=>
   obtain⟨r,r1,r2,_⟩:=d6b hx names hn (hS rfl)
   refine⟨bif(r.2==0&&r.1==0)then 13 else r.2,Ev.bind ((b9c hn).eq hnm) (Ev.else rfl (Ev.bind w1 (Ev.else rfl (Ev.bind r1 (Ev.bind (Ev.all fun n=>andT _ _) ?_))))),Ev.bind ((c2b names).eq hnm) (Ev.else rfl (Ev.bind w2 (Ev.else rfl (Ev.bind r2 (Ev.bind (Ev.all fun n=>andT _ _) ?_)))))⟩<;>
   (cases r.2==0&&r.1==0<;>exact Ev.pure _)
end Go.Proofs.YthaegflpecbfgaaGreatDoor.Ta
namespace Go.Proofs.YthaegflpecbfgaaGreatDoor.Fm
open Go Rt M Ta Tp D Fe
theorem QInt0:Ev (fun n=>a6a n 0) (toF 0):=d7q (x:=0) (by decide) (by decide)
theorem QInt1:Ev (fun n=>a6a n 1) (toF 1):=d7q (x:=1) (by decide) (by decide)
theorem e9s{α β:Type}{h:α->β}{l p q:List α}{x:α}(hx:l=p++x::q):ix (l.map h) (p.length:Int)=some (h x):=by
 rw [hx,List.map_append,List.map_cons]
 exact a5s _ _ _ (by rw [List.length_map])
theorem more{α:Type}{l p q:List α}{x:α}(hx:l=p++x::q):decide ((p.length:Int)<(l.length:Int))=true:=by
 rw [hx,List.length_append,List.length_cons]
 exact decide_eq_true (by omega)
theorem e3z(k:Nat):decide ((k:Int)<(k:Int))=false:=decide_eq_false (by omega)
end Go.Proofs.YthaegflpecbfgaaGreatDoor.Fm
namespace Go.Proofs.YthaegflpecbfgaaGreatDoor.Fm
open Go Rt M Ta Tp D Fe
section
variable{A B nn:Nat}{f g:RFm}
end
theorem d4l{names:List Rt.Bs}(hn:names.length<4611686018427387904)(hnm:named names=true){x:M.Expr}(hx:Fit x)(hf:Frm x){k:Int}(ht:Typ names x k):Ev (fun n=>b3a n x names) (k,0):=by
 unfold b3a
 refine Ev.bind (c2b names) (Ev.else (by rw [hnm];rfl) ?_)
 obtain⟨b,e1,e2,h3⟩:=e3w hx
 obtain⟨b',e1',hb⟩:=e0f hx
 obtain rfl:=e1.uniq e1'
 obtain rfl:=hb.2 hf
 refine Ev.bind e2 (Ev.else rfl ?_)
 obtain⟨r,t1,t2,_⟩:=d6b hx names hn (h3 rfl)
 obtain⟨r',t1',hr⟩:=c6q hx names hn hf.2
 obtain rfl:=t1.uniq t1'
 obtain rfl:=hr.2 k ht
 exact Ev.bind t2 (Ev.pure _)
end Go.Proofs.YthaegflpecbfgaaGreatDoor.Fm
namespace Go.Proofs.YthaegflpecbfgaaGreatDoor.Fm
open Go Rt M Ta Tp D Fe
theorem e5q(t:Tariff)(names:List Rt.Bs)(f:Facts)(weights:List Frac):Tt (fun b=>b=true->FewS t names f weights) (fun n=>b5h n t names f weights):=by
 unfold b5h
 refine Tt.bind (f0w t names f weights) fun b hb=> ?_
 refine Tt.bind (P:=fun c=>c=true->b=true) (Tt.bif (fun h=>Tt.bind (e3r t.Fee 30 12 (by decide) (by decide) (by decide) (by decide)) fun c _=>Tt.pure fun _=>h) (fun _=>Tt.pure fun h=>by cases h)) fun c hc=>Tt.pure fun h=>hb (hc h)
structure FewX(x:M.Form):Prop where
 lim:LimX 3 x
 co:∀l,l∈x.Pieces->∀a,a∈l->a.Coefs.length<=8
theorem sane37:Ev b3c true:=⟨400,fun n hn=>by
 obtain⟨m,rfl⟩:∃m,n=m+400:=⟨n-400,by omega⟩
 kernel_rfl⟩
end Go.Proofs.YthaegflpecbfgaaGreatDoor.Fm
namespace Go.Proofs.YthaegflpecbfgaaGreatDoor.Fm
open Go Rt M Ta Tp D Fe
def N6(o:Option (Int×Int)):Prop:=∀r,o=some r->r.2≠6
theorem n6b{α:Type}{o:Option α}{f:α->Option (Int×Int)}(h:∀a,o=some a->N6 (f a)):N6 (o.bind f):=fun r hr=>by
 obtain⟨a,h1,h2⟩:=Option.bind_eq_some_iff.1 hr
 exact h a h1 r h2
theorem n6i{b:Bool}{x y:Option (Int×Int)}(h:N6 x)(k:N6 y):N6 (bif b then x else y):=by cases b;exact k;exact h
theorem n6p{a b:Int}(h:b≠6):N6 (some (a,b)):=fun r hr=>by cases hr;exact h
theorem n6q{o:Option (Int×Int)}(h:N6 o):N6 (o.bind fun v=>some (v.1,v.2)):=n6b fun a ha=>n6p (h a ha)
theorem all6(n:Nat)(k:Int)(l:List Int)(w:Int):N6 (a3j n k l w):=by
 unfold a3j
 repeat first|exact n6p (by decide)|refine n6b fun _ _=> ?_|refine n6i ?_ ?_
theorem f1m(n:Nat)(a b:Int):N6 (a1e n a b):=by
 unfold a1e
 repeat first|exact n6p (by decide)|refine n6b fun _ _=> ?_|refine n6i ?_ ?_
theorem typed6:∀(n:Nat)(x:M.Expr)(names:List Rt.Bs),N6 (tariff_typed n x names)
 |0,_,_=>fun r hr=>by cases hr
 |n+1,x,names=>by
  have ih:=typed6 n
  have L:∀(K:List Int->Option (Int×Int)),(∀l,N6 (K l))->∀(m:Nat)(i:Int)(l:List Int),N6 (tariff_typed_L1 n (tariff_typed n) x names K m i l):=by
   intro K hK m
   induction m with
   |zero=>exact fun _ _ r hr=>by cases hr
   |succ m hm=>
    intro i l
    rw [tariff_typed_L1_s]
    refine n6i (n6b fun y _=>n6b fun v hv=>n6i (n6p (ih _ _ v hv)) (n6b fun l3 _=>hm _ _)) (hK l)
  rw [tariff_typed_s]
  refine L _ (fun l=> ?_) _ _ _
  repeat first|exact n6p (by decide)|exact n6q (all6 _ _ _ _)|exact n6q (f1m _ _ _)|refine n6b fun _ _=> ?_|refine n6i ?_ ?_
theorem e9n{n:Nat}{t:Tariff}{names:List Rt.Bs}{e:Int}(h:a3v n t names=some e):e≠6:=by
 have key:N6 ((a3v n t names).map fun e=>(0,e)):=by
  unfold a3v
  have mb:∀{α β γ:Type}(o:Option α)(f:α->Option β)(g:β->γ),(o.bind f).map g=o.bind fun a=>(f a).map g:=fun o f g=>by cases o<;>rfl
  have mi:∀{α β:Type}(b:Bool)(x y:Option α)(g:α->β),(bif b then x else y).map g=bif b then x.map g else y.map g:=fun b x y g=>by cases b<;>rfl
  simp only [mb,mi,Option.map_some]
  refine n6b fun _ _=>n6i (n6p (by decide)) (n6b fun _ _=>n6i (n6p (by decide)) (n6b fun v hv=>n6b fun _ _=>n6i (n6p (by decide)) (n6p (typed6 _ _ _ v hv))))
 exact key (0,e) (by rw [h];rfl)
end Go.Proofs.YthaegflpecbfgaaGreatDoor.Fm
namespace Go.Proofs.YthaegflpecbfgaaGreatDoor.Fm
open Go Rt M Ta Tp D Fe
theorem d9r{y:M.Expr}:∀{l:List M.Expr},y∈l->dep y<=deps l/\cnt y<=cnts l
 |x::l,h=>by
  show dep y<=max (dep x) (deps l)/\cnt y<=cnt x+cnts l
  rcases List.mem_cons.1 h with rfl|h
  ·omega
  ·have:=d9r h;omega
theorem a7w{names:List Rt.Bs}{x y:M.Expr}{k:Int}(hf:Frm x)(hy:y∈x.Args)(ht:Typ names y k):Frm y:=by
 obtain⟨o,m,s,l⟩:=x
 have h:=d9r hy
 have h1:dep ⟨o,m,s,l⟩=deps l+1:=rfl
 have h2:cnt ⟨o,m,s,l⟩=cnts l+1:=rfl
 have h3:=hf.1
 rw [h1,h2]at h3
 have h4:([⟨o,m,s,l⟩]:List M.Expr).length=1:=rfl
 exact⟨⟨by have:=h.1;change dep y<=deps l at this;omega,by have:=h.2;change cnt y<=cnts l at this;omega⟩,ht.shx⟩
section
variable{names:List Rt.Bs}{fc:Facts}(hf:FR names fc)(hnm:named names=true)(hn:names.length<=1000)
def St(names:List Rt.Bs)(fc:Facts)(x:M.Expr):Prop:=∃a:RA,(mk names (E0 names fc) x).2=some [[a]]
def NoC(names:List Rt.Bs)(o:Int)(P:M.Expr->Prop)(l:List M.Expr):Prop:=∀y,y∈l->P y/\(o=9∨o=10->∀k,Typ names y k->k≠2)
include hnm hn
theorem b0t{x:M.Expr}{P:M.Expr->Prop}(hx:Fit x)(hfr:Frm x)(ht:∀y,y∈x.Args->∃k,Typ names y k)(ih:∀y,y∈x.Args->Tt (fun b=>b=false->P y) (fun n=>law37_curved n y names)):
 Tt (fun b=>b=false->NoC names x.Op P x.Args) (fun n=>law37_curved n x names):=by
 have hxl:x.Args.length<=1000000:=by cases hx with|mk h _=>exact h
 refine Tt.suc (fun n=>b7d n _ _) ?_
 have L:=d6l (xs:=x.Args) (σ:=Unit) (ρ:=Bool) (κ:=Option Bool) (L:=fun n K m i _=>law37_curved_L1 n (law37_curved n) x names K m i) (fun K _=>K) (fun p _=>NoC names x.Op P p) (fun r=>r=true) (fun p y q s hxs hi=> ?_) (fun s _=>⟨0,fun n K m _=>by rw [law37_curved_L1_s,e3z];rfl⟩) (s0:=()) (fun y hy=>by cases hy)
 ·rcases L with⟨_,hs,N,L⟩|⟨r,rfl,N,L⟩
  ·exact Tt.of ⟨N,fun n hn=>L n _ hn⟩ (fun _=>hs)
  ·exact Tt.of ⟨N,fun n hn=>L n _ hn⟩ (fun h=>by cases h)
 ·have hy:y∈x.Args:=by rw [hxs];simp
  have h5:p.length<4611686018427387904:=by
   have:p.length<x.Args.length:=by rw [hxs];simp
   omega
  obtain⟨k,tk⟩:=ht y hy
  have ety:=d4l (names:=names) (by omega) hnm (a7v hx hy) (a7w hfr hy tk) tk
  obtain⟨N1,e1⟩:=ety
  obtain⟨b,⟨N2,e2⟩,hb⟩:=ih y hy
  dsimp only at e1 e2
  have i1:ix x.Args (p.length:Int)=some y:=by rw [hxs];exact a5s _ _ _ rfl
  have step:∀n K m,max N1 N2<=n->law37_curved_L1 n (law37_curved n) x names K (m+1) (p.length:Int)=bif(((x.Op==9||x.Op==10)&&k==2)||b)then some true else law37_curved_L1 n (law37_curved n) x names K m ((p.length+1:Nat):Int):=by
   intro n K m hn
   rw [law37_curved_L1_s,more hxs,cond_true,i1,Option.bind_some,e1 n (by omega),Option.bind_some,Option.bind_some,e2 n (by omega),Option.bind_some,Rt.inc64 h5]
   cases(x.Op==9)<;>cases(x.Op==10)<;>cases(k==2)<;>cases b<;>rfl
  cases hc:(((x.Op==9||x.Op==10)&&k==2)||b)with
  |true=>exact .inr ⟨true,rfl,max N1 N2,fun n K m hn=>by rw [step n K m hn,hc];rfl⟩
  |false=>
   refine .inl ⟨(),fun z hz=> ?_,max N1 N2,fun n K m hn=>by rw [step n K m hn,hc];rfl⟩
   rcases List.mem_append.1 hz with hz|hz
   ·exact hi z hz
   ·obtain rfl:=List.mem_singleton.1 hz
    obtain⟨c1,c2⟩:=Bool.or_eq_false_iff.1 hc
    refine⟨hb c2,fun ho k' tk'=> ?_⟩
    have ety':=d4l (names:=names) (by omega) hnm (a7v hx hy) (a7w hfr hy tk') tk'
    have hkk:(k,(0:Int))=(k',0):=Ev.uniq ⟨N1,e1⟩ ety'
    have:k=k':=(Prod.mk.inj hkk).1
    subst this
    intro h2
    subst h2
    rcases ho with ho|ho
    ·rw [ho]at c1;cases c1
    ·rw [ho]at c1;cases c1
include hf
omit hnm in
theorem c1a{x:M.Expr}(ht:Typ names x 1)(hc:cnt x<=1000):St names fc x:=⟨_,(b4r hf (show names.length<4611686018427387904 by omega) ht hc (by decide)).2.1 rfl⟩
theorem e2o{x:M.Expr}{k:Int}(ht:Typ names x k):Fit x->Frm x->Tt (fun b=>b=false->k≠0->St names fc x) (fun n=>law37_curved n x names):=by
 have c2:∀(o n:Int)(s:Rt.Bs)(a b:M.Expr),cnt ⟨o,n,s,[a,b]⟩=cnt a+cnt b+1:=fun o n s a b=>by show cnt a+(cnt b+0)+1=_;omega
 have ht0:=ht
 have two:∀{o m:Int}{s:Rt.Bs}{a b:M.Expr}{p q:Int}{R:Prop},Typ names a p->Typ names b q->(Fit a->Frm a->Tt (fun b=>b=false->p≠0->St names fc a) (fun n=>law37_curved n a names))->(Fit b->Frm b->Tt (fun c=>c=false->q≠0->St names fc b) (fun n=>law37_curved n b names))->
  Fit ⟨o,m,s,[a,b]⟩->Frm ⟨o,m,s,[a,b]⟩->((p≠0->St names fc a)->(q≠0->St names fc b)->(o=9∨o=10->p≠2/\q≠2)->R)->Tt (fun c=>c=false->R) (fun n=>law37_curved n ⟨o,m,s,[a,b]⟩ names):=by
  intro o m s a b p q R ta tb iha ihb hx hfr hR
  have ha:a∈ [a,b]:=by simp
  have hb:b∈ [a,b]:=by simp
  have key:=b0t (x:=⟨o,m,s,[a,b]⟩) (P:=fun y=>(y=a->p≠0->St names fc a)/\(y=b->q≠0->St names fc b)) hnm hn hx hfr (fun y hy=> ?_) (fun y hy=> ?_)
  ·refine Tt.weak key fun c hc h=> ?_
   have h1:=hc h
   exact hR ((h1 a ha).1.1 rfl) ((h1 b hb).1.2 rfl) (fun ho=>⟨(h1 a ha).2 ho p ta,(h1 b hb).2 ho q tb⟩)
  ·have hy:y=a∨y=b:=by simpa using hy
   rcases hy with rfl|rfl
   ·exact⟨p,ta⟩
   ·exact⟨q,tb⟩
  ·have ra:=iha (a7v hx ha) (a7w hfr ha ta)
   have rb:=ihb (a7v hx hb) (a7w hfr hb tb)
   have hy:y=a∨y=b:=by simpa using hy
   obtain⟨u,eu,hu⟩:=ra
   obtain⟨v,ev,hv⟩:=rb
   rcases hy with rfl|rfl
   ·refine⟨u,eu,fun h=>⟨fun _=>hu h,fun hyb=> ?_⟩⟩
    subst hyb
    obtain rfl:=eu.uniq ev
    exact hv h
   ·refine⟨v,ev,fun h=>⟨fun hya=> ?_,fun _=>hv h⟩⟩
    subst hya
    obtain rfl:=ev.uniq eu
    exact hu h
 induction ht with
 |num h0 h1=>intro hx hfr;exact Tt.weak (b0t (P:=fun _=>True) hnm hn hx hfr (fun y hy=>by cases hy) (fun y hy=>by cases hy)) fun b _ _ _=>c1a hf hn ht0 (Nat.le_trans hfr.1.2 (by decide))
 |lifts h0 h1=>intro hx hfr;exact Tt.weak (b0t (P:=fun _=>True) hnm hn hx hfr (fun y hy=>by cases hy) (fun y hy=>by cases hy)) fun b _ _ _=>c1a hf hn ht0 (Nat.le_trans hfr.1.2 (by decide))
 |pers=>intro hx hfr;exact Tt.weak (b0t (P:=fun _=>True) hnm hn hx hfr (fun y hy=>by cases hy) (fun y hy=>by cases hy)) fun b _ _ _=>c1a hf hn ht0 (Nat.le_trans hfr.1.2 (by decide))
 |flats=>intro hx hfr;exact Tt.weak (b0t (P:=fun _=>True) hnm hn hx hfr (fun y hy=>by cases hy) (fun y hy=>by cases hy)) fun b _ _ _=>c1a hf hn ht0 (Nat.le_trans hfr.1.2 (by decide))
 |wgt h0 h1=>intro hx hfr;exact Tt.weak (b0t (P:=fun _=>True) hnm hn hx hfr (fun y hy=>by cases hy) (fun y hy=>by cases hy)) fun b _ _ _=>⟨_,rfl⟩
 | @ari o a b p q ho ha hb hp hq iha ihb=>
  intro hx hfr
  have hcn:=hfr.1.2
  rw [c2]at hcn
  refine two ha hb (iha ha) (ihb hb) hx hfr fun sa sb hno _=> ?_
  obtain⟨a1,_,_⟩:=b4r hf (show names.length<4611686018427387904 by omega) ha (by omega) hp
  obtain⟨b1,_,_⟩:=b4r hf (show names.length<4611686018427387904 by omega) hb (by omega) hq
  have hw:=wd2 (r12 ha hp) (r12 hb hq)
  have hcond:((mk names (E0 names fc) a).1||(mk names (E0 names fc) b).1)=(wd p q==2):=by rw [a1,b1,hw]
  cases h2:(wd p q==2)with
  |false=>
   have h1:wd p q=1:=by rcases a9h p q with h|h;exact h;rw [h]at h2;cases h2
   rw [h1]at ht0
   exact c1a hf hn ht0 (by rw [c2];omega)
  |true=>
   have h9:o=5∨o=6:=by
    rcases ho with h|h|h|h
    ·exact .inl h
    ·exact .inr h
    ·have:=hno (.inl h)
     rw [hw]at h2;simp only [Bool.or_eq_true,beq_iff_eq]at h2
     rcases h2 with h2|h2
     ·exact absurd h2 this.1
     ·exact absurd h2 this.2
    ·have:=hno (.inr h)
     rw [hw]at h2;simp only [Bool.or_eq_true,beq_iff_eq]at h2
     rcases h2 with h2|h2
     ·exact absurd h2 this.1
     ·exact absurd h2 this.2
   obtain⟨u,hu⟩:=sa hp
   obtain⟨v,hv⟩:=sb hq
   unfold St
   rw [b4p,b0m,if_pos (by rw [hcond,h2]),if_neg (by omega),if_neg (by omega),hu,hv]
   rcases h9 with rfl|rfl
   ·exact⟨addA u v,rfl⟩
   ·exact⟨addA u (mulA (-1) v),rfl⟩
 | @mul a b p q ha hb hp hq hpq iha ihb=>
  intro hx hfr
  have hcn:=hfr.1.2
  rw [c2]at hcn
  refine two ha hb (iha ha) (ihb hb) hx hfr fun sa sb hno _=> ?_
  obtain⟨a1,_,_⟩:=b4r hf (show names.length<4611686018427387904 by omega) ha (by omega) hp
  obtain⟨b1,_,_⟩:=b4r hf (show names.length<4611686018427387904 by omega) hb (by omega) hq
  have hw:=wd2 (r12 ha hp) (r12 hb hq)
  have hcond:((mk names (E0 names fc) a).1||(mk names (E0 names fc) b).1)=(wd p q==2):=by rw [a1,b1,hw]
  have prod:∀(w:RA)(c:Rat),∃z:RA,b9a names.length [[w]] c=some [[z]]:=by
   intro w c
   unfold b9a
   by_cases h0:c=0
   ·rw [if_pos h0];exact⟨_,rfl⟩
   ·rw [if_neg h0]
    by_cases h1:0<c
    ·rw [if_pos h1];exact⟨_,rfl⟩
    ·rw [if_neg h1];exact⟨_,rfl⟩
  cases h2:(wd p q==2)with
  |false=>
   have h1:wd p q=1:=by rcases a9h p q with h|h;exact h;rw [h]at h2;cases h2
   rw [h1]at ht0
   exact c1a hf hn ht0 (by rw [c2];omega)
  |true=>
   obtain⟨u,hu⟩:=sa hp
   obtain⟨v,hv⟩:=sb hq
   unfold St
   rw [b4p,b0m,if_pos (by rw [hcond,h2]),if_pos rfl]
   by_cases hA:(mk names (E0 names fc) a).1=true
   ·rw [if_pos hA,hu];exact prod u _
   ·rw [if_neg hA,hv];exact prod v _
 | @div a m p ha hp h1 h2 iha=>
  intro hx hfr
  have hcn:=hfr.1.2
  rw [c2]at hcn
  have tm:Typ names ⟨0,m,[],[]⟩ 1:=Typ.num (by omega) h2
  refine two ha tm (iha ha) (fun hx hfr=>Tt.weak (b0t (P:=fun _=>True) hnm hn hx hfr (fun y hy=>by cases hy) (fun y hy=>by cases hy)) fun b _ _ _=>c1a hf hn tm (Nat.le_trans hfr.1.2 (by decide))) hx hfr fun sa _ hno _=> ?_
  obtain⟨a1,_,_⟩:=b4r hf (show names.length<4611686018427387904 by omega) ha (by omega) hp
  have hb:(mk names (E0 names fc) ⟨0,m,[],[]⟩).1=false:=rfl
  rcases r12 ha hp with rfl|rfl
  ·exact c1a hf hn ht0 (by rw [c2];omega)
  ·obtain⟨u,hu⟩:=sa hp
   unfold St
   rw [b4p,b0m,if_pos (by rw [a1,hb];decide),if_neg (by decide),if_pos rfl,hu]
   exact⟨_,rfl⟩
 | @ite c a b p q hc0 ha hb hp hq ihc iha ihb=>
  intro hx hfr
  have hc3:cnt ⟨11,0,[],[c,a,b]⟩=cnt c+cnt a+cnt b+1:=by show cnt c+(cnt a+(cnt b+0))+1=_;omega
  have hcn:=hfr.1.2
  rw [hc3]at hcn
  have mc:c∈ [c,a,b]:=by simp
  have ma:a∈ [c,a,b]:=by simp
  have mb:b∈ [c,a,b]:=by simp
  obtain⟨u,eu,hu⟩:=iha ha (a7v hx ma) (a7w hfr ma ha)
  obtain⟨v,ev,hv⟩:=ihb hb (a7v hx mb) (a7w hfr mb hb)
  obtain⟨w,ew,hw'⟩:=ihc hc0 (a7v hx mc) (a7w hfr mc hc0)
  have key:=b0t (x:=⟨11,0,[],[c,a,b]⟩) (P:=fun y=>(y=a->St names fc a)/\(y=b->St names fc b)) hnm hn hx hfr (fun y hy=>by
   have hy:y=c∨y=a∨y=b:=by simpa using hy
   rcases hy with rfl|rfl|rfl
   ·exact⟨0,hc0⟩
   ·exact⟨p,ha⟩
   ·exact⟨q,hb⟩) (fun y hy=>by
   have fin:∀{z:Bool},Ev (fun n=>law37_curved n y names) z->Tt (fun d=>d=false->(y=a->St names fc a)/\(y=b->St names fc b)) (fun n=>law37_curved n y names):=fun{z}ez=>⟨z,ez,fun h=>⟨fun e=>by subst e;obtain rfl:=ez.uniq eu;exact hu h hp,fun e=>by subst e;obtain rfl:=ez.uniq ev;exact hv h hq⟩⟩
   have hy:y=c∨y=a∨y=b:=by simpa using hy
   rcases hy with rfl|rfl|rfl
   ·exact fin ew
   ·exact fin eu
   ·exact fin ev)
  refine Tt.weak key fun d hd h _=> ?_
  have h1:=hd h
  obtain⟨x1,hx1⟩:=(h1 a ma).1.1 rfl
  obtain⟨x2,hx2⟩:=(h1 b mb).1.2 rfl
  obtain⟨a1,_,_⟩:=b4r hf (show names.length<4611686018427387904 by omega) ha (by omega) hp
  obtain⟨b1,_,_⟩:=b4r hf (show names.length<4611686018427387904 by omega) hb (by omega) hq
  have hw:=wd2 (r12 ha hp) (r12 hb hq)
  have hcond:((mk names (E0 names fc) a).1||(mk names (E0 names fc) b).1)=(wd p q==2):=by rw [a1,b1,hw]
  have e:mk names (E0 names fc) ⟨11,0,[],[c,a,b]⟩=mkN names 11 [] (num (E0 names fc) ⟨11,0,[],[c,a,b]⟩) [vl (E0 names fc) c,vl (E0 names fc) a,vl (E0 names fc) b] [mk names (E0 names fc) c,mk names (E0 names fc) a,mk names (E0 names fc) b]:=rfl
  unfold St
  rw [e,b9e]
  split
  ·show∃z,(if(vl (E0 names fc) c).2=true then(mk names (E0 names fc) a).2 else(mk names (E0 names fc) b).2)=some [[z]]
   split
   ·exact⟨x1,hx1⟩
   ·exact⟨x2,hx2⟩
  ·exact⟨_,rfl⟩
 |rel ho ha hb iha ihb=>intro hx hfr;exact two ha hb (iha ha) (ihb hb) hx hfr fun _ _ _ h=>absurd rfl h
 | @not a ha iha=>
  intro hx hfr
  have ma:a∈ [a]:=by simp
  exact Tt.weak (b0t (P:=fun _=>True) hnm hn hx hfr (fun y hy=>⟨0,by
   have hy:y=a:=by simpa using hy
   rw [hy];exact ha⟩) (fun y hy=>by
   have hy:y=a:=by simpa using hy
   subst hy
   exact Tt.weak (iha ha (a7v hx ma) (a7w hfr ma ha)) fun _ _ _=>trivial)) fun b _ _ h=>absurd rfl h
 |bin ho ha hb iha ihb=>intro hx hfr;exact two ha hb (iha ha) (ihb hb) hx hfr fun _ _ _ h=>absurd rfl h
end
theorem dot_comm:∀a b:List Rat,dot a b=dot b a
 | [],[]=>rfl
 | [],_::_=>rfl
 |_::_,[]=>rfl
 |x::a,y::b=>by
  show x*y+dot a b=y*x+dot b a
  rw [dot_comm a b,Rat.mul_comm]
theorem e1h{k:Nat}(hk:k<=1000):Ev (fun n=>a8q n (List.replicate k 0)) (List.replicate k (toF 0)):=by
 unfold a8q
 refine d5d (L:=fun n K=>law37_ints_L1 n (List.replicate k 0) K n 0 ([]:List Frac)) (s:=List.replicate k (toF 0)) (K:=fun _ l2=>some l2) ?_ (Ev.pure _)
 have L:=c4s (xs:=List.replicate k (0:Int)) (h:=id) (σ:=List Frac) (ρ:=List Frac) (by simp;omega) (L:=fun n K m i s=>law37_ints_L1 n (List.replicate k 0) K m i s) (B:=fun n i x s k=>(a6a n x).bind fun v1=>(app 64 s [v1]).bind k) (fun n K m i s=>by rw [law37_ints_L1_s,List.map_id]) (fun p=>List.replicate p.length (toF 0)) (fun p x q hx=> ?_) rfl
 ·rw [List.length_replicate]at L;exact L
 ·have hx0:x=0:=(List.mem_replicate.1 (show x∈List.replicate k (0:Int) by rw [hx];simp)).2
  have hpl:p.length<k:=by have:=congrArg List.length hx;rw [List.length_replicate,List.length_append,List.length_cons]at this;omega
  obtain⟨N,e⟩:=QInt0
  dsimp only at e
  refine⟨N,fun n k hn=> ?_⟩
  rw [show id x=0 from hx0,e n hn,Option.bind_some,b0f (by rw [List.length_replicate,List.length_singleton];omega),Option.bind_some,List.length_append,List.length_singleton,List.replicate_succ']
theorem fstraight_ev(t:Tariff)(names:List Rt.Bs)(f:Facts):Ev (fun n=>a5k n t names f) true:=by
 unfold a5k
 refine Ev.bind sane37 ?_
 obtain⟨b,hb,hq⟩:=e5q t names f []
 refine Ev.bind hb ?_
 cases b with
 |false=>exact Ev.then rfl (Ev.pure _)
 |true=>
 refine Ev.else rfl ?_
 have s1:=hq rfl
 have n8:=s1.nl
 have l8:=s1.ll
 obtain⟨e,he,heq,o1,o2,o3⟩:=e9b (f:=f) s1.fit (show names.length<=1000 by omega) (by omega)
 have e6:e≠6:=by obtain⟨N,h⟩:=he;exact e9n (h N (Nat.le_refl _))
 by_cases h:e=0
 rotate_left
 ·refine Ev.bind (o1 h) ?_
  refine Ev.bind (a:=true) (Ev.then (by simpa using h) ((Ev.pure _).eq (by simpa using e6))) ?_
  exact Ev.bind (a:=true) (Ev.then rfl (Ev.pure _)) (Ev.then rfl (Ev.pure _))
 by_cases hr:FR names f
 rotate_left
 ·refine Ev.bind (o2 h hr) ?_
  refine Ev.bind (a:=true) (Ev.then rfl (Ev.pure _)) ?_
  exact Ev.bind (a:=true) (Ev.then rfl (Ev.pure _)) (Ev.then rfl (Ev.pure _))
 obtain⟨a1,a2⟩:=o3 h hr
 have hc:=heq.1 h
 obtain⟨hc1,hc2,k,hk,ht⟩:=heq.1 h
 have hcn:=hc2.2.1.1.2
 obtain⟨c,hcv,hcs⟩:=e2o hr hc1 (show names.length<=1000 by omega) ht s1.fit hc2.2.1
 cases hm:(mk names (E0 names f) t.Fee).2 with
 |none=>
  have:c=true:=by
   cases c with
   |true=>rfl
   |false=>
    obtain⟨x,hx⟩:=hcs rfl hk
    rw [hm]at hx;cases hx
  subst this
  refine Ev.bind (a2 hm) ?_
  refine Ev.bind (a:=false) (Ev.then rfl (Ev.pure _)) ?_
  exact Ev.bind (a:=true) (Ev.else rfl (Ev.bind hcv (Ev.pure _))) (Ev.then rfl (Ev.pure _))
 |some g=>
 refine Ev.bind (a1 g hm) ?_
 refine Ev.bind (a:=false) (Ev.else rfl (Ev.pure _)) ?_
 refine Ev.bind (a:=c) (Ev.else rfl (Ev.bind hcv (Ev.pure _))) ?_
 cases c with
 |true=>exact Ev.then rfl (Ev.pure _)
 |false=>
 refine Ev.else rfl ?_
 obtain⟨x,hx⟩:=hcs rfl hk
 rw [hm]at hx;cases hx
 have is:=(b4r hr (show names.length<4611686018427387904 by omega) ht (by omega) hk).2.2 _ hm
 have hg:Gb names.length 400 [[x]]:=is.gb.mono (by omega)
 have hw:x.2.length=names.length:=hg.gd.wide [x] (by simp) x (by simp)
 have hsx:=hg.gd.sm [x] (by simp) x (by simp)
 refine Ev.bind (a:=false) (Ev.else rfl (Ev.pure _)) (Ev.else rfl ?_)
 refine Ev.step (a:= [toA x]) rfl ?_
 refine Ev.bind (a:=false) (Ev.else rfl (Ev.step (a:= [toA x]) rfl (Ev.step (a:=toA x) rfl ((Ev.pure _).eq ?_)))) (Ev.else rfl ?_)
 ·show(((x.2.map toF).length:Int) !=(names.length:Int))=false
  rw [List.length_map,hw];exact bne_self_eq_false _
 refine Ev.step (a:=List.replicate names.length 0) (c3y (by omega)) ?_
 refine Ev.bind (e1h (show names.length<=1000 by omega)) ?_
 have val:∀ws:List Rat,ws.length=names.length->(∀w,w∈ws->0<=w/\SmF 4 w)->Ev (fun n=>a4l n t names f (ws.map toF)) (toF (x.1+dot x.2 ws),0)/\SmF 3000 (x.1+dot x.2 ws):=by
  intro ws hl hws
  have hrf:=f0v hr hl (fun w hw=>(hws w hw).1)
  obtain⟨e',he',_,v1,v2,v3⟩:=d0c (f:=f) s1.fit (show names.length<=1000 by omega) (show f.Lifts.length<=1000000 by omega) (d9o fun w hw=>(hws w hw).2) (by decide) (by decide) (show(ws.map toF).length<=1000000 by rw [List.length_map];omega)
  obtain rfl:=he.uniq he'
  have hv:=v3 h ws rfl hrf (fun w hw=>(hws w hw).2)
  have ev:fv names f ws t=x.1+dot x.2 ws:=(e5m (is.val ws hl)).uniq (e9t x)
  rw [ev]at hv
  exact hv
 have val0:=val (List.replicate names.length 0) (by simp) (fun w hw=>by obtain⟨_,rfl⟩:=List.mem_replicate.1 hw;exact⟨Rat.le_refl,sm0 (by decide)⟩)
 rw [List.map_replicate,dot_comm,dot_zero,Rat.add_zero]at val0
 have hl0:=b2q val0.2
 refine Ev.bind val0.1 ?_
 refine Ev.bind (a:=false) (Ev.else rfl (Ev.step (a:= [toA x]) rfl (Ev.step (a:=toA x) rfl (Ev.bind (c8y (f:=toF x.1) (g:=toF x.1) (by omega) (by omega)) ((Ev.pure _).eq (by rw [decide_eq_true rfl];rfl)))))) (Ev.else rfl ?_)
 have L:=d6l (xs:=names) (σ:=Unit) (ρ:=Bool) (κ:=Option Bool) (L:=fun n K m i _=>law37_FormStraight_L1 n t names f (toFm [[x]],0) (List.replicate names.length (toF 0)) (toF x.1,0) K m i) (fun K _=>K) (fun _ _=>True) (fun _=>False) (fun p nm q s hxs _=> .inl ⟨(),trivial,?_⟩) (fun s _=>⟨0,fun n K m _=>by rw [law37_FormStraight_L1_s,e3z];rfl⟩) (s0:=()) trivial
 ·rcases L with⟨_,_,N,L⟩|⟨_,hf,_⟩
  ·exact⟨N,fun n hn=>L n _ hn⟩
  ·exact hf.elim
 ·have hp:p.length<names.length:=by rw [hxs];simp
  obtain⟨u,y,w,hv2,hu⟩:=d3w (l:=x.2) (k:=p.length) (by omega)
  have vali:=val ((List.replicate names.length 0).set p.length 1) (by simp) (fun w hw=>by
   rcases List.mem_or_eq_of_mem_set hw with hw|rfl
   ·obtain⟨_,rfl⟩:=List.mem_replicate.1 hw;exact⟨Rat.le_refl,sm0 (by decide)⟩
   ·exact⟨by decide,sm1 (by decide)⟩)
  rw [List.map_set,List.map_replicate,dot_comm,dot_unit names.length p.length x.2 y hw (by rw [hv2,<-hu];simp)]at vali
  have sy:SmF 400 y:=hsx.2 y (by rw [hv2];simp)
  obtain⟨N1,e1⟩:=QInt1
  obtain⟨N2,e2⟩:=vali.1
  obtain⟨N3,e3⟩:=QSub_ev vali.2 val0.2 (by decide)
  have hls:=b2q sy
  obtain⟨N4,e4⟩:=c8y (f:=toF y) (g:=toF y) (by omega) (by omega)
  dsimp only at e1 e2 e3 e4
  refine⟨max N1 (max N2 (max N3 N4)),fun n K m hn=> ?_⟩
  rw [law37_FormStraight_L1_s,more hxs,cond_true,b0f (by rw [List.length_replicate,List.length_nil];omega),Option.bind_some,List.nil_append,e1 n (by omega),Option.bind_some]
  have hix:ix (List.replicate names.length (toF 0)) (p.length:Int)=some (toF 0):=by rw [b1z,List.getElem?_replicate,if_pos hp]
  have hset:lset (List.replicate names.length (toF 0)) (p.length:Int) (toF 1)=some ((List.replicate names.length (toF 0)).set p.length (toF 1)):=by
   unfold lset
   rw [if_pos (by rw [List.length_replicate];omega)];rfl
  rw [hix,Option.bind_some,hset,Option.bind_some,e2 n (by omega),Option.bind_some]
  show(b3d n (toF (x.1+y)) (toF x.1)).bind _=_
  rw [e3 n (by omega),Option.bind_some,show x.1+y-x.1=y by grind]
  have i1:ix (toFm [[x]]).Pieces 0=some [toA x]:=rfl
  have i2:ix [toA x] 0=some (toA x):=rfl
  have i3:ix (toA x).Coefs (p.length:Int)=some (toF y):=by
   show ix (x.2.map toF) _=_
   rw [<-hu];exact e9s hv2
  show((ix (toFm [[x]]).Pieces 0).bind fun ex3=>(ix ex3 0).bind fun ex4=>(ix ex4.Coefs (p.length:Int)).bind fun ex5=>(a6b n (toF y) ex5).bind fun v15=>some (!v15)).bind _=_
  rw [i1,Option.bind_some,i2,Option.bind_some,i3,Option.bind_some,e4 n (by omega),decide_eq_true rfl,Option.bind_some,Bool.not_true,Option.bind_some,cond_false,Rt.inc64 (by omega)]
end Go.Proofs.YthaegflpecbfgaaGreatDoor.Fm
namespace Go.Proofs.YthaegflpecbfgaaGreatDoor.FormStraight
open Go Go.ChangeShapes Go.WideShapes Go.ChangeAt Go.RowKit Rt Wrap
set_option maxRecDepth 100000 in
theorem e1k(H:Type)(enc:TypeId×Value->H)(W:World)(base:Nat)(args:Array Value)(ds gs:List (DataW H))(before:List MemPlace)
 (hval:∀(j:Nat)t v,Tryz.f6.params[j]?=some t->args[j]?=some v->Value.okWide Tryz.prog W .any base t v)
 (hW:DataW.Whole enc Tryz.prog Tryz.f6.params.toList Rows.formStraightSpec.vars false W args.toList ds gs before) (hL:laidMetH Tryz.prog tabs W):
 Calls Tryz.prog 6 args W fun e W'=>∃v,e= .returned v/\Rows.formStraightSpec.post enc Tryz.prog Tryz.f6 false true false false W args v W':=by
 have hW':=hW
 obtain⟨p,q,hA0,hV,rfl,hfz,hnd⟩:=hW
 have hA:DataW.TrodAll enc Tryz.prog W 0 (fun _=>true) true Tryz.f6.params.toList args.toList ds p:=hA0
 rw [Tryz.params6]at hA hval
 obtain⟨v0,vs0,d0,ds0,p0,q0,hargs,rfl,rfl,h0,r0⟩:=trodAll_cons hA
 obtain⟨v1,vs1,d1,ds1,p1,q1,rfl,rfl,rfl,h1,r1⟩:=trodAll_cons r0
 obtain⟨v2,vs2,d2,ds2,p2,q2,rfl,rfl,rfl,h2,r2⟩:=trodAll_cons r1
 obtain⟨rfl,rfl,rfl⟩:=trodAll_nil r2
 obtain rfl:args= #[v0,v1,v2]:=by cases args;simp_all
 obtain⟨rfl,rfl⟩:=trodVars_none hV
 obtain⟨cs0,rfl,hsz0⟩:=okWide_struct Tryz.underlying26 (hval 0 26 v0 rfl rfl)
 obtain⟨y0,hr0,ho0⟩:=c7h (e6h W) h0
 obtain⟨ax0_4,nx0_4,cx0_4,he0,sx0_4⟩:=hr0
 have he0':cs0.toList= [vs y0.Name,.int .i64 y0.Fee.Op,.int .i64 y0.Fee.N,vs y0.Fee.Name,.slice ax0_4 nx0_4 cx0_4,.int .i64 y0.Cap]:=he0
 obtain rfl:cs0= #[vs y0.Name,.int .i64 y0.Fee.Op,.int .i64 y0.Fee.N,vs y0.Fee.Name,.slice ax0_4 nx0_4 cx0_4,.int .i64 y0.Cap]:=by rw [<-Array.toArray_toList (xs:=cs0),he0']
 obtain⟨a1,n1,c1,l1,rfl,hl1,ho1⟩:=e5n Tryz.underlying27 (e7l W) (hval 1 27 v1 rfl rfl) h1
 obtain⟨cs2,rfl,hsz2⟩:=okWide_struct Tryz.underlying30 (hval 2 30 v2 rfl rfl)
 obtain⟨y2,hr2,ho2⟩:=c7h (e7x W) h2
 obtain⟨ax2_0,nx2_0,cx2_0,he2,sx2_0⟩:=hr2
 have he2':cs2.toList= [.slice ax2_0 nx2_0 cx2_0,.int .i64 y2.Persons,.int .i64 y2.Flats]:=he2
 obtain rfl:cs2= #[.slice ax2_0 nx2_0 cx2_0,.int .i64 y2.Persons,.int .i64 y2.Flats]:=by rw [<-Array.toArray_toList (xs:=cs2),he2']
 obtain⟨N,hN⟩:=Fm.fstraight_ev y0 l1 y2
 refine(M.law37_FormStraight_ok' N y0 l1 y2 true (hN N (Nat.le_refl N)) (e5v W) sx0_4 hl1 sx2_0 (e8y hL)).mono ?_
 rintro e W' ⟨v,F',O',rfl,hh,rfl,rfl⟩
 refine⟨_,rfl,d7y laidOut ?_ rfl (by kernel_rfl) Tryz.underlying4 rfl hW' hh.below⟩
 rw [Tryz.params6]
 intro t ht
 have ht:t∈ [26,27,30]:=ht
 rcases List.mem_cons.1 ht with rfl|ht
 ·exact⟨by kernel_rfl,of_decide_eq_true (by kernel_rfl)⟩
 rcases List.mem_cons.1 ht with rfl|ht
 ·exact⟨by kernel_rfl,of_decide_eq_true (by kernel_rfl)⟩
 rcases List.mem_cons.1 ht with rfl|ht
 ·exact⟨by kernel_rfl,of_decide_eq_true (by kernel_rfl)⟩
 exact absurd ht (List.not_mem_nil)
theorem reads(os:Os){H:Type}(enc:TypeId×Value->H):∃places,DataW.whole enc Tryz.prog ((c2n os).forCall (fun _ _=>0) ⟨#[], #[.agg #[.string ⟨#[]⟩,.int .i64 0,.int .i64 0,.string ⟨#[]⟩,.slice none 0 0,.int .i64 0],.slice none 0 0,.agg #[.slice none 0 0,.int .i64 0,.int .i64 0]],[]⟩).memory Tryz.f6.params.toList Rows.formStraightSpec.vars false (#[.agg #[.string ⟨#[]⟩,.int .i64 0,.int .i64 0,.string ⟨#[]⟩,.slice none 0 0,.int .i64 0],.slice none 0 0,.agg #[.slice none 0 0,.int .i64 0,.int .i64 0]]:Array Value).toList 8=some ([.agg [.lit (.string []),.agg [.lit (.int .i64 0),.lit (.int .i64 0),.lit (.string []),.nil],.lit (.int .i64 0)],.nil,.agg [.nil,.lit (.int .i64 0),.lit (.int .i64 0)]],[],places):=
 ⟨[],by kernel_rfl⟩
set_option maxRecDepth 100000 in
theorem e8i(os:Os)(started:os.Started)(H:Type)(enc:TypeId×Value->H)(F:Stop.Interp):
 ReturnsInHanded {} Tryz.checked os 6 .any ((OpenSpec.ofChange Rows.formStraightSpec).preRow enc Tryz.prog Tryz.f6 Rows.formStraightRow.domain false Rows.formStraightRow.laid) (((OpenSpec.ofChange Rows.formStraightSpec).at F).post enc Tryz.prog Tryz.f6 false true false false):=by
 obtain⟨places,hx⟩:=reads os enc
 refine returnsInHanded_of_row (C:=Tryz.checked) (s:=OpenSpec.ofChange Rows.formStraightSpec) own started (by kernel_rfl) Tryz.func6
  (witness_row_at (enc:=enc) (C:=Tryz.checked) false (c2n os) #[.agg #[.string ⟨#[]⟩,.int .i64 0,.int .i64 0,.string ⟨#[]⟩,.slice none 0 0,.int .i64 0],.slice none 0 0,.agg #[.slice none 0 0,.int .i64 0,.int .i64 0]] rfl (by kernel_rfl) (by kernel_rfl) (by kernel_rfl)
   (OpenSpec.preRow_of_cond 8 hx (by kernel_rfl) (fun k hk=>by cases hk) (by kernel_rfl) (e2t os _))) ?_
 intro W base args ds gs before hval hW _ _ _ hL _ _
 exact e1k H enc W base args ds gs before hval hW hL
theorem said:Rows.FormStraightSaid:=
 OpenClaim.holds_of_cond 6 Tryz.f6 rfl rfl rfl rfl rfl rfl rfl ⟨rfl,rfl,rfl,rfl,rfl⟩ rfl rfl rfl rfl rfl (by kernel_rfl) Tryz.func6 (by kernel_rfl)
  (of_decide_eq_true (by kernel_rfl)) (by unfold Func.isWrapper;first|(rw [if_pos (by decide+kernel)];kernel_rfl)|(rw [if_neg (by decide+kernel)];exact⟨rfl,rfl⟩))
  (fun os started H enc _ F=>by rw [OpenClaim.pre_eq_preRow];exact e8i os started H enc F)
theorem f1f(f:FuncId)(fn:Func)(hf:Tryz.pinned.checked.prog.funcNamed "kerbside/kerbsidelaw37.FormStraight" =some f)(hfn:Tryz.pinned.checked.prog.funcs[f]?=some fn):
 false=Tryz.pinned.checked.prog.looks []/\∀(j:Nat)t,fn.params[j]?=some t->Tryz.pinned.checked.prog.wantsStandIn t=false:=by
 obtain rfl:f=6:=Option.some.inj ((show Tryz.prog.funcNamed "kerbside/kerbsidelaw37.FormStraight" =some 6 by kernel_rfl).symm.trans hf)|>.symm
 obtain rfl:fn=Tryz.f6:=(Option.some.inj (Tryz.func6.symm.trans hfn)).symm
 refine⟨by kernel_rfl,fun j t ht=> ?_⟩
 rw [Tryz.params6]at ht
 have ht:t∈ [26,27,30]:=Array.mem_toList_iff.2 (Array.mem_of_getElem? ht)
 rcases List.mem_cons.1 ht with rfl|ht
 ·exact(show Tryz.prog.wantsStandIn 26=false by kernel_rfl)
 rcases List.mem_cons.1 ht with rfl|ht
 ·exact(show Tryz.prog.wantsStandIn 27=false by kernel_rfl)
 rcases List.mem_cons.1 ht with rfl|ht
 ·exact(show Tryz.prog.wantsStandIn 30=false by kernel_rfl)
 exact absurd ht (List.not_mem_nil)
theorem card:Rows.FormStraightCardSaid:=
 Claim7.holds_tied_plain_at .later [] _ _ _ _ said (fun _ h=>by cases h) (by kernel_rfl) (fun _ h=>by cases h) formStraight_row_tie rfl ⟨rfl,rfl⟩ (by kernel_rfl) rfl f1f (by kernel_rfl)
end Go.Proofs.YthaegflpecbfgaaGreatDoor.FormStraight
