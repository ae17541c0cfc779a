/- Several texts in one, for FormTells.card: what the theorem leans on. -/
import Derived.Test.YthaegflpecbfgaaGreatDoorPu7
set_option maxHeartbeats 1000000
set_option maxRecDepth 1000000
set_option linter.unusedVariables false
set_option linter.unusedSimpArgs false
namespace Go.Proofs.YthaegflpecbfgaaGreatDoor
namespace Ta
open Go Rt M
theorem orT(c d:Bool):(bif c then some true else some d)=some (c||d):=by cases c<;>rfl
theorem andT(c d:Bool):(bif c then some d else some false)=some (c&&d):=by cases c<;>rfl
theorem e0f(n:Nat){o:Int}(h1:0<=o)(h2:o<=16):a8z n o=some (b9a o):=by
 unfold a8z b9a;rw [decide_eq_false (show¬o<0 by omega),cond_false,b_s,decide_eq_false (show¬17<=o by omega),cond_false]
 by_cases h3:o<=4
 ·rw [decide_eq_true h3,if_pos h3];rfl
 rw [decide_eq_false h3,if_neg h3,cond_false]
 by_cases h4:o=14
 ·subst h4;rfl
 rw [show(o==14)=false by simpa using h4,if_neg h4,cond_false]
 by_cases h5:o=11
 ·subst h5;rfl
 rw [show(o==11)=false by simpa using h5,if_neg h5];rfl
theorem e1h(n:Nat){o:Int}(h:¬(0<=o/\o<=16)):a8z n o=some (-1):=by
 unfold a8z;rw [orT,b_s,show(decide (o<0)||decide (17<=o))=true by by_cases h1:o<0<;>simp [h1];omega];rfl
theorem d5d(x:M.Expr)(hl:x.Args.length<=1000000):∀(us:List M.Expr)(i:Nat),x.Args.drop i=us->(∀y,y∈us->∃b,Ev (fun n=>tariff_shaped n y) b/\Ev (fun n=>ref35_shaped n y) b)->
 ∃N r,∀n m,N<=n->us.length<m->slices_IndexFunc_api_Expr_api_Expr_L1 n x.Args (tariff_shaped_1 n) (some (-1)) m (i:Int)=some r/\ref35_shaped_L1 n (ref35_shaped n) x (some true) m (i:Int)=some (!decide (0<=r))
 | [],i,hd,_=>by
  refine⟨0,-1,fun n m _ hm=> ?_⟩;obtain⟨m,rfl⟩:=left hm;rw [slices_IndexFunc_api_Expr_api_Expr_L1_s,a5b hd,ref35_shaped_L1_s,a5b hd];exact⟨rfl,rfl⟩
 |y::us,i,hd,H=>by
  obtain⟨h1,h2,h3⟩:=drop_cons hd;obtain⟨b,⟨N1,e1⟩,⟨N2,e2⟩⟩:=H y (by simp);obtain⟨N,r,ih⟩:=d5d x hl us (i+1) h2 (fun z hz=>H z (by simp [hz]));refine⟨max N (max (N1+1) N2),if b=true then r else(i:Int),fun n m hn hm=> ?_⟩;obtain⟨m,rfl,hm2⟩:=pred (by simpa using hm);obtain⟨n',rfl⟩:∃k,n=k+1:=⟨n-1,by omega⟩
  have e1:tariff_shaped n' y=some b:=e1 n' (by omega);have e2:ref35_shaped (n'+1) y=some b:=e2 (n'+1) (by omega);have ih:=ih (n'+1) m (by omega) hm2;rw [slices_IndexFunc_api_Expr_api_Expr_L1_s,a1s hd,cond_true,h1,b_s,a7w,e1,b_s,b_s,ref35_shaped_L1_s,a1s hd,cond_true,h1,b_s,e2,b_s];cases b with
  |true=>rw [Bool.not_true,cond_false,cond_false,if_pos rfl,inc64 (by omega)];exact ih
  |false=>
   rw [if_neg (by decide),decide_eq_true (show(0:Int)<=(i:Int) by omega)];exact⟨rfl,rfl⟩
theorem e5q{x:M.Expr}(hx:Fit x):∃b,Ev (fun n=>tariff_shaped n x) b/\Ev (fun n=>ref35_shaped n x) b:=by
 induction hx with
 | @mk o k s l hl _ ih=>
  by_cases hr:0<=o/\o<=16
  rotate_left
  ·refine⟨false,Ev.suc (fun n=>tariff_shaped_s _ n) ?_,Ev.suc (fun n=>ref35_shaped_s _ n) ?_⟩
   ·refine Ev.bind (a:=true) (Ev.all fun n=> ?_) (Ev.bind (a:=true) (Ev.then rfl (Ev.pure _)) (Ev.then rfl (Ev.pure _)));rw [orT];dsimp only
    congr 1
    by_cases h1:o<0<;>simp [h1]
    omega
   refine Ev.bind (Ev.all fun n=>e1h n hr) ?_;exact Ev.bind (a:=true) (Ev.then (by dsimp only;rw [bne_iff_ne];omega) (Ev.pure _)) (Ev.then rfl (Ev.pure _))
  have d1:decide (o<0)=false:=decide_eq_false (by omega);have d2:decide (17<=o)=false:=decide_eq_false (by omega)
  by_cases ha:(l.length:Int)=b9a o
  rotate_left
  ·have d3:((l.length:Int) !=b9a o)=true:=by simpa using ha
   refine⟨false,Ev.suc (fun n=>tariff_shaped_s _ n) ?_,Ev.suc (fun n=>ref35_shaped_s _ n) ?_⟩
   ·exact Ev.bind (a:=false) (Ev.else d1 ((Ev.pure _).eq d2)) (Ev.bind (a:=true) (Ev.else rfl (Ev.bind (Ev.all fun n=>d5o n _) ((Ev.pure _).eq d3))) (Ev.then rfl (Ev.pure _)))
   exact Ev.bind (Ev.all fun n=>e0f n hr.1 hr.2) (Ev.bind (a:=true) (Ev.then d3 (Ev.pure _)) (Ev.then rfl (Ev.pure _)))
  have d3:((l.length:Int) !=b9a o)=false:=by simpa using ha
  have code:∀{b:Bool}{f:Nat->Option Bool},Ev f b->Ev (fun n=>(bif decide (o<0)then some true else some (decide (17<=o))).bind fun v1=>(bif v1 then some true else(b0k n o).bind fun v11=>some ((l.length:Int) !=v11)).bind fun v2=>bif v2 then some false else f n) b:=fun h=>
   Ev.bind (a:=false) (Ev.else d1 ((Ev.pure _).eq d2)) (Ev.bind (a:=false) (Ev.else rfl (Ev.bind (Ev.all fun n=>d5o n _) ((Ev.pure _).eq d3))) (Ev.else rfl h))
  obtain⟨N,r,hL⟩:=d5d ⟨o,k,s,l⟩ hl l 0 rfl ih;have loopR:Ev (fun n=>ref35_shaped_L1 n (ref35_shaped n) ⟨o,k,s,l⟩ (some true) n 0) (!decide (0<=r)):=⟨N+l.length+1,fun n hn=>(hL n n (by omega) (by omega)).2⟩
  have loopC:Ev (fun n=>a0j n l (tariff_shaped_1 n)) (decide (0<=r)):=by
   unfold a0j a1c;exact Ev.bind (a:=r) ⟨N+l.length+1,fun n hn=>(hL n n (by omega) (by omega)).1⟩ (Ev.pure _)
  have loop0:b9a o=0->(!decide (0<=r))=true:=by
   intro h0;have hz:l= []:=List.length_eq_zero_iff.1 (by omega);subst hz;have h1:=(hL (N+1) 1 (by omega) (by simp)).1;rw [slices_IndexFunc_api_Expr_api_Expr_L1_s]at h1;have h2:(some (-1):Option Int)=some r:=h1;cases h2;rfl
  have ref:∀{vn:Bool},Lx.name s=vn->Ev (fun n=>ref35_shaped n ⟨o,k,s,l⟩) (!((o !=0&&k !=0)||((((o==1||o==4)&& !vn)||(!(o==1||o==4)&& !(s== [])))||(o==0&&(decide (k<0)||decide (1099511627776<k)))))&& !decide (0<=r)):=by
   intro vn hvn;refine Ev.suc (fun n=>ref35_shaped_s _ n) ?_;refine Ev.bind (Ev.all fun n=>e0f n hr.1 hr.2) ?_;refine Ev.bind (a:=(o !=0&&k !=0)) (Ev.else d3 (Ev.all fun n=>by rw [andT];rfl)) ?_;cases(o !=0&&k !=0)with
   |true=>exact Ev.then rfl ((Ev.pure _).eq rfl)
   |false=>
    refine Ev.else rfl ?_
    refine Ev.bind (a:=(o==1||o==4)) (Ev.all fun n=>orT _ _) ?_;refine Ev.bind (a:=((o==1||o==4)&& !vn)) ?_ ?_
    ·cases(o==1||o==4)with
     |true=>exact Ev.then rfl (Ev.bind ((c8z s).eq hvn) (Ev.pure _))
     |false=>exact Ev.else rfl (Ev.pure _)
    refine Ev.bind (a:=(((o==1||o==4)&& !vn)||(!(o==1||o==4)&& !(s== [])))) ?_ ?_
    ·cases((o==1||o==4)&& !vn)with
     |true=>exact Ev.then rfl (Ev.pure _)
     |false=>exact Ev.else rfl (Ev.all fun n=>by rw [andT];rfl)
    refine Ev.bind (a:=((((o==1||o==4)&& !vn)||(!(o==1||o==4)&& !(s== [])))||(o==0&&(decide (k<0)||decide (1099511627776<k))))) ?_ ?_
    ·cases(((o==1||o==4)&& !vn)||(!(o==1||o==4)&& !(s== [])))with
     |true=>exact Ev.then rfl (Ev.pure _)
     |false=>
      refine Ev.else rfl (Ev.bind (a:=(o==0&&(decide (k<0)||decide (1099511627776<k)))) ?_ ((Ev.pure _).eq (by simp)))
      cases o==0 with
      |true=>exact Ev.then rfl (Ev.all fun n=>by rw [orT];rfl)
      |false=>exact Ev.else rfl (Ev.pure _)
    cases((((o==1||o==4)&& !vn)||(!(o==1||o==4)&& !(s== [])))||(o==0&&(decide (k<0)||decide (1099511627776<k))))with
    |true=>exact Ev.then rfl (Ev.pure _)
    |false=>exact Ev.else rfl (loopR.eq (by simp))
  by_cases o0:o=0
  ·refine⟨(decide (0<=k)&&decide (k<=1099511627776))&&s== [],Ev.suc (fun n=>tariff_shaped_s _ n) (code (Ev.then (by simpa using o0) ?_)),(ref rfl).eq ?_⟩
   ·refine Ev.bind (a:=(decide (0<=k)&&decide (k<=1099511627776))) (Ev.all fun n=>andT _ _) ?_;exact Ev.bind (a:=((decide (0<=k)&&decide (k<=1099511627776))&&s== [])) (Ev.all fun n=>andT _ _) (Ev.pure _)
   rw [loop0 (by rw [o0];rfl)];subst o0
   by_cases k1:k<0
   ·rw [decide_eq_true k1,decide_eq_false (show¬0<=k by omega)];simp
   by_cases k2:1099511627776<k
   ·rw [decide_eq_true k2,decide_eq_false (show¬k<=1099511627776 by omega)];simp
   rw [decide_eq_false k1,decide_eq_false k2,decide_eq_true (show 0<=k by omega),decide_eq_true (show k<=1099511627776 by omega)];simp
  have f0:(o==0)=false:=by simpa using o0
  have g0:(o !=0)=true:=by simpa using o0
  by_cases o1:(o==1||o==4)=true
  ·refine⟨k==0&&Lx.name s,Ev.suc (fun n=>tariff_shaped_s _ n) (code (Ev.else f0 (Ev.bind (a:=true) ((Ev.all fun n=>orT _ _).eq o1) (Ev.then rfl (Ev.bind (a:=(k==0&&Lx.name s)) ?_ (Ev.pure _)))))),(ref rfl).eq ?_⟩
   ·cases hk:k==0 with
    |true=>exact Ev.then rfl (Ev.bind (c2j s) ((Ev.pure _).eq (by simp)))
    |false=>exact Ev.else rfl (Ev.pure _)
   have h4:o=1∨o=4:=by simpa using o1
   rw [loop0 (by rcases h4 with h|h<;>rw [h]<;>rfl),o1,f0,g0];cases hk:k==0<;>cases Lx.name s<;>simp [bne,hk]
  have o1':(o==1||o==4)=false:=by simpa using o1
  refine⟨(k==0&&s== [])&& !decide (0<=r),Ev.suc (fun n=>tariff_shaped_s _ n) (code (Ev.else f0 (Ev.bind (a:=false) ((Ev.all fun n=>orT _ _).eq o1') (Ev.else rfl ?_)))),(ref rfl).eq ?_⟩
  ·refine Ev.bind (a:=(k==0&&s== [])) (Ev.all fun n=>andT _ _) ?_;refine Ev.bind (a:=((k==0&&s== [])&& !decide (0<=r))) ?_ (Ev.pure _);cases(k==0&&s== [])with
   |true=>exact Ev.then rfl (Ev.bind loopC ((Ev.pure _).eq (by simp)))
   |false=>exact Ev.else rfl (Ev.pure _)
  rw [o1',f0,g0];cases hk:k==0<;>cases s== []<;>simp [bne,hk]
theorem e8g{x:M.Expr}(hx:Fit x):∃b,Ev (fun n=>a7u n x) b/\Ev (fun n=>b1u n x) b/\(b=true->Shp x):=by
 obtain⟨b1,z,e1,e2⟩:=f5k hx;obtain⟨b2,e3,e4⟩:=e5q hx;obtain⟨b3,e5,hS⟩:=e6i hx;have hb:b3=b2:=e5.uniq e3;refine⟨b1&&b2,?_,?_,fun h=>hS (by rw [hb];simp at h;exact h.2)⟩
 ·unfold a7u;refine Ev.bind e1 (Ev.bind (a:=b1&&b2) ?_ (Ev.pure _));cases b1 with
  |true=>exact Ev.then rfl (Ev.bind e3 ((Ev.pure _).eq (by simp)))
  |false=>exact Ev.else rfl (Ev.pure _)
 unfold b1u;refine Ev.bind e2 (Ev.bind (a:=b1&&b2) ?_ (Ev.pure _));cases b1 with
 |true=>exact Ev.then rfl (Ev.bind e4 ((Ev.pure _).eq (by simp)))
 |false=>exact Ev.else rfl (Ev.pure _)
theorem d9o{t:Tariff}(hx:Fit t.Fee):∃b,Ev (fun n=>a5a n t) b/\Ev (fun n=>b0c n t) b/\(b=true->Shp t.Fee):=by
 obtain⟨b,e1,e2,hS⟩:=e8g hx;refine⟨((Lx.name t.Name&&b)&&decide (-1<=t.Cap))&&decide (t.Cap<=1099511627776),?_,?_,fun h=>hS (by simp at h;exact h.1.1.2)⟩
 ·unfold a5a;refine Ev.bind (c2j _) (Ev.bind (a:=(Lx.name t.Name&&b)) ?_ (Ev.bind (Ev.all fun n=>andT _ _) (Ev.bind (Ev.all fun n=>andT _ _) (Ev.pure _))));cases Lx.name t.Name with
  |true=>exact Ev.then rfl (Ev.bind e1 ((Ev.pure _).eq (by simp)))
  |false=>exact Ev.else rfl (Ev.pure _)
 unfold b0c;refine Ev.bind (c8z _) (Ev.bind (a:=(Lx.name t.Name&&b)) ?_ (Ev.bind (Ev.all fun n=>andT _ _) (Ev.bind (Ev.all fun n=>andT _ _) (Ev.pure _))));cases Lx.name t.Name with
 |true=>exact Ev.then rfl (Ev.bind e2 ((Ev.pure _).eq (by simp)))
 |false=>exact Ev.else rfl (Ev.pure _)
def c3q(a b:Int):Int:=bif a==2||b==2 then 2 else 1
theorem e2z(n:Nat)(a b:Int):a8b n a b=some (c3q a b):=by
 unfold a8b c3q;rw [orT,b_s];cases a==2||b==2<;>rfl
theorem f3y(n:Nat)(a b:Int):a1e n a b=some (bif a==0||b==0 then(0,13)else(c3q a b,0)):=by
 unfold a1e c3q;rw [orT,b_s,orT,b_s];cases a==0||b==0<;>cases a==2||b==2<;>rfl
theorem d3q(a b:Int):0<=c3q a b/\c3q a b<=2:=by
 unfold c3q;cases a==2||b==2<;>decide
theorem d6r(n:Nat)(p q:Int):a3b n 12 [p,q]=some (0,p==1&&q==1)/\a3b n 13 [p,q]=some (0,p==1&&q==1):=by
 constructor<;>(show((bif p==1 then some (q==1)else some false).bind fun v4=>some ((0:Int),v4))=_;rw [andT];rfl)
theorem e3n(n:Nat)(p q:Int):a3b n 15 [p,q]=some (0,p==0&&q==0)/\a3b n 16 [p,q]=some (0,p==0&&q==0):=by
 constructor<;>(show((bif p==0 then some (q==0)else some false).bind fun v4=>some ((0:Int),v4))=_;rw [andT];rfl)
theorem f1q(n:Nat)(p:Int):a3b n 14 [p]=some (0,p==0):=rfl
theorem f2x(n:Nat)(p q r:Int):a3b n 11 [p,q,r]=some (c3q q r,(p==0&&q !=0)&&r !=0):=by
 show((a8b n q r).bind fun v5=>(bif p==0 then some (q !=0)else some false).bind fun v6=>(bif v6 then some (r !=0)else some false).bind fun v7=>some (v5,v7))=_;rw [e2z,b_s,andT,b_s,andT];rfl
theorem f0k(n:Nat)(p q:Int):a3b n 7 [p,q]=some (c3q p q,(p !=0&&q !=0)&&(p==1||q==1)):=by
 show((bif p !=0 then some (q !=0)else some false).bind fun v8=>((bif v8 then(bif p==1 then some true else some (q==1)).bind fun v11=>some v11 else some false).bind fun v10=>some v10).bind fun numbers1=>(a8b n p q).bind fun v9=>some (v9,numbers1))=_;rw [andT,b_s,orT,e2z];cases p !=0&&q !=0<;>rfl
theorem f2l(n:Nat)(p q:Int){o:Int}(ho:o=5∨o=6∨o=8∨o=9∨o=10):a3b n o [p,q]=some (c3q p q,p !=0&&q !=0):=by
 have h:(bif p !=0 then some (q !=0)else some false).bind (fun v8=>(some v8).bind fun numbers1=>(a8b n p q).bind fun v9=>some (v9,numbers1))=some (c3q p q,p !=0&&q !=0):=by
  rw [andT,b_s,b_s,e2z];rfl
 rcases ho with rfl|rfl|rfl|rfl|rfl<;>exact h
theorem all2(k p q w:Int):Ev (fun n=>a3m n k [p,q] w) (bif p==w&&q==w then(k,0)else(0,13)):=by
 refine⟨3,fun n hn=> ?_⟩;obtain⟨n,rfl⟩:∃j,n=j+3:=⟨n-3,by omega⟩
 show((bif p !=w then some (0:Int)else bif q !=w then some 1 else some (-1)).bind fun v1=>some (decide (0<=v1))).bind (fun v1=>bif v1 then some ((0:Int),(13:Int))else some (k,0))=_;cases hp:p==w<;>cases hq:q==w<;>simp [bne,hp,hq]
theorem all1(k p w:Int):Ev (fun n=>a3m n k [p] w) (bif p==w then(k,0)else(0,13)):=by
 refine⟨3,fun n hn=> ?_⟩;obtain⟨n,rfl⟩:∃j,n=j+3:=⟨n-3,by omega⟩
 show((bif p !=w then some (0:Int)else some (-1)).bind fun v1=>some (decide (0<=v1))).bind (fun v1=>bif v1 then some ((0:Int),(13:Int))else some (k,0))=_;cases hp:p==w<;>simp [bne,hp]
theorem c9v(n:Nat)(l:List Rt.Bs)(s:Rt.Bs)(hl:l.length<4611686018427387904):∀(us:List Rt.Bs)(i m:Nat),l.drop i=us->us.length<m->
 ref35_Number_L1 n l s (some (-1)) m (i:Int)=some (if s∈us then((i+us.idxOf s:Nat):Int)else-1)
 | [],i,m+1,hd,_=>by rw [ref35_Number_L1_s,a5b hd];rfl
 |x::us,i,m+1,hd,hm=>by
  obtain⟨h1,h2,h3⟩:=drop_cons hd;have ih:=c9v n l s hl us (i+1) m h2 (by simp only [List.length_cons]at hm;omega);rw [ref35_Number_L1_s,a1s hd,cond_true,h1,b_s]
  by_cases h:x=s
  ·subst h;rw [beq_self_eq_true,cond_true,if_pos (by simp)];simp
  have e:(x==s)=false:=by simpa using h
  rw [e,cond_false,inc64 (by omega),ih]
  by_cases h5:s∈us
  ·rw [if_pos h5,if_pos (List.mem_cons_of_mem _ h5),List.idxOf_cons,e];simp only [cond_false];congr 1;omega
  rw [if_neg h5,if_neg (by simp only [List.mem_cons,not_or];exact⟨fun h6=>h h6.symm,h5⟩)]
theorem d1j{l:List Rt.Bs}(s:Rt.Bs)(hl:l.length<4611686018427387904):Ev (fun n=>(a3x n l s).bind fun v6=>some (decide (v6<0))) (!decide (s∈l)):=by
 refine⟨l.length+1,fun n hn=> ?_⟩;unfold a3x;dsimp only;have h:ref35_Number_L1 n l s (some (-1)) n 0=_:=c9v n l s hl l 0 n rfl (by omega);rw [h,b_s]
 by_cases h5:s∈l
 ·rw [if_pos h5,decide_eq_true h5,decide_eq_false (by omega)];rfl
 rw [if_neg h5,decide_eq_false h5];rfl
def Ty(r:Int×Int):Prop:=r.2=0->0<=r.1/\r.1<=2
theorem e1a(x:M.Expr)(nz:List Rt.Bs)(hx:x.Args.length<=1000000):∀(us:List M.Expr)(i:Nat)(acc:List Int),x.Args.drop i=us->acc.length=i->i<=x.Args.length->(∀t,t∈acc->0<=t/\t<=2)->
 (∀y,y∈us->∃r,Ev (fun n=>tariff_typed n y nz) r/\Ev (fun n=>ref35_typed n y nz) r/\Ty r)->
 (∃(N:Nat)(e:Int),e≠0/\∀n m kont kont',N<=n->us.length<m->tariff_typed_L1 n (tariff_typed n) x nz kont m (i:Int) acc=some (0,e)/\ref35_typed_L1 n (ref35_typed n) x nz kont' m (i:Int) acc=some (0,e))∨
 ∃(N:Nat)(l2:List Int),l2.length=x.Args.length/\(∀t,t∈l2->0<=t/\t<=2)/\∀n m kont kont',N<=n->us.length<m->tariff_typed_L1 n (tariff_typed n) x nz kont m (i:Int) acc=kont l2/\ref35_typed_L1 n (ref35_typed n) x nz kont' m (i:Int) acc=kont' l2
 | [],i,acc,hd,ha,hi,ht,_=>by
  refine .inr ⟨0,acc,by have:=Rt.drop_nil hd;omega,ht,fun n m kont kont' _ hm=> ?_⟩;obtain⟨m,rfl⟩:=left hm;rw [tariff_typed_L1_s,a5b hd,ref35_typed_L1_s,a5b hd];exact⟨rfl,rfl⟩
 |y::us,i,acc,hd,ha,hi,ht,H=>by
  obtain⟨h1,h2,h3⟩:=drop_cons hd;obtain⟨⟨k,e⟩,⟨N1,e1⟩,⟨N2,e2⟩,hty⟩:=H y (by simp)
  by_cases he:e=0
  ·subst he;have hk:=hty rfl;have step:∀n m kont kont',max N1 N2<=n->tariff_typed_L1 n (tariff_typed n) x nz kont (m+1) (i:Int) acc=tariff_typed_L1 n (tariff_typed n) x nz kont m ((i+1:Nat):Int) (acc++ [k])/\ref35_typed_L1 n (ref35_typed n) x nz kont' (m+1) (i:Int) acc=ref35_typed_L1 n (ref35_typed n) x nz kont' m ((i+1:Nat):Int) (acc++ [k]):=by
    intro n m kont kont' hn;have e1:tariff_typed n y nz=some (k,0):=e1 n (by omega);have e2:ref35_typed n y nz=some (k,0):=e2 n (by omega);constructor
    ·rw [tariff_typed_L1_s,a1s hd,cond_true,h1,b_s,e1,b_s];show((app 8 acc [k]).bind fun l3=>_)=_;rw [a5f (by simp only [List.length_cons,List.length_nil];omega),b_s,inc64 (by omega)]
    rw [ref35_typed_L1_s,a1s hd,cond_true,h1,b_s,e2,b_s];show((app 8 acc [k]).bind fun l3=>_)=_;rw [a5f (by simp only [List.length_cons,List.length_nil];omega),b_s,inc64 (by omega)]
   have ht2:∀t,t∈acc++ [k]->0<=t/\t<=2:=by
    intro t h;rcases List.mem_append.1 h with h|h
    ·exact ht t h
    rw [List.mem_singleton]at h;subst h;exact hk
   rcases e1a x nz hx us (i+1) (acc++ [k]) h2 (by simp [ha]) (by omega) ht2 (fun z hz=>H z (by simp [hz]))with⟨N,e,he,ih⟩|⟨N,l2,hl2,ht3,ih⟩
   ·refine .inl ⟨max N (max N1 N2),e,he,fun n m kont kont' hn hm=> ?_⟩;obtain⟨m,rfl,hm2⟩:=pred (by simpa using hm);have h5:=step n m kont kont' (by omega);rw [h5.1,h5.2];exact ih n m kont kont' (by omega) hm2
   refine .inr ⟨max N (max N1 N2),l2,hl2,ht3,fun n m kont kont' hn hm=> ?_⟩;obtain⟨m,rfl,hm2⟩:=pred (by simpa using hm);have h5:=step n m kont kont' (by omega);rw [h5.1,h5.2];exact ih n m kont kont' (by omega) hm2
  refine .inl ⟨max N1 N2,e,he,fun n m kont kont' hn hm=> ?_⟩;obtain⟨m,rfl⟩:=left hm;have e1:tariff_typed n y nz=some (k,e):=e1 n (by omega);have e2:ref35_typed n y nz=some (k,e):=e2 n (by omega);have hb:(e !=0)=true:=by simpa using he
  constructor
  ·rw [tariff_typed_L1_s,a1s hd,cond_true,h1,b_s,e1,b_s];dsimp only;rw [hb];rfl
  rw [ref35_typed_L1_s,a1s hd,cond_true,h1,b_s,e2,b_s];dsimp only;rw [hb];rfl
def d9u(nz:List Rt.Bs)(x:M.Expr)(n:Nat)(l2:List Int):Option (Int×Int):= (bif x.Op==1 then some true else some (x.Op==4)).bind fun v1=> bif v1 then (a0s n nz x.Name).bind fun v2=> bif !v2 then some (0,11) else bif x.Op==4 then some (2,0) else some (1,0) else (bif x.Op==0 then some true else bif x.Op==2 then some true else some (x.Op==3)).bind fun v3=> bif v3 then some (1,0) else (bif x.Op==12 then some true else some (x.Op==13)).bind fun v4=> bif v4 then (a3m n 0 l2 1).bind fun v5=> some (v5.1,v5.2) else (bif x.Op==14 then some true else bif x.Op==15 then some true else some (x.Op==16)).bind fun v6=> bif v6 then (a3m n 0 l2 0).bind fun v7=> some (v7.1,v7.2) else bif x.Op==11 then (ix l2 0).bind fun ex=> bif ex !=0 then some (0,13) else (ix l2 1).bind fun w2=> (ix l2 2).bind fun w3=> (a1e n w2 w3).bind fun v8=> some (v8.1,v8.2) else bif x.Op==7 then (ix l2 0).bind fun w4=> (bif w4==2 then (ix l2 1).bind fun w7=> some (w7==2) else some false).bind fun v9=> bif v9 then some (0,13) else (ix l2 0).bind fun w5=> (ix l2 1).bind fun w6=> (a1e n w5 w6).bind fun v10=> some (v10.1,v10.2) else bif x.Op==8 then (ix x.Args 1).bind fun w8=> bif w8.Op !=0 then some (0,13) else bif w8.N==0 then some (0,14) else (ix l2 0).bind fun w9=> (ix l2 1).bind fun w0=> (a1e n w9 w0).bind fun v11=> some (v11.1,v11.2) else (ix l2 0).bind fun w1=> (ix l2 1).bind fun w2=> (a1e n w1 w2).bind fun v12=> some (v12.1,v12.2)
def refK(nz:List Rt.Bs)(x:M.Expr)(n:Nat)(l2:List Int):Option (Int×Int):= (bif x.Op==1 then some true else some (x.Op==4)).bind fun v1=> (bif v1 then (a3x n nz x.Name).bind fun v6=> some (decide (v6<0)) else some false).bind fun v2=> bif v2 then some (0,11) else bif x.Op==4 then some (2,0) else bif(l2.length:Int)==0 then some (1,0) else bif x.Op==8 then (ix x.Args 1).bind fun ex=> (bif ex.Op==0 then (ix x.Args 1).bind fun ex3=> some (ex3.N==0) else some false).bind fun v3=> bif v3 then some (0,14) else (ix x.Args 1).bind fun ex2=> bif ex2.Op !=0 then some (0,13) else (a3b n x.Op l2).bind fun v4=> bif !v4.2 then some (0,13) else some (v4.1,0) else (a3b n x.Op l2).bind fun v5=> bif !v5.2 then some (0,13) else some (v5.1,0)
theorem c7c(n:Nat)(x:M.Expr)(nz:List Rt.Bs):tariff_typed (n+1) x nz=tariff_typed_L1 n (tariff_typed n) x nz (d9u nz x n) n 0 []:=rfl
theorem d6w(n:Nat)(x:M.Expr)(nz:List Rt.Bs):ref35_typed (n+1) x nz=ref35_typed_L1 n (ref35_typed n) x nz (refK nz x n) n 0 []:=rfl
def c7k(p q:Int):Int×Int:=bif p==0||q==0 then(0,13)else(c3q p q,0)
theorem b4m(p q:Int):Ty (c7k p q):=by
 unfold c7k;cases p==0||q==0
 ·exact fun _=>d3q p q
 exact fun h=>by cases h
theorem b2m(p q:Int):Ev (fun n=>(a1e n p q).bind fun v=>some (v.1,v.2)) (c7k p q):=Ev.all fun n=>by rw [f3y];rfl
theorem ty0(b:Bool):Ty (bif b then((0:Int),(0:Int))else(0,13)):=by
 cases b
 ·exact fun h=>by cases h
 exact fun _=>⟨by decide,by decide⟩
theorem c4o{o p q:Int}(ho:o=5∨o=6∨o=8∨o=9∨o=10):Ev (fun n=>(a3b n o [p,q]).bind fun v5=>bif !v5.2 then some ((0:Int),(13:Int))else some (v5.1,0)) (c7k p q):=Ev.all fun n=>by
 rw [f2l n p q ho];unfold c7k;cases hp:p==0<;>cases hq:q==0<;>simp [bne,hp,hq]
theorem e5z(p q w:Int):Ev (fun n=>(a3m n 0 [p,q] w).bind fun v5=>some (v5.1,v5.2)) (bif p==w&&q==w then(0,0)else(0,13)):=Ev.bind (all2 0 p q w) (Ev.pure _)
theorem f5m(p w:Int):Ev (fun n=>(a3m n 0 [p] w).bind fun v5=>some (v5.1,v5.2)) (bif p==w then(0,0)else(0,13)):=Ev.bind (all1 0 p w) (Ev.pure _)
theorem fitb{o:Int}{l:List Int}{b:Bool}(h:∀n,a3b n o l=some (0,b)):Ev (fun n=>(a3b n o l).bind fun v5=>bif !v5.2 then some ((0:Int),(13:Int))else some (v5.1,0)) (bif b then(0,0)else(0,13)):=
 Ev.all fun n=>by rw [h n];cases b<;>rfl
theorem e1b{x:M.Expr}(hx:Fit x)(nz:List Rt.Bs)(hn:nz.length<4611686018427387904):Shp x->∃r,Ev (fun n=>tariff_typed n x nz) r/\Ev (fun n=>ref35_typed n x nz) r/\Ty r:=by
 induction hx with
 | @mk o k s l hl _ ih=>
  intro hs;cases hs with
  |mk h1 h2 h3 h4=>
  rcases e1a ⟨o,k,s,l⟩ nz hl l 0 [] rfl rfl (by simp) (by simp) (fun y hy=>ih y hy (h4 y hy))with⟨N,e,he,hL⟩|⟨N,l2,hl2,ht,hL⟩
  ·exact⟨(0,e),Ev.suc (fun n=>c7c n _ _) ⟨N+l.length+1,fun n hn=>(hL n n _ (fun _=>none) (by omega) (by omega)).1⟩,Ev.suc (fun n=>d6w n _ _) ⟨N+l.length+1,fun n hn=>(hL n n (fun _=>none) _ (by omega) (by omega)).2⟩,fun h=>absurd h he⟩
  have out:∀r:Int×Int,Ty r->Ev (fun n=>d9u nz ⟨o,k,s,l⟩ n l2) r->Ev (fun n=>refK nz ⟨o,k,s,l⟩ n l2) r->∃r,Ev (fun n=>tariff_typed n ⟨o,k,s,l⟩ nz) r/\Ev (fun n=>ref35_typed n ⟨o,k,s,l⟩ nz) r/\Ty r:=by
   intro r hty hf hg;exact⟨r,Ev.suc (fun n=>c7c n _ _) (Ev.from (N+l.length+1) (fun n hn=>(hL n n _ (fun _=>none) (by omega) (by omega)).1) hf),Ev.suc (fun n=>d6w n _ _) (Ev.from (N+l.length+1) (fun n hn=>(hL n n (fun _=>none) _ (by omega) (by omega)).2) hg),hty⟩
  replace hl2:(l2.length:Int)=b9a o:=by rw [<-h3];exact congrArg Int.ofNat hl2
  clear hL;have len0:(l2.length:Int)=0->l2= []:=fun h=>List.length_eq_zero_iff.1 (by omega);have len1:(l2.length:Int)=1->∃p,l2= [p]:=fun h=>by
   match l2,h with
   | [p],_=>exact⟨p,rfl⟩
   | [],h=>simp at h
   |_::_::_,h=>simp at h;omega
  have len2:(l2.length:Int)=2->∃p q,l2= [p,q]/\(0<=p/\p<=2)/\(0<=q/\q<=2):=fun h=>by
   match l2,h,ht with
   | [p,q],_,ht=>exact⟨p,q,rfl,ht p (by simp),ht q (by simp)⟩
   | [],h,_=>simp at h
   | [_],h,_=>simp at h
   |_::_::_::_,h,_=>simp at h;omega
  have len3:(l2.length:Int)=3->∃p q r,l2= [p,q,r]:=fun h=>by
   match l2,h with
   | [p,q,r],_=>exact⟨p,q,r,rfl⟩
   | [],h=>simp at h
   | [_],h=>simp at h
   | [_,_],h=>simp at h
   |_::_::_::_::_,h=>simp at h;omega
  have hc:o=0∨o=1∨o=2∨o=3∨o=4∨o=5∨o=6∨o=7∨o=8∨o=9∨o=10∨o=11∨o=12∨o=13∨o=14∨o=15∨o=16:=by omega
  have lf:∀t:Int,0<=t->t<=2->Ty (bif !decide (s∈nz)then((0:Int),(11:Int))else(t,0)):=by
   intro t h5 h6;cases decide (s∈nz)
   ·exact fun h=>by cases h
   exact fun _=>⟨h5,h6⟩
  have t10:Ty ((1:Int),(0:Int)):=fun _=>⟨by decide,by decide⟩
  rcases hc with rfl|rfl|rfl|rfl|rfl|rfl|rfl|rfl|rfl|rfl|rfl|rfl|rfl|rfl|rfl|rfl|rfl
  ·obtain rfl:=len0 hl2;exact out (1,0) t10 (Ev.all fun n=>rfl) (Ev.all fun n=>rfl)
  ·obtain rfl:=len0 hl2;refine out _ (lf 1 (by decide) (by decide)) ?_ ?_
   ·exact Ev.bind (f:=fun n v2=>bif !v2 then some (0,11)else some (1,0)) (b2b s hn) (by cases decide (s∈nz)<;>exact Ev.pure _)
   exact Ev.bind (f:=fun n v2=>bif v2 then some (0,11)else some (1,0)) (d1j s hn) (by cases decide (s∈nz)<;>exact Ev.pure _)
  ·obtain rfl:=len0 hl2;exact out (1,0) t10 (Ev.all fun n=>rfl) (Ev.all fun n=>rfl)
  ·obtain rfl:=len0 hl2;exact out (1,0) t10 (Ev.all fun n=>rfl) (Ev.all fun n=>rfl)
  ·obtain rfl:=len0 hl2;refine out _ (lf 2 (by decide) (by decide)) ?_ ?_
   ·exact Ev.bind (f:=fun n v2=>bif !v2 then some (0,11)else some (2,0)) (b2b s hn) (by cases decide (s∈nz)<;>exact Ev.pure _)
   exact Ev.bind (f:=fun n v2=>bif v2 then some (0,11)else some (2,0)) (d1j s hn) (by cases decide (s∈nz)<;>exact Ev.pure _)
  ·obtain⟨p,q,rfl,_,_⟩:=len2 hl2;exact out _ (b4m p q) (b2m p q) (c4o (o:=5) (by decide))
  ·obtain⟨p,q,rfl,_,_⟩:=len2 hl2;exact out _ (b4m p q) (b2m p q) (c4o (o:=6) (by decide))
  ·obtain⟨p,q,rfl,hp,hq⟩:=len2 hl2;refine out (bif p==2&&q==2 then(0,13)else c7k p q) ?_ ?_ ?_
   ·cases p==2&&q==2
    ·exact b4m p q
    exact fun h=>by cases h
   ·show Ev (fun n=>(bif p==2 then some (q==2)else some false).bind fun v9=>bif v9 then some (0,13)else(a1e n p q).bind fun v=>some (v.1,v.2)) _;refine Ev.bind (a:=p==2&&q==2) (Ev.all fun n=>andT _ _) ?_;cases p==2&&q==2
    ·exact Ev.else rfl (b2m p q)
    exact Ev.then rfl (Ev.pure _)
   show Ev (fun n=>(a3b n 7 [p,q]).bind fun v5=>bif !v5.2 then some ((0:Int),(13:Int))else some (v5.1,0)) _;refine Ev.all fun n=> ?_;rw [f0k];unfold c7k;have hp3:p=0∨p=1∨p=2:=by omega
   have hq3:q=0∨q=1∨q=2:=by omega
   rcases hp3 with rfl|rfl|rfl<;>rcases hq3 with rfl|rfl|rfl<;>rfl
  ·obtain⟨p,q,rfl,_,_⟩:=len2 hl2;have h8:(l.length:Int)=2:=h3;obtain⟨u,v,rfl⟩:∃u v,l= [u,v]:=by
    match l,h8 with
    | [u,v],_=>exact⟨u,v,rfl⟩
    | [],h=>simp at h
    | [_],h=>simp at h
    |_::_::_::_,h=>simp at h;omega
   refine out (bif v.Op !=0 then(0,13)else bif v.N==0 then(0,14)else c7k p q) ?_ ?_ ?_
   ·cases v.Op !=0
    ·cases v.N==0
     ·exact b4m p q
     exact fun h=>by cases h
    exact fun h=>by cases h
   ·show Ev (fun n=>bif v.Op !=0 then some (0,13)else bif v.N==0 then some (0,14)else(a1e n p q).bind fun v=>some (v.1,v.2)) _;cases v.Op !=0
    ·cases v.N==0
     ·exact Ev.else rfl (Ev.else rfl (b2m p q))
     exact Ev.else rfl (Ev.then rfl (Ev.pure _))
    exact Ev.then rfl (Ev.pure _)
   show Ev (fun n=>(bif v.Op==0 then some (v.N==0)else some false).bind fun v3=>bif v3 then some (0,14)else bif v.Op !=0 then some (0,13)else(a3b n 8 [p,q]).bind fun v5=>bif !v5.2 then some ((0:Int),(13:Int))else some (v5.1,0)) _;refine Ev.bind (a:=v.Op==0&&v.N==0) (Ev.all fun n=>andT _ _) ?_;unfold bne;cases v.Op==0
   ·exact Ev.else rfl (Ev.then rfl (Ev.pure _))
   cases v.N==0
   ·exact Ev.else rfl (Ev.else rfl (c4o (o:=8) (by decide)))
   exact Ev.then rfl (Ev.pure _)
  ·obtain⟨p,q,rfl,_,_⟩:=len2 hl2;exact out _ (b4m p q) (b2m p q) (c4o (o:=9) (by decide))
  ·obtain⟨p,q,rfl,_,_⟩:=len2 hl2;exact out _ (b4m p q) (b2m p q) (c4o (o:=10) (by decide))
  ·obtain⟨p,q,r,rfl⟩:=len3 hl2;refine out (bif p !=0 then(0,13)else c7k q r) ?_ ?_ ?_
   ·cases p !=0
    ·exact b4m q r
    exact fun h=>by cases h
   ·show Ev (fun n=>bif p !=0 then some (0,13)else(a1e n q r).bind fun v=>some (v.1,v.2)) _;cases p !=0
    ·exact Ev.else rfl (b2m q r)
    exact Ev.then rfl (Ev.pure _)
   show Ev (fun n=>(a3b n 11 [p,q,r]).bind fun v5=>bif !v5.2 then some ((0:Int),(13:Int))else some (v5.1,0)) _;refine Ev.all fun n=> ?_;rw [f2x];unfold c7k;cases hp:p==0<;>cases hq:q==0<;>cases hr:r==0<;>simp [bne,hp,hq,hr]
  ·obtain⟨p,q,rfl,_,_⟩:=len2 hl2;exact out _ (ty0 (p==1&&q==1)) (e5z p q 1) (fitb fun n=>(d6r n p q).1)
  ·obtain⟨p,q,rfl,_,_⟩:=len2 hl2;exact out _ (ty0 (p==1&&q==1)) (e5z p q 1) (fitb fun n=>(d6r n p q).2)
  ·obtain⟨p,rfl⟩:=len1 hl2;exact out _ (ty0 (p==0)) (f5m p 0) (fitb fun n=>f1q n p)
  ·obtain⟨p,q,rfl,_,_⟩:=len2 hl2;exact out _ (ty0 (p==0&&q==0)) (e5z p q 0) (fitb fun n=>(e3n n p q).1)
  obtain⟨p,q,rfl,_,_⟩:=len2 hl2;exact out _ (ty0 (p==0&&q==0)) (e5z p q 0) (fitb fun n=>(e3n n p q).2)
theorem e9y{t:Tariff}(hx:Fit t.Fee)(nz:List Rt.Bs)(hn:nz.length<4611686018427387904):∃e,Ev (fun n=>a4t n t nz) e/\Ev (fun n=>b5c n t nz) e:=by
 obtain⟨b,w1,w2,hS⟩:=d9o hx;cases hnm:named nz with
 |false=>exact⟨1,Ev.bind ((c0c hn).eq hnm) (Ev.then rfl (Ev.pure _)),Ev.bind ((c4b nz).eq hnm) (Ev.then rfl (Ev.pure _))⟩
 |true=>
  cases b with
  |false=>exact⟨2,Ev.bind ((c0c hn).eq hnm) (Ev.else rfl (Ev.bind w1 (Ev.then rfl (Ev.pure _)))),Ev.bind ((c4b nz).eq hnm) (Ev.else rfl (Ev.bind w2 (Ev.then rfl (Ev.pure _))))⟩
  |true=>
   obtain⟨r,r1,r2,_⟩:=e1b hx nz hn (hS rfl);refine⟨bif(r.2==0&&r.1==0)then 13 else r.2,Ev.bind ((c0c hn).eq hnm) (Ev.else rfl (Ev.bind w1 (Ev.else rfl (Ev.bind r1 (Ev.bind (Ev.all fun n=>andT _ _) ?_))))),Ev.bind ((c4b nz).eq hnm) (Ev.else rfl (Ev.bind w2 (Ev.else rfl (Ev.bind r2 (Ev.bind (Ev.all fun n=>andT _ _) ?_)))))⟩<;>
   (cases r.2==0&&r.1==0<;>exact Ev.pure _)
end Ta
namespace Fe
open Go Rt M Ta Tp D
theorem d5c(f:Facts)(hl:f.Lifts.length<=1000000)(kont:Nat->Option Bool)(d:Bool)(hk:Ev kont d):∀(us:List Int)(i:Nat),f.Lifts.drop i=us->
 ∃N,∀n m,N<=n->us.length<m->ref36_Right_L1 n f (kont n) m (i:Int)=some (!(us.any fun x=> !(decide (0<=x)&&decide (x<=200)))&&d)
 | [],i,hd=>by
  obtain⟨N,h⟩:=hk;refine⟨N,fun n m hn hm=> ?_⟩;obtain⟨m,rfl⟩:=left hm;rw [ref36_Right_L1_s,a5b hd];exact h n hn
 |x::us,i,hd=>by
  obtain⟨h1,h2,h3⟩:=Rt.drop_cons hd;obtain⟨N,ih⟩:=d5c f hl kont d hk us (i+1) h2;refine⟨N,fun n m hn hm=> ?_⟩;obtain⟨m,rfl,hm2⟩:=pred (by simpa using hm);have e:(bif decide (x<0)then some true else(ix f.Lifts (i:Int)).bind fun ex2=>some (decide (200<ex2)))=some (!(decide (0<=x)&&decide (x<=200))):=by
   rw [h1,b_s]
   by_cases g1:x<0
   ·rw [decide_eq_true g1,decide_eq_false (show¬0<=x by omega)];rfl
   rw [decide_eq_false g1,decide_eq_true (show 0<=x by omega)]
   by_cases g2:200<x
   ·rw [decide_eq_true g2,decide_eq_false (show¬x<=200 by omega)];rfl
   rw [decide_eq_false g2,decide_eq_true (show x<=200 by omega)];rfl
  rw [ref36_Right_L1_s,a1s hd,cond_true];show((ix f.Lifts (i:Int)).bind fun ex1=>(bif decide (ex1<0)then some true else(ix f.Lifts (i:Int)).bind fun ex2=>some (decide (200<ex2))).bind fun v5=>_)=_;rw [h1,b_s,<-h1,e,b_s,List.any_cons];cases(decide (0<=x)&&decide (x<=200))with
  |false=>rfl
  |true=>rw [Bool.not_true,cond_false,Rt.inc64 (by omega),ih n m hn hm2];rfl
theorem c7z(l:List Frac)(hl:l.length<=1000000)(c:Bool){k:Nat}(hk:k<=30):∀(us:List Frac)(i:Nat),l.drop i=us->Lim k us->
 ∃N,∀n m,N<=n->us.length<m->ref36_Weights_L1 n l (some c) m (i:Int)=some (!(us.any badF)&&c)
 | [],i,hd,_=>by
  refine⟨0,fun n m _ hm=> ?_⟩;obtain⟨m,rfl⟩:=left hm;rw [ref36_Weights_L1_s,a5b hd];rfl
 |x::us,i,hd,hw=>by
  obtain⟨h1,h2,h3⟩:=Rt.drop_cons hd;obtain⟨N,ih⟩:=c7z l hl c hk us (i+1) h2 (fun w h=>hw w (by simp [h]));have hx:=hw x (by simp);obtain⟨N1,e1⟩:Ev (fun n=>(a0y n x).bind fun v1=>bif !v1 then some true else(ix l (i:Int)).bind fun ex2=>(a7d n ex2).bind fun v3=>some (decide (v3<0))) (badF x):=by
   refine Ev.bind (b7k hx.1 hx.2 (by omega)) ?_;unfold badF;cases hr:a4x x with
   |false=>exact Ev.then rfl (Ev.pure _)
   |true=>
    obtain⟨r,rfl,hs⟩:=d7g hx hr;exact Ev.else rfl (Ev.step h1 (Ev.bind (QSign_ev hs (by omega)) (Ev.pure _)))
  refine⟨max N N1,fun n m hn hm=> ?_⟩;obtain⟨m,rfl,hm2⟩:=pred (by simpa using hm);have e1:=e1 n (by omega);dsimp only at e1;obtain⟨v1,g1,g2⟩:=Option.bind_eq_some_iff.1 e1;rw [ref36_Weights_L1_s,a1s hd,cond_true,h1,b_s,g1,b_s];rw [h1]at g2;rw [g2,b_s,List.any_cons];cases badF x with
  |true=>rfl
  |false=>rw [cond_false,Rt.inc64 (by omega),ih n m (by omega) hm2];rfl
theorem f3u{nz:List Rt.Bs}{f:Facts}{wgs:List Frac}{k:Nat}(hw:Lim k wgs)(hk:k<=30)(hl:f.Lifts.length<=1000000)(hwl:wgs.length<=1000000):
 ∃b1 b2,Ev (fun n=>b2d n f (nz.length:Int)) b1/\Ev (fun n=>c9k n wgs (nz.length:Int)) b2/\b5q nz f wgs=(b1&&b2):=by
 have hkont:Ev (fun _:Nat=>(bif(f.Lifts.length:Int)==(nz.length:Int)then some (decide (0<=f.Persons))else some false).bind fun v1=>(bif v1 then some (decide (f.Persons<=1000))else some false).bind fun v2=>
  (bif v2 then some (decide (0<=f.Flats))else some false).bind fun v3=>(bif v3 then some (decide (f.Flats<=1000))else some false).bind fun v4=>some v4)
  (((((f.Lifts.length:Int)==(nz.length:Int))&&decide (0<=f.Persons))&&decide (f.Persons<=1000))&&decide (0<=f.Flats)&&decide (f.Flats<=1000)):=by
  refine Ev.all fun _=> ?_;generalize ((f.Lifts.length:Int)==(nz.length:Int))=A;generalize decide (0<=f.Persons)=B;generalize decide (f.Persons<=1000)=C;generalize decide (0<=f.Flats)=H;generalize decide (f.Flats<=1000)=E;revert A B C H E;decide
 obtain⟨N1,e1⟩:=d5c f hl _ _ hkont f.Lifts 0 rfl;obtain⟨N2,e2⟩:=c7z wgs hwl ((wgs.length:Int)==(nz.length:Int)) hk wgs 0 rfl hw;refine⟨_,_,⟨N1+f.Lifts.length+1,fun n hn=>e1 n n (by omega) (by omega)⟩,⟨N2+wgs.length+1,fun n hn=>e2 n n (by omega) (by omega)⟩,?_⟩;unfold b5q;generalize ((f.Lifts.length:Int)==(nz.length:Int))=A;generalize decide (0<=f.Persons)=B;generalize decide (f.Persons<=1000)=C;generalize decide (0<=f.Flats)=H;generalize decide (f.Flats<=1000)=E;generalize ((wgs.length:Int)==(nz.length:Int))=G;generalize (f.Lifts.any fun x=> !(decide (0<=x)&&decide (x<=200)))=X;generalize wgs.any badF=Y;revert A B C H E G X Y;decide
theorem c8l{l:List Rt.Bs}(s:Rt.Bs)(hl:l.length<4611686018427387904):Ev (fun n=>a3x n l s) (if s∈l then((l.idxOf s:Nat):Int)else-1):=by
 refine⟨l.length+1,fun n hn=> ?_⟩;unfold a3x;dsimp only;have h:ref35_Number_L1 n l s (some (-1)) n 0=_:=c9v n l s hl l 0 n rfl (by omega);rw [h];simp only [Nat.zero_add]
theorem c0f{x:Int}(h1:-9223372036854775808<=x)(h2:x<=9223372036854775807):Ev (fun n=>a7t n x) ⟨toF (x:Rat),false⟩:=by
 unfold a7t;exact Ev.bind (c9d h1 h2) (Ev.pure _)
theorem e9h{α:Type}{o:Int}(h:o≠12/\o≠13){c1 c2:Nat->Option Bool}{g:Nat->Bool->Option α}{r:α}(hg:Ev (fun n=>g n false) r):
 Ev (fun n=>(bif o==12 then c1 n else some false).bind fun v2=>(bif v2 then some true else(bif o==13 then c2 n else some false).bind fun v4=>some v4).bind fun v3=>g n v3) r:=by
 refine Ev.bind (a:=false) (Ev.else (by simpa using h.1) (Ev.pure _)) ?_;exact Ev.bind (a:=false) (Ev.else rfl (Ev.bind (a:=false) (Ev.else (by simpa using h.2) (Ev.pure _)) (Ev.pure _))) hg
theorem f0m{j k:Nat}{a b:Rat}(ha:SmF j a)(hb:SmF k b)(hk:j+k<4000000){o:Int}(ho:o=8->b.num≠0)(h0:o=5∨o=6∨o=7∨o=8∨o=9∨o=10):Ev (fun n=>b3y n o (toF a) (toF b)) ⟨toF (two o a b),false⟩:=by
 unfold b3y;have ho2:o≠12/\o≠13:=by omega
 refine Ev.bind (a:=((toF (two o a b)).P.Sign,(toF (two o a b)).P.Digits,(toF (two o a b)).Q.Sign,(toF (two o a b)).Q.Digits)) ?_ (e9h ho2 (Ev.pure _));rcases h0 with rfl|rfl|rfl|rfl|rfl|rfl
 ·exact Ev.then rfl (Ev.bind (QAdd_ev ha hb hk) (Ev.pure _))
 ·exact Ev.else rfl (Ev.then rfl (Ev.bind (QSub_ev ha hb hk) (Ev.pure _)))
 ·exact Ev.else rfl (Ev.else rfl (Ev.then rfl (Ev.bind (QMul_ev ha hb hk) (Ev.pure _))))
 ·exact Ev.else rfl (Ev.else rfl (Ev.else rfl (Ev.then rfl (Ev.bind (e3b ha hb hk (ho rfl)) (Ev.pure _)))))
 ·exact Ev.else rfl (Ev.else rfl (Ev.else rfl (Ev.else rfl (Ev.then rfl (Ev.bind (QMin_ev ha hb hk) (Ev.pure _))))))
 exact Ev.else rfl (Ev.else rfl (Ev.else rfl (Ev.else rfl (Ev.else rfl (Ev.then rfl (Ev.bind (QMax_ev ha hb hk) (Ev.pure _)))))))
def f1m{β:Type}(f:Nat->M.Expr->Option β):List M.Expr->List β->Prop | [],[]=>True |y::us,r::rs=>Ev (fun n=>f n y) r/\f1m f us rs |_,_=>False
theorem e8b(x:M.Expr)(nz:List Rt.Bs)(f:Facts)(wgs:List Frac)(hx:x.Args.length<=3):∀(us:List M.Expr)(rs:List M.Result)(i:Nat)(acc:List M.Result),x.Args.drop i=us->acc.length=i->f1m (fun n y=>ref36_Eval n y nz f wgs) us rs->
 ∃N,∀n m kont,N<=n->us.length<m->ref36_Eval_L1 n (ref36_Eval n) x nz f wgs kont m (i:Int) acc=kont (acc++rs)
 | [],[],i,acc,hd,_,_=>by
  refine⟨0,fun n m kont _ hm=> ?_⟩;obtain⟨m,rfl⟩:=left hm;rw [ref36_Eval_L1_s,a5b hd,List.append_nil];rfl
 | [],_::_,_,_,_,_,h=>h.elim
 |_::_,[],_,_,_,_,h=>h.elim
 |y::us,r::rs,i,acc,hd,ha,⟨⟨N1,e1⟩,h⟩=>by
  obtain⟨h1,h2,h3⟩:=Rt.drop_cons hd;obtain⟨N,ih⟩:=e8b x nz f wgs hx us rs (i+1) (acc++ [r]) h2 (by simp [ha]) h;refine⟨max N N1,fun n m kont hn hm=> ?_⟩;obtain⟨m,rfl,hm2⟩:=pred (by simpa using hm);have e1:ref36_Eval n y nz f wgs=some r:=e1 n (by omega);rw [ref36_Eval_L1_s,a1s hd,cond_true,h1,b_s,e1,b_s,a5f (by simp only [List.length_cons,List.length_nil];omega),b_s,Rt.inc64 (by omega),ih n m kont (by omega) hm2,List.append_assoc];rfl
section
variable{nz:List Rt.Bs}{f:Facts}{ws:List Rat}{W:Nat}
variable(hf:RF nz f ws)(hW:4<=W)(hW2:W<=30)(hw:∀w,w∈ws->SmF W w)(hn:nz.length<4611686018427387904)
include hf hW hW2 hw hn
theorem e1d{x:M.Expr}{k:Int}(ht:Typ nz x k):cnt x<=1000->
 (k≠0->Ev (fun n=>ref36_Eval n x nz f (ws.map toF)) ⟨toF (num (mkE nz f ws) x),false⟩)/\
 (k=0->Ev (fun n=>ref36_Eval n x nz f (ws.map toF)) ⟨zeroF,tru (mkE nz f ws) x⟩):=by
 have hnum:∀s,Ev (fun n=>a3x n nz s) (if s∈nz then((nz.idxOf s:Nat):Int)else-1):=fun s=>c8l s hn;have c2:∀(o n:Int)(s:Rt.Bs)(a b:M.Expr),cnt ⟨o,n,s,[a,b]⟩=cnt a+cnt b+1:=fun o n s a b=>by show cnt a+(cnt b+0)+1=_;omega
 have lf:∀{o m:Int}{s:Rt.Bs}{r:M.Result},Ev (fun n=>b4j n ⟨o,m,s,[]⟩ nz f (ws.map toF)) r->Ev (fun n=>ref36_Eval n ⟨o,m,s,[]⟩ nz f (ws.map toF)) r:=fun h=>Ev.suc (fun n=>ref36_Eval_s _ _ _ _ n) (Ev.then rfl (Ev.bind h (Ev.pure _)));have nd:∀{x:M.Expr}{rs:List M.Result}{r:M.Result}{kont:Nat->List M.Result->Option M.Result},x.Args.length<=3->f1m (fun n y=>ref36_Eval n y nz f (ws.map toF)) x.Args rs->Ev (fun n=>kont n rs) r->
  Ev (fun n=>ref36_Eval_L1 n (ref36_Eval n) x nz f (ws.map toF) (kont n) n 0 []) r:=by
  intro x rs r kont h3 ha hk;obtain⟨N,h⟩:=e8b x nz f (ws.map toF) h3 x.Args rs 0 [] rfl rfl ha;exact Ev.from (N+x.Args.length+1) (fun n hn=>h n n (kont n) (by omega) (by omega)) hk
 have ari:∀{o p q r:Int}{a b:M.Expr},(o=5∨o=6∨o=7∨o=8∨o=9∨o=10)->Typ nz a p->Typ nz b q->p≠0->q≠0->r≠0->(o=8->(num (mkE nz f ws) b).num≠0)->
  (cnt a<=1000->(p≠0->Ev (fun n=>ref36_Eval n a nz f (ws.map toF)) ⟨toF (num (mkE nz f ws) a),false⟩)/\(p=0->Ev (fun n=>ref36_Eval n a nz f (ws.map toF)) ⟨zeroF,tru (mkE nz f ws) a⟩))->
  (cnt b<=1000->(q≠0->Ev (fun n=>ref36_Eval n b nz f (ws.map toF)) ⟨toF (num (mkE nz f ws) b),false⟩)/\(q=0->Ev (fun n=>ref36_Eval n b nz f (ws.map toF)) ⟨zeroF,tru (mkE nz f ws) b⟩))->
  cnt ⟨o,0,[],[a,b]⟩<=1000->
  (r≠0->Ev (fun n=>ref36_Eval n ⟨o,0,[],[a,b]⟩ nz f (ws.map toF)) ⟨toF (num (mkE nz f ws) ⟨o,0,[],[a,b]⟩),false⟩)/\
  (r=0->Ev (fun n=>ref36_Eval n ⟨o,0,[],[a,b]⟩ nz f (ws.map toF)) ⟨zeroF,tru (mkE nz f ws) ⟨o,0,[],[a,b]⟩⟩):=by
  intro o p q r a b ho ta tb hp hq hr h8 iha ihb hc;rw [c2]at hc;have sa:=b3u hf hW hW2 hw hn ta hp (by omega);have sb:=b3u hf hW hW2 hw hn tb hq (by omega);have wa:=wle hW2 (show cnt a<=1000 by omega);have wb:=wle hW2 (show cnt b<=1000 by omega);refine⟨fun _=> ?_,fun h=>absurd h hr⟩;rw [num_two];have e:∀k:Int,(k=11∨k=14∨k=15∨k=16)->(o==k)=false:=fun k hk=>by rw [beq_eq_false_iff_ne];omega
  refine Ev.suc (fun n=>ref36_Eval_s _ _ _ _ n) (Ev.else rfl ?_);refine nd (rs:= [⟨toF (num (mkE nz f ws) a),false⟩,⟨toF (num (mkE nz f ws) b),false⟩]) (show(2:Nat)<=3 by decide) ⟨(iha (by omega)).1 hp,(ihb (by omega)).1 hq,trivial⟩ ?_;refine Ev.else (e 11 (by decide)) (Ev.else (e 14 (by decide)) (Ev.else (e 15 (by decide)) (Ev.else (e 16 (by decide)) ?_)))
  exact Ev.step (a:=⟨toF (num (mkE nz f ws) a),false⟩) rfl (Ev.step (a:=⟨toF (num (mkE nz f ws) b),false⟩) rfl (Ev.bind (f0m sa sb (by omega) h8 ho) (Ev.pure _)))
 induction ht with
 | @num m h0 h1=>
  intro _;exact⟨fun _=>lf (Ev.bind (hnum _) (Ev.then rfl (Ev.bind (c0f (x:=m) (by omega) (by omega)) (Ev.pure _)))),fun h=>(by cases h)⟩
 | @lifts s _ hs=>
  intro _;have h5:=hf.l1 _ (d0a (0:Int) hs hf.hl.symm);refine⟨fun _=>lf (Ev.bind (hnum _) (Ev.else rfl (Ev.then rfl ?_))),fun h=>(by cases h)⟩;refine Ev.step (a:=look nz f.Lifts 0 s) (by rw [if_pos hs];exact c4u 0 hs hf.hl.symm) ?_;exact Ev.bind (c0f (x:=look nz f.Lifts 0 s) (by omega) (by omega)) (Ev.pure _)
 |pers=>
  intro _;have h1:=hf.p1;have h2:=hf.p2;exact⟨fun _=>lf (Ev.bind (hnum _) (Ev.else rfl (Ev.else rfl (Ev.then rfl (Ev.bind (c0f (x:=f.Persons) (by omega) (by omega)) (Ev.pure _)))))),fun h=>(by cases h)⟩
 |flats=>
  intro _;have h1:=hf.f1;have h2:=hf.f2;exact⟨fun _=>lf (Ev.bind (hnum _) (Ev.else rfl (Ev.else rfl (Ev.else rfl (Ev.then rfl (Ev.bind (c0f (x:=f.Flats) (by omega) (by omega)) (Ev.pure _))))))),fun h=>(by cases h)⟩
 | @wgt s _ hs=>
  intro _;refine⟨fun _=>lf (Ev.bind (hnum _) (Ev.else rfl (Ev.else rfl (Ev.else rfl (Ev.else rfl ?_))))),fun h=>(by cases h)⟩;refine Ev.step (a:=toF (look nz ws 0 s)) ?_ (Ev.pure _);rw [if_pos hs,<-d5m toF 0 (toF 0) hs hf.hw.symm];exact c4u (toF 0) hs (by show _=(ws.map toF).length;rw [List.length_map];exact hf.hw.symm)
 | @ari o a b p q ho ta tb hp hq iha ihb=>
  exact ari (by omega) ta tb hp hq (d8c p q) (fun h=>by omega) iha ihb
 | @mul a b p q ta tb hp hq _ iha ihb=>
  exact ari (by omega) ta tb hp hq (d8c p q) (fun h=>by omega) iha ihb
 | @div a m p ta hp h1 h2 iha=>
  refine ari (q:=1) (by omega) ta (Typ.num (by omega) h2) hp (by decide) hp (fun _=> ?_) iha ?_
  ·rw [num_num,Rat.num_intCast];omega
  intro _;exact⟨fun _=>lf (Ev.bind (hnum _) (Ev.then rfl (Ev.bind (c0f (x:=m) (by omega) (by omega)) (Ev.pure _)))),fun h=>(by cases h)⟩
 | @ite c a b p q _ _ _ hp hq ihc iha ihb=>
  intro hc;have hc3:cnt ⟨11,0,[],[c,a,b]⟩=cnt c+cnt a+cnt b+1:=by show cnt c+(cnt a+(cnt b+0))+1=_;omega
  rw [hc3]at hc;have ec:=(ihc (by omega)).2 rfl;have ea:=(iha (by omega)).1 hp;have eb:=(ihb (by omega)).1 hq;refine⟨fun _=> ?_,fun h=>absurd h (d8c p q)⟩;rw [num_ite];refine Ev.suc (fun n=>ref36_Eval_s _ _ _ _ n) (Ev.else rfl ?_);refine nd (rs:= [⟨zeroF,tru (mkE nz f ws) c⟩,⟨toF (num (mkE nz f ws) a),false⟩,⟨toF (num (mkE nz f ws) b),false⟩]) (show(3:Nat)<=3 by decide) ⟨ec,ea,eb,trivial⟩ ?_;refine Ev.then rfl (Ev.step (a:=⟨zeroF,tru (mkE nz f ws) c⟩) rfl ?_)
  cases tru (mkE nz f ws) c with
  |true=>exact Ev.then rfl (Ev.step (a:=⟨toF (num (mkE nz f ws) a),false⟩) rfl (Ev.pure _))
  |false=>exact Ev.else rfl (Ev.step (a:=⟨toF (num (mkE nz f ws) b),false⟩) rfl (Ev.pure _))
 | @rel o a b ho ta tb iha ihb=>
  intro hc;rw [c2]at hc;have ea:=(iha (by omega)).1 (by decide);have eb:=(ihb (by omega)).1 (by decide);have sa:=b3u hf hW hW2 hw hn ta (by decide) (by omega);have sb:=b3u hf hW hW2 hw hn tb (by decide) (by omega);have wa:=wle hW2 (show cnt a<=1000 by omega);have wb:=wle hW2 (show cnt b<=1000 by omega);refine⟨fun h=>absurd rfl h,fun _=> ?_⟩;rw [tru_two];refine Ev.suc (fun n=>ref36_Eval_s _ _ _ _ n) (Ev.else rfl ?_);refine nd (rs:= [⟨toF (num (mkE nz f ws) a),false⟩,⟨toF (num (mkE nz f ws) b),false⟩]) (show(2:Nat)<=3 by decide) ⟨ea,eb,trivial⟩ ?_;have e:∀k:Int,(k<=11∨k=14∨k=15∨k=16)->(o==k)=false:=fun k hk=>by rw [beq_eq_false_iff_ne];omega
  refine Ev.else (e 11 (by decide)) (Ev.else (e 14 (by decide)) (Ev.else (e 15 (by decide)) (Ev.else (e 16 (by decide)) ?_)))
  refine Ev.step (a:=⟨toF (num (mkE nz f ws) a),false⟩) rfl (Ev.step (a:=⟨toF (num (mkE nz f ws) b),false⟩) rfl (Ev.bind (a:=⟨zeroF,rel o (vl (mkE nz f ws) a) (vl (mkE nz f ws) b)⟩) ?_ (Ev.pure _)));unfold b3y;refine Ev.bind (a:=(0,[],0,[])) (Ev.else (e 5 (by decide)) (Ev.else (e 6 (by decide)) (Ev.else (e 7 (by decide)) (Ev.else (e 8 (by decide)) (Ev.else (e 9 (by decide)) (Ev.else (e 10 (by decide)) (Ev.pure _))))))) ?_;have hcmp:=QCompare_ev sa sb (by omega);rcases ho with rfl|rfl
  ·refine Ev.bind (a:=decide (num (mkE nz f ws) a<num (mkE nz f ws) b)) (Ev.then rfl (Ev.bind hcmp ((Ev.pure _).eq ?_))) ?_
   ·rcases a5i (num (mkE nz f ws) a) (num (mkE nz f ws) b)with⟨h1,h2⟩|⟨h1,h2⟩|⟨h1,h2⟩
    ·rw [h2,decide_eq_true h1];rfl
    ·rw [h2,h1,decide_eq_false Rat.lt_irrefl];rfl
    rw [h2,decide_eq_false (Rat.not_lt.2 (Rat.le_of_lt h1))];rfl
   rw [c4d];show Ev _ (⟨zeroF,decide (num (mkE nz f ws) a<num (mkE nz f ws) b)⟩:M.Result);cases decide (num (mkE nz f ws) a<num (mkE nz f ws) b)with
   |true=>exact Ev.bind (Ev.then rfl (Ev.pure _)) (Ev.pure _)
   |false=>exact Ev.bind (a:=false) (Ev.else rfl (Ev.bind (a:=false) (Ev.else rfl (Ev.pure _)) (Ev.pure _))) (Ev.pure _)
  refine Ev.bind (a:=false) (Ev.else rfl (Ev.pure _)) ?_;refine Ev.bind (a:=decide (num (mkE nz f ws) a=num (mkE nz f ws) b)) (Ev.else rfl (Ev.bind (Ev.then rfl (Ev.bind hcmp (Ev.pure _))) ((Ev.pure _).eq ?_))) ?_
  ·exact e0z _ _
  rw [d6v];exact Ev.pure _
 | @not a _ iha=>
  intro hc;have h1:cnt ⟨14,0,[],[a]⟩=cnt a+0+1:=rfl;refine⟨fun h=>absurd rfl h,fun _=> ?_⟩;rw [tru_not];refine Ev.suc (fun n=>ref36_Eval_s _ _ _ _ n) (Ev.else rfl ?_);refine nd (rs:= [⟨zeroF,tru (mkE nz f ws) a⟩]) (show(1:Nat)<=3 by decide) ⟨(iha (by omega)).2 rfl,trivial⟩ ?_;exact Ev.else rfl (Ev.then rfl (Ev.step (a:=⟨zeroF,tru (mkE nz f ws) a⟩) rfl (Ev.pure _)))
 | @bin o a b ho _ _ iha ihb=>
  intro hc;rw [c2]at hc;have ea:=(iha (by omega)).2 rfl;have eb:=(ihb (by omega)).2 rfl;refine⟨fun h=>absurd rfl h,fun _=> ?_⟩;rw [tru_two];refine Ev.suc (fun n=>ref36_Eval_s _ _ _ _ n) (Ev.else rfl ?_);refine nd (rs:= [⟨zeroF,tru (mkE nz f ws) a⟩,⟨zeroF,tru (mkE nz f ws) b⟩]) (show(2:Nat)<=3 by decide) ⟨ea,eb,trivial⟩ ?_;rcases ho with rfl|rfl
  ·refine Ev.else rfl (Ev.else rfl (Ev.then rfl ?_))
   refine Ev.step (a:=⟨zeroF,tru (mkE nz f ws) a⟩) rfl ?_;show Ev _ (⟨zeroF,tru (mkE nz f ws) a&&tru (mkE nz f ws) b⟩:M.Result);cases tru (mkE nz f ws) a with
   |true=>exact Ev.bind (Ev.then rfl (Ev.step (a:=⟨zeroF,tru (mkE nz f ws) b⟩) rfl (Ev.pure _))) (Ev.pure _)
   |false=>exact Ev.bind (Ev.else rfl (Ev.pure _)) (Ev.pure _)
  refine Ev.else rfl (Ev.else rfl (Ev.else rfl (Ev.then rfl ?_)))
  refine Ev.step (a:=⟨zeroF,tru (mkE nz f ws) a⟩) rfl ?_;show Ev _ (⟨zeroF,tru (mkE nz f ws) a||tru (mkE nz f ws) b⟩:M.Result);cases tru (mkE nz f ws) a with
  |true=>exact Ev.bind (Ev.then rfl (Ev.pure _)) (Ev.pure _)
  |false=>exact Ev.bind (Ev.else rfl (Ev.step (a:=⟨zeroF,tru (mkE nz f ws) b⟩) rfl (Ev.pure _))) (Ev.pure _)
end
end Fe
namespace Fm
open Go Rt M Ta Tp D Fe
theorem QInt0:Ev (fun n=>a2v n 0) (toF 0):=c9d (x:=0) (by decide) (by decide)
theorem QInt1:Ev (fun n=>a2v n 1) (toF 1):=c9d (x:=1) (by decide) (by decide)
theorem QIntm:Ev (fun n=>a2v n (-1)) (toF (-1)):=c9d (x:=-1) (by decide) (by decide)
theorem f0z{a:Rat}{k:Nat}(ha:SmF k a)(hk:k<1000000):Ev (fun n=>b4b n (toF a)) (toF (-a)):=by
 unfold b4b;exact Ev.bind (a3k ha (by omega)) (Ev.else rfl (Ev.bind (c9i ha.1 (by omega)) (Ev.pure _)))
theorem b4e{α β:Type}{h:α->β}{l p q:List α}{x:α}(hx:l=p++x::q):ix (l.map h) (p.length:Int)=some (h x):=by
 rw [hx,List.map_append,List.map_cons];exact a5e _ _ _ (by rw [List.length_map])
theorem more{α:Type}{l p q:List α}{x:α}(hx:l=p++x::q):decide ((p.length:Int)<(l.length:Int))=true:=by
 rw [hx,List.length_append,List.length_cons];exact decide_eq_true (by omega)
theorem b2y(k:Nat):decide ((k:Int)<(k:Int))=false:=decide_eq_false (by omega)
theorem e6y{k:Nat}(hk:k<=1000000):Ev (fun n=>a6a n (k:Int)) (List.replicate k (toF 0)):=by
 have L:=b6k (xs:=List.replicate k ()) (σ:=List Frac) (ρ:=List Frac) (κ:=List Frac->Option (List Frac)) (L:=fun n K m i s=>ref37_zeros_L1 n (k:Int) K m i s) (fun K s=>K s) (fun p s=>s=List.replicate p.length (toF 0)) (fun _=>False)
  (fun p x q s hx hs=> .inl ⟨List.replicate (p.length+1) (toF 0),by simp,?_⟩) (fun s _=>⟨0,fun n K m _=> ?_⟩) (s0:= []) rfl
 ·unfold a6a;rcases L with⟨s',rfl,N,L⟩|⟨r,hr,_⟩
  ·rw [List.length_replicate]at L;exact⟨N,fun n hn=>L n _ hn⟩
  exact hr.elim
 ·subst hs;have hl:k=p.length+(q.length+1):=by have:=congrArg List.length hx;rw [List.length_replicate,List.length_append,List.length_cons]at this;exact this
  obtain⟨N,e⟩:=QInt0;dsimp only at e;refine⟨N,fun n K m hn=> ?_⟩;rw [ref37_zeros_L1_s,decide_eq_true (by omega),cond_true,e n hn,b_s,a5f (by rw [List.length_replicate,List.length_singleton];omega),b_s,Rt.inc64 (by omega),List.replicate_succ']
 rw [List.length_replicate,ref37_zeros_L1_s,b2y];rfl
theorem b8y(c:Rat){k:Nat}(hk:k<=1000000):Ev (fun n=>a2x n (toF c) (k:Int)) (toFm (cst k c)):=by
 unfold a2x;rw [c1r];exact Ev.bind (e6y hk) (Ev.pure _)
theorem e1w{k j:Nat}(hk:k<=1000000)(hj:j<k):Ev (fun n=>b1i n (j:Int) (k:Int)) (toFm (wgt k j)):=by
 unfold b1i;refine Ev.bind QInt0 (Ev.bind (b8y 0 hk) ?_);refine Ev.step (a:= [⟨toF 0,List.replicate k (toF 0)⟩]) (by rw [c1r];rfl) ?_;refine Ev.step (a:=⟨toF 0,List.replicate k (toF 0)⟩) rfl (Ev.bind QInt1 ?_);refine Ev.step (a:=toF 0) (by rw [a9n];show(List.replicate k (toF 0))[j]?=_;rw [List.getElem?_replicate,if_pos hj]) ?_;exact Ev.step (d5s hj) (Ev.pure _)
theorem f5i{σ:Type}{la i:Int}{X Y:Option σ}:((bif decide (i<la)then some (decide (i<la))else some false).bind fun v2=>bif v2 then X else Y)=bif decide (i<la)then X else Y:=by
 cases decide (i<la)<;>rfl
theorem f1r{A B:Nat}{a b:RA}(ha:SmA A a)(hb:SmA B b)(hk:A+B<4000000)(hl:a.2.length<=1000000)(he:b.2.length=a.2.length):Ev (fun n=>b6y n (toA a) (toA b)) (toA (addA a b)):=by
 unfold b6y;refine Ev.bind (QAdd_ev ha.1 hb.1 hk) ?_;refine d2u (L:=fun n K=>ref37_add_L1 n (toA a) (toA b) K n 0 ([]:List Frac)) (s:=(List.zipWith (·+·) a.2 b.2).map toF) (K:=fun _ l2=>some (⟨toF (a.1+b.1),l2⟩:Afn)) ?_ (Ev.pure _);refine c2e (xs:=a.2) (h:=toF) (by omega) (L:=fun n K m i s=>ref37_add_L1 n (toA a) (toA b) K m i s) (B:=fun n i x s k=>((ix (b.2.map toF) i).bind fun ex2=>(a7m n x ex2).bind fun v3=>some (v3.1.P.Sign,v3.1.P.Digits,v3.1.Q.Sign,v3.1.Q.Digits)).bind fun(f1,f2,f3,f4)=>(app 64 s [(⟨(⟨f1,f2⟩:Big),(⟨f3,f4⟩:Big)⟩:Frac)]).bind k) (fun n K m i s=> ?_) (fun p=>(List.zipWith (·+·) p b.2).map toF) (fun p x q hx=> ?_) rfl
 ·rw [ref37_add_L1_s];simp only [toA,List.length_map,he];rw [f5i,Option.bind_assoc]
 obtain⟨p2,y,q2,hb2,hp2⟩:=d6f (l:=b.2) (k:=p.length) (by rw [he,hx];simp);have h5:p.length<=1000000:=by rw [hx,List.length_append]at hl;omega
 obtain⟨N,e⟩:=QAdd_ev (ha.2 x (by rw [hx];simp)) (hb.2 y (by rw [hb2];simp)) hk;dsimp only at e;refine⟨N,fun n k hn=> ?_⟩;have hix:ix (b.2.map toF) (p.length:Int)=some (toF y):=by rw [<-hp2];exact b4e hb2
 rw [hix,b_s,e n hn];show(app 64 ((List.zipWith (·+·) p b.2).map toF) [toF (x+y)]).bind k=_;rw [a5f (by simp only [List.length_map,List.length_zipWith,List.length_singleton];omega),b_s,hb2,c9e hp2,List.map_append];rfl
theorem d3b{A B:Nat}{a:RA}{b:Rat}(ha:SmA A a)(hb:SmF B b)(hk:A+B<4000000)(hl:a.2.length<=1000000):Ev (fun n=>a5x n (toA a) (toF b)) (toA (mulA b a)):=by
 unfold a5x;refine Ev.bind (QMul_ev ha.1 hb hk) ?_;refine d2u (L:=fun n K=>ref37_times_L1 n (toA a) (toF b) K n 0 ([]:List Frac)) (s:=(a.2.map (·*b)).map toF) (K:=fun _ l2=>some (⟨toF (a.1*b),l2⟩:Afn)) ?_ (Ev.pure _);refine c2e (xs:=a.2) (h:=toF) (by omega) (L:=fun n K m i s=>ref37_times_L1 n (toA a) (toF b) K m i s) (B:=fun n i x s k=>((a8s n x (toF b)).bind fun v3=>some (v3.1.P.Sign,v3.1.P.Digits,v3.1.Q.Sign,v3.1.Q.Digits)).bind fun(f1,f2,f3,f4)=>(app 64 s [(⟨(⟨f1,f2⟩:Big),(⟨f3,f4⟩:Big)⟩:Frac)]).bind k) (fun n K m i s=> ?_) (fun p=>(p.map (·*b)).map toF) (fun p x q hx=> ?_) rfl
 ·rw [ref37_times_L1_s];simp only [toA,List.length_map];rw [Option.bind_assoc]
 have h5:p.length<=1000000:=by rw [hx,List.length_append]at hl;omega
 obtain⟨N,e⟩:=QMul_ev (ha.2 x (by rw [hx];simp)) hb hk;dsimp only at e;refine⟨N,fun n k hn=> ?_⟩;rw [e n hn];show(app 64 ((p.map (·*b)).map toF) [toF (x*b)]).bind k=_;rw [a5f (by simp only [List.length_map,List.length_singleton];omega),b_s,List.map_append,List.map_append];rfl
theorem c4g(f:RFm)(hs:Fm.sz f<=1000000)(hl:f.length<=1000000):Ev (fun n=>a3r n (toFm f)) (Fm.sz f:Int):=by
 unfold a3r;refine d2u (L:=fun n K=>ref37_Size_L1 n (toFm f) K n 0 0) (s:=((Fm.sz f:Nat):Int)) (K:=fun _ nx2=>some nx2) ?_ (Ev.pure _);refine c2e (xs:=f) (h:=toP) (by omega) (L:=fun n K m i s=>ref37_Size_L1 n (toFm f) K m s i) (B:=fun n i x s k=>k (iadd .i64 s (x.length:Int))) (fun n K m i s=> ?_) (fun p=>((Fm.sz p:Nat):Int)) (fun p x q hx=>⟨0,fun n k _=> ?_⟩) rfl
 ·rw [ref37_Size_L1_s];simp only [toFm,List.length_map]
 have h1:Fm.sz p+x.length<=Fm.sz f:=by rw [hx,sz_app];show _<=Fm.sz p+(x.length+Fm.sz q);omega
 have h2:Fm.sz (p++ [x])=Fm.sz p+x.length:=by rw [sz_app];rfl
 have h3:(toP x).length=x.length:=List.length_map ..;rw [h2,h3,a1k (by omega) (by omega)];congr 1
theorem c7y{A B nn:Nat}{f:RFm}{b:Rat}(hf:Gd nn A f)(hs:Fm.sz f<=1000000)(hl:f.length<=1000000)(hn:nn<=1000000)(hb:SmF B b)(hk:A+B<4000000):Ev (fun n=>a6n n (toFm f) (toF b)) (toFm (scl b f)):=by
 unfold a6n;have hfl:(f.map toP).length=f.length:=List.length_map ..;have L:=b6k (xs:=f) (σ:=List (List Afn)) (ρ:=M.Form) (κ:=List (List Afn)->List (List Afn)->Option M.Form) (L:=fun n K m i s=>ref37_scaled_L1 n K m i s [] (toF b).P.Sign (toF b).P.Digits (toF b).Q.Sign (toF b).Q.Digits (f.map toP)) (fun K s=>K s []) (fun p s=>s=(scl b p).map toP) (fun _=>False)
  (fun p x q s hx hi=> .inl ⟨(scl b (p++ [x])).map toP,rfl,?_⟩) (fun s _=>⟨0,fun n K m _=> ?_⟩) (s0:= []) rfl
 ·rcases L with⟨s',rfl,N,L⟩|⟨r,hr,_⟩
  ·exact⟨N,fun n hn=>L n _ hn⟩
  exact hr.elim
 ·subst hi;have h5:p.length<=1000000:=by rw [hx,List.length_append]at hl;omega
  have hxs:x.length<=1000000:=by rw [hx,sz_app]at hs;have:Fm.sz (x::q)=x.length+Fm.sz q:=rfl;omega
  have hxm:x∈f:=by rw [hx];simp
  have hix:=b4e (h:=toP) hx;obtain⟨N,hN⟩:=c2e (ρ:=M.Form) (xs:=x) (h:=toA) (s0:= []) (by omega) (L:=fun n K m i s=>ref37_scaled_L2 n (p.length:Int) (toF b).P.Sign (toF b).P.Digits (toF b).Q.Sign (toF b).Q.Digits (f.map toP) K m i s) (B:=fun n i x s k=>(a5x n x (toF b)).bind fun v1=>(app 88 s [v1]).bind k) (fun n K m i s=>by
   rw [ref37_scaled_L2_s,hix];simp only [b_s,toP,List.length_map]) (fun p=>toP (p.map (mulA b))) (fun p2 a q2 hx2=>by
   have h6:p2.length<=1000000:=by rw [hx2,List.length_append]at hxs;omega
   have ham:a∈x:=by rw [hx2];simp
   obtain⟨N,hN⟩:=d3b (gdA hf hxm ham) hb hk (by rw [hf.wide x hxm a ham];omega);dsimp only at hN;refine⟨N,fun n k hn=> ?_⟩;rw [hN n hn,b_s,a5f (by simp only [toP,List.length_map,List.length_singleton];omega),b_s];simp only [toP,List.map_append,List.map_cons,List.map_nil]) rfl
  refine⟨N,fun n K m hn=> ?_⟩;rw [ref37_scaled_L1_s,hfl,more hx,cond_true,hN n _ hn,a5f (by simp only [scl,List.length_map,List.length_singleton];omega),b_s,Rt.inc64 (by omega)];simp only [scl,List.map_append,List.map_cons,List.map_nil]
 rw [ref37_scaled_L1_s,hfl,b2y];rfl
theorem d6y{l:List RA}(hl:l≠ []):∀(cs:RFm)(r:Nat),(step cs l)[r]?=(cs[r/l.length]?).bind fun ch=>(l[r %l.length]?).map fun a=>ch++ [mulA (-1) a]
 | [],r=>by simp [step]
 |c::cs,r=>by
  have h0:0<l.length:=List.length_pos_iff.2 hl;have e:step (c::cs) l=(l.map fun a=>c++ [mulA (-1) a])++step cs l:=rfl;rw [e]
  by_cases hr:r<l.length
  ·rw [List.getElem?_append_left (by rw [List.length_map];exact hr),Nat.div_eq_of_lt hr,Nat.mod_eq_of_lt hr,List.getElem?_map];rfl
  have hr:l.length<=r:=Nat.not_lt.1 hr;rw [List.getElem?_append_right (by rw [List.length_map];exact hr),List.length_map,d6y hl cs (r-l.length)];have h1:(r-l.length) %l.length=r %l.length:=by rw [Nat.mod_eq_sub_mod hr]
  have h2:r/l.length=(r-l.length)/l.length+1:=by rw [Nat.div_eq_sub_div h0 hr]
  rw [h1,h2,List.getElem?_cons_succ]
theorem d6q(p:RFm)(x:List RA):opp (p++ [x])=step (opp p) x:=by unfold opp;rw [List.foldl_append];rfl
theorem c3u(x:List RA):∀p:RFm,prd (p++ [x])=prd p*x.length
 | []=>by show x.length*1=1*x.length;omega
 |y::p=>by show y.length*prd (p++ [x])=y.length*prd p*x.length;rw [c3u x p,Nat.mul_assoc]
theorem e5i{A nn:Nat}{f:RFm}(hf:Gd nn A f)(hl:f.length<=200)(hls:∀p,p∈f->p.length<=200)(hn:nn<=1000000)(hk:A+1<4000000):
 ∃N,∀(j:Nat)(p q:RFm)(c:List RA)(r:Nat)(acc:List Afn),f=p++q->p.length=j->(opp p)[r]?=some c->r<=1000000->acc.length=f.length->∀n m(K:List Afn->Option (M.Form×Bool)),N<=n->j<m->ref37_opposite_L3 n (f.map toP) K m (r:Int) ((j:Int)-1) acc=K (toP c++acc.drop j):=by
 obtain⟨N0,e0⟩:=QIntm;dsimp only at e0;have hall:∃N,∀l,l∈f->∀a,a∈l->∀n,N<=n->a5x n (toA a) (toF (-1))=some (toA (mulA (-1) a)):=by
  have hinner:∀l:List RA,(∀a,a∈l->SmA A a/\a.2.length=nn)->∃N,∀a,a∈l->∀n,N<=n->a5x n (toA a) (toF (-1))=some (toA (mulA (-1) a)):=by
   intro l;induction l with
   |nil=>intro _;exact⟨0,fun a ha=>by cases ha⟩
   |cons a l ih=>
    intro h;obtain⟨N1,h1⟩:=ih fun b hb=>h b (by simp [hb]);obtain⟨g1,g2⟩:=h a (by simp);obtain⟨N2,h2⟩:=d3b g1 (b:=-1) (B:=1) (c4z (x:=-1) (sm01 (by decide) (by decide) (by decide)) (by decide)) hk (by omega);refine⟨max N1 N2,fun b hb n hn=> ?_⟩;rcases List.mem_cons.1 hb with rfl|hb
    ·exact h2 n (by omega)
    exact h1 b hb n (by omega)
  have:∀g:RFm,(∀l,l∈g->l∈f)->∃N,∀l,l∈g->∀a,a∈l->∀n,N<=n->a5x n (toA a) (toF (-1))=some (toA (mulA (-1) a)):=by
   intro g;induction g with
   |nil=>intro _;exact⟨0,fun l hl=>by cases hl⟩
   |cons l g ih=>
    intro h;obtain⟨N1,h1⟩:=ih fun b hb=>h b (by simp [hb]);have hlm:=h l (by simp);obtain⟨N2,h2⟩:=hinner l fun a ha=>⟨gdA hf hlm ha,hf.wide l hlm a ha⟩
    refine⟨max N1 N2,fun b hb a ha n hn=> ?_⟩;rcases List.mem_cons.1 hb with rfl|hb
    ·exact h2 a ha n (by omega)
    exact h1 b hb a ha n (by omega)
  exact this f fun l h=>h
 obtain⟨N1,e1⟩:=hall;refine⟨max N0 N1,fun j=> ?_⟩;induction j with
 |zero=>
  intro p q c r acc hfp hpl hc hr hacc n m K hn hm;obtain⟨m,rfl⟩:∃k,m=k+1:=⟨m-1,by omega⟩
  obtain rfl:=List.length_eq_zero_iff.1 hpl;have hc2:c= []:=by
   have:(opp []:RFm)= [[]]:=rfl;rw [this]at hc;cases r with
   |zero=>simpa using hc.symm
   |succ r=>simp at hc
  subst hc2;rw [ref37_opposite_L3_s,decide_eq_false (by omega),cond_false];rfl
 |succ j ih=>
  intro p q c r acc hfp hpl hc hr hacc n m K hn hm;obtain⟨m,rfl⟩:∃k,m=k+1:=⟨m-1,by omega⟩
  obtain⟨p2,l,rfl⟩:∃p2 l,p=p2++ [l]:=by
   rcases List.eq_nil_or_concat p with h|⟨p2,l,h⟩
   ·subst h;simp at hpl
   exact⟨p2,l,by rw [h,List.concat_eq_append]⟩
  have hp2:p2.length=j:=by simpa using hpl
  have hl0:l≠ []:=by
   intro e;subst e;rw [d6q]at hc;have:step (opp p2) []= []:=by
    have:=c8w (opp p2) [];rw [List.length_nil,Nat.mul_zero]at this;exact List.length_eq_zero_iff.1 this
   rw [this]at hc;simp at hc
  rw [d6q,d6y hl0]at hc;obtain⟨ch,hch,hc⟩:=Option.bind_eq_some_iff.1 hc;obtain⟨a,ha,rfl⟩:=Option.map_eq_some_iff.1 hc;have h0:0<l.length:=List.length_pos_iff.2 hl0;have hfx:f=p2++l::q:=by rw [hfp];simp
  have hix:ix (f.map toP) (((j+1:Nat):Int)-1)=some (toP l):=by
   have:=b4e (h:=toP) hfx;rw [hp2]at this;rw [show(((j+1:Nat):Int)-1)=(j:Int) by omega];exact this
  have hlm:l∈f:=by rw [hfx];simp
  have ham:a∈l:=List.mem_of_getElem? ha;have hlen:(toP l).length=l.length:=List.length_map ..;have hll:=hls l hlm;have hrem:rem (r:Int) ((toP l).length:Int)=some ((r %l.length:Nat):Int):=by
   rw [hlen,c2h (by omega) (by omega),Int.natCast_emod]
  have hquo:quo .i64 (r:Int) ((toP l).length:Int)=some ((r/l.length:Nat):Int):=by
   rw [hlen,c2c (by omega) (by omega) (by omega),Int.natCast_ediv]
  have hixa:ix (toP l) ((r %l.length:Nat):Int)=some (toA a):=by
   rw [a9n];show(l.map toA)[r %l.length]?=_;rw [List.getElem?_map,ha];rfl
  have hj:j<acc.length:=by rw [hacc,hfx,List.length_append,List.length_cons];omega
  have hixc:ix acc (((j+1:Nat):Int)-1)=some acc[j]:=by
   rw [show(((j+1:Nat):Int)-1)=(j:Int) by omega,a9n,List.getElem?_eq_getElem hj]
  have hset:lset acc (((j+1:Nat):Int)-1) (toA (mulA (-1) a))=some (acc.set j (toA (mulA (-1) a))):=by
   unfold lset;rw [if_pos ⟨by omega,by omega⟩]
   congr 2;omega
  have hsub:isub .i64 (((j+1:Nat):Int)-1) 1=(j:Int)-1:=by rw [a0t (by omega) (by omega)];omega
  have hrd:r/l.length<=1000000:=Nat.le_trans (Nat.div_le_self _ _) hr;rw [ref37_opposite_L3_s,decide_eq_true (by omega),cond_true,hix,b_s,b_s,hrem,b_s,hixa,b_s,e0 n (by omega),b_s,e1 l hlm a ham n (by omega),b_s,hixc,b_s,hset,b_s,hquo,b_s,hsub];rw [ih p2 (l::q) ch (r/l.length) _ hfx hp2 hch hrd (by rw [List.length_set];exact hacc) n m K hn (by omega)]
  congr 1
  have hd:(acc.set j (toA (mulA (-1) a))).drop j=toA (mulA (-1) a)::acc.drop (j+1):=by
   rw [List.drop_eq_getElem_cons (by rw [List.length_set];exact hj),List.getElem_set_self]
   congr 1
   rw [List.drop_set_of_lt (by omega)]
  rw [hd];show toP ch++_=toP (ch++ [mulA (-1) a])++acc.drop (j+1);simp only [toP,List.map_append,List.map_cons,List.map_nil,List.append_assoc];rfl
theorem c2t{A nn:Nat}{f:RFm}(hf:Gd nn A f)(hs:Fm.sz f<=200)(hl:f.length<=200)(hn:nn<=1000000)(hk:A+1<4000000):
 (∀g,oppB f=some g->Ev (fun n=>a3d n (toFm f)) (toFm g,true))/\(oppB f=none->Ev (fun n=>a3d n (toFm f)) (⟨[]⟩,false)):=by
 have hlen:(toFm f).Pieces.length=f.length:=List.length_map ..;have hls:∀p,p∈f->p.length<=200:=fun p hp=>Nat.le_trans (mem_len hp) hs;have L:=b6k (xs:=f) (σ:=Int) (ρ:=M.Form×Bool) (κ:=Int->Option (M.Form×Bool)) (L:=fun n K m i s=>ref37_opposite_L1 n (toFm f) K m s i) (fun K s=>K s)
  (fun p s=>s=((prd p:Nat):Int)/\(prd p*f.length<=200∨p= [])/\∀q,f=p++q->b2v f.length 1 f=b2v f.length (prd p) q) (fun r=>r=(⟨[]⟩,false)/\b2v f.length 1 f=false) (fun p x q s hx⟨hi,hpr,hok⟩=> ?_) (fun s _=>⟨0,fun n K m _=>by rw [ref37_opposite_L1_s,hlen,b2y];rfl⟩) (s0:=1) ⟨rfl,.inr rfl,fun q hq=>by rw [show f=q by simpa using hq];rfl⟩
 ·rcases L with⟨s',⟨rfl,h1,h2⟩,N,L⟩|⟨r,⟨rfl,h1⟩,N,L⟩
  ·have hok:b2v f.length 1 f=true:=h2 [] (by simp);have hob:oppB f=some (opp f):=by unfold oppB;rw [if_pos hok]
   refine⟨fun g hg=> ?_,fun h=>by rw [hob]at h;cases h⟩;rw [hob]at hg;cases hg;obtain⟨N3,e3⟩:=e5i hf hl hls hn hk;have hpl:prd f<=200:=by
    rcases h1 with h|h
    ·by_cases h0:f= []
     ·subst h0;decide
     exact c7d h h0
    rw [h];decide
   have L2:=b6k (xs:=opp f) (σ:=List (List Afn)) (ρ:=M.Form×Bool) (κ:=List (List Afn)->List (List Afn)->Option (M.Form×Bool)) (L:=fun n K m i s=>ref37_opposite_L2 n ((prd f:Nat):Int) K m i s [] (f.map toP)) (fun K s=>K s []) (fun p s=>s=p.map toP) (fun _=>False)
    (fun p c q s hx hi=> .inl ⟨(p++ [c]).map toP,rfl,?_⟩) (fun s _=>⟨0,fun n K m _=>by rw [c2d,ref37_opposite_L2_s,b2y];rfl⟩) (s0:= []) rfl
   ·rcases L2 with⟨s',rfl,N2,L2⟩|⟨r,hr,_⟩
    ·unfold a3d;refine⟨max N N2,fun n hn=> ?_⟩;dsimp only;rw [L n _ (by omega)];exact L2 n _ (by omega)
    exact hr.elim
   subst hi;have hpo:p.length<prd f:=by rw [<-c2d,hx,List.length_append,List.length_cons];omega
   have hget:(opp f)[p.length]?=some c:=by rw [hx];simp
   have hcl:c.length=f.length:=(b9m.1 (List.mem_of_getElem? hget)).len;refine⟨N3+f.length+1,fun n K m hnn=> ?_⟩;have hmk:Rt.mks 88 (⟨(⟨(⟨0,[]⟩:Big),(⟨0,[]⟩:Big)⟩:Frac),[]⟩:Afn) ((f.map toP).length:Int)=some (List.replicate f.length ⟨⟨⟨0,[]⟩,⟨0,[]⟩⟩,[]⟩):=by
    rw [List.length_map];exact c7f (by omega)
   have hsub:isub .i64 ((f.map toP).length:Int) 1=(f.length:Int)-1:=by rw [List.length_map,a0t (by omega) (by omega)]
   rw [ref37_opposite_L2_s,decide_eq_true (by omega),cond_true,hmk,b_s,hsub,e3 f.length f [] c p.length _ (by simp) rfl hget (by omega) (by simp) n n _ (by omega) (by omega),List.drop_eq_nil_of_le (by simp),List.append_nil,a5f (by simp only [List.length_map,List.length_singleton];omega),b_s,Rt.inc64 (by omega),List.map_append];rfl
  have hob:oppB f=none:=by unfold oppB;rw [if_neg (by rw [h1];decide)]
  refine⟨fun g hg=>(by rw [hob]at hg;cases hg),fun _=> ?_⟩;unfold a3d;exact⟨N,fun n hn=>L n _ hn⟩
 have hix:=b4e (h:=toP) hx;have hlf:f.length=p.length+(q.length+1):=by rw [hx,List.length_append,List.length_cons]
 have hxl:=hls x (by rw [hx];simp);have hpl:prd p<=200:=by
  rcases hpr with h|h
  ·have:prd p*1<=prd p*f.length:=Nat.mul_le_mul_left _ (by omega);omega
  rw [h];decide
 have hm:prd p*x.length<=40000:=Nat.mul_le_mul hpl hxl;have hm2:prd p*x.length*f.length<=8000000:=Nat.mul_le_mul hm hl;have h3:(toP x).length=x.length:=List.length_map ..;have hok1:=hok (x::q) hx;have hok2:b2v f.length (prd p) (x::q)=(decide (prd p*x.length*f.length<=200)&&b2v f.length (prd p*x.length) q):=rfl;have hstep:∀(n:Nat)(K:Int->Option (M.Form×Bool))(m:Nat),ref37_opposite_L1 n (toFm f) K (m+1) s (p.length:Int)=bif decide ((200:Int)<((prd p*x.length*f.length:Nat):Int))then some ((⟨[]⟩:M.Form),false)else ref37_opposite_L1 n (toFm f) K m ((prd (p++ [x]):Nat):Int) ((p.length+1:Nat):Int):=by
  intro n K m;rw [ref37_opposite_L1_s,hlen,more hx,cond_true];show(ix (f.map toP) (p.length:Int)).bind _=_;rw [hix,b_s,hi,h3,mulN (by omega),mulN (by omega),Rt.inc64 (by omega),c3u]
 by_cases hle:prd p*x.length*f.length<=200
 ·refine .inl ⟨_,⟨rfl,.inl (by rw [c3u];exact hle),fun q' hq'=> ?_⟩,0,fun n K m _=>by rw [hstep,decide_eq_false (by omega)];rfl⟩;have:q'=q:=by
   rw [hx,List.append_assoc]at hq';have:=List.append_cancel_left hq';simpa using this.symm
  subst this;rw [hok1,hok2,c3u,decide_eq_true hle];rfl
 exact .inr ⟨_,⟨rfl,by rw [hok1,hok2,decide_eq_false hle];rfl⟩,0,fun n K m _=>by rw [hstep,decide_eq_true (by omega)];rfl⟩
section
variable{A B nn:Nat}{f g:RFm}
theorem d4p{x y:List RA}{a:RA}{i k p:Nat}(hfi:ix (f.map toP) (i:Int)=some (toP x))(hgk:ix (g.map toP) (k:Int)=some (toP y))(hxp:ix (toP x) (p:Int)=some (toA a))(hy:y.length<=1000)(ha:SmA A a/\a.2.length=nn)(hb:∀b,b∈y->SmA B b/\b.2.length=nn)(hn:nn<=1000000)(hk:A+B<4000000){s0:List RA}(hs0:s0.length<=1000000):
 ∃N,∀n(K:List Afn->Option (M.Form×Bool)),N<=n->ref37_joined_L4 n (i:Int) (k:Int) (p:Int) (g.map toP) (f.map toP) K n 0 (toP s0)=K (toP (s0++y.map (addA a))):=by
 have hlen:(toP y).length=y.length:=List.length_map ..;have L:=b6k (xs:=y) (σ:=List Afn) (ρ:=M.Form×Bool) (κ:=List Afn->Option (M.Form×Bool)) (L:=fun n K m j s=>ref37_joined_L4 n (i:Int) (k:Int) (p:Int) (g.map toP) (f.map toP) K m j s) (fun K s=>K s) (fun q s=>s=toP (s0++q.map (addA a))) (fun _=>False)
  (fun q b q2 s hx hs=> .inl ⟨_,rfl,?_⟩) (fun s _=>⟨0,fun n K m _=> ?_⟩) (s0:=toP s0) (by simp)
 ·rcases L with⟨s',rfl,L⟩|⟨r,hr,_⟩
  ·exact L
  exact hr.elim
 ·subst hs;have h5:q.length<=1000:=by rw [hx,List.length_append]at hy;omega
  obtain⟨h6,h7⟩:=hb b (by rw [hx];simp);obtain⟨N,hN⟩:=f1r ha.1 h6 hk (by omega) (by rw [h7,ha.2]);dsimp only at hN;have hyq:ix (toP y) (q.length:Int)=some (toA b):=b4e (h:=toA) hx;refine⟨N,fun n K m hn=> ?_⟩;rw [ref37_joined_L4_s,hgk,b_s,hlen,more hx,cond_true,hfi,b_s,hxp,b_s,b_s,hyq,b_s,hN n hn,b_s,a5f (by simp only [toP,List.length_map,List.length_append,List.length_singleton];omega),b_s,Rt.inc64 (by omega)];simp only [toP,List.map_append,List.map_cons,List.map_nil,List.append_assoc]
 rw [ref37_joined_L4_s,hgk,b_s,hlen,b2y];rfl
def opJ(sum:Bool)(x y:List RA):List RA:=if sum=true then sums x y else x++y
theorem d4x(sum:Bool){x y:List RA}{i k:Nat}(hfi:ix (f.map toP) (i:Int)=some (toP x))(hgk:ix (g.map toP) (k:Int)=some (toP y))(hx0:x.length<=1000)(hy:y.length<=1000)(ha:∀a,a∈x->SmA A a/\a.2.length=nn)(hb:∀b,b∈y->SmA B b/\b.2.length=nn)(hn:nn<=1000000)(hk:A+B<4000000):
 ∃N,∀n(K:List Afn->List (List Afn)->List (List Afn)->List (List Afn)->List (List Afn)->Option (M.Form×Bool))(l7 f11:List (List Afn)),N<=n->ref37_joined_L3 n sum (i:Int) (k:Int) K n 0 (if sum=true then []else toP (x++y)) l7 f11 (g.map toP) (f.map toP)=K (toP (opJ sum x y)) l7 f11 (g.map toP) (f.map toP):=by
 have hlen:(toP x).length=x.length:=List.length_map ..;cases sum with
 |false=>
  refine⟨1,fun n K l7 f11 hn=> ?_⟩;obtain⟨m,rfl⟩:∃m,n=m+1:=⟨n-1,by omega⟩
  rw [ref37_joined_L3_s,hfi,b_s];cases decide ((0:Int)<((toP x).length:Int))<;>rfl
 |true=>
  have L:=b6k (xs:=x) (σ:=List Afn) (ρ:=M.Form×Bool) (κ:=(List Afn->List (List Afn)->List (List Afn)->List (List Afn)->List (List Afn)->Option (M.Form×Bool))×List (List Afn)×List (List Afn)) (L:=fun n K m j s=>ref37_joined_L3 n true (i:Int) (k:Int) K.1 m j s K.2.1 K.2.2 (g.map toP) (f.map toP)) (fun K s=>K.1 s K.2.1 K.2.2 (g.map toP) (f.map toP)) (fun q s=>s=toP (sums q y)) (fun _=>False)
   (fun q a q2 s hx hs=> .inl ⟨_,rfl,?_⟩) (fun s _=>⟨0,fun n K m _=> ?_⟩) (s0:= []) rfl
  ·rcases L with⟨s',rfl,N,L⟩|⟨r,hr,_⟩
   ·exact⟨N,fun n K l7 f11 hn=>L n (K,l7,f11) hn⟩
   exact hr.elim
  ·subst hs;have h5:q.length<=1000:=by rw [hx,List.length_append]at hx0;omega
   have h6:(sums q y).length<=1000000:=by rw [sums_len];exact Nat.le_trans (Nat.mul_le_mul h5 hy) (by decide)
   obtain⟨N,hN⟩:=d4p (f:=f) (g:=g) hfi hgk (p:=q.length) (a:=a) (b4e (h:=toA) hx) hy (ha a (by rw [hx];simp)) hb hn hk h6;refine⟨N,fun n K m hnn=> ?_⟩;rw [ref37_joined_L3_s,hfi,b_s,hlen,more hx,cond_true,b_s,cond_true,hN n _ hnn,Rt.inc64 (by omega)];unfold sums;simp only [List.flatMap_append,List.flatMap_cons,List.flatMap_nil,List.append_nil]
  rw [ref37_joined_L3_s,hfi,b_s,hlen,b2y];rfl
theorem d3x(sum:Bool){x:List RA}{i:Nat}(hfi:ix (f.map toP) (i:Int)=some (toP x))(hx0:x.length<=1000)(hg1:g.length<=1000)(hg2:∀y,y∈g->y.length<=1000)(ha:∀a,a∈x->SmA A a/\a.2.length=nn)(hb:∀y,y∈g->∀b,b∈y->SmA B b/\b.2.length=nn)(hn:nn<=1000000)(hk:A+B<4000000){s0:RFm}(hs0:s0.length<=1000000):
 ∃N,∀n(K:List (List Afn)->List (List Afn)->List (List Afn)->List (List Afn)->Option (M.Form×Bool))(f5:List (List Afn)),N<=n->ref37_joined_L2 n sum (i:Int) K n 0 (s0.map toP) f5 (g.map toP) (f.map toP)=K ((s0++g.map (opJ sum x)).map toP) f5 (g.map toP) (f.map toP):=by
 have hlen:(g.map toP).length=g.length:=List.length_map ..;have L:=b6k (xs:=g) (σ:=List (List Afn)) (ρ:=M.Form×Bool) (κ:=(List (List Afn)->List (List Afn)->List (List Afn)->List (List Afn)->Option (M.Form×Bool))×List (List Afn)) (L:=fun n K m j s=>ref37_joined_L2 n sum (i:Int) K.1 m j s K.2 (g.map toP) (f.map toP)) (fun K s=>K.1 s K.2 (g.map toP) (f.map toP)) (fun q s=>s=(s0++q.map (opJ sum x)).map toP) (fun _=>False)
  (fun q y q2 s hx hs=> .inl ⟨_,rfl,?_⟩) (fun s _=>⟨0,fun n K m _=> ?_⟩) (s0:=s0.map toP) (by simp)
 ·rcases L with⟨s',rfl,N,L⟩|⟨r,hr,_⟩
  ·exact⟨N,fun n K f5 hn=>L n (K,f5) hn⟩
  exact hr.elim
 ·subst hs;have h5:q.length<=1000:=by rw [hx,List.length_append]at hg1;omega
  have hym:y∈g:=by rw [hx];simp
  have hgk:=b4e (h:=toP) hx;obtain⟨N,hN⟩:=d4x sum hfi hgk hx0 (hg2 y hym) ha (hb y hym) hn hk;refine⟨N,fun n K m hnn=> ?_⟩;have hy:=hg2 y hym;have hl5:((bif !sum then(ix (f.map toP) (i:Int)).bind fun ex7=>(ix (g.map toP) (q.length:Int)).bind fun ex8=>(app 88 [] ex7).bind fun l14=>(app 88 l14 ex8).bind fun l15=>some l15 else some []):Option (List Afn))=some (if sum=true then []else toP (x++y)):=by
   cases sum with
   |true=>rfl
   |false=>
    have h1:(toP x).length=x.length:=List.length_map ..;have h2:(toP y).length=y.length:=List.length_map ..;rw [Bool.not_false,cond_true,hfi,b_s,hgk,b_s,a5f (l:= []) (by simp only [List.length_nil];omega),b_s,List.nil_append,a5f (by omega),b_s,if_neg (by decide)];simp only [toP,List.map_append]
  rw [ref37_joined_L2_s,hlen,more hx,cond_true,hl5,b_s,hN n _ _ _ hnn,a5f (by simp only [List.length_map,List.length_append,List.length_singleton];omega),b_s,Rt.inc64 (by omega)];simp only [List.map_append,List.map_cons,List.map_nil,List.append_assoc]
 rw [ref37_joined_L2_s,hlen,b2y];rfl
theorem e2t(sum:Bool)(hf:Gb nn A f)(hg:Gb nn B g)(hn:nn<=1000000)(hk:A+B<4000000):
 Ev (fun n=>a6o n (toFm f) (toFm g) sum) (if(if sum=true then Fm.sz f*Fm.sz g else Fm.sz f*g.length+Fm.sz g*f.length)<=200 then(toFm (join (opJ sum) f g),true)else(⟨[]⟩,false)):=by
 have hfl:=hf.len;have hfs:=hf.sz;have hgl:=hg.len;have hgs:=hg.sz;have m1:=Nat.mul_le_mul hfs hgl;have m2:=Nat.mul_le_mul hgs hfl;have m3:=Nat.mul_le_mul hfs hgs;have s1:=c4g f (by omega) (by omega);have s2:=c4g g (by omega) (by omega);have l1:(toFm f).Pieces.length=f.length:=List.length_map ..;have l2:(toFm g).Pieces.length=g.length:=List.length_map ..;unfold a6o;refine Ev.bind s1 (Ev.bind s2 (Ev.bind (a:=(((if sum=true then Fm.sz f*Fm.sz g else Fm.sz f*g.length+Fm.sz g*f.length):Nat):Int)) ?_ ?_))
 ·cases sum with
  |true=>exact Ev.then rfl (Ev.bind s1 (Ev.bind s2 ((Ev.pure _).eq (mulN (by omega)))))
  |false=>exact Ev.else rfl ((Ev.pure _).eq (by rw [l1,l2,mulN (by omega),mulN (by omega),a1k (by omega) (by omega)];rfl))
 generalize hz:(if sum=true then Fm.sz f*Fm.sz g else Fm.sz f*g.length+Fm.sz g*f.length)=z
 by_cases hle:z<=200
 ·rw [if_pos hle];refine Ev.else (decide_eq_false (by omega)) ?_
  have hlen:(f.map toP).length=f.length:=List.length_map ..;have L:=b6k (xs:=f) (σ:=List (List Afn)) (ρ:=M.Form×Bool) (κ:=List (List Afn)->List (List Afn)->Option (M.Form×Bool)) (L:=fun n K m j s=>ref37_joined_L1 n sum K m j s [] (g.map toP) (f.map toP)) (fun K s=>K s []) (fun q s=>s=(join (opJ sum) q g).map toP) (fun _=>False)
   (fun q x q2 s hx hs=> .inl ⟨_,rfl,?_⟩) (fun s _=>⟨0,fun n K m _=> ?_⟩) (s0:= []) rfl
  ·rcases L with⟨s',rfl,N,L⟩|⟨r,hr,_⟩
   ·exact⟨N,fun n hn=>L n _ hn⟩
   exact hr.elim
  ·subst hs;have hxm:x∈f:=by rw [hx];simp
   have h5:q.length<=200:=by rw [hx,List.length_append]at hfl;omega
   have h6:(join (opJ sum) q g).length<=1000000:=by rw [c3t];exact Nat.le_trans (Nat.mul_le_mul h5 hgl) (by decide)
   obtain⟨N,hN⟩:=d3x sum (f:=f) (g:=g) (i:=q.length) (b4e (h:=toP) hx) (by have:=mem_len hxm;omega) (by omega) (fun y hy=>by have:=mem_len hy;omega) (fun a ha=>⟨gdA hf.gd hxm ha,hf.gd.wide x hxm a ha⟩) (fun y hy b hb=>⟨gdA hg.gd hy hb,hg.gd.wide y hy b hb⟩) hn hk h6;refine⟨N,fun n K m hnn=> ?_⟩;rw [ref37_joined_L1_s,hlen,more hx,cond_true,hN n _ _ hnn,Rt.inc64 (by omega)];unfold join;simp only [List.flatMap_append,List.flatMap_cons,List.flatMap_nil,List.append_nil]
  rw [ref37_joined_L1_s,hlen,b2y];rfl
 rw [if_neg hle];exact Ev.then (decide_eq_true (by omega)) (Ev.pure _)
end
theorem b3a{nz:List Rt.Bs}(hn:nz.length<4611686018427387904)(hnm:named nz=true){x:M.Expr}(hx:Fit x)(hf:Frm x){k:Int}(ht:Typ nz x k):Ev (fun n=>b0s n x nz) (k,0):=by
 unfold b0s;refine Ev.bind (c4b nz) (Ev.else (by rw [hnm];rfl) ?_);obtain⟨b,e1,e2,h3⟩:=e8g hx;obtain⟨b',e1',hb⟩:=e2o hx;obtain rfl:=e1.uniq e1';obtain rfl:=hb.2 hf;refine Ev.bind e2 (Ev.else rfl ?_);obtain⟨r,t1,t2,_⟩:=e1b hx nz hn (h3 rfl);obtain⟨r',t1',hr⟩:=c8v hx nz hn hf.2;obtain rfl:=t1.uniq t1';obtain rfl:=hr.2 k ht;exact Ev.bind t2 (Ev.pure _)
theorem d2p(n:Nat)(x:M.Expr)(nz:List Rt.Bs)(f:Facts)(w w':List Frac)(K:List M.Result->Option M.Result)(hx:x.Args.length<4611686018427387904)(h:∀y,y∈x.Args->ref36_Eval n y nz f w=ref36_Eval n y nz f w'):∀(m:Nat)(i:Nat)(acc:List M.Result),ref36_Eval_L1 n (ref36_Eval n) x nz f w K m (i:Int) acc=ref36_Eval_L1 n (ref36_Eval n) x nz f w' K m (i:Int) acc
 |0,i,acc=>rfl
 |m+1,i,acc=>by
  rw [ref36_Eval_L1_s,ref36_Eval_L1_s]
  by_cases hi:i<x.Args.length
  ·have hix:ix x.Args (i:Int)=some x.Args[i]:=by rw [a9n,List.getElem?_eq_getElem hi]
   rw [decide_eq_true (by omega),cond_true,cond_true,hix,b_s,b_s,h _ (List.getElem_mem hi),Rt.inc64 (by omega)];have ih:=d2p n x nz f w w' K hx h m (i+1)
   congr 1;funext v;congr 1;funext l;exact ih l
  rw [decide_eq_false (by omega)];rfl
theorem no2{nz:List Rt.Bs}{x:M.Expr}{k:Int}(ht:Typ nz x k)(hk:k≠2):(x.Args= []->x.Op=0∨x.Op=1∨x.Op=2∨x.Op=3)/\∀y,y∈x.Args->∃p,Typ nz y p/\p≠2:=by
 have l2:∀{a b:M.Expr}{p q:Int}{o:Int},Typ nz a p->Typ nz b q->p≠2->q≠2->([a,b]=([]:List M.Expr)->o=0∨o=1∨o=2∨o=3)/\∀y,y∈ [a,b]->∃p,Typ nz y p/\p≠2:=by
  intro a b p q o ha hb hp hq;refine⟨fun h=>(by cases h),fun y hy=> ?_⟩;simp only [List.mem_cons,List.not_mem_nil,or_false]at hy;rcases hy with rfl|rfl
  ·exact⟨p,ha,hp⟩
  exact⟨q,hb,hq⟩
 cases ht with
 |num=>exact⟨fun _=> .inl rfl,fun y hy=>by cases hy⟩
 |lifts=>exact⟨fun _=> .inr (.inl rfl),fun y hy=>by cases hy⟩
 |pers=>exact⟨fun _=> .inr (.inr (.inl rfl)),fun y hy=>by cases hy⟩
 |flats=>exact⟨fun _=> .inr (.inr (.inr rfl)),fun y hy=>by cases hy⟩
 |wgt=>exact absurd rfl hk
 |ari ho ha hb hp hq=>exact l2 ha hb (b5t hk).1 (b5t hk).2
 |mul ha hb hp hq=>exact l2 ha hb (b5t hk).1 (b5t hk).2
 |div ha hp h1 h2=>exact l2 ha (Typ.num (by omega) h2) hk (by decide)
 | @ite c a b p q hc ha hb hp hq=>
  refine⟨fun h=>(by cases h),fun y hy=> ?_⟩;have hy:y=c∨y=a∨y=b:=by simpa using hy
  rcases hy with rfl|rfl|rfl
  ·exact⟨0,hc,by decide⟩
  ·exact⟨p,ha,(b5t hk).1⟩
  exact⟨q,hb,(b5t hk).2⟩
 |rel ho ha hb=>exact l2 ha hb (by decide) (by decide)
 | @not a ha=>
  refine⟨fun h=>(by cases h),fun y hy=> ?_⟩;have hy:y=a:=by simpa using hy
  subst hy;exact⟨0,ha,by decide⟩
 |bin ho ha hb=>exact l2 ha hb (by decide) (by decide)
theorem c7e{nz:List Rt.Bs}{f:Facts}(w w':List Frac):∀(n:Nat){x:M.Expr}{k:Int},Fit x->Typ nz x k->k≠2->ref36_Eval n x nz f w=ref36_Eval n x nz f w'
 |0,_,_,_,_,_=>rfl
 |n+1,x,k,hx,ht,hk=>by
  obtain⟨h4,hargs⟩:=no2 ht hk;have hl:x.Args.length<=1000000:=by cases hx with|mk h _=>exact h
  rw [ref36_Eval_s,ref36_Eval_s];cases h0:((x.Args.length:Int)==0)with
  |true=>
   rw [cond_true,cond_true]
   congr 1
   have h5:=h4 (List.length_eq_zero_iff.1 (by have:=eq_of_beq h0;omega));unfold b4j
   congr 1;funext v
   rcases h5 with h|h|h|h<;>rw [h]<;>rfl
  |false=>
   rw [cond_false,cond_false];exact d2p n x nz f w w' _ (by omega) (fun y hy=>by
    obtain⟨p,hp,hp2⟩:=hargs y hy;exact c7e w w' n (a7s hx hy) hp hp2) n 0 []
def RRes(o:Option RFm)(r:M.Form×Int):Prop:=(∃g,o=some g/\r=(toFm g,0))∨(o=none/\r=(⟨[]⟩,6))
section
variable{nz:List Rt.Bs}{fc:Facts}(hf:RF nz fc (List.replicate nz.length 0))(hnm:named nz=true)(hn:nz.length<=1000)
include hf hnm hn
omit hnm in
theorem c3z{x:M.Expr}(hx:Fit x)(hc:cnt x<=1000){k:Int}(ht:Typ nz x k)(h1:k=1):Ev (fun n=>ref36_Eval n x nz fc []) ⟨toF (num (E0 nz fc) x),false⟩:=by
 subst h1;refine Ev.conv (fun n=>c7e [] ((List.replicate nz.length 0).map toF) n hx ht (by decide)) ?_;exact(e1d hf (W:=4) (by decide) (by decide) (c8t _) (by omega) ht hc).1 (by decide)
omit hnm in
theorem e4s{x:M.Expr}(hx:Fit x)(hc:cnt x<=1000)(ht:Typ nz x 0):Ev (fun n=>ref36_Eval n x nz fc []) ⟨zeroF,tru (E0 nz fc) x⟩:=by
 refine Ev.conv (fun n=>c7e [] ((List.replicate nz.length 0).map toF) n hx ht (by decide)) ?_;exact(e1d hf (W:=4) (by decide) (by decide) (c8t _) (by omega) ht hc).2 rfl
theorem e0p{x:M.Expr}(hx:Fit x)(hfr:Frm x)(ht:Typ nz x 1){K:Nat->Int×Int->Option (M.Form×Int)}:Ev (fun n=>(b0s n x nz).bind fun v1=>bif v1.1==1 then(ref36_Eval n x nz fc []).bind fun v2=>(a2x n v2.N (nz.length:Int)).bind fun v3=>some (v3,(0:Int))else K n v1) (toFm (cst nz.length (num (E0 nz fc) x)),0):=by
 refine Ev.bind (b3a (by omega) hnm hx hfr ht) (Ev.then rfl ?_);exact Ev.bind (c3z hf hn hx (by have:=hfr.1.2;omega) ht rfl) (Ev.bind (b8y _ (by omega)) (Ev.pure _))
omit hf hnm in
theorem c6c{A B:Nat}{f:RFm}{c:Rat}(h:Gb nz.length A f)(hc:SmF B c)(hB:1<=B)(hk:A+B+1<1000000):
 Tt (RRes (b4a nz.length f c)) (fun n=>(a7d n (toF c)).bind fun v4=>bif v4==0 then(a2x n (toF c) (nz.length:Int)).bind fun v5=>some (v5,(0:Int))else
  (a7d n (toF c)).bind fun v6=>bif decide (0<v6)then(a6n n (toFm f) (toF c)).bind fun v7=>some (v7,0)else
   (a3d n (toFm f)).bind fun v8=>bif !v8.2 then some ((⟨[]⟩:M.Form),6)else(b4b n (toF c)).bind fun v9=>(a6n n v8.1 v9).bind fun v10=>some (v10,0)):=by
 have hfs:=h.sz;have hfl:=h.len;have hsg:=QSign_ev hc (by omega);unfold b4a;refine Tt.evb hsg ?_;rcases a0p c with⟨h1,h2⟩|⟨h1,h2⟩|⟨h1,h2⟩
 ·rw [if_pos h1];refine Tt.bif (fun _=> ?_) (fun h=>by rw [h2]at h;cases h);rw [h1];exact Tt.evb (b8y 0 (by omega)) (Tt.pure (.inl ⟨_,rfl,rfl⟩))
 ·rw [if_neg (Rat.ne_of_gt h1),if_pos h1];refine Tt.bif (fun h=>by rw [h2]at h;cases h) (fun _=>Tt.evb hsg (Tt.bif (fun _=> ?_) (fun h=>by rw [h2]at h;cases h)));exact Tt.evb (c7y h.gd (by omega) (by omega) (by omega) hc (by omega)) (Tt.pure (.inl ⟨_,rfl,rfl⟩))
 have hnp:¬(0<c):=by grind
 rw [if_neg (Rat.ne_of_lt h1),if_neg hnp];refine Tt.bif (fun h=>by rw [h2]at h;cases h) (fun _=>Tt.evb hsg (Tt.bif (fun h=>by rw [h2]at h;cases h) (fun _=> ?_)));obtain⟨o1,o2⟩:=c2t h.gd hfs hfl (by omega) (show A+1<4000000 by omega);cases ho:oppB f with
 |none=>exact Tt.evb (o2 ho) (Tt.bif (fun _=>Tt.pure (.inr ⟨rfl,rfl⟩)) (fun h=>by cases h))
 |some g=>
  refine Tt.evb (o1 g ho) (Tt.bif (fun h=>by cases h) (fun _=> ?_));obtain⟨rfl,hgs⟩:=d0h ho;have hok:b2v f.length 1 f=true:=by
   unfold oppB at ho;split at ho
   ·assumption
   cases ho
  have hgb:=e0d h hok;refine Tt.evb (f0z hc (by omega)) (Tt.evb (c7y hgb.gd (by omega) (by have:=hgb.len;omega) (by omega) hc.neg (by omega)) (Tt.pure (.inl ⟨_,rfl,rfl⟩)))
omit hf hnm in
theorem e2b{A B:Nat}{f g:RFm}{o:Int}(hfg:Gb nz.length A f)(hg:Gb nz.length B g)(ho:o=5∨o=6∨o=9∨o=10)(hk:A+B+1<1000000):
 Tt (RRes (c0t o f g)) (fun n=>(bif o==6 then(a3d n (⟨g.map toP⟩:M.Form)).bind fun v5=>some (v5.2,v5.1.Pieces)else some (true,g.map toP)).bind fun(ok1,f4)=>
  ((app 24 [] (f.map toP)).bind fun l1=>(app 24 l1 f4).bind fun l2=>some l2).bind fun f5=>
  (bif o !=9 then some ok1 else some false).bind fun v1=>
  (bif v1 then(a6o n (⟨f.map toP⟩:M.Form) (⟨f4⟩:M.Form) (o !=10)).bind fun v4=>some (v4.2,v4.1.Pieces)else some (ok1,f5)).bind fun(ok2,f6)=>
  (bif !ok2 then some true else(a3r n (⟨f6⟩:M.Form)).bind fun v3=>some (decide (200<v3))).bind fun v2=>
  bif v2 then some ((⟨[]⟩:M.Form),(6:Int))else some ((⟨f6⟩:M.Form),0)):=by
 have hfs:=hfg.sz;have hfl:=hfg.len;have rest:∀g':RFm,Gb nz.length B g'->Tt (RRes (if b6p o f g'<=200 then some (b4t o f g')else none)) (fun n=>
  ((app 24 [] (f.map toP)).bind fun l1=>(app 24 l1 (g'.map toP)).bind fun l2=>some l2).bind fun f5=>
  (bif o !=9 then some true else some false).bind fun v1=>
  (bif v1 then(a6o n (⟨f.map toP⟩:M.Form) (⟨g'.map toP⟩:M.Form) (o !=10)).bind fun v4=>some (v4.2,v4.1.Pieces)else some (true,f5)).bind fun(ok2,f6)=>
  (bif !ok2 then some true else(a3r n (⟨f6⟩:M.Form)).bind fun v3=>some (decide (200<v3))).bind fun v2=>
  bif v2 then some ((⟨[]⟩:M.Form),(6:Int))else some ((⟨f6⟩:M.Form),0)):=by
  intro g' hg';have hgs:=hg'.sz;have hgl:=hg'.len;refine Tt.step (a:=(f++g').map toP) ?_ ?_
  ·rw [a5f (l:= []) (by simp only [List.length_nil,List.length_map];omega),b_s,List.nil_append,a5f (by simp only [List.length_map];omega),b_s,List.map_append]
  have jn:∀s:Bool,(s=true/\(o=5∨o=6)∨s=false/\o=10)->Tt (RRes (if b6p o f g'<=200 then some (b4t o f g')else none)) (fun n=>
   ((a6o n (⟨f.map toP⟩:M.Form) (⟨g'.map toP⟩:M.Form) s).bind fun v4=>some (v4.2,v4.1.Pieces)).bind fun(ok2,f6)=>
   (bif !ok2 then some true else(a3r n (⟨f6⟩:M.Form)).bind fun v3=>some (decide (200<v3))).bind fun v2=>
   bif v2 then some ((⟨[]⟩:M.Form),(6:Int))else some ((⟨f6⟩:M.Form),0)):=by
   intro s hs;have hsz:(if s=true then Fm.sz f*Fm.sz g' else Fm.sz f*g'.length+Fm.sz g'*f.length)=b6p o f g':=by
    rcases hs with⟨rfl,rfl|rfl⟩|⟨rfl,rfl⟩<;>rfl
   have hpr:join (opJ s) f g'=b4t o f g':=by
    rcases hs with⟨rfl,rfl|rfl⟩|⟨rfl,rfl⟩<;>rfl
   have hpz:Fm.sz (b4t o f g')=b6p o f g':=by
    rcases hs with⟨rfl,rfl|rfl⟩|⟨rfl,rfl⟩
    ·exact sz_sums f g'
    ·exact sz_sums f g'
    exact sz_both f g'
   have hj:=e2t s hfg hg' (by omega) (show A+B<4000000 by omega);rw [hsz,hpr]at hj
   by_cases hle:b6p o f g'<=200
   ·rw [if_pos hle]at hj⊢;have hplen:(b4t o f g').length<=1000000:=by
     rw [<-hpr,c3t];exact Nat.le_trans (Nat.mul_le_mul hfl hgl) (by decide)
    refine Tt.evb (a:=(true,(toFm (b4t o f g')).Pieces)) (Ev.bind hj (Ev.pure _)) ?_;refine Tt.evb (a:=false) (Ev.else rfl (Ev.bind (c4g (b4t o f g') (by omega) hplen) ((Ev.pure _).eq (decide_eq_false (by rw [hpz];omega))))) ?_;exact Tt.bif (fun h=>by cases h) (fun _=>Tt.pure (.inl ⟨_,rfl,rfl⟩))
   rw [if_neg hle]at hj⊢;refine Tt.evb (a:=(false,([]:List (List Afn)))) (Ev.bind hj (Ev.pure _)) ?_;refine Tt.evb (a:=true) (Ev.then rfl (Ev.pure _)) ?_;exact Tt.bif (fun _=>Tt.pure (.inr ⟨rfl,rfl⟩)) (fun h=>by cases h)
  rcases ho with rfl|rfl|rfl|rfl
  ·exact Tt.step (a:=true) rfl (jn true (.inl ⟨rfl,.inl rfl⟩))
  ·exact Tt.step (a:=true) rfl (jn true (.inl ⟨rfl,.inr rfl⟩))
  ·refine Tt.step (a:=false) rfl (Tt.step (a:=(true,(f++g').map toP)) rfl ?_);have hz:Fm.sz (f++g')=b6p 9 f g':=sz_app f g';refine Tt.evb (a:=decide (200<b6p 9 f g')) (Ev.else rfl (Ev.bind (c4g (f++g') (by rw [sz_app];omega) (by rw [List.length_append];omega)) ((Ev.pure _).eq ?_))) ?_
   ·rw [hz]
    by_cases hle:200<b6p 9 f g'
    ·rw [decide_eq_true hle];exact decide_eq_true (by omega)
    rw [decide_eq_false hle];exact decide_eq_false (by omega)
   refine Tt.bif (fun h=>Tt.pure (.inr ⟨?_,rfl⟩)) (fun h=>Tt.pure (.inl ⟨f++g',?_,rfl⟩))
   ·have:=of_decide_eq_true h;rw [if_neg (by omega)]
   have:=of_decide_eq_false h;rw [if_pos (by omega)];rfl
  exact Tt.step (a:=true) rfl (jn false (.inr ⟨rfl,rfl⟩))
 unfold c0t
 by_cases h6:o=6
 ·rw [if_pos h6];obtain⟨o1,o2⟩:=c2t hg.gd hg.sz hg.len (by omega) (show B+1<4000000 by omega);subst h6;cases hob:oppB g with
  |none=>
   refine Tt.evb (a:=(false,([]:List (List Afn)))) (Ev.then rfl (Ev.bind (o2 hob) (Ev.pure _))) ?_;refine Tt.step (a:=f.map toP) ?_ (Tt.step (a:=false) rfl (Tt.step (a:=(false,f.map toP)) rfl (Tt.step (a:=true) rfl (Tt.bif (fun _=>Tt.pure (.inr ⟨rfl,rfl⟩)) (fun h=>by cases h)))));rw [a5f (l:= []) (by simp only [List.length_nil,List.length_map];omega),b_s,List.nil_append,a5f (by simp only [List.length_nil,List.length_map];omega),b_s,List.append_nil]
  |some g'=>
   refine Tt.evb (a:=(true,g'.map toP)) (Ev.then rfl (Ev.bind (o1 g' hob) (Ev.pure _))) ?_;obtain⟨rfl,hgs⟩:=d0h hob;have hok:b2v g.length 1 g=true:=by
    unfold oppB at hob;split at hob
    ·assumption
    cases hob
   exact rest (opp g) (e0d hg hok)
 rw [if_neg h6];refine Tt.evb (a:=(true,g.map toP)) (Ev.else (by rw [beq_eq_false_iff_ne];exact h6) (Ev.pure _)) ?_;exact rest g hg
theorem f1y{x:M.Expr}{k:Int}(ht:Typ nz x k):Fit x->Frm x->k≠0->Tt (RRes (mk nz (E0 nz fc) x).2) (fun n=>ref37_made n x nz fc):=by
 have c2:∀(o n:Int)(s:Rt.Bs)(a b:M.Expr),cnt ⟨o,n,s,[a,b]⟩=cnt a+cnt b+1:=fun o n s a b=>by show cnt a+(cnt b+0)+1=_;omega
 have num1:∀{x:M.Expr},Typ nz x 1->Fit x->Frm x->Tt (RRes (mk nz (E0 nz fc) x).2) (fun n=>ref37_made n x nz fc):=by
  intro x ht hx hfr;rw [(b5x hf (by omega) ht (by have:=hfr.1.2;omega) (by decide)).2.1 rfl];exact Tt.suc (fun n=>ref37_made_s _ _ _ n) (Tt.of (e0p hf hnm hn hx hfr ht) (.inl ⟨_,rfl,rfl⟩))
 have ht0:=ht;induction ht with
 |num h0 h1=>intro hx hfr _;exact num1 ht0 hx hfr
 |lifts h0 h1=>intro hx hfr _;exact num1 ht0 hx hfr
 |pers=>intro hx hfr _;exact num1 ht0 hx hfr
 |flats=>intro hx hfr _;exact num1 ht0 hx hfr
 | @wgt s h0 hs=>
  intro hx hfr _;refine Tt.suc (fun n=>ref37_made_s _ _ _ n) ?_;refine Tt.evb (b3a (by omega) hnm hx hfr ht0) (Tt.bif (fun h=>by cases h) (fun _=>Tt.bif (fun _=> ?_) (fun h=>by cases h)));have hi:nz.idxOf s<nz.length:=List.idxOf_lt_length_of_mem hs;refine Tt.evb (c8l s (by show nz.length<_;omega)) ?_;rw [if_pos (show s∈nz from hs)];exact Tt.evb (e1w (by omega) hi) (Tt.pure (.inl ⟨_,rfl,rfl⟩))
 | @ari o a b p q ho ha hb hp hq iha ihb=>
  intro hx hfr _;have hxa:=a7s hx (y:=a) (by simp);have hxb:=a7s hx (y:=b) (by simp);have hra:=b0b hfr (y:=a) (by simp);have hrb:=b0b hfr (y:=b) (by simp);have hcx:=hfr.1.2;rw [c2]at hcx;have ma:=b5x hf (by omega) ha (by omega) hp;have mb:=b5x hf (by omega) hb (by omega) hq;have hw:=wd2 (r12 ha hp) (r12 hb hq);rcases a8v p q with h1|h2
  ·rw [h1]at ht0;exact num1 ht0 hx hfr
  rw [h2]at ht0;have hcond:((mk nz (E0 nz fc) a).1||(mk nz (E0 nz fc) b).1)=true:=by rw [ma.1,mb.1,<-hw,h2];rfl
  have e:(mk nz (E0 nz fc) ⟨o,0,[],[a,b]⟩).2=(mk nz (E0 nz fc) a).2.bind fun f=>(mk nz (E0 nz fc) b).2.bind fun g=>c0t o f g:=by
   rw [b5r,b1j];rw [if_pos hcond,if_neg (by omega),if_neg (by omega)]
  rw [e];have ne:∀k:Int,(k=4∨k=11∨k=8∨k=7)->(o==k)=false:=fun k hk=>by rw [beq_eq_false_iff_ne];omega
  refine Tt.suc (fun n=>ref37_made_s _ _ _ n) ?_;refine Tt.evb (b3a (by omega) hnm hx hfr ht0) (Tt.bif (fun h=>by cases h) (fun _=> ?_));refine Tt.bif (fun h=>by rw [show(o==4)=false from ne 4 (by decide)]at h;cases h) (fun _=>Tt.bif (fun h=>by rw [show(o==11)=false from ne 11 (by decide)]at h;cases h) (fun _=> ?_));refine Tt.step (a:=false) (by show(bif o==7 then some true else some (o==8))=_;rw [ne 7 (by decide),ne 8 (by decide)];rfl) (Tt.bif (fun h=>by cases h) (fun _=> ?_));refine Tt.bind (P:=RRes ((mk nz (E0 nz fc) a).2.bind fun f=>(mk nz (E0 nz fc) b).2.bind fun g=>c0t o f g)) ?_ (fun r hr=>Tt.pure hr);refine Tt.suc (fun n=>ref37_pair_s _ _ _ n) ?_;refine Tt.bind (P:=fun r=>(∃g,(mk nz (E0 nz fc) a).2=some g/\r=(g.map toP,0))∨((mk nz (E0 nz fc) a).2=none/\r=([],6))) (Tt.step (a:=a) rfl (Tt.bind (iha ha hxa hra hp) fun r hr=>Tt.pure ?_)) ?_
  ·rcases hr with⟨g,h1,rfl⟩|⟨h1,rfl⟩
   ·exact .inl ⟨g,h1,rfl⟩
   exact .inr ⟨h1,rfl⟩
  rintro r (⟨f,f1,rfl⟩|⟨f1,rfl⟩)
  ·rw [f1];refine Tt.bif (fun h=>by cases h) (fun _=> ?_);refine Tt.bind (P:=fun r=>(∃g,(mk nz (E0 nz fc) b).2=some g/\r=(g.map toP,0))∨((mk nz (E0 nz fc) b).2=none/\r=([],6))) (Tt.step (a:=b) rfl (Tt.bind (ihb hb hxb hrb hq) fun r hr=>Tt.pure ?_)) ?_
   ·rcases hr with⟨g,h1,rfl⟩|⟨h1,rfl⟩
    ·exact .inl ⟨g,h1,rfl⟩
    exact .inr ⟨h1,rfl⟩
   rintro r (⟨g,g1,rfl⟩|⟨g1,rfl⟩)
   ·rw [g1];refine Tt.bif (fun h=>by cases h) (fun _=> ?_);exact e2b hn (ma.2.2 f f1).gb (mb.2.2 g g1).gb ho (by omega)
   rw [g1];exact Tt.bif (fun _=>Tt.pure (.inr ⟨rfl,rfl⟩)) (fun h=>by cases h)
  rw [f1];exact Tt.bif (fun _=>Tt.pure (.inr ⟨rfl,rfl⟩)) (fun h=>by cases h)
 | @mul a b p q ha hb hp hq hpq iha ihb=>
  intro hx hfr _;have hxa:=a7s hx (y:=a) (by simp);have hxb:=a7s hx (y:=b) (by simp);have hra:=b0b hfr (y:=a) (by simp);have hrb:=b0b hfr (y:=b) (by simp);have hcx:=hfr.1.2;rw [c2]at hcx;have ma:=b5x hf (by omega) ha (by omega) hp;have mb:=b5x hf (by omega) hb (by omega) hq;have hw:=wd2 (r12 ha hp) (r12 hb hq);have ea:(⟨a.Op,a.N,a.Name,a.Args⟩:M.Expr)=a:=by cases a;rfl
  have eb:(⟨b.Op,b.N,b.Name,b.Args⟩:M.Expr)=b:=by cases b;rfl
  rcases a8v p q with h1|h2
  ·rw [h1]at ht0;exact num1 ht0 hx hfr
  rw [h2]at ht0;have hcond:((mk nz (E0 nz fc) a).1||(mk nz (E0 nz fc) b).1)=true:=by rw [ma.1,mb.1,<-hw,h2];rfl
  have e:(mk nz (E0 nz fc) ⟨7,0,[],[a,b]⟩).2=if(mk nz (E0 nz fc) a).1=true then(mk nz (E0 nz fc) a).2.bind fun f=>b4a nz.length f (num (E0 nz fc) b)else(mk nz (E0 nz fc) b).2.bind fun f=>b4a nz.length f (num (E0 nz fc) a):=by
   rw [b5r,b1j];rw [if_pos hcond,if_pos rfl];rfl
  rw [e];refine Tt.suc (fun n=>ref37_made_s _ _ _ n) ?_;refine Tt.evb (b3a (by omega) hnm hx hfr ht0) (Tt.bif (fun h=>by cases h) (fun _=> ?_));refine Tt.bif (fun h=>by cases h) (fun _=>Tt.bif (fun h=>by cases h) (fun _=>Tt.step (a:=true) rfl (Tt.bif (fun _=> ?_) (fun h=>by cases h))));refine Tt.bind (P:=RRes (if(mk nz (E0 nz fc) a).1=true then(mk nz (E0 nz fc) a).2.bind fun f=>b4a nz.length f (num (E0 nz fc) b)else(mk nz (E0 nz fc) b).2.bind fun f=>b4a nz.length f (num (E0 nz fc) a))) ?_ (fun r hr=>Tt.pure hr);refine Tt.suc (fun n=>ref37_product_s _ _ _ n) ?_;refine Tt.step (a:=a) rfl (Tt.step (a:=b) rfl ?_);refine Tt.evb (b3a (by omega) hnm hxa hra ha) ?_;rcases r12 ha hp with hp1|hp2
  ·subst hp1;rw [ma.1,if_neg (by decide)];refine Tt.step (a:=(a.Op,a.N,a.Name,a.Args,b.Op,b.N,b.Name,b.Args)) rfl ?_;dsimp only;rw [ea,eb];refine Tt.bind (ihb hb hxb hrb hq) fun r hr=> ?_;rcases hr with⟨f,f1,rfl⟩|⟨f1,rfl⟩
   ·rw [f1];refine Tt.bif (fun h=>by cases h) (fun _=> ?_);refine Tt.evb (c3z hf hn hxa (by omega) ha rfl) (Tt.step (a:=((toF (num (E0 nz fc) a)).P.Sign,(toF (num (E0 nz fc) a)).P.Digits,(toF (num (E0 nz fc) a)).Q.Sign,(toF (num (E0 nz fc) a)).Q.Digits)) rfl ?_);exact c6c hn (mb.2.2 f f1).gb (b6w hf (by omega) ha (by decide) (by omega)) (by have:=b1m a;omega) (by omega)
   rw [f1];exact Tt.bif (fun _=>Tt.pure (.inr ⟨rfl,rfl⟩)) (fun h=>by cases h)
  have hq1:q=1:=by rcases r12 hb hq with h|h;exact h;exact absurd ⟨hp2,h⟩ hpq
  subst hp2;subst hq1;rw [ma.1,if_pos (by decide)];refine Tt.step (a:=(b.Op,b.N,b.Name,b.Args,a.Op,a.N,a.Name,a.Args)) rfl ?_;dsimp only;rw [ea,eb];refine Tt.bind (iha ha hxa hra hp) fun r hr=> ?_;rcases hr with⟨f,f1,rfl⟩|⟨f1,rfl⟩
  ·rw [f1];refine Tt.bif (fun h=>by cases h) (fun _=> ?_);refine Tt.evb (c3z hf hn hxb (by omega) hb rfl) (Tt.step (a:=((toF (num (E0 nz fc) b)).P.Sign,(toF (num (E0 nz fc) b)).P.Digits,(toF (num (E0 nz fc) b)).Q.Sign,(toF (num (E0 nz fc) b)).Q.Digits)) rfl ?_);exact c6c hn (ma.2.2 f f1).gb (b6w hf (by omega) hb (by decide) (by omega)) (by have:=b1m b;omega) (by omega)
  rw [f1];exact Tt.bif (fun _=>Tt.pure (.inr ⟨rfl,rfl⟩)) (fun h=>by cases h)
 | @div a m p ha hp h1 h2 iha=>
  intro hx hfr _;have hxa:=a7s hx (y:=a) (by simp);have hra:=b0b hfr (y:=a) (by simp);have hcx:=hfr.1.2;rw [c2]at hcx;have ma:=b5x hf (by omega) ha (by omega) hp;rcases r12 ha hp with rfl|rfl
  ·exact num1 ht0 hx hfr
  have e:(mk nz (E0 nz fc) ⟨8,0,[],[a,⟨0,m,[],[]⟩]⟩).2=(mk nz (E0 nz fc) a).2.map (scl (1/(m:Rat))):=by
   have hb:(mk nz (E0 nz fc) ⟨0,m,[],[]⟩).1=false:=rfl;rw [b5r,b1j];rw [if_pos (by rw [ma.1,hb];decide),if_neg (by decide),if_pos rfl];rfl
  rw [e];refine Tt.suc (fun n=>ref37_made_s _ _ _ n) ?_;refine Tt.evb (b3a (by omega) hnm hx hfr ht0) (Tt.bif (fun h=>by cases h) (fun _=> ?_));refine Tt.bif (fun h=>by cases h) (fun _=>Tt.bif (fun h=>by cases h) (fun _=>Tt.step (a:=true) rfl (Tt.bif (fun _=> ?_) (fun h=>by cases h))));refine Tt.bind (P:=RRes ((mk nz (E0 nz fc) a).2.map (scl (1/(m:Rat))))) ?_ (fun r hr=>Tt.pure hr);refine Tt.suc (fun n=>ref37_product_s _ _ _ n) ?_;refine Tt.step (a:=a) rfl (Tt.step (a:=⟨0,m,[],[]⟩) rfl ?_);refine Tt.evb (b3a (by omega) hnm hxa hra ha) ?_;refine Tt.step (a:=(0,m,[],[],a.Op,a.N,a.Name,a.Args)) rfl ?_;dsimp only;rw [show(⟨a.Op,a.N,a.Name,a.Args⟩:M.Expr)=a from by cases a;rfl];refine Tt.bind (iha ha hxa hra hp) fun r hr=> ?_;have tm:Typ nz ⟨0,m,[],[]⟩ 1:=Typ.num (by omega) h2;have hs:SmF 5 (1/(m:Rat)):=e5k (j:=1) (k:=4) (sm1 (by decide)) (smI (x:=m) (by omega) (by omega) (by decide)) (by rw [Rat.num_intCast];omega);have hm:(0:Rat)<(m:Rat):=by
   have:=Rat.intCast_lt_intCast.2 (show(0:Int)<m by omega);simpa using this
  have hm':(0:Rat)<1/(m:Rat):=by rw [Rat.div_def,Rat.one_mul];exact Rat.inv_pos.2 hm
  rcases hr with⟨f,f1,rfl⟩|⟨f1,rfl⟩
  ·rw [f1];refine Tt.bif (fun h=>by cases h) (fun _=> ?_);have hcl:cnt ⟨0,m,[],[]⟩=1:=rfl;refine Tt.evb (c3z hf hn (Fit.leaf _ _ _) (by rw [hcl];decide) tm rfl) ?_;refine Tt.evb (a:=((toF (1/(m:Rat))).P.Sign,(toF (1/(m:Rat))).P.Digits,(toF (1/(m:Rat))).Q.Sign,(toF (1/(m:Rat))).Q.Digits)) (Ev.then rfl (Ev.bind QInt1 (Ev.bind (e3b (a:=1) (b:=(m:Rat)) (sm1 (B:=1) (by decide)) (smI (k:=4) (x:=m) (by omega) (by omega) (by decide)) (by decide) (by rw [Rat.num_intCast];omega)) (Ev.pure _)))) ?_;have hpB:b4a nz.length f (1/(m:Rat))=some (scl (1/(m:Rat)) f):=by
    unfold b4a;rw [if_neg (Rat.ne_of_gt hm'),if_pos hm']
   have:=c6c (c:=1/(m:Rat)) hn (ma.2.2 f f1).gb hs (by decide) (by omega);rw [hpB]at this;exact this
  rw [f1];exact Tt.bif (fun _=>Tt.pure (.inr ⟨rfl,rfl⟩)) (fun h=>by cases h)
 | @ite c a b p q hc0 ha hb hp hq ihc iha ihb=>
  intro hx hfr _;have hxc:=a7s hx (y:=c) (by simp);have hxa:=a7s hx (y:=a) (by simp);have hxb:=a7s hx (y:=b) (by simp);have hra:=b0b hfr (y:=a) (by simp);have hrb:=b0b hfr (y:=b) (by simp);have hcx:=hfr.1.2;have hc3:cnt ⟨11,0,[],[c,a,b]⟩=cnt c+cnt a+cnt b+1:=by show cnt c+(cnt a+(cnt b+0))+1=_;omega
  rw [hc3]at hcx;have ma:=b5x hf (by omega) ha (by omega) hp;have mb:=b5x hf (by omega) hb (by omega) hq;have hw:=wd2 (r12 ha hp) (r12 hb hq);rcases a8v p q with h1|h2
  ·rw [h1]at ht0;exact num1 ht0 hx hfr
  rw [h2]at ht0;have hcond:((mk nz (E0 nz fc) a).1||(mk nz (E0 nz fc) b).1)=true:=by rw [ma.1,mb.1,<-hw,h2];rfl
  have e:(mk nz (E0 nz fc) ⟨11,0,[],[c,a,b]⟩).2=if tru (E0 nz fc) c=true then(mk nz (E0 nz fc) a).2 else(mk nz (E0 nz fc) b).2:=by
   show(mkN nz 11 [] (num (E0 nz fc) ⟨11,0,[],[c,a,b]⟩) [vl (E0 nz fc) c,vl (E0 nz fc) a,vl (E0 nz fc) b] [mk nz (E0 nz fc) c,mk nz (E0 nz fc) a,mk nz (E0 nz fc) b]).2=_;rw [c1c,if_pos hcond];rfl
  rw [e];refine Tt.suc (fun n=>ref37_made_s _ _ _ n) ?_;refine Tt.evb (b3a (by omega) hnm hx hfr ht0) (Tt.bif (fun h=>by cases h) (fun _=> ?_));refine Tt.bif (fun h=>by cases h) (fun _=>Tt.bif (fun _=> ?_) (fun h=>by cases h));refine Tt.step (a:=c) rfl (Tt.evb (e4s hf hn hxc (by omega) hc0) ?_);have fin:∀{o:Option RFm}{r:M.Form×Int},RRes o r->RRes o ((⟨r.1.Pieces⟩:M.Form),r.2):=fun h=>h;cases tru (E0 nz fc) c with
  |true=>
   rw [if_pos rfl];refine Tt.step (a:=1) rfl ?_;refine Tt.bind (P:=fun r=>RRes (mk nz (E0 nz fc) a).2 ((⟨r.1⟩:M.Form),r.2)) (Tt.step (a:=a) rfl (Tt.bind (iha ha hxa hra hp) fun r hr=>Tt.pure (fin hr))) (fun r hr=>Tt.pure hr)
  |false=>
   rw [if_neg (by decide)];refine Tt.step (a:=2) rfl ?_;refine Tt.bind (P:=fun r=>RRes (mk nz (E0 nz fc) b).2 ((⟨r.1⟩:M.Form),r.2)) (Tt.step (a:=b) rfl (Tt.bind (ihb hb hxb hrb hq) fun r hr=>Tt.pure (fin hr))) (fun r hr=>Tt.pure hr)
 |rel=>intro _ _ h;exact absurd rfl h
 |not=>intro _ _ h;exact absurd rfl h
 |bin=>intro _ _ h;exact absurd rfl h
end
theorem e1t{nz:List Rt.Bs}{f:Facts}(hn:nz.length<=1000)(hl:f.Lifts.length<=1000000):∃b,Ev (fun n=>b2d n f (nz.length:Int)) b/\(b=true↔FR nz f):=by
 have hwl:(List.replicate nz.length (toF 0)).length<=1000000:=by rw [List.length_replicate];omega
 obtain⟨b1,b2,e1,e2,h⟩:=f3u (nz:=nz) (f:=f) (lim0 nz.length) (by decide) hl hwl;obtain⟨c1,c2,k1,k2,h'⟩:=f3u (nz:=nz) (f:=⟨List.replicate nz.length 0,0,0⟩) (lim0 nz.length) (by decide) (by rw [List.length_replicate];omega) hwl;have hfr:FR nz ⟨List.replicate nz.length 0,0,0⟩:=⟨by simp,by simp,show(0:Int)<=0 by decide,show(0:Int)<=1000 by decide,show(0:Int)<=0 by decide,show(0:Int)<=1000 by decide,fun x hx=>by obtain⟨_,rfl⟩:=List.mem_replicate.1 hx;decide,fun x hx=>by obtain⟨_,rfl⟩:=List.mem_replicate.1 hx;exact Rat.le_refl⟩
 rw [e2r.2 hfr]at h';obtain rfl:=e2.uniq k2;have hb2:b2=true:=by
  cases b2 with
  |true=>rfl
  |false=>rw [Bool.and_false]at h';cases h'
 subst hb2;rw [Bool.and_true]at h;exact⟨b1,e1,by rw [<-e2r,h]⟩
theorem e9o{nz:List Rt.Bs}{f:Facts}{t:Tariff}(hx:Fit t.Fee)(hn:nz.length<=1000)(hl:f.Lifts.length<=1000000){e:Int}(he:Ev (fun n=>a4t n t nz) e)(hq:e=0↔Chk nz t):
 (e≠0->Ev (fun n=>a8u n t nz f) (⟨[]⟩,e))/\(e=0->¬FR nz f->Ev (fun n=>a8u n t nz f) (⟨[]⟩,1))/\
  (e=0->FR nz f->(∀g,(mk nz (E0 nz f) t.Fee).2=some g->Ev (fun n=>a8u n t nz f) (toFm g,0))/\((mk nz (E0 nz f) t.Fee).2=none->Ev (fun n=>a8u n t nz f) (⟨[]⟩,6))):=by
 obtain⟨e',e1,e2⟩:=e9y hx nz (by omega);obtain rfl:=he.uniq e1;obtain⟨b,hb,hbq⟩:=e1t hn hl;refine⟨fun h=> ?_,fun h hr=> ?_,fun h hr=> ?_⟩
 ·unfold a8u;exact Ev.bind e2 (Ev.then (by simpa using h) (Ev.pure _))
 ·have hb0:b=false:=by
   cases b with
   |false=>rfl
   |true=>exact absurd (hbq.1 rfl) hr
  subst hb0;unfold a8u;exact Ev.bind e2 (Ev.else (by rw [h];rfl) (Ev.bind hb (Ev.then rfl (Ev.pure _))))
 obtain rfl:=hbq.2 hr;obtain⟨hc1,hc2,k,hk,ht⟩:=hq.1 h;obtain⟨r,hr1,hr2⟩:=f1y hr hc1 hn ht hx hc2.2.1 hk;have main:Ev (fun n=>a8u n t nz f) r:=by
  unfold a8u;exact Ev.bind e2 (Ev.else (by rw [h];rfl) (Ev.bind hb (Ev.else rfl (Ev.bind hr1 (Ev.pure _)))))
 refine⟨fun g hg=> ?_,fun hnone=> ?_⟩
 ·rcases hr2 with⟨g',h1,rfl⟩|⟨h1,rfl⟩
  ·rw [hg]at h1;cases h1;exact main
  rw [hg]at h1;cases h1
 rcases hr2 with⟨g',h1,rfl⟩|⟨h1,rfl⟩
 ·rw [hnone]at h1;cases h1
 exact main
theorem Of_2{nz:List Rt.Bs}{f:Facts}{t:Tariff}(hx:Fit t.Fee)(hn:nz.length<=1000)(hl:f.Lifts.length<=1000000):
 ∃g e,Ev (fun n=>a6k n t nz f) (toFm g,e)/\Ev (fun n=>a8u n t nz f) (toFm g,e)/\Gb nz.length 400 g:=by
 obtain⟨e,he,hq,o1,o2,o3⟩:=f3f (f:=f) hx hn hl;obtain⟨r1,r2,r3⟩:=e9o (f:=f) hx hn hl he hq
 by_cases h:e=0
 ·by_cases hr:FR nz f
  ·obtain⟨a1,a2⟩:=o3 h hr;obtain⟨b1,b2⟩:=r3 h hr;cases hm:(mk nz (E0 nz f) t.Fee).2 with
   |none=>exact⟨[],6,a2 hm,b2 hm,c8e _ _⟩
   |some g=>
    obtain⟨hc1,hc2,k,hk,ht⟩:=hq.1 h;have hcn:=hc2.2.1.1.2;exact⟨g,0,a1 g hm,b1 g hm,((b5x hr (by omega) ht (by omega) hk).2.2 g hm).gb.mono (by omega)⟩
  exact⟨[],1,o2 h hr,r2 h hr,c8e _ _⟩
 exact⟨[],e,o1 h,r1 h,c8e _ _⟩
section
variable{A W:Nat}{wgs:List Frac}
theorem e5x{a:Afn}(h1:LimF A a.Const)(h2:Lim A a.Coefs)(hw:Lim W wgs)(hn:wgs.length<=1000)(hA:A<1000000)(hW:W<1000000)(hB:bnd A W wgs.length<1000000):
 Tt (fun r=>((oddA (wgs.length:Int) a||wgs.any badC)=false/\r=(toF (evA (wgs.map rat) (decA a)),true)/\SmF (bnd A W wgs.length) (evA (wgs.map rat) (decA a)))∨((oddA (wgs.length:Int) a||wgs.any badC)=true/\r=(zeroF,false))) (fun n=>b0h n a wgs):=by
 unfold b0h;refine Tt.evb (b7k h1.1 h1.2 (by omega)) ?_;refine Tt.evb (a:=(badC a.Const||((a.Coefs.length:Int) !=(wgs.length:Int)))) (orE (c:=badC a.Const) fun _=>Ev.pure _) ?_;cases hh:(badC a.Const||((a.Coefs.length:Int) !=(wgs.length:Int)))with
 |true=>exact Tt.bif (fun _=>Tt.pure (.inr ⟨by unfold oddA;rw [hh];rfl,rfl⟩)) (fun h=>by cases h)
 |false=>
  refine Tt.bif (fun h=>by cases h) (fun _=> ?_);obtain⟨hc,hlen⟩:=Bool.or_eq_false_iff.1 hh;have hlen:a.Coefs.length=wgs.length:=Int.ofNat_inj.1 (by simpa using hlen);have hcr:a4x a.Const=true:=by simpa [badC]using hc
  have hodd:(oddA (wgs.length:Int) a||wgs.any badC)=(a.Coefs.any badC||wgs.any badC):=by unfold oddA;rw [hh];rfl
  rw [hodd];have hz1:(wgs.zip a.Coefs).map Prod.fst=wgs:=List.map_fst_zip (by omega);have hz2:(wgs.zip a.Coefs).map Prod.snd=a.Coefs:=List.map_snd_zip (by omega);have hzl:(wgs.zip a.Coefs).length=wgs.length:=by rw [List.length_zip];omega
  generalize hxs:wgs.zip a.Coefs=xs at hz1 hz2 hzl;have L:=lpR (xs:=xs) (h:=Prod.fst) (σ:=Frac) (ρ:=Frac×Bool) (by omega) (L:=fun n K m i s=>ref37_Value_L1 n a wgs (fun x y z u=>K ⟨⟨x,y⟩,⟨z,u⟩⟩) m i s.P.Sign s.P.Digits s.Q.Sign s.Q.Digits)
   (B:=fun n i x s k=>(a0y n x).bind fun v3=>(bif !v3 then some true else(ix a.Coefs i).bind fun ex4=>(a0y n ex4).bind fun v7=>some (!v7)).bind fun v4=>bif v4 then some ((⟨(⟨0,[]⟩:Big),(⟨0,[]⟩:Big)⟩:Frac),false)else
    ((ix a.Coefs i).bind fun ex2=>(ix wgs i).bind fun ex3=>(a8s n ex2 ex3).bind fun v6=>some (v6.1.P.Sign,v6.1.P.Digits,v6.1.Q.Sign,v6.1.Q.Digits)).bind fun(f9,f10,f11,f12)=>(a7m n s (⟨(⟨f9,f10⟩:Big),(⟨f11,f12⟩:Big)⟩:Frac)).bind fun v5=>k v5.1)
   (fun n K m i s=>by rw [ref37_Value_L1_s,hz1,hzl]) (fun p s=>(∀y,y∈p->badC y.1=false/\badC y.2=false)/\s=toF (rat a.Const+dot (p.map fun y=>rat y.2) (wgs.map rat))/\SmF (bnd A W p.length) (rat a.Const+dot (p.map fun y=>rat y.2) (wgs.map rat))) (fun r=>r=(zeroF,false)/\(a.Coefs.any badC||wgs.any badC)=true) (fun p x q s hx⟨hi1,hi2,hi3⟩=> ?_) (s0:=a.Const) ⟨fun y hy=>(by cases hy),by show a.Const=toF (rat a.Const+0);rw [Rat.add_zero,c1w hcr],by show SmF _ (rat a.Const+0);rw [Rat.add_zero];exact(c2a h1 hcr).mono (by unfold bnd;omega)⟩
  ·rcases L with⟨s',⟨hi1,rfl,hi3⟩,N,L⟩|⟨r,⟨rfl,hr⟩,N,L⟩
   ·refine Tt.of ⟨N,fun n hn=>L n (fun s=>some (s,true)) hn⟩ (.inl ⟨?_,?_,?_⟩)
    ·rw [<-hz2,<-hz1,Bool.or_eq_false_iff,List.any_eq_false,List.any_eq_false];refine⟨fun y hy=> ?_,fun y hy=> ?_⟩
     ·obtain⟨z,hz,rfl⟩:=List.mem_map.1 hy;rw [(hi1 z hz).2];decide
     obtain⟨z,hz,rfl⟩:=List.mem_map.1 hy;rw [(hi1 z hz).1];decide
    ·have:(xs.map fun y=>rat y.2)=a.Coefs.map rat:=by rw [<-hz2,List.map_map];rfl
     rw [this];rfl
    have:(xs.map fun y=>rat y.2)=a.Coefs.map rat:=by rw [<-hz2,List.map_map];rfl
    rw [this,hzl]at hi3;exact hi3
   exact Tt.of ⟨N,fun n hn=>L n (fun s=>some (s,true)) hn⟩ (.inr ⟨hr,rfl⟩)
  have hxm:x∈xs:=by rw [hx];simp
  have hxw:x.1∈wgs:=by rw [<-hz1];exact List.mem_map.2 ⟨x,hxm,rfl⟩
  have hxc:x.2∈a.Coefs:=by rw [<-hz2];exact List.mem_map.2 ⟨x,hxm,rfl⟩
  have hixc:ix a.Coefs (p.length:Int)=some x.2:=by have:=b4e (h:=Prod.snd) hx;rwa [hz2]at this
  have hixw:ix wgs (p.length:Int)=some x.1:=by have:=b4e (h:=Prod.fst) hx;rwa [hz1]at this
  obtain⟨N1,e1⟩:=b7k (hw _ hxw).1 (hw _ hxw).2 (show W<8388608 by omega);obtain⟨N2,e2⟩:=b7k (h2 _ hxc).1 (h2 _ hxc).2 (show A<8388608 by omega);dsimp only at e1 e2
  by_cases hbw:a4x x.1=true
  ·by_cases hbc:a4x x.2=true
   ·left;have hpl:p.length<wgs.length:=by rw [<-hzl,hx];simp
    have hb1:bnd A W (p.length+1)<=bnd A W wgs.length:=d0k hpl;have hbs:=d9x A W p.length;have s1:=c2a (h2 _ hxc) hbc;have s2:=c2a (hw _ hxw) hbw;obtain⟨N3,e3⟩:=QMul_ev s1 s2 (by omega);obtain⟨N4,e4⟩:=QAdd_ev hi3 (s1.mul s2) (by omega);dsimp only at e3 e4;rw [c1w hbc,c1w hbw]at e3;have hget:(wgs.map rat)[(p.map fun y=>rat y.2).length]?=some (rat x.1):=by
     rw [List.length_map,List.getElem?_map];have:wgs[p.length]?=some x.1:=by rw [<-hz1,hx,List.map_append,List.map_cons];simp
     rw [this];rfl
    have hv:rat a.Const+dot ((p++ [x]).map fun y=>rat y.2) (wgs.map rat)=rat a.Const+dot (p.map fun y=>rat y.2) (wgs.map rat)+rat x.2*rat x.1:=by
     rw [List.map_append,List.map_cons,List.map_nil,dot_snoc _ _ _ _ hget,Rat.add_assoc]
    refine⟨_,⟨fun y hy=> ?_,rfl,?_⟩,max (max N1 N2) (max N3 N4),fun n k hn=> ?_⟩
    ·rcases List.mem_append.1 hy with hy|hy
     ·exact hi1 y hy
     obtain rfl:=List.mem_singleton.1 hy;unfold badC;rw [hbw,hbc];exact⟨rfl,rfl⟩
    ·rw [hv,List.length_append,List.length_singleton,<-hbs];exact hi3.add (s1.mul s2)
    subst hi2;rw [e1 n (by omega),b_s,hbw,Bool.not_true,cond_false,hixc,b_s,e2 n (by omega),b_s,hbc,b_s,Bool.not_true,cond_false,b_s,hixw,b_s,e3 n (by omega)];show(a7m n _ (toF (rat x.2*rat x.1))).bind _=_;rw [e4 n (by omega),hv];rfl
   have hbc:a4x x.2=false:=by simpa using hbc
   refine .inr ⟨_,⟨rfl,?_⟩,max N1 N2,fun n k hn=> ?_⟩
   ·rw [Bool.or_eq_true];left;exact List.any_eq_true.2 ⟨x.2,hxc,by unfold badC;rw [hbc];rfl⟩
   rw [e1 n (by omega),b_s,hbw,Bool.not_true,cond_false,hixc,b_s,e2 n (by omega),b_s,hbc];rfl
  have hbw:a4x x.1=false:=by simpa using hbw
  refine .inr ⟨_,⟨rfl,?_⟩,N1,fun n k hn=> ?_⟩
  ·rw [Bool.or_eq_true];right;exact List.any_eq_true.2 ⟨x.1,hxw,by unfold badC;rw [hbw];rfl⟩
  rw [e1 n (by omega),b_s,hbw];rfl
theorem d8d{l:List Afn}(hl:l.length<=9223372036854775807)(h1:∀a,a∈l->LimF A a.Const)(h2:∀a,a∈l->Lim A a.Coefs)(hw:Lim W wgs)(hn:wgs.length<=1000)(hA:A<1000000)(hW:W<1000000)(hB:bnd A W wgs.length<1000000):
 Tt (fun r=>((badL (wgs.length:Int) l||wgs.any badC)=false/\∃v,r=(toF v,true)/\SmF (bnd A W wgs.length) v/\Gr (l.map decA) (wgs.map rat) v)∨((badL (wgs.length:Int) l||wgs.any badC)=true/\r=(zeroF,false))) (fun n=>a7c n l wgs):=by
 unfold a7c;have L:=lpR (xs:=l) (h:=id) (σ:=Frac) (ρ:=Frac×Bool) (by omega) (L:=fun n K m i s=>ref37_Greatest_L1 n l wgs (fun x y z u=>K ⟨⟨x,y⟩,⟨z,u⟩⟩) m i s.P.Sign s.P.Digits s.Q.Sign s.Q.Digits)
  (B:=fun n i x s k=>(b0h n x wgs).bind fun v1=>bif !v1.2 then some ((⟨(⟨0,[]⟩:Big),(⟨0,[]⟩:Big)⟩:Frac),false)else(bif i==0 then some true else(a2f n v1.1 s).bind fun v3=>some (decide (0<v3))).bind fun v2=>bif v2 then k v1.1 else k s)
  (fun n K m i s=>by rw [ref37_Greatest_L1_s,List.map_id]) (fun p s=>(p= []/\s=zeroF)∨((∀a,a∈p->oddA (wgs.length:Int) a=false)/\wgs.any badC=false/\∃v,s=toF v/\SmF (bnd A W wgs.length) v/\Gr (p.map decA) (wgs.map rat) v)) (fun r=>r=(zeroF,false)/\(badL (wgs.length:Int) l||wgs.any badC)=true) (fun p x q s hx hi=> ?_) (s0:=⟨⟨0,[]⟩,⟨0,[]⟩⟩) (.inl ⟨rfl,rfl⟩)
 ·rcases L with⟨s',hi,N,L⟩|⟨r,⟨rfl,hr⟩,N,L⟩
  ·have hev:Ev (fun n=>ref37_Greatest_L1 n l wgs (fun(f5:Int)(f6:(List Int))(f7:Int)(f8:(List Int))=>some ((⟨(⟨f5,f6⟩:Big),(⟨f7,f8⟩:Big)⟩:Frac),decide (0<(l.length:Int)))) n 0 0 [] 0 []) (s',decide (0<(l.length:Int))):=⟨N,fun n hn=>L n (fun s=>some (s,decide (0<(l.length:Int)))) hn⟩
   rcases hi with⟨rfl,rfl⟩|⟨k1,k2,v,rfl,k3,k4⟩
   ·exact Tt.of hev (.inr ⟨rfl,rfl⟩)
   have hne:l≠ []:=by
    rintro rfl;obtain⟨⟨a,ha,_⟩,_⟩:=k4;cases ha
   have hpos:0<l.length:=List.length_pos_iff.2 hne;refine Tt.of hev (.inl ⟨?_,v,by rw [decide_eq_true (by omega)],k3,k4⟩);unfold badL;rw [k2,Bool.or_false,Bool.or_eq_false_iff,List.any_eq_false];exact⟨by rw [beq_eq_false_iff_ne];omega,fun a ha=>by rw [k1 a ha];decide⟩
  exact Tt.of ⟨N,fun n hn=>L n (fun s=>some (s,decide (0<(l.length:Int)))) hn⟩ (.inr ⟨hr,rfl⟩)
 have hxm:x∈l:=by rw [hx];simp
 obtain⟨r,⟨N1,e1⟩,hr⟩:=e5x (wgs:=wgs) (h1 x hxm) (h2 x hxm) hw hn hA hW hB;dsimp only at e1;rcases hr with⟨g1,rfl,g2⟩|⟨g1,rfl⟩
 ·left;obtain⟨g3,g4⟩:=Bool.or_eq_false_iff.1 g1;rcases hi with⟨rfl,rfl⟩|⟨k1,k2,v,rfl,k3,k4⟩
  ·refine⟨_,.inr ⟨fun a ha=> ?_,g4,_,rfl,g2,e7b (decA x)⟩,N1,fun n k hn=> ?_⟩
   ·obtain rfl:=List.mem_singleton.1 ha;exact g3
   rw [show(id x:Afn)=x from rfl,e1 n hn];rfl
  obtain⟨N2,e2⟩:=QCompare_ev g2 k3 (by omega);dsimp only at e2;have hp0:((p.length:Int)==0)=false:=by
   rw [beq_eq_false_iff_ne];intro e;have:p= []:=List.length_eq_zero_iff.1 (by omega);subst this;obtain⟨⟨a,ha,_⟩,_⟩:=k4;cases ha
  have hcmp:decide (0<cmpQ (evA (wgs.map rat) (decA x)) v)=decide (v<evA (wgs.map rat) (decA x)):=by
   rcases a5i (evA (wgs.map rat) (decA x)) v with⟨c1,c2⟩|⟨c1,c2⟩|⟨c1,c2⟩
   ·rw [c2,decide_eq_false (Rat.not_lt.2 (Rat.le_of_lt c1))];rfl
   ·rw [c2,c1,decide_eq_false Rat.lt_irrefl];rfl
   rw [c2,decide_eq_true c1];rfl
  have hsn:=e1u k4 (decA x);refine⟨toF (if v<evA (wgs.map rat) (decA x)then evA (wgs.map rat) (decA x)else v),.inr ⟨fun a ha=> ?_,k2,_,rfl,by split;exact g2;exact k3,by rw [List.map_append];exact hsn⟩,max N1 N2,fun n k hn=> ?_⟩
  ·rcases List.mem_append.1 ha with ha|ha
   ·exact k1 a ha
   obtain rfl:=List.mem_singleton.1 ha;exact g3
  rw [show(id x:Afn)=x from rfl,e1 n (by omega),b_s,Bool.not_true,cond_false,hp0,cond_false];show((a2f n (toF (evA (wgs.map rat) (decA x))) (toF v)).bind _).bind _=_;rw [e2 n (by omega),b_s,b_s,hcmp]
  by_cases hlt:v<evA (wgs.map rat) (decA x)
  ·rw [decide_eq_true hlt,cond_true,if_pos hlt]
  rw [decide_eq_false hlt,cond_false,if_neg hlt]
 refine .inr ⟨_,⟨rfl,?_⟩,N1,fun n k hn=>by rw [show(id x:Afn)=x from rfl,e1 n hn];rfl⟩;rcases Bool.or_eq_true _ _▸g1 with h|h
 ·rw [Bool.or_eq_true];left;unfold badL;rw [Bool.or_eq_true];right;exact List.any_eq_true.2 ⟨x,hxm,h⟩
 rw [Bool.or_eq_true];exact .inr h
theorem f5s{x:M.Form}(hx:LimX A x)(hw:Lim W wgs)(hn:wgs.length<=1000)(hA:A<1000000)(hW:W<1000000)(hB:bnd A W wgs.length<1000000):Tt (AtS x wgs (bnd A W wgs.length)) (fun n=>c0b n x wgs):=by
 unfold c0b;have hxl:=hx.len;have hwr:c3f x wgs=(wgs.any badC|| !(decide (0<(x.Pieces.length:Int))&& !(x.Pieces.any (badL (wgs.length:Int))))):=rfl;have L:=lpR (xs:=x.Pieces) (h:=id) (σ:=Frac) (ρ:=Frac×Bool) (by omega) (L:=fun n K m i s=>ref37_At_L1 n x wgs (fun x y z u=>K ⟨⟨x,y⟩,⟨z,u⟩⟩) m i s.P.Sign s.P.Digits s.Q.Sign s.Q.Digits)
  (B:=fun n i l s k=>(a7c n l wgs).bind fun v1=>bif !v1.2 then some ((⟨(⟨0,[]⟩:Big),(⟨0,[]⟩:Big)⟩:Frac),false)else(bif i==0 then some true else(a2f n v1.1 s).bind fun v3=>some (decide (v3<0))).bind fun v2=>bif v2 then k v1.1 else k s)
  (fun n K m i s=>by rw [ref37_At_L1_s,List.map_id]) (fun p s=>(p= []/\s=zeroF)∨((∀l,l∈p->badL (wgs.length:Int) l=false)/\wgs.any badC=false/\∃v,s=toF v/\SmF (bnd A W wgs.length) v/\IsV (p.map (·.map decA)) (wgs.map rat) v)) (fun r=>r=(zeroF,false)/\c3f x wgs=true) (fun p l q s hx2 hi=> ?_) (s0:=⟨⟨0,[]⟩,⟨0,[]⟩⟩) (.inl ⟨rfl,rfl⟩)
 ·rcases L with⟨s',hi,N,L⟩|⟨r,⟨rfl,hr⟩,N,L⟩
  ·have hev:Ev (fun n=>ref37_At_L1 n x wgs (fun(f6:Int)(f7:(List Int))(f8:Int)(f9:(List Int))=>some ((⟨(⟨f6,f7⟩:Big),(⟨f8,f9⟩:Big)⟩:Frac),decide (0<(x.Pieces.length:Int)))) n 0 0 [] 0 []) (s',decide (0<(x.Pieces.length:Int))):=⟨N,fun n hn=>L n (fun s=>some (s,decide (0<(x.Pieces.length:Int)))) hn⟩
   rcases hi with⟨he,rfl⟩|⟨k1,k2,v,rfl,k3,k4⟩
   ·refine Tt.of hev (.inr ⟨by rw [hwr,he];simp,by rw [he];rfl⟩)
   have hne:x.Pieces≠ []:=by
    intro e;rw [e]at k4;obtain⟨_,p,hp,_⟩:=k4;cases hp
   have hpos:0<x.Pieces.length:=List.length_pos_iff.2 hne;have hany:x.Pieces.any (badL (wgs.length:Int))=false:=by
    rw [List.any_eq_false];exact fun l hl=>by rw [k1 l hl];decide
   refine Tt.of hev (.inl ⟨by rw [hwr,k2,hany,decide_eq_true (by omega)];rfl,v,by rw [decide_eq_true (by omega)],k3,k4⟩)
  exact Tt.of ⟨N,fun n hn=>L n (fun s=>some (s,decide (0<(x.Pieces.length:Int)))) hn⟩ (.inr ⟨hr,rfl⟩)
 have hxm:l∈x.Pieces:=by rw [hx2];simp
 obtain⟨r,⟨N1,e1⟩,hr⟩:=d8d (wgs:=wgs) (hx.lens l hxm) (hx.con l hxm) (hx.lim l hxm) hw hn hA hW hB;dsimp only at e1;rcases hr with⟨g1,u,rfl,g2,g5⟩|⟨g1,rfl⟩
 ·left;obtain⟨g3,g4⟩:=Bool.or_eq_false_iff.1 g1;rcases hi with⟨rfl,rfl⟩|⟨k1,k2,v,rfl,k3,k4⟩
  ·refine⟨_,.inr ⟨fun a ha=> ?_,g4,u,rfl,g2,d0l g5⟩,N1,fun n k hn=> ?_⟩
   ·obtain rfl:=List.mem_singleton.1 ha;exact g3
   rw [show(id l:List Afn)=l from rfl,e1 n hn];rfl
  obtain⟨N2,e2⟩:=QCompare_ev g2 k3 (by omega);dsimp only at e2;have hp0:((p.length:Int)==0)=false:=by
   rw [beq_eq_false_iff_ne];intro e;have:p= []:=List.length_eq_zero_iff.1 (by omega);subst this;obtain⟨_,q',hq',_⟩:=k4;cases hq'
  have hcmp:decide (cmpQ u v<0)=decide (u<v):=by
   rcases a5i u v with⟨c1,c2⟩|⟨c1,c2⟩|⟨c1,c2⟩
   ·rw [c2,decide_eq_true c1];rfl
   ·rw [c2,c1,decide_eq_false Rat.lt_irrefl];rfl
   rw [c2,decide_eq_false (Rat.not_lt.2 (Rat.le_of_lt c1))];rfl
  have hmin:=d4k k4 (d0l g5);refine⟨toF (if u<v then u else v),.inr ⟨fun a ha=> ?_,k2,_,rfl,by split;exact g2;exact k3,by rw [List.map_append];exact hmin⟩,max N1 N2,fun n k hn=> ?_⟩
  ·rcases List.mem_append.1 ha with ha|ha
   ·exact k1 a ha
   obtain rfl:=List.mem_singleton.1 ha;exact g3
  rw [show(id l:List Afn)=l from rfl,e1 n (by omega),b_s,Bool.not_true,cond_false,hp0,cond_false];show((a2f n (toF u) (toF v)).bind _).bind _=_;rw [e2 n (by omega),b_s,b_s,hcmp]
  by_cases hlt:u<v
  ·rw [decide_eq_true hlt,cond_true,if_pos hlt]
  rw [decide_eq_false hlt,cond_false,if_neg hlt]
 refine .inr ⟨_,⟨rfl,?_⟩,N1,fun n k hn=>by rw [show(id l:List Afn)=l from rfl,e1 n hn];rfl⟩;rw [hwr];rcases Bool.or_eq_true _ _▸g1 with h|h
 ·have hany:x.Pieces.any (badL (wgs.length:Int))=true:=List.any_eq_true.2 ⟨l,hxm,h⟩;rw [hany];simp
 rw [h];rfl
end
theorem d8w{A:Nat}{a:RA}(ha:SmA A a)(hA:A<4000000)(hl:a.2.length<=1000000):∃N,∀n(K:Option Bool),N<=n->ref37_Same_L3 n (toA a) (toA a) K n 0=K:=by
 have hlen:(toA a).Coefs.length=a.2.length:=List.length_map ..;have L:=b6k (xs:=a.2) (σ:=Unit) (ρ:=Bool) (κ:=Option Bool) (L:=fun n K m i _=>ref37_Same_L3 n (toA a) (toA a) K m i) (fun K _=>K) (fun _ _=>True) (fun _=>False) (fun p x q s hx _=> .inl ⟨(),trivial,?_⟩) (fun s _=>⟨0,fun n K m _=>by rw [ref37_Same_L3_s,hlen,b2y];rfl⟩) (s0:=()) trivial
 ·rcases L with⟨_,_,L⟩|⟨r,hr,_⟩
  ·exact L
  exact hr.elim
 have h5:p.length<=1000000:=by rw [hx,List.length_append]at hl;omega
 obtain⟨N,e⟩:=c8b (ha.2 x (by rw [hx];simp)) hA (rfl:x=x);dsimp only at e;have hix:ix (toA a).Coefs (p.length:Int)=some (toF x):=b4e (h:=toF) hx;refine⟨N,fun n K m hn=> ?_⟩;rw [ref37_Same_L3_s,hlen,more hx,cond_true,hix,b_s,b_s,e n hn,b_s,Bool.not_true,cond_false,Rt.inc64 (by omega)]
theorem e3v{A nn:Nat}{f:RFm}(hf:Gb nn A f)(hA:A<4000000)(hn:nn<=1000000):Ev (fun n=>b4k n (toFm f) (toFm f)) true:=by
 have hlen:(f.map toP).length=f.length:=List.length_map ..;have hfl:=hf.len;have hfs:=hf.sz;unfold b4k;refine Ev.else (by simp) ?_
 have L:=b6k (xs:=f) (σ:=Unit) (ρ:=Bool) (κ:=Option Bool) (L:=fun n K m i _=>ref37_Same_L1 n K m i (f.map toP) (f.map toP)) (fun K _=>K) (fun _ _=>True) (fun _=>False) (fun p x q s hx _=> .inl ⟨(),trivial,?_⟩) (fun s _=>⟨0,fun n K m _=>by rw [ref37_Same_L1_s,hlen,b2y];rfl⟩) (s0:=()) trivial
 ·rcases L with⟨_,_,N,L⟩|⟨r,hr,_⟩
  ·exact⟨N,fun n hn=>L n _ hn⟩
  exact hr.elim
 have h5:p.length<=200:=by rw [hx,List.length_append]at hfl;omega
 have hxm:x∈f:=by rw [hx];simp
 have hix:=b4e (h:=toP) hx;have hxl:(toP x).length=x.length:=List.length_map ..;have hxs:=mem_len hxm;have L2:=b6k (xs:=x) (σ:=Unit) (ρ:=Bool) (κ:=List (List Afn)->List (List Afn)->Option Bool) (L:=fun n K m i _=>ref37_Same_L2 n (p.length:Int) K m i (f.map toP) (f.map toP)) (fun K _=>K (f.map toP) (f.map toP)) (fun _ _=>True) (fun _=>False) (fun p2 a q2 s hx2 _=> .inl ⟨(),trivial,?_⟩) (fun s _=>⟨0,fun n K m _=>by rw [ref37_Same_L2_s,hix,b_s,hxl,b2y];rfl⟩) (s0:=()) trivial
 ·rcases L2 with⟨_,_,N,L2⟩|⟨r,hr,_⟩
  ·refine⟨N,fun n K m hnn=> ?_⟩;rw [ref37_Same_L1_s,hlen,more hx,cond_true,hix,b_s,b_s,show(((toP x).length:Int) !=((toP x).length:Int))=false from by simp,cond_false,L2 n _ hnn,Rt.inc64 (by omega)]
  exact hr.elim
 have h6:p2.length<=1000000:=by rw [hx2,List.length_append]at hxs;omega
 have ham:a∈x:=by rw [hx2];simp
 have hixa:ix (toP x) (p2.length:Int)=some (toA a):=b4e (h:=toA) hx2;obtain⟨N1,e1⟩:=c8b (gdA hf.gd hxm ham).1 hA (rfl:a.1=a.1);obtain⟨N2,e2⟩:=d8w (gdA hf.gd hxm ham) hA (by rw [hf.gd.wide x hxm a ham];exact hn);dsimp only at e1;refine⟨max N1 N2,fun n K m hnn=> ?_⟩;have e1':a4c n (toA a).Const (toA a).Const=some true:=e1 n (by omega);rw [ref37_Same_L2_s,hix,b_s,hxl,more hx2,cond_true,b_s,hixa,b_s,b_s,hixa,b_s,e1',b_s,Bool.not_true,cond_false,show(((toA a).Coefs.length:Int) !=((toA a).Coefs.length:Int))=false from by simp,b_s,cond_false,e2 n _ (by omega),Rt.inc64 (by omega)]
theorem e8y(t:Tariff)(nz:List Rt.Bs)(f:Facts)(wgs:List Frac):Tt (fun b=>b=true->FewS t nz f wgs) (fun n=>b6c n t nz f wgs):=by
 unfold b6c;refine Tt.bind (f5f t nz f wgs) fun b hb=> ?_;refine Tt.bind (P:=fun c=>c=true->b=true) (Tt.bif (fun h=>Tt.bind (e7g t.Fee 30 12 (by decide) (by decide) (by decide) (by decide)) fun c _=>Tt.pure fun _=>h) (fun _=>Tt.pure fun h=>by cases h)) fun c hc=>Tt.pure fun h=>hb (hc h)
theorem e4q(x:M.Form)(hl:x.Pieces.length<=9223372036854775807):Tt (fun _=>True) (fun n=>a3r n x):=by
 unfold a3r;have L:=b6k (xs:=x.Pieces) (σ:=Int) (ρ:=Int) (κ:=Int->Option Int) (L:=fun n K m i s=>ref37_Size_L1 n x K m s i) (fun K s=>K s) (fun _ _=>True) (fun _=>False) (fun p l q s hx _=> .inl ⟨iadd .i64 s (l.length:Int),trivial,0,fun n K m _=> ?_⟩) (fun s _=>⟨0,fun n K m _=>by rw [ref37_Size_L1_s,b2y];rfl⟩) (s0:=0) trivial
 ·rcases L with⟨s,_,N,L⟩|⟨r,hr,_⟩
  ·exact Tt.of ⟨N,fun n hn=>L n _ hn⟩ trivial
  exact hr.elim
 have hix:ix x.Pieces (p.length:Int)=some l:=by rw [hx];exact a5e _ _ _ rfl
 have h5:p.length<9223372036854775807:=by rw [hx,List.length_append,List.length_cons]at hl;omega
 rw [ref37_Size_L1_s,more hx,cond_true,hix,b_s,f2r h5]
structure FewX(x:M.Form):Prop where
 lim:LimX 3 x
 co:∀l,l∈x.Pieces->∀a,a∈l->a.Coefs.length<=8
theorem e3e{x:M.Form}(hx1:x.Pieces.length<=9223372036854775807)(hx2:∀l,l∈x.Pieces->l.length<=9223372036854775807):Tt (fun b=>b=true->FewX x) (fun n=>b0e n x):=by
 unfold b0e;refine Tt.bind (P:=fun b=>b=false->x.Pieces.length<=30) (Tt.bif (fun h=>Tt.pure fun h=>by cases h) (fun h=>Tt.bind (e4q x hx1) fun s _=>Tt.pure fun _=>by have:=of_decide_eq_false h;omega)) fun b hb=> ?_;refine Tt.bif (fun _=>Tt.pure fun h=>by cases h) (fun h=> ?_);have h30:=hb h;have c3:∀a:Afn,a.Coefs.length<=8->(Lim 3 a.Coefs/\∃N,∀n(K:Option Bool),N<=n->ref37_FewForm_L3 n a K n 0=K)∨(∃N,∀n(K:Option Bool),N<=n->ref37_FewForm_L3 n a K n 0=some false):=by
  intro a ha;have L:=lpR (xs:=a.Coefs) (h:=id) (σ:=Unit) (ρ:=Bool) (by omega) (L:=fun n K m i _=>ref37_FewForm_L3 n a (K ()) m i) (B:=fun n i c _ k=>(a8p n c 3).bind fun v3=>bif !v3 then some false else k ()) (fun n K m i s=>by rw [ref37_FewForm_L3_s,List.map_id]) (fun p _=>Lim 3 p) (fun r=>r=false) (fun p c q s hx hi=> ?_) (s0:=()) (fun w hw=>by cases hw)
  ·rcases L with⟨_,h1,N,L⟩|⟨r,rfl,N,L⟩
   ·exact .inl ⟨h1,N,fun n K hn=>L n (fun _=>K) hn⟩
   exact .inr ⟨N,fun n K hn=>L n (fun _=>K) hn⟩
  obtain⟨N,e⟩:=e8z c 3;dsimp only at e;cases hc:(decide ((c.P.Digits.length:Int)<=3)&&decide ((c.Q.Digits.length:Int)<=3))with
  |true=>
   refine .inl ⟨(),fun w hw=> ?_,N,fun n k hn=>by rw [show(id c:Frac)=c from rfl,e n hn,hc];rfl⟩;rcases List.mem_append.1 hw with hw|hw
   ·exact hi w hw
   obtain rfl:=List.mem_singleton.1 hw;exact c5g (k:=3) hc
  |false=>exact .inr ⟨false,rfl,N,fun n k hn=>by rw [show(id c:Frac)=c from rfl,e n hn,hc];rfl⟩
 have c2:∀(p:List (List Afn))l q,x.Pieces=p++l::q->((∀a,a∈l->a.Coefs.length<=8/\LimF 3 a.Const/\Lim 3 a.Coefs)/\∃N,∀n(K:List (List Afn)->Option Bool),N<=n->ref37_FewForm_L2 n (p.length:Int) K n 0 x.Pieces=K x.Pieces)∨(∃N,∀n(K:List (List Afn)->Option Bool),N<=n->ref37_FewForm_L2 n (p.length:Int) K n 0 x.Pieces=some false):=by
  intro p l q hx;have hix:ix x.Pieces (p.length:Int)=some l:=by rw [hx];exact a5e _ _ _ rfl
  have hll:=hx2 l (by rw [hx];simp);have L:=b6k (xs:=l) (σ:=Unit) (ρ:=Bool) (κ:=List (List Afn)->Option Bool) (L:=fun n K m i _=>ref37_FewForm_L2 n (p.length:Int) K m i x.Pieces) (fun K _=>K x.Pieces) (fun p2 _=>∀a,a∈p2->a.Coefs.length<=8/\LimF 3 a.Const/\Lim 3 a.Coefs) (fun r=>r=false) (fun p2 a q2 s hx2 hi=> ?_) (fun s _=>⟨0,fun n K m _=>by rw [ref37_FewForm_L2_s,hix,b_s,b2y];rfl⟩) (s0:=()) (fun a ha=>by cases ha)
  ·rcases L with⟨_,h1,L⟩|⟨r,rfl,L⟩
   ·exact .inl ⟨h1,L⟩
   exact .inr L
  have hixa:ix l (p2.length:Int)=some a:=by rw [hx2];exact a5e _ _ _ rfl
  have h5:p2.length<9223372036854775807:=by rw [hx2,List.length_append,List.length_cons]at hll;omega
  obtain⟨N1,e1⟩:=e8z a.Const 3;dsimp only at e1;have one:∀n(K:List (List Afn)->Option Bool)m,N1<=n->ref37_FewForm_L2 n (p.length:Int) K (m+1) (p2.length:Int) x.Pieces=bif(decide ((8:Int)<(a.Coefs.length:Int))|| !(decide ((a.Const.P.Digits.length:Int)<=3)&&decide ((a.Const.Q.Digits.length:Int)<=3)))then some false else ref37_FewForm_L3 n a (ref37_FewForm_L2 n (p.length:Int) K m ((p2.length+1:Nat):Int) x.Pieces) n 0:=by
   intro n K m hn;rw [ref37_FewForm_L2_s,hix,b_s,more hx2,cond_true,b_s,hixa,b_s,e1 n hn,b_s,f2r h5];cases decide ((8:Int)<(a.Coefs.length:Int))<;>rfl
  cases hb2:(decide ((8:Int)<(a.Coefs.length:Int))|| !(decide ((a.Const.P.Digits.length:Int)<=3)&&decide ((a.Const.Q.Digits.length:Int)<=3)))with
  |true=>exact .inr ⟨false,rfl,N1,fun n K m hn=>by rw [one n K m hn,hb2];rfl⟩
  |false=>
   obtain⟨g1,g2⟩:=Bool.or_eq_false_iff.1 hb2;have g1:=of_decide_eq_false g1;have g2:(decide ((a.Const.P.Digits.length:Int)<=3)&&decide ((a.Const.Q.Digits.length:Int)<=3))=true:=by simpa using g2
   rcases c3 a (by omega)with⟨k1,N2,k2⟩|⟨N2,k2⟩
   ·refine .inl ⟨(),fun b hb=> ?_,max N1 N2,fun n K m hn=>by rw [one n K m (by omega),hb2,cond_false,k2 n _ (by omega)]⟩;rcases List.mem_append.1 hb with hb|hb
    ·exact hi b hb
    obtain rfl:=List.mem_singleton.1 hb;exact⟨by omega,c5g (k:=3) g2,k1⟩
   exact .inr ⟨false,rfl,max N1 N2,fun n K m hn=>by rw [one n K m (by omega),hb2,cond_false,k2 n _ (by omega)]⟩
 have L:=b6k (xs:=x.Pieces) (σ:=Unit) (ρ:=Bool) (κ:=Option Bool) (L:=fun n K m i _=>ref37_FewForm_L1 n K m i x.Pieces) (fun K _=>K) (fun p _=>∀l,l∈p->∀a,a∈l->a.Coefs.length<=8/\LimF 3 a.Const/\Lim 3 a.Coefs) (fun r=>r=false) (fun p l q s hx hi=> ?_) (fun s _=>⟨0,fun n K m _=>by rw [ref37_FewForm_L1_s,b2y];rfl⟩) (s0:=()) (fun a ha=>by cases ha)
 ·rcases L with⟨_,h1,N,L⟩|⟨r,rfl,N,L⟩
  ·exact Tt.of ⟨N,fun n hn=>L n _ hn⟩ fun _=>⟨⟨by omega,hx2,fun l hl a ha=>by have:=(h1 l hl a ha).1;omega,fun l hl a ha=>(h1 l hl a ha).2.1,fun l hl a ha=>(h1 l hl a ha).2.2⟩,fun l hl a ha=>(h1 l hl a ha).1⟩
  exact Tt.of ⟨N,fun n hn=>L n _ hn⟩ fun h=>by cases h
 have h5:p.length<9223372036854775807:=by rw [hx,List.length_append,List.length_cons]at hx1;omega
 rcases c2 p l q hx with⟨k1,N,k2⟩|⟨N,k2⟩
 ·refine .inl ⟨(),fun l2 hl2=> ?_,N,fun n K m hn=>by rw [ref37_FewForm_L1_s,more hx,cond_true,k2 n _ hn,f2r h5]⟩;rcases List.mem_append.1 hl2 with hl2|hl2
  ·exact hi l2 hl2
  obtain rfl:=List.mem_singleton.1 hl2;exact k1
 exact .inr ⟨false,rfl,N,fun n K m hn=>by rw [ref37_FewForm_L1_s,more hx,cond_true,k2 n _ hn]⟩
theorem sane37:Ev b3v true:=⟨400,fun n hn=>by
 obtain⟨m,rfl⟩:∃m,n=m+400:=⟨n-400,by omega⟩
 kernel_rfl⟩
theorem f0v{x:M.Form}{wgs:List Frac}{B:Nat}{r:Frac×Bool}(h:AtS x wgs B r):r.1.P.Digits.length<=B/\r.1.Q.Digits.length<=B:=by
 rcases h with⟨_,v,rfl,hs,_⟩|⟨_,rfl⟩
 ·exact b3n hs
 exact⟨Nat.zero_le _,Nat.zero_le _⟩
theorem ftells_ev(t:Tariff)(nz:List Rt.Bs)(f:Facts)(wgs:List Frac)(x:M.Form)(hx1:x.Pieces.length<=9223372036854775807)(hx2:∀l,l∈x.Pieces->l.length<=9223372036854775807):Ev (fun n=>a7o n t nz f wgs x) true:=by
 unfold a7o;refine Ev.bind sane37 ?_;obtain⟨b,hb,hq⟩:=e8y t nz f wgs;refine Ev.bind hb ?_;cases b with
 |false=>exact Ev.bind (a:=true) (Ev.then rfl (Ev.pure _)) (Ev.then rfl (Ev.pure _))
 |true=>
 have s1:=hq rfl;obtain⟨c,hc,hcq⟩:=e3e hx1 hx2;refine Ev.bind (Ev.else rfl (Ev.bind hc (Ev.pure _))) ?_;cases c with
 |false=>exact Ev.then rfl (Ev.pure _)
 |true=>
 refine Ev.else rfl ?_
 have hx:=hcq rfl;have n8:=s1.nl;have l8:=s1.ll;have w8:=s1.wl;obtain⟨g,e,o1,o2,hg⟩:=Of_2 (f:=f) s1.fit (show nz.length<=1000 by omega) (by omega);have hB:bnd 3 4 wgs.length<1000000:=Nat.lt_of_le_of_lt (d0k w8) (by decide);obtain⟨r1,a1,h1⟩:=At_t hx.lim s1.lim (by omega) (by decide) (by decide) hB;obtain⟨r2,a2,h2⟩:=f5s hx.lim s1.lim (by omega) (by decide) (by decide) hB;obtain rfl:=h1.uniq h2;have hl:=f0v h1;refine Ev.bind o1 (Ev.bind o2 (Ev.bind a1 (Ev.bind a2 ?_)));refine Ev.bind (a:=true) (Ev.then rfl ((Ev.pure _).eq (beq_self_eq_true e))) ?_;refine Ev.bind (a:=true) (Ev.then rfl (Ev.bind (e3v hg (by decide) (by omega)) (Ev.pure _))) ?_;refine Ev.bind (a:=true) (Ev.then rfl ((Ev.pure _).eq (beq_self_eq_true r1.2))) ?_;refine Ev.bind (a:=true) (Ev.then rfl (Ev.bind (a:=true) ?_ (Ev.pure _))) (Ev.pure _);exact(d1y (f:=r1.1) (g:=r1.1) (by omega) (by omega)).eq (decide_eq_true rfl)
end Fm
namespace FormTells
open Go Go.ChangeShapes Go.WideShapes Go.ChangeAt Go.RowKit Rt Wrap
set_option maxRecDepth 100000 in
theorem e6h(H:Type)(enc:TypeId×Value->H)(W:World)(base:Nat)(args:Array Value)(ds gs:List (DataW H))(before:List MemPlace)
 (hval:∀(j:Nat)t v,Tryz.f3.params[j]?=some t->args[j]?=some v->Value.okWide Tryz.prog W .any base t v)
 (hW:DataW.Whole enc Tryz.prog Tryz.f3.params.toList Rows.formTellsSpec.vars false W args.toList ds gs before) (hL:laidMetH Tryz.prog tabs W):
 Calls Tryz.prog 3 args W fun e W'=>∃v,e= .returned v/\Rows.formTellsSpec.post enc Tryz.prog Tryz.f3 false true false false W args v W':=by
 have hW':=hW;obtain⟨p,q,hA0,hV,rfl,hfz,hnd⟩:=hW;have hA:DataW.TrodAll enc Tryz.prog W 0 (fun _=>true) true Tryz.f3.params.toList args.toList ds p:=hA0;rw [Tryz.params3]at hA hval;obtain⟨v0,vs0,d0,ds0,p0,q0,hargs,rfl,rfl,h0,r0⟩:=trodAll_cons hA;obtain⟨v1,vs1,d1,ds1,p1,q1,rfl,rfl,rfl,h1,r1⟩:=trodAll_cons r0;obtain⟨v2,vs2,d2,ds2,p2,q2,rfl,rfl,rfl,h2,r2⟩:=trodAll_cons r1;obtain⟨v3,vs3,d3,ds3,p3,q3,rfl,rfl,rfl,h3,r3⟩:=trodAll_cons r2;obtain⟨v4,vs4,d4,ds4,p4,q4,rfl,rfl,rfl,h4,r4⟩:=trodAll_cons r3;obtain⟨rfl,rfl,rfl⟩:=trodAll_nil r4;obtain rfl:args= #[v0,v1,v2,v3,v4]:=by cases args;simp_all
 obtain⟨rfl,rfl⟩:=trodVars_none hV;obtain⟨cs0,rfl,hsz0⟩:=okWide_struct Tryz.underlying26 (hval 0 26 v0 rfl rfl);obtain⟨y0,hr0,ho0⟩:=c3r (f0r W) h0;obtain⟨ax0_4,nx0_4,cx0_4,he0,sx0_4⟩:=hr0;have he0':cs0.toList= [vs y0.Name,.int .i64 y0.Fee.Op,.int .i64 y0.Fee.N,vs y0.Fee.Name,.slice ax0_4 nx0_4 cx0_4,.int .i64 y0.Cap]:=he0;obtain rfl:cs0= #[vs y0.Name,.int .i64 y0.Fee.Op,.int .i64 y0.Fee.N,vs y0.Fee.Name,.slice ax0_4 nx0_4 cx0_4,.int .i64 y0.Cap]:=by rw [<-Array.toArray_toList (xs:=cs0),he0']
 obtain⟨a1,n1,c1,l1,rfl,hl1,ho1⟩:=e3q Tryz.underlying27 (f1l W) (hval 1 27 v1 rfl rfl) h1;obtain⟨cs2,rfl,hsz2⟩:=okWide_struct Tryz.underlying30 (hval 2 30 v2 rfl rfl);obtain⟨y2,hr2,ho2⟩:=c3r (f1i W) h2;obtain⟨ax2_0,nx2_0,cx2_0,he2,sx2_0⟩:=hr2;have he2':cs2.toList= [.slice ax2_0 nx2_0 cx2_0,.int .i64 y2.Persons,.int .i64 y2.Flats]:=he2;obtain rfl:cs2= #[.slice ax2_0 nx2_0 cx2_0,.int .i64 y2.Persons,.int .i64 y2.Flats]:=by rw [<-Array.toArray_toList (xs:=cs2),he2']
 obtain⟨a3,n3,c3,l3,rfl,hl3,ho3⟩:=e3q Tryz.underlying31 (e0t W) (hval 3 31 v3 rfl rfl) h3;obtain⟨cs4,rfl,hsz4⟩:=okWide_struct Tryz.underlying34 (hval 4 34 v4 rfl rfl);obtain⟨y4,hr4,ho4⟩:=c3r (e9z W) h4;obtain⟨ax4_0,nx4_0,cx4_0,he4,sx4_0⟩:=hr4;have he4':cs4.toList= [.slice ax4_0 nx4_0 cx4_0]:=he4;obtain rfl:cs4= #[.slice ax4_0 nx4_0 cx4_0]:=by rw [<-Array.toArray_toList (xs:=cs4),he4']
 obtain⟨N,hN⟩:=Fm.ftells_ev y0 l1 y2 l3 y4 (Nat.le_trans (ho4).1 (by decide)) (fun l hl=>Nat.le_trans ((ho4).2 l hl).1 (by decide));refine(M.law37_FormTells_ok' N y0 l1 y2 l3 y4 true (hN N (Nat.le_refl N)) (f0p W) sx0_4 hl1 sx2_0 hl3 sx4_0 (f3a hL)).mono ?_;rintro e W' ⟨v,F',O',rfl,hh,rfl,rfl⟩;refine⟨_,rfl,e3g laidOut ?_ rfl (by kernel_rfl) Tryz.underlying4 rfl hW' hh.below⟩;rw [Tryz.params3];intro t ht;have ht:t∈ [26,27,30,31,34]:=ht;rcases List.mem_cons.1 ht with rfl|ht
 ·exact⟨by kernel_rfl,of_decide_eq_true (by kernel_rfl)⟩
 rcases List.mem_cons.1 ht with rfl|ht
 ·exact⟨by kernel_rfl,of_decide_eq_true (by kernel_rfl)⟩
 rcases List.mem_cons.1 ht with rfl|ht
 ·exact⟨by kernel_rfl,of_decide_eq_true (by kernel_rfl)⟩
 rcases List.mem_cons.1 ht with rfl|ht
 ·exact⟨by kernel_rfl,of_decide_eq_true (by kernel_rfl)⟩
 rcases List.mem_cons.1 ht with rfl|ht
 ·exact⟨by kernel_rfl,of_decide_eq_true (by kernel_rfl)⟩
 exact absurd ht (List.not_mem_nil)
theorem reads(os:Os){H:Type}(enc:TypeId×Value->H):∃places,DataW.whole enc Tryz.prog ((c5z os).forCall (fun _ _=>0) ⟨#[], #[.agg #[.string ⟨#[]⟩,.int .i64 0,.int .i64 0,.string ⟨#[]⟩,.slice none 0 0,.int .i64 0],.slice none 0 0,.agg #[.slice none 0 0,.int .i64 0,.int .i64 0],.slice none 0 0,.agg #[.slice none 0 0]],[]⟩).memory Tryz.f3.params.toList Rows.formTellsSpec.vars false (#[.agg #[.string ⟨#[]⟩,.int .i64 0,.int .i64 0,.string ⟨#[]⟩,.slice none 0 0,.int .i64 0],.slice none 0 0,.agg #[.slice none 0 0,.int .i64 0,.int .i64 0],.slice none 0 0,.agg #[.slice none 0 0]]:Array Value).toList 8=some ([.agg [.lit (.string []),.agg [.lit (.int .i64 0),.lit (.int .i64 0),.lit (.string []),.nil],.lit (.int .i64 0)],.nil,.agg [.nil,.lit (.int .i64 0),.lit (.int .i64 0)],.nil,.agg [.nil]],[],places):=
 ⟨[],by kernel_rfl⟩
set_option maxRecDepth 100000 in
theorem f3o(os:Os)(started:os.Started)(H:Type)(enc:TypeId×Value->H)(F:Stop.Interp):
 ReturnsInHanded {} Tryz.checked os 3 .any ((OpenSpec.ofChange Rows.formTellsSpec).preRow enc Tryz.prog Tryz.f3 Rows.formTellsRow.domain false Rows.formTellsRow.laid) (((OpenSpec.ofChange Rows.formTellsSpec).at F).post enc Tryz.prog Tryz.f3 false true false false):=by
 obtain⟨places,hx⟩:=reads os enc;refine returnsInHanded_of_row (C:=Tryz.checked) (s:=OpenSpec.ofChange Rows.formTellsSpec) own started (by kernel_rfl) Tryz.func3
  (witness_row_at (enc:=enc) (C:=Tryz.checked) false (c5z os) #[.agg #[.string ⟨#[]⟩,.int .i64 0,.int .i64 0,.string ⟨#[]⟩,.slice none 0 0,.int .i64 0],.slice none 0 0,.agg #[.slice none 0 0,.int .i64 0,.int .i64 0],.slice none 0 0,.agg #[.slice none 0 0]] rfl (by kernel_rfl) (by kernel_rfl) (by kernel_rfl)
   (OpenSpec.preRow_of_cond 8 hx (by kernel_rfl) (fun k hk=>by cases hk) (by kernel_rfl) (e6o os _))) ?_
 intro W base args ds gs before hval hW _ _ _ hL _ _;exact e6h H enc W base args ds gs before hval hW hL
theorem said:Rows.FormTellsSaid:=
 OpenClaim.holds_of_cond 3 Tryz.f3 rfl rfl rfl rfl rfl rfl rfl ⟨rfl,rfl,rfl,rfl,rfl⟩ rfl rfl rfl rfl rfl (by kernel_rfl) Tryz.func3 (by kernel_rfl)
  (of_decide_eq_true (by kernel_rfl)) (by unfold Func.isWrapper;first|(rw [if_pos (by decide+kernel)];kernel_rfl)|(rw [if_neg (by decide+kernel)];exact⟨rfl,rfl⟩))
  (fun os started H enc _ F=>by rw [OpenClaim.pre_eq_preRow];exact f3o os started H enc F)
theorem f5t(f:FuncId)(fn:Func)(hf:Tryz.pinned.checked.prog.funcNamed "kerbside/kerbsidelaw37.FormTells" =some f)(hfn:Tryz.pinned.checked.prog.funcs[f]?=some fn):
 false=Tryz.pinned.checked.prog.looks []/\∀(j:Nat)t,fn.params[j]?=some t->Tryz.pinned.checked.prog.wantsStandIn t=false:=by
 obtain rfl:f=3:=Option.some.inj ((show Tryz.prog.funcNamed "kerbside/kerbsidelaw37.FormTells" =some 3 by kernel_rfl).symm.trans hf)|>.symm
 obtain rfl:fn=Tryz.f3:=(Option.some.inj (Tryz.func3.symm.trans hfn)).symm;refine⟨by kernel_rfl,fun j t ht=> ?_⟩;rw [Tryz.params3]at ht;have ht:t∈ [26,27,30,31,34]:=Array.mem_toList_iff.2 (Array.mem_of_getElem? ht);rcases List.mem_cons.1 ht with rfl|ht
 ·exact(show Tryz.prog.wantsStandIn 26=false by kernel_rfl)
 rcases List.mem_cons.1 ht with rfl|ht
 ·exact(show Tryz.prog.wantsStandIn 27=false by kernel_rfl)
 rcases List.mem_cons.1 ht with rfl|ht
 ·exact(show Tryz.prog.wantsStandIn 30=false by kernel_rfl)
 rcases List.mem_cons.1 ht with rfl|ht
 ·exact(show Tryz.prog.wantsStandIn 31=false by kernel_rfl)
 rcases List.mem_cons.1 ht with rfl|ht
 ·exact(show Tryz.prog.wantsStandIn 34=false by kernel_rfl)
 exact absurd ht (List.not_mem_nil)
theorem card:Rows.FormTellsCardSaid:=
 Claim7.holds_tied_plain_at .later [] _ _ _ _ said (fun _ h=>by cases h) (by kernel_rfl) (fun _ h=>by cases h) formTells_row_tie rfl ⟨rfl,rfl⟩ (by kernel_rfl) rfl f5t (by kernel_rfl)
end FormTells
end Go.Proofs.YthaegflpecbfgaaGreatDoor
