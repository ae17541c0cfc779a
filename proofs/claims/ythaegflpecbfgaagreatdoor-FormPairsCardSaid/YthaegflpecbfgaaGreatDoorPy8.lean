/- Several texts in one, for FormPairs.card: what the theorem leans on. -/
import Derived.Test.YthaegflpecbfgaaGreatDoorRows
import Derived.Test.YthaegflpecbfgaaGreatDoorPy7
set_option maxHeartbeats 1000000
set_option maxRecDepth 1000000
namespace Go.Proofs.YthaegflpecbfgaaGreatDoor.Fm
open Go Rt M Ta Tp D Fe
theorem dot_snoc:∀(p:List Rat)(x:Rat)(ws:List Rat)(y:Rat),ws[p.length]?=some y->dot (p++ [x]) ws=dot p ws+x*y
 | [],x,[],y,h=>by simp at h
 | [],x,z::ws,y,h=>by
  simp only [List.length_nil,List.getElem?_cons_zero,Option.some.injEq]at h
  subst h
  show x*z+dot [] ws=0+x*z
  have:dot [] ws=0:=rfl
  rw [this,Rat.add_zero,Rat.zero_add]
 |a::p,x,[],y,h=>by simp at h
 |a::p,x,z::ws,y,h=>by
  show a*z+dot (p++ [x]) ws=a*z+dot p ws+x*y
  rw [dot_snoc p x ws y (by simpa using h),Rat.add_assoc]
def bnd(A W n:Nat):Nat:=A+n*(A+W+1)
theorem c1p{A W m n:Nat}(h:m<=n):bnd A W m<=bnd A W n:=by
 unfold bnd
 have:=Nat.mul_le_mul_right (A+W+1) h
 omega
theorem e6k(A W n:Nat):bnd A W n+(A+W)+1=bnd A W (n+1):=by
 unfold bnd
 rw [Nat.add_mul];omega
section
variable{A W:Nat}{ws:List Rat}(hw:∀w,w∈ws->SmF W w)
include hw
theorem f0s{a:RA}(ha:SmA A a)(hl:a.2.length=ws.length)(hn:ws.length<=1000)(hB:bnd A W ws.length<1000000):Ev (fun n=>a9d n (toA a) (ws.map toF)) (toF (evA ws a))/\SmF (bnd A W ws.length) (evA ws a):=by
 have L:=lpR (xs:=a.2) (h:=toF) (σ:=Frac) (ρ:=Frac) (by omega) (L:=fun n K m i s=>minmax_at_L1 n (toA a) (ws.map toF) (fun x y z u=>K ⟨⟨x,y⟩,⟨z,u⟩⟩) m i s.P.Sign s.P.Digits s.Q.Sign s.Q.Digits)
  (B:=fun n i x s k=>((ix (ws.map toF) i).bind fun ex2=>(b2g n x ex2).bind fun v2=>some (v2.1.P.Sign,v2.1.P.Digits,v2.1.Q.Sign,v2.1.Q.Digits)).bind fun(f9,f10,f11,f12)=>(b0e n s (⟨(⟨f9,f10⟩:Big),(⟨f11,f12⟩:Big)⟩:Frac)).bind fun v1=>k v1.1)
  (fun n K m i s=>by rw [minmax_at_L1_s];simp only [toA,List.length_map]) (fun p s=>s=toF (a.1+dot p ws)/\SmF (bnd A W p.length) (a.1+dot p ws)) (fun _=>False) (fun p x q s hx hi=> .inl ?_) (s0:=toF a.1) ⟨by show toF a.1=toF (a.1+0);rw [Rat.add_zero],by show SmF _ (a.1+0);rw [Rat.add_zero];exact ha.1.mono (by unfold bnd;omega)⟩
 ·rcases L with⟨s',⟨rfl,h2⟩,N,L⟩|⟨r,hr,_⟩
  ·refine⟨?_,hl▸h2⟩
   unfold a9d
   exact⟨N,fun n hn=>L n (fun s=>some s) hn⟩
  ·exact hr.elim
 ·obtain⟨rfl,h2⟩:=hi
  have hpl:p.length<ws.length:=by rw [<-hl,hx];simp
  have hy:ws[p.length]?=some ws[p.length]:=List.getElem?_eq_getElem hpl
  have hix:ix (ws.map toF) (p.length:Int)=some (toF ws[p.length]):=by rw [b1s,List.getElem?_map,hy];rfl
  have hb1:bnd A W (p.length+1)<=bnd A W ws.length:=c1p hpl
  have hbs:=e6k A W p.length
  have hx2:SmF A x:=ha.2 x (by rw [hx];simp)
  have hy2:SmF W ws[p.length]:=hw _ (List.getElem_mem hpl)
  have hA:A+W<4000000:=by omega
  obtain⟨N1,e1⟩:=FMul_ev hx2 hy2 hA
  obtain⟨N2,e2⟩:=FAdd_ev h2 (hx2.mul hy2) (by omega)
  dsimp only at e1 e2
  have hv:a.1+dot (p++ [x]) ws=a.1+dot p ws+x*ws[p.length]:=by rw [dot_snoc p x ws _ hy,Rat.add_assoc]
  refine⟨_,⟨rfl,?_⟩,max N1 N2,fun n k hn=> ?_⟩
  ·rw [hv,List.length_append,List.length_singleton,<-hbs]
   exact h2.add (hx2.mul hy2)
  ·rw [hix,Option.bind_some,e1 n (by omega)]
   show(b0e n (toF (a.1+dot p ws)) (toF (x*ws[p.length]))).bind _=_
   rw [e2 n (by omega),hv];rfl
def Gr(l:List RA)(ws:List Rat)(v:Rat):Prop:=(∃a,a∈l/\v<=evA ws a)/\∀a,a∈l->evA ws a<=v
omit hw in
theorem f0k(a:RA):Gr [a] ws (evA ws a):=⟨⟨a,by simp,Rat.le_refl⟩,fun b hb=>by obtain rfl:=List.mem_singleton.1 hb;exact Rat.le_refl⟩
omit hw in
theorem e6a{l:List RA}{v:Rat}(h:Gr l ws v)(a:RA):Gr (l++ [a]) ws (if v<evA ws a then evA ws a else v):=by
 obtain⟨⟨b,hb,h1⟩,h2⟩:=h
 split
 ·rename_i hlt
  refine⟨⟨a,by simp,Rat.le_refl⟩,fun c hc=> ?_⟩
  rcases List.mem_append.1 hc with hc|hc
  ·exact Rat.le_trans (h2 c hc) (Rat.le_of_lt hlt)
  ·obtain rfl:=List.mem_singleton.1 hc;exact Rat.le_refl
 ·rename_i hlt
  refine⟨⟨b,by simp [hb],h1⟩,fun c hc=> ?_⟩
  rcases List.mem_append.1 hc with hc|hc
  ·exact h2 c hc
  ·obtain rfl:=List.mem_singleton.1 hc;exact Rat.not_lt.1 hlt
omit hw in
theorem Gr.uniq{l:List RA}{u v:Rat}(h:Gr l ws u)(k:Gr l ws v):u=v:=by
 obtain⟨⟨a,ha,h1⟩,h2⟩:=h
 obtain⟨⟨b,hb,k1⟩,k2⟩:=k
 exact Rat.le_antisymm (Rat.le_trans h1 (k2 a ha)) (Rat.le_trans k1 (h2 b hb))
omit hw in
theorem d6r{l:List RA}{v:Rat}(h:Gr l ws v):IsV [l] ws v:=⟨fun p hp=>by obtain rfl:=List.mem_singleton.1 hp;exact h.1,l,by simp,h.2⟩
theorem e8e{l:List RA}{a0:RA}(ha:∀a,a∈l->SmA A a/\a.2.length=ws.length)(hl:l.length<=4611686018427387904)(hn:ws.length<=1000)(hB:bnd A W ws.length<1000000)(h0:SmF (bnd A W ws.length) (evA ws a0)):
 ∃v,Gr (a0::l) ws v/\SmF (bnd A W ws.length) v/\∃N,∀n(K:Frac->Option (Frac×Bool)),N<=n->minmax_At_L2 n (ws.map toF) (toP l) (fun x y z u=>K ⟨⟨x,y⟩,⟨z,u⟩⟩) n 0 (toF (evA ws a0)).P.Sign (toF (evA ws a0)).P.Digits (toF (evA ws a0)).Q.Sign (toF (evA ws a0)).Q.Digits=K (toF v):=by
 have L:=lpR (xs:=l) (h:=toA) (σ:=Frac) (ρ:=Frac×Bool) (by omega) (L:=fun n K m i s=>minmax_At_L2 n (ws.map toF) (toP l) (fun x y z u=>K ⟨⟨x,y⟩,⟨z,u⟩⟩) m i s.P.Sign s.P.Digits s.Q.Sign s.Q.Digits)
  (B:=fun n i x s k=>(a9d n x (ws.map toF)).bind fun v6=>(b3f n s v6).bind fun v7=>k v7.1)
  (fun n K m i s=>by rw [minmax_At_L2_s];simp only [toP,List.length_map]) (fun p s=>∃v,s=toF v/\Gr (a0::p) ws v/\SmF (bnd A W ws.length) v) (fun _=>False) (fun p x q s hx⟨v,hs,h1,h2⟩=> .inl ?_) (s0:=toF (evA ws a0)) ⟨_,rfl,f0k a0,h0⟩
 ·rcases L with⟨s',⟨v,rfl,h1,h2⟩,L⟩|⟨r,hr,_⟩
  ·exact⟨v,h1,h2,L⟩
  ·exact hr.elim
 ·subst hs
  obtain⟨g1,g2⟩:=ha x (by rw [hx];simp)
  obtain⟨⟨N1,e1⟩,s1⟩:=f0s hw g1 g2 hn hB
  obtain⟨N2,e2⟩:=FMax_ev h2 s1 (by omega)
  dsimp only at e1 e2
  refine⟨_,⟨_,rfl,e6a h1 x,by split;exact s1;exact h2⟩,max N1 N2,fun n k hn=> ?_⟩
  rw [e1 n (by omega),Option.bind_some,e2 n (by omega)];rfl
theorem e7q{g:RFm}(hg:Gd ws.length A g)(h0:g≠ [])(hne:∀p,p∈g->p≠ [])(hgl:g.length<=1000)(hpl:∀p,p∈g->p.length<=4611686018427387904)(hn:ws.length<=1000)(hB:bnd A W ws.length<1000000):
 ∃v,IsV g ws v/\SmF (bnd A W ws.length) v/\∃N,∀n,N<=n->minmax_At_L1 n (toFm g) (ws.map toF) (fun(f10:Int)(f11:(List Int))(f12:Int)(f13:(List Int))(_:Int)(_:(List Int))(_:Int)(_:(List Int))=>some ((⟨(⟨f10,f11⟩:Big),(⟨f12,f13⟩:Big)⟩:Frac),true)) n 0 0 [] 0 [] 0 [] 0 []=some (toF v,true):=by
 have L:=lpR (xs:=g) (h:=toP) (σ:=Frac) (ρ:=Frac×Bool) (by omega) (L:=fun n K m i s=>minmax_At_L1 n (toFm g) (ws.map toF) (fun x y z u _ _ _ _=>K ⟨⟨x,y⟩,⟨z,u⟩⟩) m i s.P.Sign s.P.Digits s.Q.Sign s.Q.Digits 0 [] 0 [])
  (B:=fun n i x s k=>(ix x 0).bind fun ex2=>(a9d n ex2 (ws.map toF)).bind fun v3=>(lsl x 1 x.length).bind fun l1=>minmax_At_L2 n (ws.map toF) l1 (fun f22 f23 f24 f25=>(bif i==0 then some true else(a4d n (⟨(⟨f22,f23⟩:Big),(⟨f24,f25⟩:Big)⟩:Frac) s).bind fun v5=>some (decide (v5<0))).bind fun v4=>bif v4 then k ⟨⟨f22,f23⟩,⟨f24,f25⟩⟩else k s) n 0 v3.P.Sign v3.P.Digits v3.Q.Sign v3.Q.Digits)
  (fun n K m i s=>by rw [minmax_At_L1_s];simp only [toFm,List.length_map]) (fun p s=>p= []∨∃v,s=toF v/\IsV p ws v/\SmF (bnd A W ws.length) v) (fun _=>False) (fun p x q s hx hi=> .inl ?_) (s0:=⟨⟨0,[]⟩,⟨0,[]⟩⟩) (.inl rfl)
 ·rcases L with⟨s',h1|⟨v,rfl,h1,h2⟩,N,L⟩|⟨r,hr,_⟩
  ·exact absurd h1 h0
  ·exact⟨v,h1,h2,N,fun n hn=>L n (fun s=>some (s,true)) hn⟩
  ·exact hr.elim
 ·have hxm:x∈g:=by rw [hx];simp
  obtain⟨a0,l,rfl⟩:∃a0 l,x=a0::l:=by
   cases x with
   |nil=>exact absurd rfl (hne _ hxm)
   |cons a l=>exact⟨a,l,rfl⟩
  have ha:∀a,a∈a0::l->SmA A a/\a.2.length=ws.length:=fun a h=>⟨gdA hg hxm h,hg.wide _ hxm a h⟩
  obtain⟨⟨N1,e1⟩,s1⟩:=f0s hw (ha a0 (by simp)).1 (ha a0 (by simp)).2 hn hB
  have hll:=hpl _ hxm
  rw [List.length_cons]at hll
  obtain⟨v,h1,h2,N2,e2⟩:=e8e hw (a0:=a0) (l:=l) (fun a h=>ha a (by simp [h])) (by omega) hn hB s1
  dsimp only at e1
  have hlsl:lsl (toP (a0::l)) 1 ((toP (a0::l)).length:Int)=some (toP l):=by
   have hl2:(toP (a0::l)).length=l.length+1:=by show(toA a0::l.map toA).length=_;simp
   have:=c8x (l:=toP (a0::l)) (p:=1) (q:=(toP (a0::l)).length) (by omega) (Nat.le_refl _)
   rw [List.take_length]at this
   exact this
  have hd:∀n(k:Frac->Option (Frac×Bool)),max N1 N2<=n->((ix (toP (a0::l)) 0).bind fun ex2=>(a9d n ex2 (ws.map toF)).bind fun v3=>(lsl (toP (a0::l)) 1 (toP (a0::l)).length).bind fun l1=>minmax_At_L2 n (ws.map toF) l1 (fun f22 f23 f24 f25=>(bif(p.length:Int)==0 then some true else(a4d n (⟨(⟨f22,f23⟩:Big),(⟨f24,f25⟩:Big)⟩:Frac) s).bind fun v5=>some (decide (v5<0))).bind fun v4=>bif v4 then k ⟨⟨f22,f23⟩,⟨f24,f25⟩⟩else k s) n 0 v3.P.Sign v3.P.Digits v3.Q.Sign v3.Q.Digits)=
   (bif(p.length:Int)==0 then some true else(a4d n (toF v) s).bind fun v5=>some (decide (v5<0))).bind fun v4=>bif v4 then k (toF v)else k s:=by
   intro n k hn
   rw [show ix (toP (a0::l)) 0=some (toA a0)from rfl,Option.bind_some,e1 n (by omega),Option.bind_some,hlsl,Option.bind_some]
   exact e2 n (fun t=>(bif(p.length:Int)==0 then some true else(a4d n t s).bind fun v5=>some (decide (v5<0))).bind fun v4=>bif v4 then k t else k s) (by omega)
  rcases hi with rfl|⟨u,rfl,k1,k2⟩
  ·exact⟨toF v,.inr ⟨v,rfl,d6r h1,h2⟩,max N1 N2,fun n k hn=>by rw [hd n k hn];rfl⟩
  ·obtain⟨N3,e3⟩:=FCompare_ev h2 k2 (by omega)
   dsimp only at e3
   have hp0:((p.length:Int)==0)=false:=by
    rw [beq_eq_false_iff_ne]
    intro e
    have:p= []:=List.length_eq_zero_iff.1 (by omega)
    subst this
    obtain⟨_,q',hq',_⟩:=k1
    cases hq'
   have hmin:=d5h k1 (d6r h1)
   have hcmp:decide (cmpQ v u<0)=decide (v<u):=by
    rcases a8z v u with⟨c1,c2⟩|⟨c1,c2⟩|⟨c1,c2⟩
    ·rw [c2,decide_eq_true c1];rfl
    ·rw [c2,c1,decide_eq_false Rat.lt_irrefl];rfl
    ·rw [c2,decide_eq_false (Rat.not_lt.2 (Rat.le_of_lt c1))];rfl
   refine⟨toF (if v<u then v else u),.inr ⟨_,rfl,hmin,by split;exact h2;exact k2⟩,max (max N1 N2) N3,fun n k hn=> ?_⟩
   rw [hd n k (by omega),hp0,cond_false,e3 n (by omega),Option.bind_some,Option.bind_some,hcmp]
   by_cases hlt:v<u
   ·rw [decide_eq_true hlt,cond_true,if_pos hlt]
   ·rw [decide_eq_false hlt,cond_false,if_neg hlt]
end
def AtS(x:M.Form)(weights:List Frac)(B:Nat)(r:Frac×Bool):Prop:=
 (b7a x weights=false/\∃v,r=(toF v,true)/\SmF B v/\IsV (decX x) (weights.map rat) v)∨(b7a x weights=true/\r=(zeroF,false))
theorem AtS.uniq{x:M.Form}{weights:List Frac}{B C:Nat}{r s:Frac×Bool}(h:AtS x weights B r)(k:AtS x weights C s):r=s:=by
 rcases h with⟨h1,u,rfl,_,h2⟩|⟨h1,rfl⟩<;>rcases k with⟨k1,v,rfl,_,k2⟩|⟨k1,rfl⟩
 ·rw [h2.uniq k2]
 ·rw [h1]at k1;cases k1
 ·rw [h1]at k1;cases k1
 ·rfl
theorem At_t{x:M.Form}{weights:List Frac}{A W:Nat}(hx:LimX A x)(hw:Lim W weights)(hn:weights.length<=1000)(hA:A<1000000)(hW:W<1000000)(hB:bnd A W weights.length<1000000):Tt (AtS x weights (bnd A W weights.length)) (fun n=>a6a n x weights):=by
 unfold a6a
 refine Tt.evb (b5v (by omega) a8s badC (fun y hy=>e0v (k:=W) (by omega) (hw y hy))) ?_
 refine Tt.evb (a:=b7a x weights) (orE fun _=>Ev.bind (e0c (k:=A) (by omega) hx) (Ev.pure _)) ?_
 cases hwr:b7a x weights with
 |true=>exact Tt.bif (fun _=>Tt.pure (.inr ⟨hwr,rfl⟩)) (fun h=>by cases h)
 |false=>
  refine Tt.bif (fun h=>by cases h) (fun _=> ?_)
  obtain⟨e1,e2,g1,g2,g3,g4,g5,g6⟩:=c9n hx hw hwr
  have hlen:(weights.map rat).length=weights.length:=List.length_map ..
  obtain⟨v,h1,h2,N,h3⟩:=e7q (A:=A) g2 (by rw [hlen];exact g1) g3 g4 g5 g6 (by omega) (by rw [hlen];exact hB)
  rw [<-e1,<-e2]at h3
  rw [hlen]at h2
  exact Tt.of ⟨N,h3⟩ (.inl ⟨hwr,v,rfl,h2,h1⟩)
end Go.Proofs.YthaegflpecbfgaaGreatDoor.Fm
namespace Go.Proofs.YthaegflpecbfgaaGreatDoor.Ta
open Go Rt M
theorem orT(c d:Bool):(bif c then some true else some d)=some (c||d):=by cases c<;>rfl
theorem andT(c d:Bool):(bif c then some d else some false)=some (c&&d):=by cases c<;>rfl
theorem d8x(n:Nat){o:Int}(h1:0<=o)(h2:o<=16):b0x n o=some (b8c o):=by
 unfold b0x b8c
 rw [decide_eq_false (show¬o<0 by omega),cond_false,Option.bind_some,decide_eq_false (show¬17<=o by omega),cond_false]
 by_cases h3:o<=4
 ·rw [decide_eq_true h3,if_pos h3];rfl
 ·rw [decide_eq_false h3,if_neg h3,cond_false]
  by_cases h4:o=14
  ·subst h4;rfl
  ·rw [show(o==14)=false by simpa using h4,if_neg h4,cond_false]
   by_cases h5:o=11
   ·subst h5;rfl
   ·rw [show(o==11)=false by simpa using h5,if_neg h5];rfl
theorem d7h(n:Nat){o:Int}(h:¬(0<=o/\o<=16)):b0x n o=some (-1):=by
 unfold b0x
 rw [orT,Option.bind_some,show(decide (o<0)||decide (17<=o))=true by by_cases h1:o<0<;>simp [h1];omega];rfl
theorem d3k(x:M.Expr)(hl:x.Args.length<=1000000):∀(us:List M.Expr)(i:Nat),x.Args.drop i=us->(∀y,y∈us->∃b,Ev (fun n=>tariff_shaped n y) b/\Ev (fun n=>ref35_shaped n y) b)->
 ∃N r,∀n m,N<=n->us.length<m->slices_IndexFunc_api_Expr_api_Expr_L1 n x.Args (tariff_shaped_1 n) (some (-1)) m (i:Int)=some r/\ref35_shaped_L1 n (ref35_shaped n) x (some true) m (i:Int)=some (!decide (0<=r))
 | [],i,hd,_=>by
  refine⟨0,-1,fun n m _ hm=> ?_⟩
  obtain⟨m,rfl⟩:=left hm
  rw [slices_IndexFunc_api_Expr_api_Expr_L1_s,a6r hd,ref35_shaped_L1_s,a6r hd]
  exact⟨rfl,rfl⟩
 |y::us,i,hd,H=>by
  obtain⟨h1,h2,h3⟩:=drop_cons hd
  obtain⟨b,⟨N1,e1⟩,⟨N2,e2⟩⟩:=H y (by simp)
  obtain⟨N,r,ih⟩:=d3k x hl us (i+1) h2 (fun z hz=>H z (by simp [hz]))
  refine⟨max N (max (N1+1) N2),if b=true then r else(i:Int),fun n m hn hm=> ?_⟩
  obtain⟨m,rfl,hm2⟩:=pred (by simpa using hm)
  obtain⟨n',rfl⟩:∃k,n=k+1:=⟨n-1,by omega⟩
  have e1:tariff_shaped n' y=some b:=e1 n' (by omega)
  have e2:ref35_shaped (n'+1) y=some b:=e2 (n'+1) (by omega)
  have ih:=ih (n'+1) m (by omega) hm2
  rw [slices_IndexFunc_api_Expr_api_Expr_L1_s,a2o hd,cond_true,h1,Option.bind_some,a8b,e1,Option.bind_some,Option.bind_some,ref35_shaped_L1_s,a2o hd,cond_true,h1,Option.bind_some,e2,Option.bind_some]
  cases b with
  |true=>rw [Bool.not_true,cond_false,cond_false,if_pos rfl,inc64 (by omega)];exact ih
  |false=>
   rw [if_neg (by decide),decide_eq_true (show(0:Int)<=(i:Int) by omega)]
   exact⟨rfl,rfl⟩
theorem e2o{x:M.Expr}(hx:Fit x):∃b,Ev (fun n=>tariff_shaped n x) b/\Ev (fun n=>ref35_shaped n x) b:=by
 induction hx with
 | @mk o k s l hl _ ih=>
  by_cases hr:0<=o/\o<=16
  rotate_left
  ·refine⟨false,Ev.suc (fun n=>tariff_shaped_s _ n) ?_,Ev.suc (fun n=>ref35_shaped_s _ n) ?_⟩
   ·refine Ev.bind (a:=true) (Ev.all fun n=> ?_) (Ev.bind (a:=true) (Ev.then rfl (Ev.pure _)) (Ev.then rfl (Ev.pure _)))
    rw [orT];dsimp only
    congr 1
    by_cases h1:o<0<;>simp [h1]
    omega
   ·refine Ev.bind (Ev.all fun n=>d7h n hr) ?_
    exact Ev.bind (a:=true) (Ev.then (by dsimp only;rw [bne_iff_ne];omega) (Ev.pure _)) (Ev.then rfl (Ev.pure _))
  have d1:decide (o<0)=false:=decide_eq_false (by omega)
  have d2:decide (17<=o)=false:=decide_eq_false (by omega)
  by_cases ha:(l.length:Int)=b8c o
  rotate_left
  ·have d3:((l.length:Int) !=b8c o)=true:=by simpa using ha
   refine⟨false,Ev.suc (fun n=>tariff_shaped_s _ n) ?_,Ev.suc (fun n=>ref35_shaped_s _ n) ?_⟩
   ·exact Ev.bind (a:=false) (Ev.else d1 ((Ev.pure _).eq d2)) (Ev.bind (a:=true) (Ev.else rfl (Ev.bind (Ev.all fun n=>d3b n _) ((Ev.pure _).eq d3))) (Ev.then rfl (Ev.pure _)))
   ·exact Ev.bind (Ev.all fun n=>d8x n hr.1 hr.2) (Ev.bind (a:=true) (Ev.then d3 (Ev.pure _)) (Ev.then rfl (Ev.pure _)))
  have d3:((l.length:Int) !=b8c o)=false:=by simpa using ha
  have code:∀{b:Bool}{f:Nat->Option Bool},Ev f b->Ev (fun n=>(bif decide (o<0)then some true else some (decide (17<=o))).bind fun v1=>(bif v1 then some true else(a9t n o).bind fun v11=>some ((l.length:Int) !=v11)).bind fun v2=>bif v2 then some false else f n) b:=fun h=>
   Ev.bind (a:=false) (Ev.else d1 ((Ev.pure _).eq d2)) (Ev.bind (a:=false) (Ev.else rfl (Ev.bind (Ev.all fun n=>d3b n _) ((Ev.pure _).eq d3))) (Ev.else rfl h))
  obtain⟨N,r,hL⟩:=d3k ⟨o,k,s,l⟩ hl l 0 rfl ih
  have loopR:Ev (fun n=>ref35_shaped_L1 n (ref35_shaped n) ⟨o,k,s,l⟩ (some true) n 0) (!decide (0<=r)):=⟨N+l.length+1,fun n hn=>(hL n n (by omega) (by omega)).2⟩
  have loopC:Ev (fun n=>a0o n l (tariff_shaped_1 n)) (decide (0<=r)):=by
   unfold a0o a1m
   exact Ev.bind (a:=r) ⟨N+l.length+1,fun n hn=>(hL n n (by omega) (by omega)).1⟩ (Ev.pure _)
  have loop0:b8c o=0->(!decide (0<=r))=true:=by
   intro h0
   have hz:l= []:=List.length_eq_zero_iff.1 (by omega)
   subst hz
   have h1:=(hL (N+1) 1 (by omega) (by simp)).1
   rw [slices_IndexFunc_api_Expr_api_Expr_L1_s]at h1
   have h2:(some (-1):Option Int)=some r:=h1
   cases h2;rfl
  have ref:∀{vn:Bool},Lx.name s=vn->Ev (fun n=>ref35_shaped n ⟨o,k,s,l⟩) (!((o !=0&&k !=0)||((((o==1||o==4)&& !vn)||(!(o==1||o==4)&& !(s== [])))||(o==0&&(decide (k<0)||decide (1099511627776<k)))))&& !decide (0<=r)):=by
   intro vn hvn
   refine Ev.suc (fun n=>ref35_shaped_s _ n) ?_
   refine Ev.bind (Ev.all fun n=>d8x n hr.1 hr.2) ?_
   refine Ev.bind (a:=(o !=0&&k !=0)) (Ev.else d3 (Ev.all fun n=>by rw [andT];rfl)) ?_
   cases(o !=0&&k !=0)with
   |true=>exact Ev.then rfl ((Ev.pure _).eq rfl)
   |false=>
    refine Ev.else rfl ?_
    refine Ev.bind (a:=(o==1||o==4)) (Ev.all fun n=>orT _ _) ?_
    refine Ev.bind (a:=((o==1||o==4)&& !vn)) ?_ ?_
    ·cases(o==1||o==4)with
     |true=>exact Ev.then rfl (Ev.bind ((c7g s).eq hvn) (Ev.pure _))
     |false=>exact Ev.else rfl (Ev.pure _)
    refine Ev.bind (a:=(((o==1||o==4)&& !vn)||(!(o==1||o==4)&& !(s== [])))) ?_ ?_
    ·cases((o==1||o==4)&& !vn)with
     |true=>exact Ev.then rfl (Ev.pure _)
     |false=>exact Ev.else rfl (Ev.all fun n=>by rw [andT];rfl)
    refine Ev.bind (a:=((((o==1||o==4)&& !vn)||(!(o==1||o==4)&& !(s== [])))||(o==0&&(decide (k<0)||decide (1099511627776<k))))) ?_ ?_
    ·cases(((o==1||o==4)&& !vn)||(!(o==1||o==4)&& !(s== [])))with
     |true=>exact Ev.then rfl (Ev.pure _)
     |false=>
      refine Ev.else rfl (Ev.bind (a:=(o==0&&(decide (k<0)||decide (1099511627776<k)))) ?_ ((Ev.pure _).eq (by simp)))
      cases o==0 with
      |true=>exact Ev.then rfl (Ev.all fun n=>by rw [orT];rfl)
      |false=>exact Ev.else rfl (Ev.pure _)
    cases((((o==1||o==4)&& !vn)||(!(o==1||o==4)&& !(s== [])))||(o==0&&(decide (k<0)||decide (1099511627776<k))))with
    |true=>exact Ev.then rfl (Ev.pure _)
    |false=>exact Ev.else rfl (loopR.eq (by simp))
  by_cases o0:o=0
  ·refine⟨(decide (0<=k)&&decide (k<=1099511627776))&&s== [],Ev.suc (fun n=>tariff_shaped_s _ n) (code (Ev.then (by simpa using o0) ?_)),(ref rfl).eq ?_⟩
   ·refine Ev.bind (a:=(decide (0<=k)&&decide (k<=1099511627776))) (Ev.all fun n=>andT _ _) ?_
    exact Ev.bind (a:=((decide (0<=k)&&decide (k<=1099511627776))&&s== [])) (Ev.all fun n=>andT _ _) (Ev.pure _)
   ·rw [loop0 (by rw [o0];rfl)]
    subst o0
    by_cases k1:k<0
    ·rw [decide_eq_true k1,decide_eq_false (show¬0<=k by omega)];simp
    ·by_cases k2:1099511627776<k
     ·rw [decide_eq_true k2,decide_eq_false (show¬k<=1099511627776 by omega)];simp
     ·rw [decide_eq_false k1,decide_eq_false k2,decide_eq_true (show 0<=k by omega),decide_eq_true (show k<=1099511627776 by omega)];simp
  have f0:(o==0)=false:=by simpa using o0
  have g0:(o !=0)=true:=by simpa using o0
  by_cases o1:(o==1||o==4)=true
  ·refine⟨k==0&&Lx.name s,Ev.suc (fun n=>tariff_shaped_s _ n) (code (Ev.else f0 (Ev.bind (a:=true) ((Ev.all fun n=>orT _ _).eq o1) (Ev.then rfl (Ev.bind (a:=(k==0&&Lx.name s)) ?_ (Ev.pure _)))))),(ref rfl).eq ?_⟩
   ·cases hk:k==0 with
    |true=>exact Ev.then rfl (Ev.bind (b9y s) ((Ev.pure _).eq (by simp)))
    |false=>exact Ev.else rfl (Ev.pure _)
   ·have h4:o=1∨o=4:=by simpa using o1
    rw [loop0 (by rcases h4 with h|h<;>rw [h]<;>rfl),o1,f0,g0]
    cases hk:k==0<;>cases Lx.name s<;>simp [bne,hk]
  ·have o1':(o==1||o==4)=false:=by simpa using o1
   refine⟨(k==0&&s== [])&& !decide (0<=r),Ev.suc (fun n=>tariff_shaped_s _ n) (code (Ev.else f0 (Ev.bind (a:=false) ((Ev.all fun n=>orT _ _).eq o1') (Ev.else rfl ?_)))),(ref rfl).eq ?_⟩
   ·refine Ev.bind (a:=(k==0&&s== [])) (Ev.all fun n=>andT _ _) ?_
    refine Ev.bind (a:=((k==0&&s== [])&& !decide (0<=r))) ?_ (Ev.pure _)
    cases(k==0&&s== [])with
    |true=>exact Ev.then rfl (Ev.bind loopC ((Ev.pure _).eq (by simp)))
    |false=>exact Ev.else rfl (Ev.pure _)
   ·rw [o1',f0,g0]
    cases hk:k==0<;>cases s== []<;>simp [bne,hk]
theorem e8j{x:M.Expr}(hx:Fit x):∃b,Ev (fun n=>a7l n x) b/\Ev (fun n=>c0j n x) b/\(b=true->Shp x):=by
 obtain⟨b1,z,e1,e2⟩:=f1i hx
 obtain⟨b2,e3,e4⟩:=e2o hx
 obtain⟨b3,e5,hS⟩:=e1l hx
 have hb:b3=b2:=e5.uniq e3
 refine⟨b1&&b2,?_,?_,fun h=>hS (by rw [hb];simp at h;exact h.2)⟩
 ·unfold a7l
  refine Ev.bind e1 (Ev.bind (a:=b1&&b2) ?_ (Ev.pure _))
  cases b1 with
  |true=>exact Ev.then rfl (Ev.bind e3 ((Ev.pure _).eq (by simp)))
  |false=>exact Ev.else rfl (Ev.pure _)
 ·unfold c0j
  refine Ev.bind e2 (Ev.bind (a:=b1&&b2) ?_ (Ev.pure _))
  cases b1 with
  |true=>exact Ev.then rfl (Ev.bind e4 ((Ev.pure _).eq (by simp)))
  |false=>exact Ev.else rfl (Ev.pure _)
theorem d6b{t:Tariff}(hx:Fit t.Fee):∃b,Ev (fun n=>a5b n t) b/\Ev (fun n=>b4d n t) b/\(b=true->Shp t.Fee):=by
 obtain⟨b,e1,e2,hS⟩:=e8j hx
 refine⟨((Lx.name t.Name&&b)&&decide (-1<=t.Cap))&&decide (t.Cap<=1099511627776),?_,?_,fun h=>hS (by simp at h;exact h.1.1.2)⟩
 ·unfold a5b
  refine Ev.bind (b9y _) (Ev.bind (a:=(Lx.name t.Name&&b)) ?_ (Ev.bind (Ev.all fun n=>andT _ _) (Ev.bind (Ev.all fun n=>andT _ _) (Ev.pure _))))
  cases Lx.name t.Name with
  |true=>exact Ev.then rfl (Ev.bind e1 ((Ev.pure _).eq (by simp)))
  |false=>exact Ev.else rfl (Ev.pure _)
 ·unfold b4d
  refine Ev.bind (c7g _) (Ev.bind (a:=(Lx.name t.Name&&b)) ?_ (Ev.bind (Ev.all fun n=>andT _ _) (Ev.bind (Ev.all fun n=>andT _ _) (Ev.pure _))))
  cases Lx.name t.Name with
  |true=>exact Ev.then rfl (Ev.bind e2 ((Ev.pure _).eq (by simp)))
  |false=>exact Ev.else rfl (Ev.pure _)
end Go.Proofs.YthaegflpecbfgaaGreatDoor.Ta
namespace Go.Proofs.YthaegflpecbfgaaGreatDoor.Ta
open Go Rt M
def c1f(a b:Int):Int:=bif a==2||b==2 then 2 else 1
theorem d8p(n:Nat)(a b:Int):a9u n a b=some (c1f a b):=by
 unfold a9u c1f
 rw [orT,Option.bind_some]
 cases a==2||b==2<;>rfl
theorem e9z(n:Nat)(a b:Int):a1n n a b=some (bif a==0||b==0 then(0,13)else(c1f a b,0)):=by
 unfold a1n c1f
 rw [orT,Option.bind_some,orT,Option.bind_some]
 cases a==0||b==0<;>cases a==2||b==2<;>rfl
theorem d1l(a b:Int):0<=c1f a b/\c1f a b<=2:=by
 unfold c1f
 cases a==2||b==2<;>decide
theorem d3y(n:Nat)(p q:Int):a3u n 12 [p,q]=some (0,p==1&&q==1)/\a3u n 13 [p,q]=some (0,p==1&&q==1):=by
 constructor<;>(show((bif p==1 then some (q==1)else some false).bind fun v4=>some ((0:Int),v4))=_;rw [andT];rfl)
theorem d7l(n:Nat)(p q:Int):a3u n 15 [p,q]=some (0,p==0&&q==0)/\a3u n 16 [p,q]=some (0,p==0&&q==0):=by
 constructor<;>(show((bif p==0 then some (q==0)else some false).bind fun v4=>some ((0:Int),v4))=_;rw [andT];rfl)
theorem e5h(n:Nat)(p:Int):a3u n 14 [p]=some (0,p==0):=rfl
theorem e8r(n:Nat)(p q r:Int):a3u n 11 [p,q,r]=some (c1f q r,(p==0&&q !=0)&&r !=0):=by
 show((a9u n q r).bind fun v5=>(bif p==0 then some (q !=0)else some false).bind fun v6=>(bif v6 then some (r !=0)else some false).bind fun v7=>some (v5,v7))=_
 rw [d8p,Option.bind_some,andT,Option.bind_some,andT];rfl
theorem e4x(n:Nat)(p q:Int):a3u n 7 [p,q]=some (c1f p q,(p !=0&&q !=0)&&(p==1||q==1)):=by
 show((bif p !=0 then some (q !=0)else some false).bind fun v8=>((bif v8 then(bif p==1 then some true else some (q==1)).bind fun v11=>some v11 else some false).bind fun v10=>some v10).bind fun numbers1=>(a9u n p q).bind fun v9=>some (v9,numbers1))=_
 rw [andT,Option.bind_some,orT,d8p]
 cases p !=0&&q !=0<;>rfl
theorem e7w(n:Nat)(p q:Int){o:Int}(ho:o=5∨o=6∨o=8∨o=9∨o=10):a3u n o [p,q]=some (c1f p q,p !=0&&q !=0):=by
 have h:(bif p !=0 then some (q !=0)else some false).bind (fun v8=>(some v8).bind fun numbers1=>(a9u n p q).bind fun v9=>some (v9,numbers1))=some (c1f p q,p !=0&&q !=0):=by
  rw [andT,Option.bind_some,Option.bind_some,d8p];rfl
 rcases ho with rfl|rfl|rfl|rfl|rfl<;>exact h
theorem all2(k p q w:Int):Ev (fun n=>a3r n k [p,q] w) (bif p==w&&q==w then(k,0)else(0,13)):=by
 refine⟨3,fun n hn=> ?_⟩
 obtain⟨n,rfl⟩:∃j,n=j+3:=⟨n-3,by omega⟩
 show((bif p !=w then some (0:Int)else bif q !=w then some 1 else some (-1)).bind fun v1=>some (decide (0<=v1))).bind (fun v1=>bif v1 then some ((0:Int),(13:Int))else some (k,0))=_
 cases hp:p==w<;>cases hq:q==w<;>simp [bne,hp,hq]
theorem all1(k p w:Int):Ev (fun n=>a3r n k [p] w) (bif p==w then(k,0)else(0,13)):=by
 refine⟨3,fun n hn=> ?_⟩
 obtain⟨n,rfl⟩:∃j,n=j+3:=⟨n-3,by omega⟩
 show((bif p !=w then some (0:Int)else some (-1)).bind fun v1=>some (decide (0<=v1))).bind (fun v1=>bif v1 then some ((0:Int),(13:Int))else some (k,0))=_
 cases hp:p==w<;>simp [bne,hp]
theorem d3l(n:Nat)(l:List Rt.Bs)(s:Rt.Bs)(hl:l.length<4611686018427387904):∀(us:List Rt.Bs)(i m:Nat),l.drop i=us->us.length<m->
 ref35_Number_L1 n l s (some (-1)) m (i:Int)=some (if s∈us then((i+us.idxOf s:Nat):Int)else-1)
 | [],i,m+1,hd,_=>by rw [ref35_Number_L1_s,a6r hd];rfl
 |x::us,i,m+1,hd,hm=>by
  obtain⟨h1,h2,h3⟩:=drop_cons hd
  have ih:=d3l n l s hl us (i+1) m h2 (by simp only [List.length_cons]at hm;omega)
  rw [ref35_Number_L1_s,a2o hd,cond_true,h1,Option.bind_some]
  by_cases h:x=s
  ·subst h
   rw [beq_self_eq_true,cond_true,if_pos (by simp)];simp
  ·have e:(x==s)=false:=by simpa using h
   rw [e,cond_false,inc64 (by omega),ih]
   by_cases h5:s∈us
   ·rw [if_pos h5,if_pos (List.mem_cons_of_mem _ h5),List.idxOf_cons,e]
    simp only [cond_false];congr 1;omega
   ·rw [if_neg h5,if_neg (by simp only [List.mem_cons,not_or];exact⟨fun h6=>h h6.symm,h5⟩)]
theorem c9q{l:List Rt.Bs}(s:Rt.Bs)(hl:l.length<4611686018427387904):Ev (fun n=>(b1z n l s).bind fun v6=>some (decide (v6<0))) (!decide (s∈l)):=by
 refine⟨l.length+1,fun n hn=> ?_⟩
 unfold b1z
 dsimp only
 have h:ref35_Number_L1 n l s (some (-1)) n 0=_:=d3l n l s hl l 0 n rfl (by omega)
 rw [h,Option.bind_some]
 by_cases h5:s∈l
 ·rw [if_pos h5,decide_eq_true h5,decide_eq_false (by omega)];rfl
 ·rw [if_neg h5,decide_eq_false h5];rfl
def Ty(r:Int×Int):Prop:=r.2=0->0<=r.1/\r.1<=2
theorem d5i(x:M.Expr)(names:List Rt.Bs)(hx:x.Args.length<=1000000):∀(us:List M.Expr)(i:Nat)(acc:List Int),x.Args.drop i=us->acc.length=i->i<=x.Args.length->(∀t,t∈acc->0<=t/\t<=2)->
 (∀y,y∈us->∃r,Ev (fun n=>tariff_typed n y names) r/\Ev (fun n=>ref35_typed n y names) r/\Ty r)->
 (∃(N:Nat)(e:Int),e≠0/\∀n m kont kont',N<=n->us.length<m->tariff_typed_L1 n (tariff_typed n) x names kont m (i:Int) acc=some (0,e)/\ref35_typed_L1 n (ref35_typed n) x names kont' m (i:Int) acc=some (0,e))∨
 ∃(N:Nat)(l2:List Int),l2.length=x.Args.length/\(∀t,t∈l2->0<=t/\t<=2)/\∀n m kont kont',N<=n->us.length<m->tariff_typed_L1 n (tariff_typed n) x names kont m (i:Int) acc=kont l2/\ref35_typed_L1 n (ref35_typed n) x names kont' m (i:Int) acc=kont' l2
 | [],i,acc,hd,ha,hi,ht,_=>by
  refine .inr ⟨0,acc,by have:=Rt.drop_nil hd;omega,ht,fun n m kont kont' _ hm=> ?_⟩
  obtain⟨m,rfl⟩:=left hm
  rw [tariff_typed_L1_s,a6r hd,ref35_typed_L1_s,a6r hd];exact⟨rfl,rfl⟩
 |y::us,i,acc,hd,ha,hi,ht,H=>by
  obtain⟨h1,h2,h3⟩:=drop_cons hd
  obtain⟨⟨k,e⟩,⟨N1,e1⟩,⟨N2,e2⟩,hty⟩:=H y (by simp)
  by_cases he:e=0
  ·subst he
   have hk:=hty rfl
   have step:∀n m kont kont',max N1 N2<=n->tariff_typed_L1 n (tariff_typed n) x names kont (m+1) (i:Int) acc=tariff_typed_L1 n (tariff_typed n) x names kont m ((i+1:Nat):Int) (acc++ [k])/\ref35_typed_L1 n (ref35_typed n) x names kont' (m+1) (i:Int) acc=ref35_typed_L1 n (ref35_typed n) x names kont' m ((i+1:Nat):Int) (acc++ [k]):=by
    intro n m kont kont' hn
    have e1:tariff_typed n y names=some (k,0):=e1 n (by omega)
    have e2:ref35_typed n y names=some (k,0):=e2 n (by omega)
    constructor
    ·rw [tariff_typed_L1_s,a2o hd,cond_true,h1,Option.bind_some,e1,Option.bind_some]
     show((app 8 acc [k]).bind fun l3=>_)=_
     rw [b1t (by simp only [List.length_cons,List.length_nil];omega),Option.bind_some,inc64 (by omega)]
    ·rw [ref35_typed_L1_s,a2o hd,cond_true,h1,Option.bind_some,e2,Option.bind_some]
     show((app 8 acc [k]).bind fun l3=>_)=_
     rw [b1t (by simp only [List.length_cons,List.length_nil];omega),Option.bind_some,inc64 (by omega)]
   have ht2:∀t,t∈acc++ [k]->0<=t/\t<=2:=by
    intro t h
    rcases List.mem_append.1 h with h|h
    ·exact ht t h
    ·rw [List.mem_singleton]at h;subst h;exact hk
   rcases d5i x names hx us (i+1) (acc++ [k]) h2 (by simp [ha]) (by omega) ht2 (fun z hz=>H z (by simp [hz]))with⟨N,e,he,ih⟩|⟨N,l2,hl2,ht3,ih⟩
   ·refine .inl ⟨max N (max N1 N2),e,he,fun n m kont kont' hn hm=> ?_⟩
    obtain⟨m,rfl,hm2⟩:=pred (by simpa using hm)
    have h5:=step n m kont kont' (by omega)
    rw [h5.1,h5.2]
    exact ih n m kont kont' (by omega) hm2
   ·refine .inr ⟨max N (max N1 N2),l2,hl2,ht3,fun n m kont kont' hn hm=> ?_⟩
    obtain⟨m,rfl,hm2⟩:=pred (by simpa using hm)
    have h5:=step n m kont kont' (by omega)
    rw [h5.1,h5.2]
    exact ih n m kont kont' (by omega) hm2
  ·refine .inl ⟨max N1 N2,e,he,fun n m kont kont' hn hm=> ?_⟩
   obtain⟨m,rfl⟩:=left hm
   have e1:tariff_typed n y names=some (k,e):=e1 n (by omega)
   have e2:ref35_typed n y names=some (k,e):=e2 n (by omega)
   have hb:(e !=0)=true:=by simpa using he
   constructor
   ·rw [tariff_typed_L1_s,a2o hd,cond_true,h1,Option.bind_some,e1,Option.bind_some]
    dsimp only
    rw [hb];rfl
   ·rw [ref35_typed_L1_s,a2o hd,cond_true,h1,Option.bind_some,e2,Option.bind_some]
    dsimp only
    rw [hb];rfl
end Go.Proofs.YthaegflpecbfgaaGreatDoor.Ta
namespace Go.Proofs.YthaegflpecbfgaaGreatDoor.Ta
open Go Rt M
def d9n(names:List Rt.Bs)(x:M.Expr)(n:Nat)(l2:List Int):Option (Int×Int):=
 (bif x.Op==1 then
  some true
 else
  some (x.Op==4)).bind fun v1=>
 bif v1 then
  (a1b n names x.Name).bind fun v2=>
  bif !v2 then
   some (0,11)
  else
   bif x.Op==4 then
    some (2,0)
   else
    some (1,0)
 else
  (bif x.Op==0 then
   some true
  else
   bif x.Op==2 then
    some true
   else
    some (x.Op==3)).bind fun v3=>
  bif v3 then
   some (1,0)
  else
   (bif x.Op==12 then
    some true
   else
    some (x.Op==13)).bind fun v4=>
   bif v4 then
    (a3r n 0 l2 1).bind fun v5=>
    some (v5.1,v5.2)
   else
    (bif x.Op==14 then
     some true
    else
     bif x.Op==15 then
      some true
     else
      some (x.Op==16)).bind fun v6=>
    bif v6 then
     (a3r n 0 l2 0).bind fun v7=>
     some (v7.1,v7.2)
    else
     bif x.Op==11 then
      (ix l2 0).bind fun ex=>
      bif ex !=0 then
       some (0,13)
      else
       (ix l2 1).bind fun w2=>
       (ix l2 2).bind fun w3=>
       (a1n n w2 w3).bind fun v8=>
       some (v8.1,v8.2)
     else
      bif x.Op==7 then
       (ix l2 0).bind fun w4=>
       (bif w4==2 then
        (ix l2 1).bind fun w7=>
        some (w7==2)
       else
        some false).bind fun v9=>
       bif v9 then
        some (0,13)
       else
        (ix l2 0).bind fun w5=>
        (ix l2 1).bind fun w6=>
        (a1n n w5 w6).bind fun v10=>
        some (v10.1,v10.2)
      else
       bif x.Op==8 then
        (ix x.Args 1).bind fun w8=>
        bif w8.Op !=0 then
         some (0,13)
        else
         bif w8.N==0 then
          some (0,14)
         else
          (ix l2 0).bind fun w9=>
          (ix l2 1).bind fun w0=>
          (a1n n w9 w0).bind fun v11=>
          some (v11.1,v11.2)
       else
        (ix l2 0).bind fun w1=>
        (ix l2 1).bind fun w2=>
        (a1n n w1 w2).bind fun v12=>
        some (v12.1,v12.2)
def refK(names:List Rt.Bs)(x:M.Expr)(n:Nat)(l2:List Int):Option (Int×Int):=
 (bif x.Op==1 then
  some true
 else
  some (x.Op==4)).bind fun v1=>
 (bif v1 then
  (b1z n names x.Name).bind fun v6=>
  some (decide (v6<0))
 else
  some false).bind fun v2=>
 bif v2 then
  some (0,11)
 else
  bif x.Op==4 then
   some (2,0)
  else
   bif(l2.length:Int)==0 then
    some (1,0)
   else
    bif x.Op==8 then
     (ix x.Args 1).bind fun ex=>
     (bif ex.Op==0 then
      (ix x.Args 1).bind fun ex3=>
      some (ex3.N==0)
     else
      some false).bind fun v3=>
     bif v3 then
      some (0,14)
     else
      (ix x.Args 1).bind fun ex2=>
      bif ex2.Op !=0 then
       some (0,13)
      else
       (a3u n x.Op l2).bind fun v4=>
       bif !v4.2 then
        some (0,13)
       else
        some (v4.1,0)
    else
     (a3u n x.Op l2).bind fun v5=>
     bif !v5.2 then
      some (0,13)
     else
      some (v5.1,0)
theorem c4a(n:Nat)(x:M.Expr)(names:List Rt.Bs):tariff_typed (n+1) x names=tariff_typed_L1 n (tariff_typed n) x names (d9n names x n) n 0 []:=rfl
theorem d2j(n:Nat)(x:M.Expr)(names:List Rt.Bs):ref35_typed (n+1) x names=ref35_typed_L1 n (ref35_typed n) x names (refK names x n) n 0 []:=rfl
def c4l(p q:Int):Int×Int:=bif p==0||q==0 then(0,13)else(c1f p q,0)
theorem b3o(p q:Int):Ty (c4l p q):=by
 unfold c4l
 cases p==0||q==0
 ·exact fun _=>d1l p q
 ·exact fun h=>by cases h
theorem b1u(p q:Int):Ev (fun n=>(a1n n p q).bind fun v=>some (v.1,v.2)) (c4l p q):=Ev.all fun n=>by rw [e9z];rfl
theorem ty0(b:Bool):Ty (bif b then((0:Int),(0:Int))else(0,13)):=by
 cases b
 ·exact fun h=>by cases h
 ·exact fun _=>⟨by decide,by decide⟩
theorem c2t{o p q:Int}(ho:o=5∨o=6∨o=8∨o=9∨o=10):Ev (fun n=>(a3u n o [p,q]).bind fun v5=>bif !v5.2 then some ((0:Int),(13:Int))else some (v5.1,0)) (c4l p q):=Ev.all fun n=>by
 rw [e7w n p q ho]
 unfold c4l
 cases hp:p==0<;>cases hq:q==0<;>simp [bne,hp,hq]
theorem e0y(p q w:Int):Ev (fun n=>(a3r n 0 [p,q] w).bind fun v5=>some (v5.1,v5.2)) (bif p==w&&q==w then(0,0)else(0,13)):=Ev.bind (all2 0 p q w) (Ev.pure _)
theorem f0v(p w:Int):Ev (fun n=>(a3r n 0 [p] w).bind fun v5=>some (v5.1,v5.2)) (bif p==w then(0,0)else(0,13)):=Ev.bind (all1 0 p w) (Ev.pure _)
theorem fitb{o:Int}{l:List Int}{b:Bool}(h:∀n,a3u n o l=some (0,b)):Ev (fun n=>(a3u n o l).bind fun v5=>bif !v5.2 then some ((0:Int),(13:Int))else some (v5.1,0)) (bif b then(0,0)else(0,13)):=
 Ev.all fun n=>by rw [h n];cases b<;>rfl
theorem e5c{x:M.Expr}(hx:Fit x)(names:List Rt.Bs)(hn:names.length<4611686018427387904):Shp x->∃r,Ev (fun n=>tariff_typed n x names) r/\Ev (fun n=>ref35_typed n x names) r/\Ty r:=by
 induction hx with
 | @mk o k s l hl _ ih=>
  intro hs
  cases hs with
  |mk h1 h2 h3 h4=>
  rcases d5i ⟨o,k,s,l⟩ names hl l 0 [] rfl rfl (by simp) (by simp) (fun y hy=>ih y hy (h4 y hy))with⟨N,e,he,hL⟩|⟨N,l2,hl2,ht,hL⟩
  ·exact⟨(0,e),Ev.suc (fun n=>c4a n _ _) ⟨N+l.length+1,fun n hn=>(hL n n _ (fun _=>none) (by omega) (by omega)).1⟩,Ev.suc (fun n=>d2j n _ _) ⟨N+l.length+1,fun n hn=>(hL n n (fun _=>none) _ (by omega) (by omega)).2⟩,fun h=>absurd h he⟩
  have out:∀r:Int×Int,Ty r->Ev (fun n=>d9n names ⟨o,k,s,l⟩ n l2) r->Ev (fun n=>refK names ⟨o,k,s,l⟩ n l2) r->∃r,Ev (fun n=>tariff_typed n ⟨o,k,s,l⟩ names) r/\Ev (fun n=>ref35_typed n ⟨o,k,s,l⟩ names) r/\Ty r:=by
   intro r hty hf hg
   exact⟨r,Ev.suc (fun n=>c4a n _ _) (Ev.from (N+l.length+1) (fun n hn=>(hL n n _ (fun _=>none) (by omega) (by omega)).1) hf),Ev.suc (fun n=>d2j n _ _) (Ev.from (N+l.length+1) (fun n hn=>(hL n n (fun _=>none) _ (by omega) (by omega)).2) hg),hty⟩
  replace hl2:(l2.length:Int)=b8c o:=by rw [<-h3];exact congrArg Int.ofNat hl2
  clear hL
  have len0:(l2.length:Int)=0->l2= []:=fun h=>List.length_eq_zero_iff.1 (by omega)
  have len1:(l2.length:Int)=1->∃p,l2= [p]:=fun h=>by
   match l2,h with
   | [p],_=>exact⟨p,rfl⟩
   | [],h=>simp at h
   |_::_::_,h=>simp at h;omega
  have len2:(l2.length:Int)=2->∃p q,l2= [p,q]/\(0<=p/\p<=2)/\(0<=q/\q<=2):=fun h=>by
   match l2,h,ht with
   | [p,q],_,ht=>exact⟨p,q,rfl,ht p (by simp),ht q (by simp)⟩
   | [],h,_=>simp at h
   | [_],h,_=>simp at h
   |_::_::_::_,h,_=>simp at h;omega
  have len3:(l2.length:Int)=3->∃p q r,l2= [p,q,r]:=fun h=>by
   match l2,h with
   | [p,q,r],_=>exact⟨p,q,r,rfl⟩
   | [],h=>simp at h
   | [_],h=>simp at h
   | [_,_],h=>simp at h
   |_::_::_::_::_,h=>simp at h;omega
  have hc:o=0∨o=1∨o=2∨o=3∨o=4∨o=5∨o=6∨o=7∨o=8∨o=9∨o=10∨o=11∨o=12∨o=13∨o=14∨o=15∨o=16:=by omega
  have lf:∀t:Int,0<=t->t<=2->Ty (bif !decide (s∈names)then((0:Int),(11:Int))else(t,0)):=by
   intro t h5 h6
   cases decide (s∈names)
   ·exact fun h=>by cases h
   ·exact fun _=>⟨h5,h6⟩
  have t10:Ty ((1:Int),(0:Int)):=fun _=>⟨by decide,by decide⟩
  rcases hc with rfl|rfl|rfl|rfl|rfl|rfl|rfl|rfl|rfl|rfl|rfl|rfl|rfl|rfl|rfl|rfl|rfl
  ·obtain rfl:=len0 hl2
   exact out (1,0) t10 (Ev.all fun n=>rfl) (Ev.all fun n=>rfl)
  ·obtain rfl:=len0 hl2
   refine out _ (lf 1 (by decide) (by decide)) ?_ ?_
   ·exact Ev.bind (f:=fun n v2=>bif !v2 then some (0,11)else some (1,0)) (b1b s hn) (by cases decide (s∈names)<;>exact Ev.pure _)
   ·exact Ev.bind (f:=fun n v2=>bif v2 then some (0,11)else some (1,0)) (c9q s hn) (by cases decide (s∈names)<;>exact Ev.pure _)
  ·obtain rfl:=len0 hl2
   exact out (1,0) t10 (Ev.all fun n=>rfl) (Ev.all fun n=>rfl)
  ·obtain rfl:=len0 hl2
   exact out (1,0) t10 (Ev.all fun n=>rfl) (Ev.all fun n=>rfl)
  ·obtain rfl:=len0 hl2
   refine out _ (lf 2 (by decide) (by decide)) ?_ ?_
   ·exact Ev.bind (f:=fun n v2=>bif !v2 then some (0,11)else some (2,0)) (b1b s hn) (by cases decide (s∈names)<;>exact Ev.pure _)
   ·exact Ev.bind (f:=fun n v2=>bif v2 then some (0,11)else some (2,0)) (c9q s hn) (by cases decide (s∈names)<;>exact Ev.pure _)
  ·obtain⟨p,q,rfl,_,_⟩:=len2 hl2
   exact out _ (b3o p q) (b1u p q) (c2t (o:=5) (by decide))
  ·obtain⟨p,q,rfl,_,_⟩:=len2 hl2
   exact out _ (b3o p q) (b1u p q) (c2t (o:=6) (by decide))
  ·obtain⟨p,q,rfl,hp,hq⟩:=len2 hl2
   refine out (bif p==2&&q==2 then(0,13)else c4l p q) ?_ ?_ ?_
   ·cases p==2&&q==2
    ·exact b3o p q
    ·exact fun h=>by cases h
   ·show Ev (fun n=>(bif p==2 then some (q==2)else some false).bind fun v9=>bif v9 then some (0,13)else(a1n n p q).bind fun v=>some (v.1,v.2)) _
    refine Ev.bind (a:=p==2&&q==2) (Ev.all fun n=>andT _ _) ?_
    cases p==2&&q==2
    ·exact Ev.else rfl (b1u p q)
    ·exact Ev.then rfl (Ev.pure _)
   ·show Ev (fun n=>(a3u n 7 [p,q]).bind fun v5=>bif !v5.2 then some ((0:Int),(13:Int))else some (v5.1,0)) _
    refine Ev.all fun n=> ?_
    rw [e4x]
    unfold c4l
    have hp3:p=0∨p=1∨p=2:=by omega
    have hq3:q=0∨q=1∨q=2:=by omega
    rcases hp3 with rfl|rfl|rfl<;>rcases hq3 with rfl|rfl|rfl<;>rfl
  ·obtain⟨p,q,rfl,_,_⟩:=len2 hl2
   have h8:(l.length:Int)=2:=h3
   obtain⟨u,v,rfl⟩:∃u v,l= [u,v]:=by
    match l,h8 with
    | [u,v],_=>exact⟨u,v,rfl⟩
    | [],h=>simp at h
    | [_],h=>simp at h
    |_::_::_::_,h=>simp at h;omega
   refine out (bif v.Op !=0 then(0,13)else bif v.N==0 then(0,14)else c4l p q) ?_ ?_ ?_
   ·cases v.Op !=0
    ·cases v.N==0
     ·exact b3o p q
     ·exact fun h=>by cases h
    ·exact fun h=>by cases h
   ·show Ev (fun n=>bif v.Op !=0 then some (0,13)else bif v.N==0 then some (0,14)else(a1n n p q).bind fun v=>some (v.1,v.2)) _
    cases v.Op !=0
    ·cases v.N==0
     ·exact Ev.else rfl (Ev.else rfl (b1u p q))
     ·exact Ev.else rfl (Ev.then rfl (Ev.pure _))
    ·exact Ev.then rfl (Ev.pure _)
   ·show Ev (fun n=>(bif v.Op==0 then some (v.N==0)else some false).bind fun v3=>bif v3 then some (0,14)else bif v.Op !=0 then some (0,13)else(a3u n 8 [p,q]).bind fun v5=>bif !v5.2 then some ((0:Int),(13:Int))else some (v5.1,0)) _
    refine Ev.bind (a:=v.Op==0&&v.N==0) (Ev.all fun n=>andT _ _) ?_
    unfold bne
    cases v.Op==0
    ·exact Ev.else rfl (Ev.then rfl (Ev.pure _))
    ·cases v.N==0
     ·exact Ev.else rfl (Ev.else rfl (c2t (o:=8) (by decide)))
     ·exact Ev.then rfl (Ev.pure _)
  ·obtain⟨p,q,rfl,_,_⟩:=len2 hl2
   exact out _ (b3o p q) (b1u p q) (c2t (o:=9) (by decide))
  ·obtain⟨p,q,rfl,_,_⟩:=len2 hl2
   exact out _ (b3o p q) (b1u p q) (c2t (o:=10) (by decide))
  ·obtain⟨p,q,r,rfl⟩:=len3 hl2
   refine out (bif p !=0 then(0,13)else c4l q r) ?_ ?_ ?_
   ·cases p !=0
    ·exact b3o q r
    ·exact fun h=>by cases h
   ·show Ev (fun n=>bif p !=0 then some (0,13)else(a1n n q r).bind fun v=>some (v.1,v.2)) _
    cases p !=0
    ·exact Ev.else rfl (b1u q r)
    ·exact Ev.then rfl (Ev.pure _)
   ·show Ev (fun n=>(a3u n 11 [p,q,r]).bind fun v5=>bif !v5.2 then some ((0:Int),(13:Int))else some (v5.1,0)) _
    refine Ev.all fun n=> ?_
    rw [e8r]
    unfold c4l
    cases hp:p==0<;>cases hq:q==0<;>cases hr:r==0<;>simp [bne,hp,hq,hr]
  ·obtain⟨p,q,rfl,_,_⟩:=len2 hl2
   exact out _ (ty0 (p==1&&q==1)) (e0y p q 1) (fitb fun n=>(d3y n p q).1)
  ·obtain⟨p,q,rfl,_,_⟩:=len2 hl2
   exact out _ (ty0 (p==1&&q==1)) (e0y p q 1) (fitb fun n=>(d3y n p q).2)
  ·obtain⟨p,rfl⟩:=len1 hl2
   exact out _ (ty0 (p==0)) (f0v p 0) (fitb fun n=>e5h n p)
  ·obtain⟨p,q,rfl,_,_⟩:=len2 hl2
   exact out _ (ty0 (p==0&&q==0)) (e0y p q 0) (fitb fun n=>(d7l n p q).1)
  ·obtain⟨p,q,rfl,_,_⟩:=len2 hl2
   exact out _ (ty0 (p==0&&q==0)) (e0y p q 0) (fitb fun n=>(d7l n p q).2)
theorem Check_2{t:Tariff}(hx:Fit t.Fee)(names:List Rt.Bs)(hn:names.length<4611686018427387904):∃e,Ev (fun n=>a5g n t names) e/\Ev (fun n=>d1p n t names) e:=by
 obtain⟨b,w1,w2,hS⟩:=d6b hx
 cases hnm:named names with
 |false=>exact⟨1,Ev.bind ((b8l hn).eq hnm) (Ev.then rfl (Ev.pure _)),Ev.bind ((c6v names).eq hnm) (Ev.then rfl (Ev.pure _))⟩
 |true=>
  cases b with
  |false=>exact⟨2,Ev.bind ((b8l hn).eq hnm) (Ev.else rfl (Ev.bind w1 (Ev.then rfl (Ev.pure _)))),Ev.bind ((c6v names).eq hnm) (Ev.else rfl (Ev.bind w2 (Ev.then rfl (Ev.pure _))))⟩
  |true=>
   obtain⟨r,r1,r2,_⟩:=e5c hx names hn (hS rfl)
   refine⟨bif(r.2==0&&r.1==0)then 13 else r.2,Ev.bind ((b8l hn).eq hnm) (Ev.else rfl (Ev.bind w1 (Ev.else rfl (Ev.bind r1 (Ev.bind (Ev.all fun n=>andT _ _) ?_))))),Ev.bind ((c6v names).eq hnm) (Ev.else rfl (Ev.bind w2 (Ev.else rfl (Ev.bind r2 (Ev.bind (Ev.all fun n=>andT _ _) ?_)))))⟩<;>
   (cases r.2==0&&r.1==0<;>exact Ev.pure _)
end Go.Proofs.YthaegflpecbfgaaGreatDoor.Ta
namespace Go.Proofs.YthaegflpecbfgaaGreatDoor.Fm
open Go Rt M Ta Tp D Fe
theorem more{α:Type}{l p q:List α}{x:α}(hx:l=p++x::q):decide ((p.length:Int)<(l.length:Int))=true:=by
 rw [hx,List.length_append,List.length_cons]
 exact decide_eq_true (by omega)
end Go.Proofs.YthaegflpecbfgaaGreatDoor.Fm
namespace Go.Proofs.YthaegflpecbfgaaGreatDoor.Fm
open Go Rt M Ta Tp D Fe
theorem d7o(t:Tariff)(names:List Rt.Bs)(f:Facts)(weights:List Frac):Tt (fun b=>b=true->FewS t names f weights) (fun n=>b2z n t names f weights):=by
 unfold b2z
 refine Tt.bind (f1k t names f weights) fun b hb=> ?_
 refine Tt.bind (P:=fun c=>c=true->b=true) (Tt.bif (fun h=>Tt.bind (e4c t.Fee 30 12 (by decide) (by decide) (by decide) (by decide)) fun c _=>Tt.pure fun _=>h) (fun _=>Tt.pure fun h=>by cases h)) fun c hc=>Tt.pure fun h=>hb (hc h)
structure FewX(x:M.Form):Prop where
 lim:LimX 3 x
 co:∀l,l∈x.Pieces->∀a,a∈l->a.Coefs.length<=8
theorem sane37:Ev b2u true:=⟨400,fun n hn=>by
 obtain⟨m,rfl⟩:∃m,n=m+400:=⟨n-400,by omega⟩
 kernel_rfl⟩
end Go.Proofs.YthaegflpecbfgaaGreatDoor.Fm
namespace Go.Proofs.YthaegflpecbfgaaGreatDoor.Fm
open Go Rt M Ta Tp D Fe
theorem b8j{nn B:Nat}{g:RFm}(hg:Gb nn B g)(hn:nn<=1000):LimX B (toFm g)where
 len:=by show(g.map toP).length<=1000;rw [List.length_map];have:=hg.len;omega
 lens:=fun l hl=>by
  obtain⟨p,hp,rfl⟩:=List.mem_map.1 (show l∈g.map toP from hl)
  have:=mem_len hp
  have:=hg.sz
  show(p.map toA).length<=_
  rw [List.length_map];omega
 coefs:=fun l hl a ha=>by
  obtain⟨p,hp,rfl⟩:=List.mem_map.1 (show l∈g.map toP from hl)
  obtain⟨b,hb,rfl⟩:=List.mem_map.1 (show a∈p.map toA from ha)
  show(b.2.map toF).length<=1000
  rw [List.length_map,hg.gd.wide p hp b hb];exact hn
 con:=fun l hl a ha=>by
  obtain⟨p,hp,rfl⟩:=List.mem_map.1 (show l∈g.map toP from hl)
  obtain⟨b,hb,rfl⟩:=List.mem_map.1 (show a∈p.map toA from ha)
  exact b0z (hg.gd.sm p hp b hb).1
 lim:=fun l hl a ha=>by
  obtain⟨p,hp,rfl⟩:=List.mem_map.1 (show l∈g.map toP from hl)
  obtain⟨b,hb,rfl⟩:=List.mem_map.1 (show a∈p.map toA from ha)
  intro w hw
  obtain⟨c,hc,rfl⟩:=List.mem_map.1 (show w∈b.2.map toF from hw)
  exact b0z ((hg.gd.sm p hp b hb).2 c hc)
theorem d3p(r:Rat):badC (toF r)=false:=by unfold badC;rw [b6g];rfl
theorem d5a{nn B:Nat}{g:RFm}{ws:List Rat}(hg:Gb nn B g)(h0:g≠ [])(h1:∀p,p∈g->p≠ [])(hl:ws.length=nn):b7a (toFm g) (ws.map toF)=false:=by
 have a1:∀l:List Rat,(l.map toF).any badC=false:=fun l=>List.any_eq_false.2 fun x hx=>by
  obtain⟨r,_,rfl⟩:=List.mem_map.1 hx
  rw [d3p];decide
 have a2:((toFm g).Pieces.any (badL ((ws.map toF).length:Int)))=false:=List.any_eq_false.2 fun x hx=>by
  obtain⟨p,hp,rfl⟩:=List.mem_map.1 (show x∈g.map toP from hx)
  have e1:(((toP p).length:Int)==0)=false:=by
   have:0<p.length:=List.length_pos_iff.2 (h1 p hp)
   have e:(toP p).length=p.length:=List.length_map ..
   rw [e];exact beq_eq_false_iff_ne.2 (by omega)
  have e2:(toP p).any (oddA ((ws.map toF).length:Int))=false:=List.any_eq_false.2 fun a ha=>by
   obtain⟨b,hb,rfl⟩:=List.mem_map.1 (show a∈p.map toA from ha)
   have w:=hg.gd.wide p hp b hb
   have e3:(((toA b).Coefs.length:Int) !=((ws.map toF).length:Int))=false:=by
    show(((b.2.map toF).length:Int) !=((ws.map toF).length:Int))=false
    rw [List.length_map,List.length_map,w,hl];exact bne_self_eq_false _
   unfold oddA
   rw [e3,show badC (toA b).Const=false from d3p _,show(toA b).Coefs.any badC=false from a1 _];decide
  unfold badL
  rw [e1,e2];decide
 unfold b7a c5r
 rw [a1,a2,decide_eq_true (by show(0:Int)<((g.map toP).length:Int);rw [List.length_map];have:0<g.length:=List.length_pos_iff.2 h0;omega)];rfl
theorem e8a{names:List Rt.Bs}{f:Facts}{t:Tariff}{g:RFm}{ws:List Rat}(hc:Chk names t)(hr:FR names f)(hlen:ws.length=names.length)(hm:(mk names (E0 names f) t.Fee).2=some g)(hn:names.length<=8){W:Nat}(hW:W<=10000)(hsm:∀w,w∈ws->SmF W w):
 Ev (fun n=>a6a n (toFm g) (ws.map toF)) (toF (fv names f ws t),true):=by
 obtain⟨hc1,hc2,k,hk,ht⟩:=hc
 have hcn:=hc2.2.1.1.2
 have is:=(b7m hr (by omega) ht (by omega) hk).2.2 g hm
 have hg:Gb names.length 400 g:=is.gb.mono (by omega)
 have hl2:(ws.map toF).length<=8:=by rw [List.length_map];omega
 obtain⟨r,a1,h1⟩:=At_t (A:=400) (W:=W) (b8j hg (by omega)) (d8n hsm) (by omega) (by decide) (by omega) (Nat.lt_of_le_of_lt (c1p hl2) (by unfold bnd;omega))
 refine a1.eq ?_
 rcases h1 with⟨_,v,rfl,_,h2⟩|⟨h2,_⟩
 ·rw [c9b,ratW]at h2
  rw [h2.uniq (is.val ws hlen)];rfl
 ·rw [d5a hg is.ne.1 is.ne.2 hlen]at h2;cases h2
end Go.Proofs.YthaegflpecbfgaaGreatDoor.Fm
namespace Go.Proofs.YthaegflpecbfgaaGreatDoor.Fm
open Go Rt M Ta Tp D Fe
theorem e9g{x:M.Expr}(hx:Fit x):∃b,Ev (fun n=>a5c n x 12 8) b/\(b=true->dep x<=8/\cnt x<=12):=by
 obtain⟨s,r,h1,h2,h3,_⟩:=e3t hx 8 12 (by decide) (by decide) (by decide) (by decide)
 obtain⟨r',h4,h5⟩:=d8j hx 8 12 (by decide) (by decide)
 have e:r=r':=h2.uniq h4
 refine⟨decide (0<=s),?_,fun h=> ?_⟩
 ·unfold a5c
  exact Ev.bind h1 (Ev.pure _)
 ·have h6:=h3.1 (of_decide_eq_true h)
  have:=h5.1 (by rw [<-e,h6])
  exact⟨this.1,this.2.1⟩
theorem e3j{names:List Rt.Bs}{f:Facts}{t:Tariff}(hx:Fit t.Fee)(hn:names.length<=1000)(hl:f.Lifts.length<=1000000):
 ∃g e,Ev (fun n=>a4y n t names f) (toFm g,e)/\Gb names.length 400 g/\(e=0->Chk names t/\FR names f/\(mk names (E0 names f) t.Fee).2=some g):=by
 obtain⟨e,he,hq,o1,o2,o3⟩:=e3v (f:=f) hx hn hl
 by_cases h:e=0
 ·by_cases hr:FR names f
  ·obtain⟨a1,a2⟩:=o3 h hr
   cases hm:(mk names (E0 names f) t.Fee).2 with
   |none=>exact⟨[],6,a2 hm,c5f _ _,fun h=>by cases h⟩
   |some g=>
    have hc:=hq.1 h
    obtain⟨hc1,hc2,k,hk,ht⟩:=hq.1 h
    have hcn:=hc2.2.1.1.2
    exact⟨g,0,a1 g hm,((b7m hr (by omega) ht (by omega) hk).2.2 g hm).gb.mono (by omega),fun _=>⟨hc,hr,rfl⟩⟩
  ·exact⟨[],1,o2 h hr,c5f _ _,fun h=>by cases h⟩
 ·exact⟨[],e,o1 h,c5f _ _,fun h'=>absurd h' h⟩
section
variable{names:List Rt.Bs}{f:Facts}{t other:Tariff}
def c8y(t other:Tariff)(o:Int):Tariff:=⟨t.Name,⟨o,0,[],[t.Fee,other.Fee]⟩,t.Cap⟩
theorem e1c{o p q:Int}(ho:o=5∨o=6∨o=9∨o=10)(h1:Chk names t)(hp:Typ names t.Fee p)(hq:Typ names other.Fee q)(p0:p≠0)(q0:q≠0)(ha:dep t.Fee<=8/\cnt t.Fee<=12)(hb:dep other.Fee<=8/\cnt other.Fee<=12):Chk names (c8y t other o):=by
 obtain⟨c1,⟨c2,c3,c4,c5⟩,_⟩:=h1
 have ht:=Typ.ari (o:=o) (by omega) hp hq p0 q0
 refine⟨c1,⟨c2,⟨⟨?_,?_⟩,ht.shx⟩,c4,c5⟩,_,?_,ht⟩
 ·show max (dep t.Fee) (max (dep other.Fee) 0)+1<=10;omega
 ·show cnt t.Fee+(cnt other.Fee+0)+1<=100;omega
 ·rcases b0d p q with h|h<;>rw [h]<;>decide
theorem d4i{o p q:Int}{g1 g2:RFm}{ws:List Rat}{V:List Frac}{v13 v14 v15 v16:Frac×Int}(i:Nat)(ho:o=5∨o=6∨o=9∨o=10)(hi:ix ([9,10,5,6]:List Int) (i:Int)=some o)(hlt:decide ((i:Int)<(([9,10,5,6]:List Int).length:Int))=true)(hi2:(i:Int)<4)
 (hfit:Fit t.Fee) (hfit2:Fit other.Fee) (hn:names.length<=8) (hl:f.Lifts.length<=1000000) (hr:FR names f)
 (hc1:Chk names t) (hp:Typ names t.Fee p) (hq:Typ names other.Fee q) (p0:p≠0) (q0:q≠0) (ha:dep t.Fee<=8/\cnt t.Fee<=12) (hb:dep other.Fee<=8/\cnt other.Fee<=12)
 (m1:(mk names (E0 names f) t.Fee).2=some g1) (m2:(mk names (E0 names f) other.Fee).2=some g2) (hg1:g1.length<=200) (hg2:g2.length<=200)
 (hV:V=ws.map toF) (hlen:ws.length=names.length) (hsm:∀w,w∈ws->SmF 4 w)
 (hv:ix [v13.1,v14.1,v15.1,v16.1] (i:Int)=some (toF (Fe.two o (fv names f ws t) (fv names f ws other)))) (hs:SmF 8000 (Fe.two o (fv names f ws t) (fv names f ws other))):
 ∃N,∀n m,N<=n->law37_FormPairs_L1 n t other names f V (toFm g1,0) (toFm g2,0) v13 v14 v15 v16 (some true) (m+1) (i:Int)=law37_FormPairs_L1 n t other names f V (toFm g1,0) (toFm g2,0) v13 v14 v15 v16 (some true) m ((i+1:Nat):Int):=by
 subst hV
 have hck:=e1c ho hc1 hp hq p0 q0 ha hb
 have hfx:Fit (c8y t other o).Fee:=Fit.two _ _ _ hfit hfit2
 obtain⟨e,he,heq,_,_,o3⟩:=e3v (f:=f) hfx (show names.length<=1000 by omega) hl
 have e0:=heq.2 hck
 obtain⟨a1,a2⟩:=o3 e0 hr
 have hnext:iadd .i64 (i:Int) 1=((i+1:Nat):Int):=Rt.inc64 (by omega)
 cases hm:(mk names (E0 names f) (c8y t other o).Fee).2 with
 |none=>
  obtain⟨N,h⟩:=a2 hm
  refine⟨N,fun n m hn=> ?_⟩
  rw [law37_FormPairs_L1_s,hlt,cond_true,hi,Option.bind_some]
  have h:=h n hn
  dsimp only at h
  rw [show(⟨t.Name,(⟨o,0,[],[t.Fee,other.Fee]⟩:M.Expr),t.Cap⟩:Tariff)=c8y t other o from rfl,h,Option.bind_some]
  show law37_FormPairs_L1 n t other names f _ _ _ v13 v14 v15 v16 (some true) m (iadd .i64 (i:Int) 1)=_
  rw [hnext]
 |some g=>
  obtain⟨N1,h1⟩:=a1 g hm
  obtain⟨N2,h2⟩:=e8a hck hr hlen hm hn (W:=4) (by decide) hsm
  obtain⟨N3,h3⟩:=d7k (names:=names) (by omega) hck.1 hfx hck.2.1.2.1 (Typ.ari (o:=o) (by omega) hp hq p0 q0)
  have hl4:=b0z hs
  obtain⟨N4,h4⟩:=d9x (f:=toF (Fe.two o (fv names f ws t) (fv names f ws other))) (g:=toF (Fe.two o (fv names f ws t) (fv names f ws other))) (by omega) (by omega)
  dsimp only at h1 h2 h3 h4
  have hcnt:o=9->wd p q=2->(((toFm g).Pieces.length:Int) !=iadd .i64 ((toFm g1).Pieces.length:Int) ((toFm g2).Pieces.length:Int))=false:=by
   intro h9 hw
   subst h9
   have mk1:=(b7m hr (by omega) hp (by omega) p0).1
   have mk2:=(b7m hr (by omega) hq (by omega) q0).1
   have hor:((mk names (E0 names f) t.Fee).1||(mk names (E0 names f) other.Fee).1)=true:=by
    rw [mk1,mk2,<-wd2 (r12 hp p0) (r12 hq q0),hw];rfl
   have hm':(mk names (E0 names f) ⟨9,0,[],[t.Fee,other.Fee]⟩).2=some g:=hm
   rw [b6y,b2s,if_pos hor]at hm'
   rw [if_neg (by decide),if_neg (by decide),m1,m2]at hm'
   have hm2:c1e 9 g1 g2=some g:=hm'
   unfold c1e at hm2
   rw [if_neg (by decide)]at hm2
   have hm3:(if c4t 9 g1 g2<=200 then some (b9f 9 g1 g2)else none)=some g:=hm2
   split at hm3
   ·cases hm3
    have e1:(toFm (b9f 9 g1 g2)).Pieces.length=g1.length+g2.length:=by
     show((g1++g2).map toP).length=_
     rw [List.length_map,List.length_append]
    have e2:(toFm g1).Pieces.length=g1.length:=List.length_map ..
    have e3:(toFm g2).Pieces.length=g2.length:=List.length_map ..
    rw [e1,e2,e3,a2d (by omega) (by omega),Int.natCast_add]
    exact bne_self_eq_false _
   ·cases hm3
  refine⟨max N1 (max N2 (max N3 N4)),fun n m hn=> ?_⟩
  rw [law37_FormPairs_L1_s,hlt,cond_true,hi,Option.bind_some]
  rw [show(⟨t.Name,(⟨o,0,[],[t.Fee,other.Fee]⟩:M.Expr),t.Cap⟩:Tariff)=c8y t other o from rfl,h1 n (by omega),Option.bind_some]
  show(a6a n (toFm g) (ws.map toF)).bind _=_
  rw [h2 n (by omega),Option.bind_some]
  show(ix [v13.1,v14.1,v15.1,v16.1] (i:Int)|>.bind fun ex3=>(a7b n (toF (fv names f ws (c8y t other o))) ex3).bind fun v24=>some (!v24)).bind _=_
  rw [hv,Option.bind_some,show fv names f ws (c8y t other o)=Fe.two o (fv names f ws t) (fv names f ws other)from rfl,h4 n (by omega),decide_eq_true rfl,Option.bind_some,Bool.not_true,Option.bind_some,cond_false]
  show(a8u n (c8y t other o).Fee names).bind _=_
  rw [h3 n (by omega),Option.bind_some,Option.bind_some]
  show((bif o==9 then some (wd p q==2)else some false).bind fun v22=>(bif v22 then some (((toFm g).Pieces.length:Int) !=iadd .i64 ((toFm g1).Pieces.length:Int) ((toFm g2).Pieces.length:Int))else some false).bind fun v23=>bif v23 then some false else law37_FormPairs_L1 n t other names f (ws.map toF) (toFm g1,0) (toFm g2,0) v13 v14 v15 v16 (some true) m (iadd .i64 (i:Int) 1))=_
  rw [hnext]
  by_cases h9:o=9
  ·by_cases hw:wd p q=2
   ·rw [hcnt h9 hw,h9,hw];rfl
   ·rw [h9,show(wd p q==2)=false by simpa using hw];rfl
  ·rw [show(o==9)=false by simpa using h9];rfl
end
theorem d6s{nn B:Nat}{g:RFm}{weights:List Frac}(hg:Gb nn B g)(h0:g≠ [])(h1:∀p,p∈g->p≠ [])(h:b7a (toFm g) weights=false):weights.length=nn:=by
 obtain⟨p,hp⟩:=List.exists_mem_of_ne_nil g h0
 obtain⟨a,ha⟩:=List.exists_mem_of_ne_nil p (h1 p hp)
 unfold b7a c5r at h
 simp only [Bool.or_eq_false_iff,Bool.not_eq_false',Bool.and_eq_true,decide_eq_true_eq,Bool.not_eq_true']at h
 obtain⟨_,_,h3⟩:=h
 have h4:=Bool.eq_false_iff.2 (List.any_eq_false.1 h3 (toP p) (List.mem_map.2 ⟨p,hp,rfl⟩))
 unfold badL at h4
 have h5:=Bool.eq_false_iff.2 (List.any_eq_false.1 (Bool.or_eq_false_iff.1 h4).2 (toA a) (List.mem_map.2 ⟨a,ha,rfl⟩))
 unfold oddA at h5
 have h6:=(Bool.or_eq_false_iff.1 (Bool.or_eq_false_iff.1 h5).1).2
 have h7:(toA a).Coefs.length=nn:=by
  show(a.2.map toF).length=nn
  rw [List.length_map,hg.gd.wide p hp a ha]
 rw [h7]at h6
 simp at h6
 omega
theorem fpairs_ev(t other:Tariff)(names:List Rt.Bs)(f:Facts)(weights:List Frac):Ev (fun n=>a7i n t other names f weights) true:=by
 unfold a7i
 refine Ev.bind sane37 ?_
 obtain⟨b1,hb1,q1⟩:=d7o t names f weights
 obtain⟨b2,hb2,q2⟩:=d7o other names f weights
 refine Ev.bind hb1 ?_
 refine Ev.bind (orE (d:= !b2) fun _=>Ev.bind hb2 (Ev.pure _)) ?_
 cases hb:(!b1|| !b2)with
 |true=>
  refine Ev.bind (a:=true) (Ev.then rfl (Ev.pure _)) ?_
  exact Ev.bind (a:=true) (Ev.then rfl (Ev.pure _)) (Ev.then rfl (Ev.pure _))
 |false=>
 obtain⟨rfl,rfl⟩:b1=true/\b2=true:=by revert hb;cases b1<;>cases b2<;>decide
 have s1:=q1 rfl
 have s2:=q2 rfl
 have n8:=s1.nl
 have l8:=s1.ll
 have w8:=s1.wl
 obtain⟨c1,hc1,d1⟩:=e9g s1.fit
 obtain⟨c2,hc2,d2⟩:=e9g s2.fit
 refine Ev.bind (orE (d:= !c1) fun _=>Ev.bind hc1 (Ev.pure _)) ?_
 refine Ev.bind (orE (d:= !c2) fun _=>Ev.bind hc2 (Ev.pure _)) ?_
 cases hc:((false|| !c1)|| !c2)with
 |true=>exact Ev.then rfl (Ev.pure _)
 |false=>
 obtain⟨rfl,rfl⟩:c1=true/\c2=true:=by revert hc;cases c1<;>cases c2<;>decide
 refine Ev.else rfl ?_
 have ha:=d1 rfl
 have hbb:=d2 rfl
 obtain⟨g1,e1,o1,gb1,k1⟩:=e3j (f:=f) s1.fit (show names.length<=1000 by omega) (by omega)
 obtain⟨g2,e2,o2,gb2,k2⟩:=e3j (f:=f) s2.fit (show names.length<=1000 by omega) (by omega)
 refine Ev.bind o1 (Ev.bind o2 ?_)
 have hB:bnd 400 4 weights.length<1000000:=Nat.lt_of_le_of_lt (c1p w8) (by decide)
 obtain⟨r8,a8,h8⟩:=At_t (b8j gb1 (by omega)) s1.lim (by omega) (by decide) (by decide) hB
 obtain⟨r9,a9,h9⟩:=At_t (b8j gb2 (by omega)) s1.lim (by omega) (by decide) (by decide) hB
 refine Ev.bind a8 (Ev.bind a9 ?_)
 refine Ev.bind (orE (d:=e2 !=0) fun _=>Ev.pure _) ?_
 refine Ev.bind (orE (d:= !r8.2) fun _=>Ev.pure _) ?_
 refine Ev.bind (orE (d:= !r9.2) fun _=>Ev.pure _) ?_
 cases hv:(((e1 !=0||e2 !=0)|| !r8.2)|| !r9.2)with
 |true=>exact Ev.then rfl (Ev.pure _)
 |false=>
 refine Ev.else rfl ?_
 simp only [Bool.or_eq_false_iff,bne_eq_false_iff_eq,Bool.not_eq_false']at hv
 obtain⟨⟨⟨rfl,rfl⟩,hr8⟩,hr9⟩:=hv
 obtain⟨ck1,fr,m1⟩:=k1 rfl
 obtain⟨ck2,_,m2⟩:=k2 rfl
 rcases h8 with⟨w1,x,rfl,sx,ix1⟩|⟨_,rfl⟩
 rotate_left
 ·cases hr8
 rcases h9 with⟨w2,y,rfl,sy,iy1⟩|⟨_,rfl⟩
 rotate_left
 ·cases hr9
 obtain⟨c1,c2,p,p0,tp⟩:=id ck1
 obtain⟨d1,d2,q,q0,tq⟩:=id ck2
 have is1:=(b7m fr (by omega) tp (by omega) p0).2.2 g1 m1
 have is2:=(b7m fr (by omega) tq (by omega) q0).2.2 g2 m2
 have hlen:=d6s gb1 is1.ne.1 is1.ne.2 w1
 obtain⟨z1,z2,z3,z4,_⟩:=c9n (b8j gb1 (by omega)) s1.lim w1
 have hlr:(weights.map rat).length=names.length:=by rw [List.length_map,hlen]
 rw [c9b]at ix1 iy1
 have ex:x=fv names f (weights.map rat) t:=ix1.uniq (is1.val _ hlr)
 have ey:y=fv names f (weights.map rat) other:=iy1.uniq (is2.val _ hlr)
 have b8:bnd 400 4 weights.length<=3640:=c1p w8
 have sx':=sx.mono b8
 have sy':=sy.mono b8
 refine Ev.bind (QMin_ev sx' sy' (by decide)) (Ev.bind (QMax_ev sx' sy' (by decide)) (Ev.bind (QAdd_ev sx' sy' (by decide)) (Ev.bind (QSub_ev sx' sy' (by decide)) ?_)))
 have step:=fun(o:Int)(i:Nat)ho hi hlt hi2 hv hs=>d4i (names:=names) (f:=f) (t:=t) (other:=other) (o:=o) (p:=p) (q:=q) (g1:=g1) (g2:=g2) (ws:=weights.map rat) (V:=weights)
  (v13:=(toF (if y<x then y else x),0)) (v14:=(toF (if x<y then y else x),0)) (v15:=(toF (x+y),0)) (v16:=(toF (x-y),0)) i ho hi hlt hi2 s1.fit s2.fit n8 (by omega) fr ck1 tp tq p0 q0 ha hbb m1 m2 gb1.len gb2.len z2 hlr z4 hv hs
 rw [<-ex,<-ey]at step
 obtain⟨N0,h0⟩:=step 9 0 (by decide) rfl rfl (by decide) rfl (by show SmF 8000 (if y<x then y else x);split;exact sy'.mono (by decide);exact sx'.mono (by decide))
 obtain⟨N1,h1⟩:=step 10 1 (by decide) rfl rfl (by decide) rfl (by show SmF 8000 (if x<y then y else x);split;exact sy'.mono (by decide);exact sx'.mono (by decide))
 obtain⟨N2,h2⟩:=step 5 2 (by decide) rfl rfl (by decide) rfl ((sx'.add sy').mono (by decide))
 obtain⟨N3,h3⟩:=step 6 3 (by decide) rfl rfl (by decide) rfl ((sx'.sub sy').mono (by decide))
 refine⟨max 5 (max N0 (max N1 (max N2 N3))),fun n hn=> ?_⟩
 obtain⟨m,rfl⟩:∃m,n=m+5:=⟨n-5,by omega⟩
 have r0:=h0 (m+5) (m+4) (by omega)
 have r1:=h1 (m+5) (m+3) (by omega)
 have r2:=h2 (m+5) (m+2) (by omega)
 have r3:=h3 (m+5) (m+1) (by omega)
 refine r0.trans (r1.trans (r2.trans (r3.trans ?_)))
 rw [law37_FormPairs_L1_s];rfl
end Go.Proofs.YthaegflpecbfgaaGreatDoor.Fm
namespace Go.Proofs.YthaegflpecbfgaaGreatDoor.FormPairs
open Go Go.ChangeShapes Go.WideShapes Go.ChangeAt Go.RowKit Rt Wrap
set_option maxRecDepth 100000 in
theorem e2s(H:Type)(enc:TypeId×Value->H)(W:World)(base:Nat)(args:Array Value)(ds gs:List (DataW H))(before:List MemPlace)
 (hval:∀(j:Nat)t v,Tryz.f7.params[j]?=some t->args[j]?=some v->Value.okWide Tryz.prog W .any base t v)
 (hW:DataW.Whole enc Tryz.prog Tryz.f7.params.toList Rows.formPairsSpec.vars false W args.toList ds gs before) (hL:laidMetH Tryz.prog tabs W):
 Calls Tryz.prog 7 args W fun e W'=>∃v,e= .returned v/\Rows.formPairsSpec.post enc Tryz.prog Tryz.f7 false true false false W args v W':=by
 have hW':=hW
 obtain⟨p,q,hA0,hV,rfl,hfz,hnd⟩:=hW
 have hA:DataW.TrodAll enc Tryz.prog W 0 (fun _=>true) true Tryz.f7.params.toList args.toList ds p:=hA0
 rw [Tryz.params7]at hA hval
 obtain⟨v0,vs0,d0,ds0,p0,q0,hargs,rfl,rfl,h0,r0⟩:=trodAll_cons hA
 obtain⟨v1,vs1,d1,ds1,p1,q1,rfl,rfl,rfl,h1,r1⟩:=trodAll_cons r0
 obtain⟨v2,vs2,d2,ds2,p2,q2,rfl,rfl,rfl,h2,r2⟩:=trodAll_cons r1
 obtain⟨v3,vs3,d3,ds3,p3,q3,rfl,rfl,rfl,h3,r3⟩:=trodAll_cons r2
 obtain⟨v4,vs4,d4,ds4,p4,q4,rfl,rfl,rfl,h4,r4⟩:=trodAll_cons r3
 obtain⟨rfl,rfl,rfl⟩:=trodAll_nil r4
 obtain rfl:args= #[v0,v1,v2,v3,v4]:=by cases args;simp_all
 obtain⟨rfl,rfl⟩:=trodVars_none hV
 obtain⟨cs0,rfl,hsz0⟩:=okWide_struct Tryz.underlying26 (hval 0 26 v0 rfl rfl)
 obtain⟨y0,hr0,ho0⟩:=c1m (d8g W) h0
 obtain⟨ax0_4,nx0_4,cx0_4,he0,sx0_4⟩:=hr0
 have he0':cs0.toList= [vs y0.Name,.int .i64 y0.Fee.Op,.int .i64 y0.Fee.N,vs y0.Fee.Name,.slice ax0_4 nx0_4 cx0_4,.int .i64 y0.Cap]:=he0
 obtain rfl:cs0= #[vs y0.Name,.int .i64 y0.Fee.Op,.int .i64 y0.Fee.N,vs y0.Fee.Name,.slice ax0_4 nx0_4 cx0_4,.int .i64 y0.Cap]:=by rw [<-Array.toArray_toList (xs:=cs0),he0']
 obtain⟨cs1,rfl,hsz1⟩:=okWide_struct Tryz.underlying26 (hval 1 26 v1 rfl rfl)
 obtain⟨y1,hr1,ho1⟩:=c1m (d8g W) h1
 obtain⟨ax1_4,nx1_4,cx1_4,he1,sx1_4⟩:=hr1
 have he1':cs1.toList= [vs y1.Name,.int .i64 y1.Fee.Op,.int .i64 y1.Fee.N,vs y1.Fee.Name,.slice ax1_4 nx1_4 cx1_4,.int .i64 y1.Cap]:=he1
 obtain rfl:cs1= #[vs y1.Name,.int .i64 y1.Fee.Op,.int .i64 y1.Fee.N,vs y1.Fee.Name,.slice ax1_4 nx1_4 cx1_4,.int .i64 y1.Cap]:=by rw [<-Array.toArray_toList (xs:=cs1),he1']
 obtain⟨a2,n2,c2,l2,rfl,hl2,ho2⟩:=d6n Tryz.underlying27 (e6x W) (hval 2 27 v2 rfl rfl) h2
 obtain⟨cs3,rfl,hsz3⟩:=okWide_struct Tryz.underlying30 (hval 3 30 v3 rfl rfl)
 obtain⟨y3,hr3,ho3⟩:=c1m (e6m W) h3
 obtain⟨ax3_0,nx3_0,cx3_0,he3,sx3_0⟩:=hr3
 have he3':cs3.toList= [.slice ax3_0 nx3_0 cx3_0,.int .i64 y3.Persons,.int .i64 y3.Flats]:=he3
 obtain rfl:cs3= #[.slice ax3_0 nx3_0 cx3_0,.int .i64 y3.Persons,.int .i64 y3.Flats]:=by rw [<-Array.toArray_toList (xs:=cs3),he3']
 obtain⟨a4,n4,c4,l4,rfl,hl4,ho4⟩:=d6n Tryz.underlying31 (e5s W) (hval 4 31 v4 rfl rfl) h4
 obtain⟨N,hN⟩:=Fm.fpairs_ev y0 y1 l2 y3 l4
 refine(M.law37_FormPairs_ok' N y0 y1 l2 y3 l4 true (hN N (Nat.le_refl N)) (e5v W) sx0_4 sx1_4 hl2 sx3_0 hl4 (e8z hL)).mono ?_
 rintro e W' ⟨v,F',O',rfl,hh,rfl,rfl⟩
 refine⟨_,rfl,d7j laidOut ?_ rfl (by kernel_rfl) Tryz.underlying4 rfl hW' hh.below⟩
 rw [Tryz.params7]
 intro t ht
 have ht:t∈ [26,26,27,30,31]:=ht
 rcases List.mem_cons.1 ht with rfl|ht
 ·exact⟨by kernel_rfl,of_decide_eq_true (by kernel_rfl)⟩
 rcases List.mem_cons.1 ht with rfl|ht
 ·exact⟨by kernel_rfl,of_decide_eq_true (by kernel_rfl)⟩
 rcases List.mem_cons.1 ht with rfl|ht
 ·exact⟨by kernel_rfl,of_decide_eq_true (by kernel_rfl)⟩
 rcases List.mem_cons.1 ht with rfl|ht
 ·exact⟨by kernel_rfl,of_decide_eq_true (by kernel_rfl)⟩
 rcases List.mem_cons.1 ht with rfl|ht
 ·exact⟨by kernel_rfl,of_decide_eq_true (by kernel_rfl)⟩
 exact absurd ht (List.not_mem_nil)
theorem reads(os:Os){H:Type}(enc:TypeId×Value->H):∃places,DataW.whole enc Tryz.prog ((c2o os).forCall (fun _ _=>0) ⟨#[], #[.agg #[.string ⟨#[]⟩,.int .i64 0,.int .i64 0,.string ⟨#[]⟩,.slice none 0 0,.int .i64 0],.agg #[.string ⟨#[]⟩,.int .i64 0,.int .i64 0,.string ⟨#[]⟩,.slice none 0 0,.int .i64 0],.slice none 0 0,.agg #[.slice none 0 0,.int .i64 0,.int .i64 0],.slice none 0 0],[]⟩).memory Tryz.f7.params.toList Rows.formPairsSpec.vars false (#[.agg #[.string ⟨#[]⟩,.int .i64 0,.int .i64 0,.string ⟨#[]⟩,.slice none 0 0,.int .i64 0],.agg #[.string ⟨#[]⟩,.int .i64 0,.int .i64 0,.string ⟨#[]⟩,.slice none 0 0,.int .i64 0],.slice none 0 0,.agg #[.slice none 0 0,.int .i64 0,.int .i64 0],.slice none 0 0]:Array Value).toList 8=some ([.agg [.lit (.string []),.agg [.lit (.int .i64 0),.lit (.int .i64 0),.lit (.string []),.nil],.lit (.int .i64 0)],.agg [.lit (.string []),.agg [.lit (.int .i64 0),.lit (.int .i64 0),.lit (.string []),.nil],.lit (.int .i64 0)],.nil,.agg [.nil,.lit (.int .i64 0),.lit (.int .i64 0)],.nil],[],places):=
 ⟨[],by kernel_rfl⟩
set_option maxRecDepth 100000 in
theorem f0q(os:Os)(started:os.Started)(H:Type)(enc:TypeId×Value->H)(F:Stop.Interp):
 ReturnsInHanded {} Tryz.checked os 7 .any ((OpenSpec.ofChange Rows.formPairsSpec).preRow enc Tryz.prog Tryz.f7 Rows.formPairsRow.domain false Rows.formPairsRow.laid) (((OpenSpec.ofChange Rows.formPairsSpec).at F).post enc Tryz.prog Tryz.f7 false true false false):=by
 obtain⟨places,hx⟩:=reads os enc
 refine returnsInHanded_of_row (C:=Tryz.checked) (s:=OpenSpec.ofChange Rows.formPairsSpec) own started (by kernel_rfl) Tryz.func7
  (witness_row_at (enc:=enc) (C:=Tryz.checked) false (c2o os) #[.agg #[.string ⟨#[]⟩,.int .i64 0,.int .i64 0,.string ⟨#[]⟩,.slice none 0 0,.int .i64 0],.agg #[.string ⟨#[]⟩,.int .i64 0,.int .i64 0,.string ⟨#[]⟩,.slice none 0 0,.int .i64 0],.slice none 0 0,.agg #[.slice none 0 0,.int .i64 0,.int .i64 0],.slice none 0 0] rfl (by kernel_rfl) (by kernel_rfl) (by kernel_rfl)
   (OpenSpec.preRow_of_cond 8 hx (by kernel_rfl) (fun k hk=>by cases hk) (by kernel_rfl) (e0p os _))) ?_
 intro W base args ds gs before hval hW _ _ _ hL _ _
 exact e2s H enc W base args ds gs before hval hW hL
theorem said:Rows.FormPairsSaid:=
 OpenClaim.holds_of_cond 7 Tryz.f7 rfl rfl rfl rfl rfl rfl rfl ⟨rfl,rfl,rfl,rfl,rfl⟩ rfl rfl rfl rfl rfl (by kernel_rfl) Tryz.func7 (by kernel_rfl)
  (of_decide_eq_true (by kernel_rfl)) (by unfold Func.isWrapper;first|(rw [if_pos (by decide+kernel)];kernel_rfl)|(rw [if_neg (by decide+kernel)];exact⟨rfl,rfl⟩))
  (fun os started H enc _ F=>by rw [OpenClaim.pre_eq_preRow];exact f0q os started H enc F)
theorem f1e(f:FuncId)(fn:Func)(hf:Tryz.pinned.checked.prog.funcNamed "kerbside/kerbsidelaw37.FormPairs" =some f)(hfn:Tryz.pinned.checked.prog.funcs[f]?=some fn):
 false=Tryz.pinned.checked.prog.looks []/\∀(j:Nat)t,fn.params[j]?=some t->Tryz.pinned.checked.prog.wantsStandIn t=false:=by
 obtain rfl:f=7:=Option.some.inj ((show Tryz.prog.funcNamed "kerbside/kerbsidelaw37.FormPairs" =some 7 by kernel_rfl).symm.trans hf)|>.symm
 obtain rfl:fn=Tryz.f7:=(Option.some.inj (Tryz.func7.symm.trans hfn)).symm
 refine⟨by kernel_rfl,fun j t ht=> ?_⟩
 rw [Tryz.params7]at ht
 have ht:t∈ [26,26,27,30,31]:=Array.mem_toList_iff.2 (Array.mem_of_getElem? ht)
 rcases List.mem_cons.1 ht with rfl|ht
 ·exact(show Tryz.prog.wantsStandIn 26=false by kernel_rfl)
 rcases List.mem_cons.1 ht with rfl|ht
 ·exact(show Tryz.prog.wantsStandIn 26=false by kernel_rfl)
 rcases List.mem_cons.1 ht with rfl|ht
 ·exact(show Tryz.prog.wantsStandIn 27=false by kernel_rfl)
 rcases List.mem_cons.1 ht with rfl|ht
 ·exact(show Tryz.prog.wantsStandIn 30=false by kernel_rfl)
 rcases List.mem_cons.1 ht with rfl|ht
 ·exact(show Tryz.prog.wantsStandIn 31=false by kernel_rfl)
 exact absurd ht (List.not_mem_nil)
theorem card:Rows.FormPairsCardSaid:=
 Claim7.holds_tied_plain_at .later [] _ _ _ _ said (fun _ h=>by cases h) (by kernel_rfl) (fun _ h=>by cases h) formPairs_row_tie rfl ⟨rfl,rfl⟩ (by kernel_rfl) rfl f1e (by kernel_rfl)
end Go.Proofs.YthaegflpecbfgaaGreatDoor.FormPairs
