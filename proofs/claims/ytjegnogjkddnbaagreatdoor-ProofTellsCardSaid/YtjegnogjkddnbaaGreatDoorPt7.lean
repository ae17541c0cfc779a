/- Several texts in one, for ProofTells.card: what the theorem leans on. -/
import Derived.Test.YtjegnogjkddnbaaGreatDoorPt6
namespace Go.Proofs.YtjegnogjkddnbaaGreatDoor
set_option linter.unusedSimpArgs false
namespace Dp
open Go Go.RowKit Go.Proofs.YtjegnogjkddnbaaGreatDoor.Rt Go.Proofs Go.Proofs.YtjegnogjkddnbaaGreatDoor.D
set_option linter.unusedVariables false
set_option maxHeartbeats 4000000
set_option maxRecDepth 100000
theorem c9x{s:Sy}{k:Nat}(hS:SyOk s k)(hk:k<4000000)(y:List Frac)(hy:∀f∈y,f.P.Digits.length<=k/\f.Q.Digits.length<=k)(hl:y.length<=100000):EvF tt 99 [.v (eSy s),L (fs y)] (B (sgnS s y)):=by
 have h1:=a9g hS hk;have h2:=b5y (x:=y) (n:=(((s.Rows.map eRw).length:Nat):Int)) hy (by omega) (by omega);have hlm:(s.Rows.map eRw).length=s.Rows.length:=List.length_map ..;have hms:mulS s y=(sysR s&&(y.all a0f&&decide ((y.length:Int)=(((s.Rows.map eRw).length:Nat):Int)))):=by
  unfold mulS;rw [hlm];have:decide (y.length=s.Rows.length)=decide ((y.length:Int)=(s.Rows.length:Int)):=by rw [decide_eq_decide];omega
  rw [this];cases sysR s<;>cases y.all a0f<;>simp
 refine evF (eIn Tryz.func99 rfl rfl ?_);unfold sgnS;cases hR:sysR s with
 |false=>
  rw [hms,hR];rw [hR]at h1;refine qK rfl (h1) rfl ?_;refine qT rfl rfl ?_;exact qR rfl ⟨rfl,rfl⟩
 |true=>
  rw [hR]at h1;cases hF:(y.all a0f&&decide ((y.length:Int)=(((s.Rows.map eRw).length:Nat):Int)))with
  |false=>
   rw [hms,hR,hF];rw [hF]at h2;refine qK rfl (h1) rfl ?_;refine qN rfl rfl ?_;refine qK rfl (h2) rfl ?_;refine qT rfl rfl ?_;exact qR rfl ⟨rfl,rfl⟩
  |true=>
   rw [hF]at h2;rw [hms,hR,hF];simp only [Bool.and_eq_true,decide_eq_true_eq]at hF;obtain⟨m3,m2⟩:=hF;rw [hlm]at m2;refine qK rfl h1 rfl ?_;refine qN rfl rfl ?_;refine qK rfl h2 rfl ?_;refine qN rfl rfl ?_;show Tt _ _ _ fun r' H'=>r'=B (sgnL s.Rows (y.map toQ))/\H'= []
   refine qF y.length (fun z _=> [(5,I z)]) (fun _ _=> []) (fun j(_:Unit)=>sgnL s.Rows (y.map toQ)=sgnL (s.Rows.drop j) ((y.drop j).map toQ)) () rfl rfl rfl ?_;rintro j _ hj hq ih;have hq:sgnL s.Rows (y.map toQ)=sgnL (s.Rows.drop j) ((y.drop j).map toQ):=hq;refine qXl rfl rfl rfl hj (fun f hf hd hlt=> ?_) (fun hd hj=> ?_)
   ·have hfm:=List.mem_of_getElem? hf;obtain⟨e1,e2⟩:=b3k (hy f hfm) (List.all_eq_true.1 m3 f hfm);have hrl:j<s.Rows.length:=by omega
    have hr:=List.getElem?_eq_getElem hrl;generalize s.Rows[j]=r at hr;have hr2:s.Rows[Int.toNat (j:Int)]?=some r:=by rw [Int.toNat_natCast];exact hr
    rw [hd,a1p hr,List.map_cons]at hq;have hq2:sgnL s.Rows (y.map toQ)=((if r.Kind=0 then decide (0<=toQ f)else if r.Kind=1 then decide (toQ f<=0)else true)&&sgnL (s.Rows.drop (j+1)) ((y.drop (j+1)).map toQ)):=hq;clear hq;generalize toQ f=g at*;subst e1;have hsg:=rfsign_e e2 hk;have hc:=a0q g 0;rw [<-a5x]at hc;refine qK rfl hsg rfl ?_;refine qXi rfl (Int.natCast_nonneg _) hr2 ?_
    by_cases k0:r.Kind=0
    ·rw [if_pos k0]at hq2
     by_cases h:g<0
     ·rw [decide_eq_false (show¬0<=g by grind),Bool.false_and]at hq2;rw [hq2];clear ih;refine qT rfl (by simpa using k0) ?_;refine qT rfl (decide_eq_true (by grind)) ?_;exact qR rfl ⟨rfl,rfl⟩
     rw [decide_eq_true (show 0<=g by grind),Bool.true_and]at hq2;have g2:=ih _ () (a0a (by omega)) hlt hq2;clear ih;refine qT rfl (by simpa using k0) ?_;refine qN rfl (decide_eq_false (by grind)) ?_;refine qXi rfl (Int.natCast_nonneg _) hr2 ?_;refine qN rfl (by rw [beq_eq_false_iff_ne];omega) ?_;exact qB g2 (by kernel_rfl)
    rw [if_neg k0]at hq2;refine qN rfl (by simpa using k0) ?_;refine qXi rfl (Int.natCast_nonneg _) hr2 ?_
    by_cases k1:r.Kind=1
    ·rw [if_pos k1]at hq2
     by_cases h:0<g
     ·rw [decide_eq_false (show¬g<=0 by grind),Bool.false_and]at hq2;rw [hq2];clear ih;refine qT rfl (by simpa using k1) ?_;refine qT rfl (decide_eq_true (by grind)) ?_;exact qR rfl ⟨rfl,rfl⟩
     rw [decide_eq_true (show g<=0 by grind),Bool.true_and]at hq2;have g2:=ih _ () (a0a (by omega)) hlt hq2;clear ih;refine qT rfl (by simpa using k1) ?_;refine qN rfl (decide_eq_false (by grind)) ?_;exact qB g2 (by kernel_rfl)
    rw [if_neg k1,Bool.true_and]at hq2;have g2:=ih _ () (a0a (by omega)) hlt hq2;clear ih;refine qN rfl (by simpa using k1) ?_;exact qB g2 (by kernel_rfl)
   clear ih;rw [hd,List.map_nil]at hq;have hq:sgnL s.Rows (y.map toQ)=true:=by rw [hq];unfold sgnL;split<;>first|rfl|(rename_i h;cases h)
   rw [hq];exact qR rfl ⟨rfl,rfl⟩
set_option linter.unusedVariables false
set_option maxHeartbeats 4000000
set_option maxRecDepth 100000
theorem c4j(l:List Trm)(v:Int):b3h l v=coT l v:=by
 induction l with
 |nil=>rfl
 |cons t l ih=>
  unfold b3h coT
  by_cases h:t.1=v
  ·rw [List.find?_cons_of_pos (by simpa using h),if_pos h];rfl
  rw [List.find?_cons_of_neg (by simpa using h),if_neg h];exact ih
theorem c5k{l:List Trm}{k:Nat}(h:∀t∈l,SmF k t.2)(hk:1<=k)(v:Int):SmF k (coT l v):=by
 induction l with
 |nil=>exact smF_0.mono hk
 |cons t l ih=>
  unfold coT;split
  ·exact h t (List.mem_cons_self ..)
  exact ih fun u hu=>h u (List.mem_cons_of_mem _ hu)
theorem outT_app:∀(l m:List Rat)(i:Nat),outT i (l++m)=outT i l++outT (i+l.length) m
 | [],m,i=>by simp [outT]
 |c::l,m,i=>by
  have:=outT_app l m (i+1);rw [List.cons_append,show i+(c::l).length=i+1+l.length by simp;omega];show(if c=0 then outT (i+1) (l++m)else((i:Int),c)::outT (i+1) (l++m))=(if c=0 then outT (i+1) l else((i:Int),c)::outT (i+1) l)++_;rw [this];split<;>rfl
theorem e8d{s:Sy}{k:Nat}(hS:SyOk s k)(hk:k<=200)(hk1:1<=k)(y:List Frac)(hy:∀f∈y,f.P.Digits.length<=k/\f.Q.Digits.length<=k)(hl:y.length<=64)(hm:mulS s y=true):EvF tt 101 [.v (eSy s),L (fs y)] (.tup [L ((mixO s (y.map toQ)).map eTm),.v (eF (toF (lowV s y)))]):=by
 have h1:=a9g hS (by omega);have h2:=b5y (x:=y) (n:=(((s.Rows.map eRw).length:Nat):Int)) hy (by omega) (by omega);have hlm:(s.Rows.map eRw).length=s.Rows.length:=List.length_map ..;have hm2:=hm;unfold mulS at hm2;simp only [Bool.and_eq_true,decide_eq_true_eq]at hm2;obtain⟨⟨m1,m2⟩,m3⟩:=hm2;rw [m1]at h1;rw [m3,hlm,decide_eq_true (by omega)]at h2;rw [<-hlm]at h2;have h0:EvF tt 55 [I 0] (.v (eF (toF 0))):=a3b (x:=0) (by decide) (by decide);obtain⟨e1,e2⟩:=b5d hy m3;unfold lowV;generalize y.map toQ=ys at e1 e2;subst e1;rw [b2a]at*;rw [List.length_map]at hl m2;refine evF (eIn Tryz.func101 rfl rfl ?_);refine qK rfl h1 rfl ?_;refine qN rfl rfl ?_;refine qK rfl h2 rfl ?_;refine qN rfl rfl ?_;have hNe:0<=s.N/\s.N<=1500:=by
  have h:=m1;unfold sysR at h;simp only [Bool.and_eq_true]at h;exact a2q.1 h.1.1
 have hrt:∀r∈s.Rows,rtT s.N (-1) r.Terms=true:=fun r hr=>by
  have h:=m1;unfold sysR at h;simp only [Bool.and_eq_true]at h;have h:=List.all_eq_true.1 h.2 r hr;unfold rowR at h;simp only [Bool.and_eq_true]at h;exact h.1
 unfold mixO;generalize hD:mixS (List.replicate s.N.toNat 0) s.Rows ys=D;have hDl:D.length=s.N.toNat:=by rw [<-hD,b1f,List.length_replicate]
 have hDg:∀v:Nat,v<s.N.toNat->D[v]?=some (mixC s.Rows ys v):=fun v hv=>by
  have h:=b0y (n:=s.N) (q:=v) (rs:=s.Rows) (ms:=ys) (s:=List.replicate s.N.toNat 0) hrt (by rw [List.length_replicate];exact hv) (by rw [List.length_replicate];omega);rw [hD]at h;have hx:D[v]?=some (D[v]'(by omega)):=List.getElem?_eq_getElem _;rw [List.getD_eq_getElem?_getD,hx,List.getD_eq_getElem?_getD,List.getElem?_replicate,if_pos hv]at h;rw [hx]
  congr 1
  have h:D[v]'(by omega)=0+mixC s.Rows ys v:=h;rw [h];grind
 refine qF s.N.toNat (fun z _=> [(7,I z)]) (fun _ o=> [(0,.row 131 5 o)]) (fun v o=>o=(outT 0 (D.take v)).map eTm/\(outT 0 (D.take v)).length<=v) [] rfl rfl ⟨by simp [outT],by simp [outT]⟩ ?_;rintro v o hv ⟨ho,hol⟩ ih
 by_cases hlt:v<s.N.toNat
 ·have hDv:=hDg v hlt;have htk:outT 0 (D.take (v+1))=outT 0 (D.take v)++outT v [mixC s.Rows ys v]:=by
   rw [a1h hDv,outT_app,List.length_take,hDl,Nat.zero_add,show min v s.N.toNat=v by omega]
  refine qT rfl (decide_eq_true (by show(v:Int)<_;omega)) ?_;refine qK rfl h0 rfl ?_;refine qF ys.length (fun z _=> [(9,I z)]) (fun _ q=> [(0,boxF q)]) (fun j q=>mixC s.Rows ys v=q+mixC (s.Rows.drop j) (ys.drop j) v/\SmF (1+j*(2*k+1)) q) 0 rfl rfl ⟨by show _=0+_;rw [List.drop_zero,List.drop_zero];grind,smF_0.mono (by omega)⟩ ?_;rintro j q hj ⟨hq,hqs⟩ ih2;have hq:mixC s.Rows ys v=q+mixC (s.Rows.drop j) (ys.drop j) v:=hq;have hqs:SmF (1+j*(2*k+1)) q:=hqs;have b1:=Nat.mul_le_mul_right (2*k+1) (show j<=64 by omega);refine qXl rfl rfl rfl hj (fun m hm3 hd hlt2=> ?_) (fun hd hj2=> ?_)
  ·clear ih;have hrl:j<s.Rows.length:=by omega
   have hr:=List.getElem?_eq_getElem hrl;generalize s.Rows[j]=r at hr;have hr2:s.Rows[Int.toNat (j:Int)]?=some r:=by rw [Int.toNat_natCast];exact hr
   have hrm:=List.mem_of_getElem? hr;obtain⟨t1,t2,t3⟩:=hS.terms r hrm;have hco:=c2i (l:=r.Terms) (v:=(v:Int)) t1;rw [c4j]at hco;have hpl:=c3f hqs (e2 m (List.mem_of_getElem? hm3)) (c5k t2 hk1 (v:Int)) (by omega);have g:=ih2 _ (q+m*coT r.Terms v) (a0a (by omega)) hlt2 ⟨by
    rw [hq,hd,a1p hr];show q+(m*coT r.Terms v+mixC (s.Rows.drop (j+1)) (ys.drop (j+1)) v)=q+m*coT r.Terms v+mixC (s.Rows.drop (j+1)) (ys.drop (j+1)) v
    grind,(hqs.add ((e2 m (List.mem_of_getElem? hm3)).mul (c5k t2 hk1 (v:Int)))).mono (by rw [Nat.add_mul];omega)⟩
   clear ih2;refine qXi (g:=eRw) rfl (Int.natCast_nonneg _) hr2 ?_;refine qK rfl hco rfl ?_;refine qK rfl hpl rfl ?_;refine qE rfl (by kernel_rfl) (by kernel_rfl) ?_;exact qB g (by kernel_rfl)
  clear ih2;have hc:mixC s.Rows ys v=q:=by
   rw [hq,hd];have:mixC (s.Rows.drop j) [] v=0:=by cases s.Rows.drop j<;>rfl
   rw [this];grind
  rw [hc]at htk;have hsg:=rfsign_e hqs (by omega);have hs0:=b3w (r:=q);refine qK rfl hsg rfl ?_
  by_cases hq0:q=0
  ·have g:=ih _ o (a0a (by omega)) hlt ⟨by rw [htk,hq0,ho];simp [outT],by rw [htk,hq0];simp [outT];omega⟩;clear ih;refine qN rfl (by show(!(sg q.num==0))=false;rw [hs0,decide_eq_true hq0];rfl) ?_;exact qB g (by kernel_rfl)
  have et:outT v [q]= [((v:Int),q)]:=by unfold outT;rw [if_neg hq0];rfl
  rw [et]at htk;have g:=ih _ ((outT 0 (D.take (v+1))).map eTm) (a0a (by omega)) hlt ⟨rfl,by rw [htk];simp;omega⟩;clear ih;refine qT rfl (by show(!(sg q.num==0))=true;rw [hs0,decide_eq_false hq0];rfl) ?_;refine qAz 72 ((outT 0 (D.take (v+1))).map eTm) rfl rfl (by rw [htk,ho,List.map_append];rfl) (by show szOk 5 _=true;rfl) (by rw [ho];simp;omega) ?_;exact qB g (by kernel_rfl)
 clear ih;have hDt:D.take v=D:=List.take_of_length_le (by omega);rw [hDt]at ho hol;refine qN rfl (decide_eq_false (by show¬(v:Int)<_;omega)) ?_;refine qK rfl h0 rfl ?_;refine qF ys.length (fun z _=> [(11,I z)]) (fun _ q=> [(0,boxF q)]) (fun j q=>mixV 0 s.Rows ys=mixV q (s.Rows.drop j) (ys.drop j)/\SmF (1+j*(2*k+1)) q) 0 rfl rfl ⟨rfl,smF_0.mono (by omega)⟩ ?_;rintro j q hj ⟨hq,hqs⟩ ih2;have hq:mixV 0 s.Rows ys=mixV q (s.Rows.drop j) (ys.drop j):=hq;have hqs:SmF (1+j*(2*k+1)) q:=hqs;have b1:=Nat.mul_le_mul_right (2*k+1) (show j<=64 by omega);refine qXl rfl rfl rfl hj (fun m hm3 hd hlt2=> ?_) (fun hd hj2=> ?_)
 ·have hrl:j<s.Rows.length:=by omega
  have hr:=List.getElem?_eq_getElem hrl;generalize s.Rows[j]=r at hr;have hr2:s.Rows[Int.toNat (j:Int)]?=some r:=by rw [Int.toNat_natCast];exact hr
  obtain⟨t1,t2,t3⟩:=hS.terms r (List.mem_of_getElem? hr);have hpl:=c3f hqs (e2 m (List.mem_of_getElem? hm3)) t3 (by omega);have g:=ih2 _ (q+m*r.Value) (a0a (by omega)) hlt2 ⟨by
   rw [hq,hd,a1p hr];show mixV (if m=0 then q else q+m*r.Value) (s.Rows.drop (j+1)) (ys.drop (j+1))=_
   congr 1
   split
   ·rename_i h;rw [h];grind
   rfl,(hqs.add ((e2 m (List.mem_of_getElem? hm3)).mul t3)).mono (by rw [Nat.add_mul];omega)⟩
  clear ih2;refine qXi (g:=eRw) rfl (Int.natCast_nonneg _) hr2 ?_;refine qK rfl hpl rfl ?_;refine qE rfl (by kernel_rfl) (by kernel_rfl) ?_;exact qB g (by kernel_rfl)
 clear ih2;have hq2:mixV 0 s.Rows ys=q:=by rw [hq,hd];cases s.Rows.drop j<;>rfl
 rw [hq2,<-ho];refine qE rfl (by kernel_rfl) (by kernel_rfl) ?_;exact qR rfl ⟨rfl,rfl⟩
set_option linter.unusedVariables false
set_option maxHeartbeats 4000000
set_option maxRecDepth 100000
theorem outT_len:∀(l:List Rat)(i:Nat),(outT i l).length<=l.length
 | [],i=>by simp [outT]
 |c::l,i=>by
  have:=outT_len l (i+1);unfold outT;split<;>simp only [List.length_cons]<;>omega
theorem d4f{s:Sy}{g:List Trm}{y:List Frac}{k:Nat}(hS:SyOk s k)(hk:k<=70)(hk1:1<=k)(ht:∀r∈s.Rows,r.Terms.length<=100)(hY:YOk y k)(hg:g.length<=10000)(hs:∀t∈g,SmF k t.2):
 EvF tt 51 [.v (eSy s),L (g.map eTm),L (fs y)] (.tup [.v (eF (if lowB s g y=true then toF (lowV s y)else zeroF)),B (lowB s g y)]):=by
 have h1:=c9x hS (by omega) y hY.dig (by have:=hY.len;omega);have hiff:=d8n (s:=s) (g:=g) (y:=y);refine evF (eIn Tryz.func51 rfl rfl ?_);cases hsg:sgnS s y with
 |false=>
  have hb:lowB s g y=false:=by
   cases h:lowB s g y with
   |false=>rfl
   |true=>have:=(hiff.1 h).1;rw [hsg]at this;cases this
  rw [hb];rw [hsg]at h1;refine qK rfl (h1) rfl ?_;refine qT rfl rfl ?_;exact qR rfl ⟨rfl,rfl⟩
 |true=>
  rw [hsg]at h1;obtain⟨hm,hr,hN⟩:=e2y hsg;have h2:=a2w (n:=s.N) hg hs (by omega) hN;cases hrt:rtT s.N (-1) g with
  |false=>
   have hb:lowB s g y=false:=by
    cases h:lowB s g y with
    |false=>rfl
    |true=>have:=(hiff.1 h).2.1;rw [hrt]at this;cases this
   rw [hb];rw [hrt]at h2;refine qK rfl (h1) rfl ?_;refine qN rfl rfl ?_;refine qK rfl (h2) rfl ?_;refine qT rfl rfl ?_;exact qR rfl ⟨rfl,rfl⟩
  |true=>
   rw [hrt]at h2;have h3:=e8d hS (by omega) hk1 y hY.dig hY.len hm;have hms:=y_sm hY hr;have hso:=d2u hS ht hms;have hyl:=hY.len;have hR:sysR s=true:=by unfold mulS at hm;simp only [Bool.and_eq_true]at hm;exact hm.1.1
   have hNe:s.N<=1500:=by
    have h:=hR;unfold sysR at h;simp only [Bool.and_eq_true]at h;exact(a2q.1 h.1.1).2
   have hol:(mixO s (y.map toQ)).length<=10000:=by
    have:=outT_len (mixS (List.replicate s.N.toNat 0) s.Rows (y.map toQ)) 0;rw [b1f,List.length_replicate]at this;unfold mixO;omega
   have hco:∀v:Int,coT (mixO s (y.map toQ)) v=if 0<=v/\v<s.N then mixC s.Rows (y.map toQ) v else 0:=c1t hR _
   have hlen:(y.map toQ).length=y.length:=List.length_map ..;rw [hlen]at hso;have b1:=Nat.mul_le_mul_right (2*k+1) (show 100*y.length<=6400 by omega);generalize mixO s (y.map toQ)=o at*;refine qK rfl h1 rfl ?_;refine qN rfl rfl ?_;refine qK rfl h2 rfl ?_;refine qN rfl rfl ?_;refine qK rfl h3 rfl ?_;refine qF s.N.toNat (fun z _=> [(10,I z)]) (fun _ _=> []) (fun j(_:Unit)=>∀v:Int,0<=v->v<j->mixC s.Rows (y.map toQ) v<=coT g v) () rfl rfl (fun v h1 h2=>absurd h2 (by omega)) ?_;rintro j _ hj hq ih;have hq:∀v:Int,0<=v->v<j->mixC s.Rows (y.map toQ) v<=coT g v:=hq
   by_cases hlt:j<s.N.toNat
   ·have c1:=c2i (l:=o) (v:=(j:Int)) hol;have c2:=c2i (l:=g) (v:=(j:Int)) hg;rw [c4j]at c1 c2;have c3:=rfcmp_e (c5k hso (by omega) (j:Int)) (c5k hs hk1 (j:Int)) (by omega);have hc:=a0q (coT o (j:Int)) (coT g (j:Int));have ec:coT o (j:Int)=mixC s.Rows (y.map toQ) (j:Int):=by rw [hco,if_pos ⟨by omega,by omega⟩]
    rw [ec]at c1 c3 hc;have c3':EvF tt 54 [.v (eF (toF (mixC s.Rows (y.map toQ) (j:Int)))),.v (eF (toF (coT g (j:Int))))] (I (cmpQ (mixC s.Rows (y.map toQ) (j:Int)) (coT g (j:Int)))):=c3;refine qT rfl (decide_eq_true (by show(j:Int)<_;omega)) ?_;refine qK rfl c1 rfl ?_;refine qK rfl c2 rfl ?_;refine qK rfl c3' rfl ?_
    by_cases hle:mixC s.Rows (y.map toQ) (j:Int)<=coT g (j:Int)
    ·have gg:=ih _ () (a0a (by omega)) hlt (fun v v0 v1=>by
      by_cases h:v<j
      ·exact hq v v0 h
      rw [show v=(j:Int) by omega];exact hle)
     clear ih;refine qN rfl (decide_eq_false (by grind)) ?_;exact qB gg (by kernel_rfl)
    clear ih;have hb:lowB s g y=false:=by
     cases h:lowB s g y with
     |false=>rfl
     |true=>exact absurd ((hiff.1 h).2.2 (j:Int) (by omega) (by omega)) hle
    rw [hb];refine qT rfl (decide_eq_true (by grind)) ?_;exact qR rfl ⟨rfl,rfl⟩
   clear ih;have hb:lowB s g y=true:=hiff.2 ⟨hsg,hrt,fun v v0 v1=>hq v v0 (by omega)⟩;rw [hb,if_pos rfl];refine qN rfl (decide_eq_false (by show¬(j:Int)<_;omega)) ?_;exact qR rfl ⟨rfl,rfl⟩
theorem b4e{s:Sy}{y:List Frac}{k:Nat}(hS:SyOk s k)(hk:k<=70)(hk1:1<=k)(ht:∀r∈s.Rows,r.Terms.length<=100)(hY:YOk y k):EvF tt 48 [.v (eSy s),L (fs y)] (B (rftB s y)):=by
 have h1:=d4f (g:= []) hS hk hk1 ht hY (by simp) (by simp);refine evF (eIn Tryz.func48 rfl rfl ?_);unfold rftB;cases hb:lowB s [] y with
 |false=>
  rw [hb]at h1;refine qK rfl (h1) rfl ?_;refine qN rfl rfl ?_;exact qR rfl ⟨rfl,rfl⟩
 |true=>
  rw [hb,if_pos rfl]at h1;have h2:=rfsign_e (b4v hS hY hb) (by omega);refine qK rfl (h1) rfl ?_;refine qT rfl rfl ?_;refine qK rfl (h2) rfl ?_;exact qR rfl ⟨rfl,rfl⟩
set_option linter.unusedVariables false
set_option maxHeartbeats 4000000
set_option maxRecDepth 100000
theorem f0c{s:Sy}{g:List Trm}{d:List Frac}{k j n:Nat}(hS:SyOk s k)(hX:PtOk d j)(ht:∀r∈s.Rows,r.Terms.length<=n)(hg:g.length<=n)(hgs:∀t∈g,SmF k t.2)(hn:n<=10000)(hb:1+n*(k+j+1)+k+j<3000000)(hj:j<4000000)(hk:k<900000)(hj1:1<=j):
 EvF tt 217 [.v (eSy s),L (g.map eTm),L (fs d)] (B (rayB s g d)):=by
 have h1:=a9g hS (by omega);have hxl:=hX.len;have hsl:=hS.len;have h3:=b5y (x:=d) (n:=s.N) hX.dig (by omega) (by omega);refine evF (eIn Tryz.func217 rfl rfl ?_);unfold rayB;cases hr:sysR s with
 |false=>
  rw [hr]at h1;refine qK rfl (h1) rfl ?_;refine qT rfl rfl ?_;exact qR rfl ⟨rfl,rfl⟩
 |true=>
  rw [hr]at h1;obtain⟨r1,r2,r3,r4⟩:=a5h hr;have h2:=a2w (n:=s.N) (by omega) hgs (show k<4000000 by omega) r1;cases hrg:rtT s.N (-1) g with
  |false=>
   rw [hrg]at h2;refine qK rfl (h1) rfl ?_;refine qN rfl rfl ?_;refine qK rfl (h2) rfl ?_;refine qT rfl rfl ?_;exact qR rfl ⟨rfl,rfl⟩
  |true=>
   rw [hrg]at h2;cases hf:(d.all a0f&&decide ((d.length:Int)=s.N))with
   |false=>
    rw [hf]at h3;have e:(decide ((d.length:Int)=s.N)&&d.all a0f)=false:=by rw [Bool.and_comm];exact hf
    rw [show(true&&true&&decide ((d.length:Int)=s.N)&&d.all a0f&&(d.map toQ).all (fun v=>decide (0<=v))&&s.Rows.all (rayR (d.map toQ))&&decide (valT g (d.map toQ)<0))=((decide ((d.length:Int)=s.N)&&d.all a0f)&&((d.map toQ).all (fun v=>decide (0<=v))&&s.Rows.all (rayR (d.map toQ))&&decide (valT g (d.map toQ)<0))) by simp [Bool.and_assoc],e];refine qK rfl (h1) rfl ?_;refine qN rfl rfl ?_;refine qK rfl (h2) rfl ?_;refine qN rfl rfl ?_;refine qK rfl (h3) rfl ?_;refine qT rfl rfl ?_;exact qR rfl ⟨rfl,rfl⟩
   |true=>
    rw [hf]at h3;simp only [Bool.and_eq_true,decide_eq_true_eq]at hf;obtain⟨ha,hl⟩:=hf;obtain⟨e1,e2⟩:=b5d hX.dig ha;rw [ha,decide_eq_true hl];generalize d.map toQ=xs at e1 e2;subst e1;rw [b2a]at*;rw [List.length_map]at hl hxl;have hql:(qs xs).length=xs.length:=List.length_map ..;have e3:(xs.map toF).map toQ=xs:=by rw [List.map_map,show toQ∘toF=id from funext a7s,List.map_id]
    have hval:∀l:List Trm,l.length<=n->(∀t∈l,SmF k t.2)->rtT s.N (-1) l=true->EvF tt 214 [L (l.map eTm),L (qs xs)] (.tup [.v (eF (toF (valT l xs))),B true]):=fun l l1 l2 l3=>by
     have h:=b7i l2 hX l1 hn hb (by omega);rw [b2f l3 hl,if_pos rfl,e3,b2a]at h;exact h
    refine qK rfl h1 rfl ?_;refine qN rfl rfl ?_;refine qK rfl h2 rfl ?_;refine qN rfl rfl ?_;refine qK rfl h3 rfl ?_;refine qN rfl rfl ?_;show Tt _ _ _ fun r' H'=>r'=B (xs.all (fun v=>decide (0<=v))&&s.Rows.all (rayR xs)&&decide (valT g xs<0))/\H'= []
    refine qF xs.length (fun z _=> [(7,I z)]) (fun _ _=> []) (fun i(_:Unit)=>xs.all (fun v=>decide (0<=v))=(xs.drop i).all (fun v=>decide (0<=v))) () rfl rfl rfl ?_;rintro i ⟨⟩ hi hq ih;refine qXl rfl rfl rfl hi (fun v hv hd hlt=> ?_) (fun hd hi=> ?_)
    ·rw [hd,List.all_cons]at hq;have hsg:=rfsign_e (e2 v (List.mem_of_getElem? hv)) (by omega);have hc:=a0q v 0;rw [<-a5x]at hc;refine qK rfl hsg rfl ?_
     by_cases h0:v<0
     ·have:xs.all (fun v=>decide (0<=v))=false:=by rw [hq];simp;intro h;exfalso;grind
      rw [this];refine qT rfl (decide_eq_true (by grind)) ?_;exact qR rfl ⟨rfl,rfl⟩
     refine qN rfl (decide_eq_false (by grind)) ?_;exact qB (ih _ () (a0a (by omega)) hlt (by rw [hq,decide_eq_true (show(0:Rat)<=v by grind),Bool.true_and])) (by kernel_rfl)
    have hq:xs.all (fun v=>decide (0<=v))=true:=by rw [hq,hd];rfl
    rw [hq,Bool.true_and];clear ih;refine qF s.Rows.length (fun z _=> [(8,I z)]) (fun _ _=> []) (fun i(_:Unit)=>s.Rows.all (rayR xs)=(s.Rows.drop i).all (rayR xs)) () rfl rfl rfl ?_;rintro i ⟨⟩ hi hq ih;refine qXl rfl rfl rfl hi (fun r hrr hd hlt=> ?_) (fun hd hi=> ?_)
    ·rw [hd,List.all_cons]at hq;have hm:=List.mem_of_getElem? hrr;obtain⟨t1,t2,t3⟩:=hS.terms r hm;have hv:=hval r.Terms (ht r hm) t2 (r4 r hm).1;have hsg:=rfsign_e (a4g t2 e2 (ht r hm) hj1) (by omega);have hc:=a0q (valT r.Terms xs) 0;rw [<-a5x]at hc;have hr2:s.Rows[Int.toNat (i:Int)]?=some r:=by rw [Int.toNat_natCast];exact hrr
     have gg:=fun h:rayR xs r=true=>ih _ () (a0a (by omega)) hlt (by rw [hq,h,Bool.true_and]);clear ih;have er:rayR xs r=((decide (r.Kind=1)||decide (0<=valT r.Terms xs))&&(decide (r.Kind=0)||decide (valT r.Terms xs<=0))):=rfl;generalize rayR xs r=b at hq gg er;generalize valT r.Terms xs=w at hv hsg hc er;refine qK rfl hv rfl ?_;refine qK rfl hsg rfl ?_;rcases hc with⟨h,e⟩|⟨h,e⟩|⟨h,e⟩
     ·rw [e];refine qT rfl rfl ?_;refine qXi (g:=eRw) rfl (Int.natCast_nonneg _) hr2 ?_
      by_cases k1:r.Kind=1
      ·have gg:=gg (by rw [er,decide_eq_true k1,decide_eq_true (show w<=0 by grind)];simp);refine qN rfl (by show(!(r.Kind==1))=false;simp [k1]) ?_;refine qN rfl rfl ?_;exact qB gg (by kernel_rfl)
      have eb:b=false:=by rw [er,decide_eq_false k1,decide_eq_false (show¬0<=w by grind)];rfl
      rw [eb,Bool.false_and]at hq;rw [hq];refine qT rfl (by show(!(r.Kind==1))=true;simp [k1]) ?_;exact qR rfl ⟨rfl,rfl⟩
     ·have gg:=gg (by rw [er,decide_eq_true (show 0<=w by grind),decide_eq_true (show w<=0 by grind)];simp);rw [e];refine qN rfl rfl ?_;refine qN rfl rfl ?_;exact qB gg (by kernel_rfl)
     rw [e];refine qN rfl rfl ?_;refine qT rfl rfl ?_;refine qXi (g:=eRw) rfl (Int.natCast_nonneg _) hr2 ?_
     by_cases k0:r.Kind=0
     ·have gg:=gg (by rw [er,decide_eq_true k0,decide_eq_true (show 0<=w by grind)];simp);refine qN rfl (by show(!(r.Kind==0))=false;simp [k0]) ?_;exact qB gg (by kernel_rfl)
     have eb:b=false:=by rw [er,decide_eq_false k0,decide_eq_false (show¬w<=0 by grind),Bool.or_self,Bool.and_false]
     rw [eb,Bool.false_and]at hq;rw [hq];refine qT rfl (by show(!(r.Kind==0))=true;simp [k0]) ?_;exact qR rfl ⟨rfl,rfl⟩
    have hq:s.Rows.all (rayR xs)=true:=by rw [hq,hd];rfl
    rw [hq,Bool.true_and];clear ih;have hv:=hval g hg hgs hrg;have hsg:=rfsign_e (a4g hgs e2 hg hj1) (by omega);have hc:=a0q (valT g xs) 0;rw [<-a5x]at hc;generalize valT g xs=w at*;refine qK rfl hv rfl ?_;refine qK rfl hsg rfl ?_;refine qR rfl ⟨congrArg B ?_,rfl⟩;show decide (sg w.num<0)=decide (w<0);rcases hc with⟨h,e⟩|⟨h,e⟩|⟨h,e⟩
    ·rw [e,decide_eq_true h];rfl
    ·rw [e,decide_eq_false (show¬w<0 by grind)];rfl
    rw [e,decide_eq_false (show¬w<0 by grind)];rfl
set_option linter.unusedVariables false
set_option maxHeartbeats 4000000
set_option maxRecDepth 100000
theorem c5j(a b:Big)(hl:a.Digits.length<1099511627776):EvF tt 268 [.v (eB a),.v (eB b)] (B (decide (a=b))):=by
 obtain⟨s,x⟩:=a;obtain⟨t,y⟩:=b
 replace hl:x.length<1099511627776:=hl
 have hxl:(ns x).length=x.length:=List.length_map ..;have hyl:(ns y).length=y.length:=List.length_map ..;refine evF (eIn Tryz.func268 rfl rfl ?_)
 by_cases hs:s=t
 ·subst hs;have hd:decide ((⟨s,x⟩:Big)=⟨s,y⟩)=decide (x=y):=by by_cases h:x=y<;>simp [h]
  rw [hd]
  by_cases hlen:x.length=y.length
  ·refine qN rfl (by show(!(s==s))=false;simp) ?_;refine qN rfl (by show(!((((ns x).length:Nat):Int)==(((ns y).length:Nat):Int)))=false;rw [hxl,hyl,hlen];simp) ?_;refine qF x.length (fun z _=> [(5,I z)]) (fun _ _=> []) (fun j(_:Unit)=>decide (x=y)=decide (x.drop j=y.drop j)) () rfl rfl rfl ?_;rintro j _ hj hq ih;have hq:decide (x=y)=decide (x.drop j=y.drop j):=hq;refine qXl (g:=N) (l:=x) rfl rfl rfl hj (fun c hc hd2 hlt=> ?_) (fun hd2 hj=> ?_)
   ·have hj2:j<y.length:=by omega
    have hy:=List.getElem?_eq_getElem hj2;generalize y[j]=e at hy;rw [hd2,a1p hy]at hq;refine qXi (g:=N) rfl (Int.natCast_nonneg _) (by rw [Int.toNat_natCast];exact hy) ?_;refine qE rfl (by kernel_rfl) (by kernel_rfl) ?_
    by_cases hce:c=e
    ·have g:=ih _ () (a0a (by omega)) hlt (by rw [hq,hce,decide_eq_decide];simp);clear ih;refine qN rfl (by show(!(c==e))=false;simp [hce]) ?_;exact qB g (by kernel_rfl)
    clear ih;have hf:decide (c::List.drop (j+1) x=e::List.drop (j+1) y)=false:=decide_eq_false (by simp [hce]);rw [hq,hf];refine qT rfl (by show(!(c==e))=true;simp [hce]) ?_;exact qR rfl ⟨rfl,rfl⟩
   clear ih;rw [hq,hd2,List.drop_of_length_le (by omega)];exact qR rfl ⟨rfl,rfl⟩
  rw [decide_eq_false (fun h=>hlen (by rw [h]))];refine qN rfl (by show(!(s==s))=false;simp) ?_;refine qT rfl (by show(!((((ns x).length:Nat):Int)==(((ns y).length:Nat):Int)))=true;rw [hxl,hyl];simp;omega) ?_;exact qR rfl ⟨rfl,rfl⟩
 rw [decide_eq_false (fun h=>hs (by injection h))];refine qT rfl (by show(!(s==t))=true;simp [hs]) ?_;exact qR rfl ⟨rfl,rfl⟩
theorem b7p(f g:Frac)(hp:f.P.Digits.length<1099511627776)(hq:f.Q.Digits.length<1099511627776):EvF tt 216 [.v (eF f),.v (eF g)] (B (decide (f=g))):=by
 obtain⟨P,Q⟩:=f;obtain⟨P',Q'⟩:=g;have hd:decide ((⟨P,Q⟩:Frac)=⟨P',Q'⟩)=(decide (P=P')&&decide (Q=Q')):=by by_cases h:P=P'<;>by_cases h2:Q=Q'<;>simp [h,h2]
 rw [hd];have h1:=c5j P P' hp;have h2:=c5j Q Q' hq;refine evF (eIn Tryz.func216 rfl rfl ?_);cases hb:decide (P=P')with
 |false=>
  rw [hb]at h1;refine qK rfl (h1) rfl ?_;refine qN rfl rfl ?_;exact qR rfl ⟨rfl,rfl⟩
 |true=>
  rw [hb]at h1;refine qK rfl (h1) rfl ?_;refine qT rfl rfl ?_;refine qK rfl (h2) rfl ?_;exact qR rfl ⟨rfl,rfl⟩
set_option linter.unusedVariables false
set_option maxHeartbeats 4000000
set_option maxRecDepth 100000
theorem b8q{s:Sy}{g:List Trm}{o:Opt}{k n:Nat}(hS:SyOk s k)(hk:k<=70)(hk1:1<=k)(ht:∀r∈s.Rows,r.Terms.length<=n)(hn:n<=100)(hO:OOk o k)(hg:g.length<=n)(hgs:∀t∈g,SmF k t.2):
 EvF tt 156 [.v (eSy s),L (g.map eTm),.v (eOp o)] (B (chkB s g o)):=by
 have h1:=a9g hS (by omega);have b1:=Nat.mul_le_mul hn (show k+k+1<=141 by omega);have hlow:EvF tt 51 [.v (eSy s),L (g.map eTm),L (fs o.Y)] (.tup [.v (eF (lowF s g o.Y)),B (lowB s g o.Y)]):=d4f hS hk hk1 (fun r hr=>by have:=ht r hr;omega) hO.y (by omega) hgs;have hsol:=d8j hS hO.x ht (by omega) (by omega) (by omega) (by omega) hk1;have hval:EvF tt 214 [L (g.map eTm),L (fs o.X)] (.tup [.v (eF (atV g o.X)),B (valB g o.X)]):=b7i (n:=n) hgs hO.x hg (by omega) (by omega) (by omega);have hrft:=b4e hS hk hk1 (fun r hr=>by have:=ht r hr;omega) hO.y;have hray:=f0c (g:=g) hS hO.ray ht hg hgs (by omega) (by omega) (by omega) (by omega) hk1;have hat:(atV g o.X).P.Digits.length<=3000000/\(atV g o.X).Q.Digits.length<=3000000:=by
  unfold atV;split
  ·rename_i h;unfold valB at h;rw [Bool.and_eq_true]at h;exact a4a ((a4g hgs (b5d hO.x.dig h.2).2 hg hk1).mono (show _<=3000000 by omega))
  decide
 have hlv:(lowF s g o.Y).P.Digits.length<=3000000/\(lowF s g o.Y).Q.Digits.length<=3000000:=by
  unfold lowF;split
  ·rename_i h;exact a4a ((b4v hS hO.y h).mono (show _<=3000000 by omega))
  decide
 have hsm1:=b7p (atV g o.X) o.Value (by omega) (by omega);have hsm2:=b7p (lowF s g o.Y) o.Value (by omega) (by omega);have hv:=hO.val;have hemp:EvF tt 216 [.v (eF o.Value),.v (eF zeroF)] (B (decide (o.Value=zeroF))):=b7p o.Value zeroF (by omega) (by omega);have hsml:∀l:List Frac,((((fs l).length:Nat):Int)==0)=decide (l= []):=fun l=>by
  cases l with
  |nil=>rfl
  |cons x l=>rw [decide_eq_false (by simp),beq_eq_false_iff_ne];rw [List.length_map,List.length_cons];omega
 refine evF (eIn Tryz.func156 rfl rfl ?_);unfold chkB;cases hr:sysR s with
 |false=>
  rw [hr]at h1;refine qK rfl (h1) rfl ?_;refine qT rfl rfl ?_;exact qR rfl ⟨rfl,rfl⟩
 |true=>
  rw [hr]at h1;obtain⟨r1,r2,r3,r4⟩:=a5h hr;have h2:=a2w (n:=s.N) (by omega) hgs (show k<4000000 by omega) r1;cases hrg:rtT s.N (-1) g with
  |false=>
   rw [hrg]at h2;refine qK rfl (h1) rfl ?_;refine qN rfl rfl ?_;refine qK rfl (h2) rfl ?_;refine qT rfl rfl ?_;exact qR rfl ⟨rfl,rfl⟩
  |true=>
   rw [hrg]at h2;refine qK rfl h1 rfl ?_;refine qN rfl rfl ?_;refine qK rfl h2 rfl ?_;refine qN rfl rfl ?_
   by_cases k0:o.Kind=0
   ·rw [if_pos k0];refine qT rfl (by rw [k0];rfl) ?_;refine qK rfl hval rfl ?_;refine qK rfl hlow rfl ?_;refine qK rfl hsol rfl ?_;cases solB s o.X with
    |false=>
     rw [Bool.and_false];refine qN rfl rfl ?_;exact qR rfl ⟨rfl,rfl⟩
    |true=>
     refine qT rfl rfl ?_;cases lowB s g o.Y with
     |false=>
      refine qN rfl rfl ?_;exact qR rfl ⟨rfl,rfl⟩
     |true=>
      refine qT rfl rfl ?_;refine qK rfl hsm1 rfl ?_;cases decide (atV g o.X=o.Value)with
      |false=>
       refine qN rfl rfl ?_;exact qR rfl ⟨rfl,rfl⟩
      |true=>
       refine qT rfl rfl ?_;refine qK rfl hsm2 rfl ?_;cases decide (lowF s g o.Y=o.Value)with
       |false=>
        refine qN rfl rfl ?_;exact qR rfl ⟨rfl,rfl⟩
       |true=>
        refine qT rfl rfl ?_;refine qR rfl ⟨congrArg B ?_,rfl⟩;exact hsml o.Ray
   rw [if_neg k0];refine qN rfl (by simp [k0]) ?_
   by_cases k1:o.Kind=1
   ·rw [if_pos k1];refine qT rfl (by rw [k1];rfl) ?_;refine qK rfl hrft rfl ?_;cases rftB s o.Y with
    |false=>
     refine qN rfl rfl ?_;exact qR rfl ⟨rfl,rfl⟩
    |true=>
     refine qT rfl rfl ?_;cases hx:decide (o.X= [])with
     |false=>
      refine qN rfl (by rw [<-hx];exact hsml o.X) ?_;exact qR rfl ⟨rfl,rfl⟩
     |true=>
      refine qT rfl (by rw [<-hx];exact hsml o.X) ?_;cases hy:decide (o.Ray= [])with
      |false=>
       refine qN rfl (by rw [<-hy];exact hsml o.Ray) ?_;exact qR rfl ⟨rfl,rfl⟩
      |true=>
       refine qT rfl (by rw [<-hy];exact hsml o.Ray) ?_;refine qK rfl hemp rfl ?_;exact qR rfl ⟨rfl,rfl⟩
   rw [if_neg k1];refine qN rfl (by simp [k1]) ?_
   by_cases k2:o.Kind=2
   ·rw [if_pos k2];refine qT rfl (by rw [k2];rfl) ?_;refine qK rfl hsol rfl ?_;cases solB s o.X with
    |false=>
     refine qN rfl rfl ?_;exact qR rfl ⟨rfl,rfl⟩
    |true=>
     refine qT rfl rfl ?_;refine qK rfl hray rfl ?_;cases rayB s g o.Ray with
     |false=>
      refine qN rfl rfl ?_;exact qR rfl ⟨rfl,rfl⟩
     |true=>
      refine qT rfl rfl ?_;cases hy:decide (o.Y= [])with
      |false=>
       refine qN rfl (by rw [<-hy];exact hsml o.Y) ?_;exact qR rfl ⟨rfl,rfl⟩
      |true=>
       refine qT rfl (by rw [<-hy];exact hsml o.Y) ?_;refine qK rfl hemp rfl ?_;exact qR rfl ⟨rfl,rfl⟩
   rw [if_neg k2];refine qN rfl (by simp [k2]) ?_;exact qR rfl ⟨rfl,rfl⟩
set_option linter.unusedVariables false
set_option maxHeartbeats 4000000
set_option maxRecDepth 100000
theorem e2u{l:List Trm}{k n:Nat}(hs:∀t∈l,SmF k t.2)(hl:l.length<=n):(oppT l).length<=n/\∀t∈oppT l,SmF k t.2:=by
 unfold oppT;split
 ·unfold timT;refine⟨by rw [List.length_map];exact hl,fun t ht=> ?_⟩;obtain⟨u,hu,rfl⟩:=List.mem_map.1 ht;have h:=(hs u hu).neg;show SmF k (u.2*-1)
  rwa [show u.2*-1=-u.2 by grind]
 exact⟨Nat.zero_le _,by simp⟩
theorem c6t{s:Sy}{g:List Trm}{r:Rng}{k n:Nat}(hS:SyOk s k)(hk:k<=70)(hk1:1<=k)(ht:∀r∈s.Rows,r.Terms.length<=n)(hn:n<=100)(h1:OOk r.Least k)(h2:OOk r.Most k)(hg:g.length<=n)(hgs:∀t∈g,SmF k t.2):
 EvF tt 90 [.v (eSy s),L (g.map eTm),.v (eRg r)] (B (decide (r.Least.Kind≠1)&&decide (r.Most.Kind≠1)&&(chkB s g r.Least&&chkB s (oppT g) r.Most))):=by
 obtain⟨o1,o2⟩:=e2u hgs hg;have c1:=b8q hS hk hk1 ht hn h1 hg hgs;have c2:=b8q hS hk hk1 ht hn h2 o1 o2;have co:EvF tt 157 [L (g.map eTm)] (L ((oppT g).map eTm)):=e8t hgs (by omega) (by omega);refine evF (eIn Tryz.func90 rfl rfl ?_)
 by_cases k1:r.Least.Kind=1
 ·rw [decide_eq_false (show¬r.Least.Kind≠1 by simp [k1])];refine qT rfl (by rw [k1];rfl) ?_;exact qR rfl ⟨rfl,rfl⟩
 rw [decide_eq_true (show r.Least.Kind≠1 from k1)];refine qN rfl (by simp [k1]) ?_
 by_cases k2:r.Most.Kind=1
 ·rw [decide_eq_false (show¬r.Most.Kind≠1 by simp [k2])];refine qT rfl (by rw [k2];rfl) ?_;exact qR rfl ⟨rfl,rfl⟩
 rw [decide_eq_true (show r.Most.Kind≠1 from k2)];refine qN rfl (by simp [k2]) ?_;refine qK rfl c1 rfl ?_;cases chkB s g r.Least with
 |false=>
  refine qN rfl rfl ?_;refine qE rfl (by kernel_rfl) (by kernel_rfl) ?_;exact qR rfl ⟨rfl,rfl⟩
 |true=>
  refine qT rfl rfl ?_;refine qK rfl (co) rfl ?_;refine qK rfl (c2) rfl ?_;refine qE rfl (by kernel_rfl) (by kernel_rfl) ?_;exact qR rfl ⟨rfl,rfl⟩
set_option linter.unusedVariables false
set_option maxHeartbeats 4000000
set_option maxRecDepth 100000
def pkB(e:Evi)(ps:List Pck):Bool:=decide (a1t e=0)&&(pkV e [] ps).isSome
def pkOk(e:Evi)(pre:List Pck)(p:Pck):Bool:= !(decide (p.Move<0)||decide ((e.Moves.length:Int)<=p.Move)||decide (p.Material<0)||decide (e.Materials<=p.Material)||pre.any (a1i p))
theorem d8y{e:Evi}{pre:List Pck}{p:Pck}{l:List Pck}:(pkV e pre (p::l)).isSome=(pkOk e pre p&&(pkV e (pre++ [p]) l).isSome):=by
 rw [show pkV e pre (p::l)=if p.Move<0∨(e.Moves.length:Int)<=p.Move∨p.Material<0∨e.Materials<=p.Material∨pre.any (a1i p)=true then none else match pkV e (pre++ [p]) l with
  |none=>none
  |some r=>some ((p.Move*e.Materials+p.Material)::r)from rfl]
 unfold pkOk
 by_cases h1:p.Move<0
 ·rw [if_pos (.inl h1),decide_eq_true h1];rfl
 by_cases h2:(e.Moves.length:Int)<=p.Move
 ·rw [if_pos (.inr (.inl h2)),decide_eq_true h2];simp
 by_cases h3:p.Material<0
 ·rw [if_pos (.inr (.inr (.inl h3))),decide_eq_true h3];simp
 by_cases h4:e.Materials<=p.Material
 ·rw [if_pos (.inr (.inr (.inr (.inl h4)))),decide_eq_true h4];simp
 cases h5:pre.any (a1i p)with
 |true=>rw [if_pos (.inr (.inr (.inr (.inr rfl))))];simp
 |false=>
  rw [if_neg (by simp [h1,h2,h3,h4]),decide_eq_false h1,decide_eq_false h2,decide_eq_false h3,decide_eq_false h4];cases pkV e (pre++ [p]) l<;>rfl
theorem c5x{e:Evi}{ps:List Pck}(hl:ps.length<=100000):EvF tt 89 [.v (eEv e),L (ps.map ePk)] (B (pkB e ps)):=by
 have hfl:=c2g e;refine evF (eIn Tryz.func89 rfl rfl ?_);refine qK rfl hfl rfl ?_;unfold pkB
 by_cases hf:a1t e=0
 rotate_left
 ·rw [decide_eq_false hf];refine qT rfl (bne_iff_ne.2 hf) ?_;exact qR rfl ⟨rfl,rfl⟩
 rw [decide_eq_true hf,Bool.true_and,hf];have hG:=a1o hf;have g1:=hG.mov;have g2:=hG.mat;refine qN rfl rfl ?_;refine qF ps.length (fun z _=> [(5,I z)]) (fun _ _=> []) (fun i(_:Unit)=>(pkV e [] ps).isSome=(pkV e (ps.take i) (ps.drop i)).isSome) () rfl rfl rfl ?_;rintro i ⟨⟩ hi hJ ih;have hJ:(pkV e [] ps).isSome=(pkV e (ps.take i) (ps.drop i)).isSome:=hJ
 by_cases hlt:i<ps.length
 ·have hp:=List.getElem?_eq_getElem hlt;have hd:=a1p hp;generalize ps[i]=p at hp hd;have hp2:ps[Int.toNat (i:Int)]?=some p:=by rw [Int.toNat_natCast];exact hp
  rw [hd,d8y,<-a1h hp]at hJ;have g:=fun h=>ih _ () (a0a (by omega)) hlt h;clear ih;refine qT rfl (decide_eq_true (by rw [List.length_map];omega)) ?_;refine qXi (g:=ePk) rfl (Int.natCast_nonneg _) hp2 ?_
  by_cases r1:p.Move<0
  ·have:(pkV e [] ps).isSome=false:=by rw [hJ];unfold pkOk;simp [r1]
   rw [this];refine qT rfl (decide_eq_true r1) ?_;exact qR rfl ⟨rfl,rfl⟩
  refine qN rfl (decide_eq_false r1) ?_
  by_cases r2:(e.Moves.length:Int)<=p.Move
  ·have:(pkV e [] ps).isSome=false:=by rw [hJ];unfold pkOk;simp [r2]
   rw [this];refine qT rfl (decide_eq_true (by rw [List.length_map];exact r2)) ?_;exact qR rfl ⟨rfl,rfl⟩
  refine qN rfl (decide_eq_false (by rw [List.length_map];exact r2)) ?_
  by_cases r3:p.Material<0
  ·have:(pkV e [] ps).isSome=false:=by rw [hJ];unfold pkOk;simp [r3]
   rw [this];refine qT rfl (decide_eq_true r3) ?_;exact qR rfl ⟨rfl,rfl⟩
  refine qN rfl (decide_eq_false r3) ?_
  by_cases r4:e.Materials<=p.Material
  ·have:(pkV e [] ps).isSome=false:=by rw [hJ];unfold pkOk;simp [r4]
   rw [this];refine qT rfl (decide_eq_true r4) ?_;exact qR rfl ⟨rfl,rfl⟩
  refine qN rfl (decide_eq_false r4) ?_;have hok:pkOk e (ps.take i) p= !(ps.take i).any (a1i p):=by unfold pkOk;simp [r1,r2,r3,r4]
  rw [hok]at hJ;refine qF i (fun z _=> [(7,I z)]) (fun _ _=> []) (fun k(_:Unit)=>(ps.take i).any (a1i p)=((ps.take i).drop k).any (a1i p)) () rfl rfl rfl ?_;rintro k ⟨⟩ hk hJ2 ih2;have hJ2:(ps.take i).any (a1i p)=((ps.take i).drop k).any (a1i p):=hJ2
  by_cases hki:k<i
  ·have hq:=List.getElem?_eq_getElem (show k<ps.length by omega);generalize ps[k]=q at hq;have hq2:ps[Int.toNat (k:Int)]?=some q:=by rw [Int.toNat_natCast];exact hq
   have hq3:(ps.take i)[k]?=some q:=by rw [List.getElem?_take,if_pos hki];exact hq
   rw [a1p hq3,List.any_cons]at hJ2;have g2:=fun h=>ih2 _ () (a0a (by omega)) hki h;clear ih2;refine qT rfl (decide_eq_true (by omega)) ?_;refine qXi (g:=ePk) rfl (Int.natCast_nonneg _) hq2 ?_;refine qE rfl (by kernel_rfl) (by kernel_rfl) ?_;have hs:a1i p q=true↔(q.Move=p.Move/\q.Material=p.Material):=by unfold a1i;simp;constructor<;>rintro⟨a,b⟩<;>exact⟨a.symm,b.symm⟩
   refine qC rfl (fun h=> ?_) (fun h=> ?_)
   ·have h':a1i p q=true:=hs.2 (by simpa using h);have:(pkV e [] ps).isSome=false:=by rw [hJ,hJ2,h'];rfl
    rw [this];exact qR rfl ⟨rfl,rfl⟩
   have h':a1i p q=false:=by
    cases hq:a1i p q with
    |false=>rfl
    |true=>exact absurd (by simpa using hs.1 hq) h
   exact qB (g2 (by rw [hJ2,h'];rfl)) (by kernel_rfl)
  obtain rfl:k=i:=by omega
  have hd0:(ps.take k).drop k= []:=List.drop_eq_nil_of_le (by rw [List.length_take];omega);rw [hd0]at hJ2;have hJ2:(ps.take k).any (a1i p)=false:=hJ2;rw [hJ2]at hJ;clear ih2;refine qN rfl (decide_eq_false (by omega)) ?_;exact qB (g (by rw [hJ];rfl)) (by kernel_rfl)
 have hd:ps.drop i= []:=List.drop_eq_nil_of_le (by omega);rw [hd]at hJ;have hJ:(pkV e [] ps).isSome=true:=hJ;rw [hJ];clear ih;refine qN rfl (decide_eq_false (by rw [List.length_map];omega)) ?_;exact qR rfl ⟨rfl,rfl⟩
theorem e5y{M m1 a1 m2 a2:Int}(h1:0<=a1/\a1<M)(h2:0<=a2/\a2<M)(h:m1*M+a1=m2*M+a2):m1=m2/\a1=a2:=by
 have e1:(m1*M+a1) %M=a1:=by rw [Int.add_comm,Int.add_mul_emod_self_right];exact Int.emod_eq_of_lt h1.1 h1.2
 have e2:(m2*M+a2) %M=a2:=by rw [Int.add_comm,Int.add_mul_emod_self_right];exact Int.emod_eq_of_lt h2.1 h2.2
 have e3:a1=a2:=by rw [<-e1,h,e2]
 refine⟨?_,e3⟩;rw [e3]at h;exact Int.eq_of_mul_eq_mul_right (by omega) (show m1*M=m2*M by omega)
def pkv(e:Evi)(p:Pck):Int:=p.Move*e.Materials+p.Material
structure PkOk(e:Evi)(p:Pck):Prop where
 mv:0<=p.Move/\p.Move<e.Moves.length
 mt:0<=p.Material/\p.Material<e.Materials
theorem PkOk.rng{e:Evi}{p:Pck}(h:PkOk e p):0<=pkv e p/\pkv e p<e.Moves.length*e.Materials:=by
 have h1:=h.mv;have h2:=h.mt;have h3:=Int.mul_le_mul_of_nonneg_right (show p.Move<=(e.Moves.length:Int)-1 by omega) (show 0<=e.Materials by omega);have h4:=Int.mul_nonneg h1.1 (show 0<=e.Materials by omega);rw [Int.sub_mul,Int.one_mul]at h3;unfold pkv;omega
theorem c2k{e:Evi}:∀{l pre:List Pck}{r:List Int},pkV e pre l=some r->r=l.map (pkv e)/\r.Nodup/\∀p∈l,PkOk e p/\pre.any (a1i p)=false
 | [],_,r,h=>by cases h;simp
 |p::l,pre,r,h=>by
  unfold pkV at h;split at h
  ·cases h
  rename_i hc;simp only [not_or,Bool.not_eq_true]at hc;obtain⟨c1,c2,c3,c4,c5⟩:=hc;split at h
  ·cases h
  rename_i r' h';cases h;obtain⟨h1,h2,h3⟩:=c2k h';have hp:PkOk e p:=⟨⟨by omega,by omega⟩,by omega,by omega⟩
  refine⟨by rw [h1];rfl,List.nodup_cons.2 ⟨fun hm=> ?_,h2⟩,fun q hq=> ?_⟩
  ·rw [h1]at hm;obtain⟨q,hq,he⟩:=List.mem_map.1 hm;obtain⟨q1,q2⟩:=h3 q hq;obtain⟨i1,i2⟩:=e5y q1.mt hp.mt he;rw [List.any_append,Bool.or_eq_false_iff]at q2;have:=q2.2;simp [a1i,i1,i2]at this
  rcases List.mem_cons.1 hq with rfl|hq
  ·exact⟨hp,c5⟩
  obtain⟨q1,q2⟩:=h3 q hq;rw [List.any_append,Bool.or_eq_false_iff]at q2;exact⟨q1,q2.1⟩
set_option linter.unusedVariables false
set_option maxHeartbeats 4000000
set_option maxRecDepth 100000
theorem a9y{cs:List Crt}{sc day:Int}{k:Nat}{a:Crt}{l:List Crt}{q:Nat×Bool}:a4n cs sc day k (a::l) q=a4n cs sc day (k+1) l (if a.Scale=sc/\covC a day=true/\(q.2=false∨a7i cs q.1<=a.From)then(k,true)else q):=rfl
theorem b7t{cs:List Crt}{sc day:Int}:∀(l:List Crt)(i:Nat)(q:Nat×Bool),cs.drop i=l->(q.2=true->∃c,cs[q.1]?=some c/\covC c day=true)->(a4n cs sc day i l q).2=true->∃c,cs[(a4n cs sc day i l q).1]?=some c/\covC c day=true
 | [],i,q,_,h,h2=>h h2
 |a::l,i,q,hd,h,h2=>by
  rw [a9y]at h2⊢;have ha:cs[i]?=some a:=by
   have:=congrArg List.head? hd;rw [List.head?_drop]at this;exact this
  refine b7t l (i+1) _ (by rw [<-List.drop_drop,hd];rfl) ?_ h2;split
  ·rename_i hc;intro _;exact⟨a,ha,hc.2.1⟩
  exact h
theorem e4g(cs:List Crt)(sc day:Int)(hl:cs.length<1000000):EvF tt 269 [L (cs.map eCr),I sc,I day] (.tup [I (a4n cs sc day 0 cs (0,false)).1,B (a4n cs sc day 0 cs (0,false)).2]):=by
 refine evF (eIn Tryz.func269 rfl rfl ?_);refine qF cs.length (fun z(q:Nat×Bool)=> [(9,I z),(8,I (bif q.2 then((q.1:Nat):Int)else-1))]) (fun _ _=> []) (fun k(q:Nat×Bool)=>a4n cs sc day 0 cs (0,false)=a4n cs sc day k (cs.drop k) q/\(q.2=true->q.1<cs.length)/\(q.2=false->q.1=0)) (0,false) rfl rfl ⟨rfl,by simp,fun _=>rfl⟩ ?_;rintro k ⟨best,found⟩ hk ⟨hJ,hb,hz⟩ ih;cases found with
 |true=>
  have hb:best<cs.length:=hb rfl;clear hz;have em:imax ((best:Nat):Int) 0=(best:Int):=by unfold imax;split<;>omega
  refine qXl (g:=eCr) (l:=cs) rfl rfl rfl hk (fun a ha hd hlt=> ?_) (fun hd hk=> ?_)
  ·rw [hd,a9y]at hJ;have hat:=List.getElem?_eq_getElem hb;have hfa:a7i cs best=(cs[best]).From:=by unfold a7i;rw [hat]
   generalize cs[best]=d at hat hfa;have b0:=b3i a;have b1:=a8o day a.From a.Until;have hcv:covC a day=(a0o a&&btw day a.From a.Until):=by simp [covC,btw,Bool.and_assoc]
   have g0:=fun(h:¬(a.Scale=sc/\covC a day=true/\(true=false∨a7i cs best<=a.From)))=>ih _ (best,true) (a0a (by omega)) hlt ⟨by rw [hJ,if_neg h],fun _=>hb,nofun⟩;have g1:=fun(h:a.Scale=sc/\covC a day=true/\(true=false∨a7i cs best<=a.From))=>ih _ (k,true) (a0a (by omega)) hlt ⟨by rw [hJ,if_pos h],fun _=>hlt,nofun⟩;clear ih;rw [hcv]at g0 g1;cases c1:a0o a with
   |false=>
    rw [c1]at b0;have g:=g0 (by simp [c1]);refine qK rfl (b0) rfl ?_;refine qN rfl rfl ?_;refine qE rfl (by kernel_rfl) (by kernel_rfl) ?_;exact qB g (by kernel_rfl)
   |true=>
   rw [c1]at b0;refine qK rfl b0 rfl ?_;refine qT rfl rfl ?_
   by_cases c2:a.Scale=sc
   rotate_left
   ·have g:=g0 (by simp [c2]);refine qN rfl (by simpa using c2) ?_;refine qE rfl (by kernel_rfl) (by kernel_rfl) ?_;exact qB g (by kernel_rfl)
   refine qT rfl (by simpa using c2) ?_;cases c3:btw day a.From a.Until with
   |false=>
    rw [c3]at b1;have g:=g0 (by simp [c3]);refine qK rfl (b1) rfl ?_;refine qN rfl rfl ?_;refine qE rfl (by kernel_rfl) (by kernel_rfl) ?_;exact qB g (by kernel_rfl)
   |true=>
   rw [c3]at b1;refine qK rfl b1 rfl ?_;refine qT rfl rfl ?_;refine qN rfl (decide_eq_false (by show¬((best:Nat):Int)<0;omega)) ?_;refine qXi (g:=eCr) rfl (by show 0<=imax ((best:Nat):Int) 0;rw [em];exact Int.natCast_nonneg _) (by show cs[Int.toNat (imax ((best:Nat):Int) 0)]?=some d;rw [em,Int.toNat_natCast];exact hat) ?_;refine qE rfl (by kernel_rfl) (by kernel_rfl) ?_
   by_cases c4:d.From<=a.From
   ·have g:=g1 ⟨c2,by simp [c1,c3],.inr (by rw [hfa];exact c4)⟩;refine qT rfl (decide_eq_true c4) ?_;exact qB g (by kernel_rfl)
   have g:=g0 (by rw [hfa];simp [c4]);refine qN rfl (decide_eq_false c4) ?_;exact qB g (by kernel_rfl)
  rw [hd]at hJ;rw [hJ];clear ih;exact qR rfl ⟨rfl,rfl⟩;all_goals exact em
 |false=>
  obtain rfl:best=0:=hz rfl;clear hb;refine qXl (g:=eCr) (l:=cs) rfl rfl rfl hk (fun a ha hd hlt=> ?_) (fun hd hk=> ?_)
  ·rw [hd,a9y]at hJ;have b0:=b3i a;have b1:=a8o day a.From a.Until;have hcv:covC a day=(a0o a&&btw day a.From a.Until):=by simp [covC,btw,Bool.and_assoc]
   have g0:=fun(h:¬(a.Scale=sc/\covC a day=true/\(false=false∨a7i cs 0<=a.From)))=>ih _ (0,false) (a0a (by omega)) hlt ⟨by rw [hJ,if_neg h],nofun,fun _=>rfl⟩;have g1:=fun(h:a.Scale=sc/\covC a day=true/\(false=false∨a7i cs 0<=a.From))=>ih _ (k,true) (a0a (by omega)) hlt ⟨by rw [hJ,if_pos h],fun _=>hlt,nofun⟩;clear ih;rw [hcv]at g0 g1;cases c1:a0o a with
   |false=>
    rw [c1]at b0;have g:=g0 (by simp [c1]);refine qK rfl (b0) rfl ?_;refine qN rfl rfl ?_;refine qE rfl (by kernel_rfl) (by kernel_rfl) ?_;exact qB g (by kernel_rfl)
   |true=>
   rw [c1]at b0;refine qK rfl b0 rfl ?_;refine qT rfl rfl ?_
   by_cases c2:a.Scale=sc
   rotate_left
   ·have g:=g0 (by simp [c2]);refine qN rfl (by simpa using c2) ?_;refine qE rfl (by kernel_rfl) (by kernel_rfl) ?_;exact qB g (by kernel_rfl)
   refine qT rfl (by simpa using c2) ?_;cases c3:btw day a.From a.Until with
   |false=>
    rw [c3]at b1;have g:=g0 (by simp [c3]);refine qK rfl (b1) rfl ?_;refine qN rfl rfl ?_;refine qE rfl (by kernel_rfl) (by kernel_rfl) ?_;exact qB g (by kernel_rfl)
   |true=>
   rw [c3]at b1;refine qK rfl b1 rfl ?_;refine qT rfl rfl ?_;have g:=g1 ⟨c2,by simp [c1,c3],.inl rfl⟩;refine qT rfl rfl ?_;refine qE rfl (by kernel_rfl) (by kernel_rfl) ?_;exact qB g (by kernel_rfl)
  rw [hd]at hJ;rw [hJ];clear ih;exact qR rfl ⟨rfl,rfl⟩
theorem d5s{c:Crt}{reading day:Int}(h:covC c day=true/\btw reading 0 1099511627776=true):EvF tt 272 [.v (eCr c),I reading,I day] (.tup [.v (eF (toF (errC c reading day))),B true]):=by
 have hh:=h;simp only [covC,a0o,btw,Bool.and_eq_true,decide_eq_true_eq]at hh;have hcr:a0o c=true:=by have:=h.1;simp only [covC,Bool.and_eq_true]at this;exact this.1.1
 have b0:=b3i c;rw [hcr]at b0;have b1:=a8o reading 0 1099511627776;rw [h.2]at b1;have b2:=a8o day c.From c.Until;rw [show btw day c.From c.Until=true by rw [a2q];omega]at b2;have h1:=a3y (a:=c.PerMille) (b:=reading) (A:=1000) (C:=1099511627776) (by omega) (by omega) (by omega) (by omega);have h2:=a3y (a:=c.Drift) (b:=day-c.From) (A:=10000000) (C:=100000) (by omega) (by omega) (by omega) (by omega);have hof:EvF tt 106 [I (imul .i64 c.PerMille reading),I 1000] (.tup [.v (eF (toF (Rat.divInt (c.PerMille*reading) 1000))),I 0]):=by
  rw [a0s (by omega) (by omega)];exact e0w (by omega) (by omega) (by decide) (by decide) (by decide)
 have hin:EvF tt 55 [I (iadd .i64 c.Grams (imul .i64 c.Drift (isub .i64 day c.From)))] (.v (eF (toF ((c.Grams+c.Drift*(day-c.From):Int):Rat)))):=by
  rw [a0c (by omega) (by omega),a0s (by omega) (by omega),a0e (by omega) (by omega)];exact a3b (by omega) (by omega)
 have had:=rfadd_e (a3r (x:=c.Grams+c.Drift*(day-c.From)) (by omega)) (a4o (p:=c.PerMille*reading) (q:=1000) (k:=4) (a0n (a7t (by omega))) (a0n (a7t (by decide))) (by decide)) (by decide);rw [Rat.add_comm]at had;have e:errC c reading day=Rat.divInt (c.PerMille*reading) 1000+((c.Grams+c.Drift*(day-c.From):Int):Rat):=rfl;rw [e];clear e h1 h2 hh h;generalize Rat.divInt (c.PerMille*reading) 1000=u at*;generalize ((c.Grams+c.Drift*(day-c.From):Int):Rat)=v at*;refine evF (eIn Tryz.func272 rfl rfl ?_);refine qK rfl (b0) rfl ?_;refine qN rfl rfl ?_;refine qK rfl (b1) rfl ?_;refine qN rfl rfl ?_;refine qK rfl (b2) rfl ?_;refine qN rfl rfl ?_;refine qK rfl (hof) rfl ?_;refine qK rfl (hin) rfl ?_;refine qK rfl (had) rfl ?_;refine qE rfl (by kernel_rfl) (by kernel_rfl) ?_;exact qR rfl ⟨rfl,rfl⟩
theorem e2i{a:Rat}:maxQ a 0=if a<0 then 0 else a:=rfl
theorem b3f(e:Evi)(m:Mve)(hc:e.Certs.length<1000000)(hr:e.Recalls.length<=100000):EvF tt 221 [L (e.Certs.map eCr),L (e.Recalls.map eRc),I m.Scale,I m.Reading,I m.Day] (match itvl e m with
 |some (lo,hi)=> .tup [.v (eF (toF lo)),.v (eF (toF hi)),B true]
 |none=> .tup [.v (eF zeroF),.v (eF zeroF),B false]):=by
 have hfi:=e4g e.Certs m.Scale m.Day hc;have hrec:=e5m (l:=e.Recalls) (sc:=m.Scale) (day:=m.Day) hr;have hin:=a8o m.Reading 0 1099511627776;have hcov:=b7t (cs:=e.Certs) (sc:=m.Scale) (day:=m.Day) e.Certs 0 (0,false) rfl (by simp);refine evF (eIn Tryz.func221 rfl rfl ?_);unfold itvl;cases hf:a4n e.Certs m.Scale m.Day 0 e.Certs (0,false)with
 |mk best found=>
  rw [hf]at hfi hcov;cases found with
  |false=>
   dsimp only;refine qK rfl (hfi) rfl ?_;refine qT rfl rfl ?_;exact qR rfl ⟨rfl,rfl⟩
  |true=>
   obtain⟨c,hat,hcv⟩:=hcov rfl;have hat:e.Certs[best]?=some c:=hat;dsimp only;rw [hat]
   by_cases hrc:rcld e.Recalls m.Scale m.Day=true
   ·rw [if_pos hrc];rw [hrc]at hrec;refine qK rfl (hfi) rfl ?_;refine qN rfl rfl ?_;refine qK rfl (hrec) rfl ?_;refine qT rfl rfl ?_;exact qR rfl ⟨rfl,rfl⟩
   rw [if_neg hrc];have hrc:rcld e.Recalls m.Scale m.Day=false:=by simpa using hrc
   rw [hrc]at hrec;dsimp only
   by_cases hb:btw m.Reading 0 1099511627776=true
   ·rw [if_pos ⟨hcv,hb⟩];rw [hb]at hin;have hr2:=a2q.1 hb;have her:=d5s ⟨hcv,hb⟩;have hse:=c0v ⟨hcv,hb⟩;have hi:=a3b (x:=m.Reading) (by omega) (by omega);have hsi:=a3r (x:=m.Reading) (by omega);have hsub:=rfsub_e hsi hse (by decide);have hadd:=rfadd_e hsi hse (by decide);have hs2:=hsi.sub hse;have h0:=a3b (x:=0) (by decide) (by decide);have hsg:=rfsign_e hs2 (by decide);have hc0:=a0q ((m.Reading:Rat)-errC c m.Reading m.Day) 0;rw [<-a5x]at hc0;rw [e2i];have hat2:e.Certs[Int.toNat ((best:Nat):Int)]?=some c:=by rw [Int.toNat_natCast];exact hat
    generalize errC c m.Reading m.Day=u at*;generalize hw:(m.Reading:Rat)-u=w at*;refine qK rfl hfi rfl ?_;refine qN rfl rfl ?_;refine qK rfl hrec rfl ?_;refine qN rfl rfl ?_;refine qK rfl hin rfl ?_;refine qN rfl rfl ?_;refine qXi (g:=eCr) rfl (Int.natCast_nonneg _) hat2 ?_;refine qK rfl her rfl ?_;refine qK rfl hi rfl ?_;refine qK rfl hsub rfl ?_;refine qE rfl (by kernel_rfl) (by kernel_rfl) ?_;refine qK rfl hi rfl ?_;refine qK rfl hadd rfl ?_;refine qE rfl (by kernel_rfl) (by kernel_rfl) ?_;refine qK rfl hsg rfl ?_
    by_cases hn:w<0
    ·rw [if_pos hn];refine qT rfl (decide_eq_true (by grind)) ?_;refine qK rfl (h0) rfl ?_;refine qE rfl (by kernel_rfl) (by kernel_rfl) ?_;exact qR rfl ⟨rfl,rfl⟩
    rw [if_neg hn];refine qN rfl (decide_eq_false (by grind)) ?_;refine qE rfl (by kernel_rfl) (by kernel_rfl) ?_;exact qR rfl ⟨rfl,rfl⟩
   rw [if_neg (fun h=>hb h.2)];have hb:btw m.Reading 0 1099511627776=false:=by simpa using hb
   rw [hb]at hin;refine qK rfl (hfi) rfl ?_;refine qN rfl rfl ?_;refine qK rfl (hrec) rfl ?_;refine qN rfl rfl ?_;refine qK rfl (hin) rfl ?_;refine qT rfl rfl ?_;exact qR rfl ⟨rfl,rfl⟩
set_option linter.unusedVariables false
set_option maxHeartbeats 4000000
set_option maxRecDepth 100000
abbrev lsH(d b a:Bool)(l:List (Rw×Org)):DH:= [⟨0,0,false,d,false,.box 142 [.row 1 0,.row 2 0]⟩,⟨0,0,false,b,a,.row 187 6 (rwL l)⟩,⟨0,0,false,b,a,.row 228 4 (orL l)⟩]
theorem d5o{cs:List Int}{k:Nat}{c:Int}(hc:cs[k]?=some c):spa 0 (cs.take (k+1))=spa 0 (cs.take k)++(if c=0 then []else [((k:Int),(c:Rat))]):=by
 have hlt:=(List.getElem?_eq_some_iff.1 hc).1;rw [a1h hc,spa_app,List.length_take,Nat.min_eq_left (by omega),Nat.zero_add]
 congr 1
theorem b6l(l:List (Rw×Org))(cs:List Int)(kind:Int)(v:Rat)(o:Org)(hc:cs.length<=10000)(hr:∀c∈cs,-1000000<=c/\c<=1000000)(hl:l.length<1000000):EvH tt 220 [.bp 0 0,L (ns cs),I kind,.v (eF (toF v)),.v (eOr o)] (lsH false false false l) (.tup []) (lsH true true true (l++ [(⟨spa 0 cs,kind,v⟩,o)])):=by
 refine evF (eInH 3 Tryz.func220 rfl rfl rfl ?_);refine qF cs.length (fun z _=> [(11,I z)]) (fun _ ts=> [(3,.row 131 5 ts)]) (fun k ts=>ts=(spa 0 (cs.take k)).map eTm/\ts.length<=k) [] rfl rfl ⟨rfl,Nat.le_refl _⟩ ?_;rintro k ts hk ⟨hts,htn⟩ ih;have hts:ts=(spa 0 (cs.take k)).map eTm:=hts;have htn:ts.length<=k:=htn;refine qXl (g:=N) (l:=cs) rfl rfl rfl hk (fun c hc2 hd hlt=> ?_) (fun hd hk=> ?_)
 ·have hcr:=hr c (List.mem_of_getElem? hc2);have hc3:cs[Int.toNat (k:Int)]?=some c:=by rw [Int.toNat_natCast];exact hc2
  have hfi:=a3b (x:=c) (by omega) (by omega);have hst:=d5o hc2
  by_cases c0:c=0
  ·rw [if_pos c0,List.append_nil]at hst;have g:=ih _ ts (a0a (by omega)) hlt ⟨by rw [hst];exact hts,by omega⟩;clear ih;refine qN rfl (by simpa using c0) ?_;exact qB g (by kernel_rfl)
  rw [if_neg c0]at hst;have g:=ih _ (ts++ [eTm ((k:Int),(c:Rat))]) (a0a (by omega)) hlt ⟨by rw [hst,List.map_append,<-hts];rfl,by simp;omega⟩;clear ih;refine qT rfl (by simpa using c0) ?_;refine qXi (g:=N) rfl (Int.natCast_nonneg _) hc3 ?_;refine qK rfl (hfi) rfl ?_;refine qA 72 rfl rfl ?_ ?_;rotate_left;exact qB g (by kernel_rfl);all_goals (simp;omega)
 clear ih;rw [hk,List.take_length]at hts;subst hts;refine qA 96 rfl rfl ?_ ?_ (fun _=>rfl);rotate_left;refine qE rfl (by kernel_rfl) (by kernel_rfl) ?_;refine qA 32 rfl rfl ?_ ?_ (fun _=>rfl);rotate_left;refine qE rfl (by kernel_rfl) (by kernel_rfl) ?_;refine qR rfl ?_;rotate_left
 ·simp;omega
 ·simp;omega
 refine⟨rfl,?_⟩;unfold lsH rwL orL;rw [List.map_append,List.map_append];rfl
theorem b5h{e:Evi}(h:Good e):EvF tt 93 [.v (eEv e)] (I ((e.Moves.length:Int)*e.Materials)):=by
 have h1:=h.mat;have h2:=h.mov;have:=a3y (a:=(e.Moves.length:Int)) (b:=e.Materials) (A:=200) (C:=6) (by omega) (by omega) (by omega) (by omega);refine evF (eIn Tryz.func93 rfl rfl ?_);refine qR rfl ⟨?_,rfl⟩;show I (imul .i64 ((e.Moves.map eMo).length:Int) e.Materials)=_;rw [List.length_map,a0s (by omega) (by omega)]
theorem b6y(n:Nat):List.replicate n (N 0)=ns (List.replicate n 0):=by unfold ns;rw [List.map_replicate]
theorem f1a{xs:List VT}{z:Int}{v:VT}(h0:0<=z)(h:z.toNat<xs.length):ix (xs.set z.toNat v) z=some v:=by
 unfold ix;rw [if_pos h0];exact List.getElem?_set_self h
theorem d4p{n M:Nat}{g:Nat->Nat->Int}{c:Int}(h:c∈den n M g):∃j m,c=g j m:=by
 unfold den at h;obtain⟨v,-,rfl⟩:=List.mem_map.1 h;exact⟨_,_,rfl⟩
theorem d6c{e:Evi}{x:Mve}{mat k:Nat}:∀c∈den e.Moves.length e.Materials.toNat (stkD e x mat k),-1000000<=c/\c<=1000000:=fun c h=>by
 obtain⟨j,m,rfl⟩:=d4p h;unfold stkD;split
 ·split
  ·unfold stkC;split
   ·omega
   split<;>omega
  omega
 omega
theorem at_e{e:Evi}{M n i m:Nat}(hM:e.Materials=M)(hm:m<M)(hM6:M<=6)(hi:i<n)(hn:n<=200):iadd .i64 (imul .i64 (i:Int) e.Materials) (m:Int)=((i*M+m:Nat):Int)/\i*M+m<n*M:=by
 have h1:i*M+m<n*M:=Nat.lt_of_lt_of_le (show i*M+m<(i+1)*M by rw [Nat.add_mul];omega) (Nat.mul_le_mul_right M hi);have h2:i*M<=200*6:=Nat.mul_le_mul (by omega) hM6;refine⟨?_,h1⟩;rw [hM,a0s (by rw [<-Int.natCast_mul];omega) (by rw [<-Int.natCast_mul];omega),<-Int.natCast_mul,a0e (by omega) (by omega)];omega
theorem d6z{e:Evi}(h:Good e)(l:List (Rw×Org))(i:Nat)(x:Mve)(hx:e.Moves[i]?=some x)(hll:l.length<100000):EvH tt 162 [.bp 0 0,.v (eEv e),I i] (lsH false false false l) (.tup []) (lsH true true true (l++(List.range e.Materials.toNat).map fun mat=>(stkR e i x mat,(⟨0,i,mat,-1⟩:Org)))):=by
 have h1:=h.mat;have h2:=h.mov;have hi:=(List.getElem?_eq_some_iff.1 hx).1;obtain⟨M,hM⟩:∃M:Nat,e.Materials=M:=⟨e.Materials.toNat,by omega⟩
 have hMt:e.Materials.toNat=M:=by omega
 have hva:=b5h h;have hve:((e.Moves.length:Int)*e.Materials)=((e.Moves.length*M:Nat):Int):=by rw [hM];simp
 have hvl:e.Moves.length*M<=200*6:=Nat.mul_le_mul (by omega) (by omega);rw [hve]at hva;have h0:EvF tt 55 [I 0] (.v (eF (toF 0))):=a3b (x:=0) (by decide) (by decide);have hx2:e.Moves[Int.toNat (i:Int)]?=some x:=by rw [Int.toNat_natCast];exact hx
 refine evF (eInH 3 Tryz.func162 rfl rfl rfl ?_);have hn8:(0:Int)<=((e.Moves.length*M:Nat):Int)/\(((e.Moves.length*M:Nat):Int)).toNat*8<=140737488355328:=⟨Int.natCast_nonneg _,by rw [Int.toNat_natCast];omega⟩
 refine qXi (g:=eMo) rfl (Int.natCast_nonneg _) hx2 ?_;refine qXi (g:=eMo) rfl (Int.natCast_nonneg _) hx2 ?_;refine qC rfl (fun hAll=> ?_) (fun hAll=> ?_);all_goals
  refine qFa M (fun z _=> [(8,I z)]) (fun _ q=> [(1,.row 187 6 (rwL q.1)),(2,.row 228 4 (orL q.1))]) (fun q=> [(1,q.2),(2,q.2)]) (fun k(q:List (Rw×Org)×Bool)=>q.1=l++(List.range k).map (fun mat=>(stkR e i x mat,(⟨0,i,mat,-1⟩:Org)))/\(q.2=false->k=0)) (l,false) rfl rfl ⟨by simp,fun _=>rfl⟩ ?_;rintro k ⟨q,b⟩ hk ⟨hq,hb⟩ ih;have hqe:q=l++(List.range k).map (fun mat=>(stkR e i x mat,(⟨0,i,mat,-1⟩:Org))):=hq;clear hq;have hql:q.length<=100006:=by rw [hqe];simp;omega
  cases b;all_goals
   by_cases hlt:k<M
   ·refine qT rfl (decide_eq_true (by rw [hM];omega)) ?_;refine qK rfl hva rfl ?_;refine qM 8 rfl rfl hn8 ?_;refine qF i (fun z _=> [(10,I z)]) (fun _ cs=> [(3,.row 3 1 cs)]) (fun j cs=>cs=ns (den e.Moves.length M (stkD e x k j))) (List.replicate (e.Moves.length*M) (N 0)) rfl rfl (by rw [b6y,b1l,d5a]) ?_;rintro j cs hj hcs ih2;have hcs:cs=ns (den e.Moves.length M (stkD e x k j)):=hcs;subst hcs;have hnl:(ns (den e.Moves.length M (stkD e x k j))).length=e.Moves.length*M:=by rw [List.length_map,a3q]
    obtain⟨ha,ha2⟩:=at_e (e:=e) (n:=e.Moves.length) (i:=j) (m:=k) hM hlt (by omega) (by omega) (by omega)
    by_cases hji:j<i
    ·have hy:=List.getElem?_eq_getElem (show j<e.Moves.length by omega);generalize e.Moves[j]=y at hy;have hy2:e.Moves[Int.toNat (j:Int)]?=some y:=by rw [Int.toNat_natCast];exact hy
     have hst:=b9j (e:=e) (x:=x) hlt hy;have g:=fun cs h=>ih2 _ cs (a0a (by omega)) hji h;clear ih ih2;refine qT rfl (decide_eq_true (by omega)) ?_;refine qXi (g:=eMo) rfl (Int.natCast_nonneg _) hy2 ?_
     by_cases c1:y.To=x.From
     ·refine qT rfl (by simpa using c1) ?_;refine qXm (g:=N) rfl ⟨by rw [ha];omega,by rw [ha,a3q];omega⟩ fun v hv _=> ?_;refine qXi (g:=eMo) rfl (Int.natCast_nonneg _) hy2 ?_
      by_cases c2:y.From=x.From
      ·refine qT rfl (by simpa using c2) ?_;refine qV rfl (f1a (by rw [ha];omega) (by rw [ha,Int.toNat_natCast,hnl];omega)) ?_;refine qB (g _ ?_) rfl;rotate_left;rw [ha,Int.toNat_natCast,List.set_set,a2x,hst,show stkC x y=-1 by unfold stkC;rw [if_pos c2],if_neg (by decide)]
      refine qN rfl (by simpa using c2) ?_;refine qB (g _ ?_) rfl;rotate_left;rw [ha,Int.toNat_natCast,a2x,hst,show stkC x y=1 by unfold stkC;rw [if_neg c2,if_pos c1],if_neg (by decide)]
     refine qN rfl (by simpa using c1) ?_;refine qXi (g:=eMo) rfl (Int.natCast_nonneg _) hy2 ?_
     by_cases c2:y.From=x.From
     ·refine qT rfl (by simpa using c2) ?_;refine qXm (g:=N) rfl ⟨by rw [ha];omega,by rw [ha,a3q];omega⟩ fun v hv _=> ?_;refine qB (g _ ?_) rfl;rotate_left;rw [ha,Int.toNat_natCast,a2x,hst,show stkC x y=-1 by unfold stkC;rw [if_pos c2],if_neg (by decide)]
     refine qN rfl (by simpa using c2) ?_;refine qB (g _ ?_) rfl;rotate_left;rw [hst,show stkC x y=0 by unfold stkC;rw [if_neg c2,if_neg c1],if_pos rfl]
    obtain rfl:j=i:=by omega
    clear ih2;have hst:=b9j (e:=e) (x:=x) hlt hx;rw [show stkC x x=-1 by unfold stkC;rw [if_pos rfl],if_neg (by decide)]at hst;have hcs:(ns (den e.Moves.length M (stkD e x k j))).set (iadd .i64 (imul .i64 (j:Int) e.Materials) (k:Int)).toNat (N (-1))=ns (den e.Moves.length M (stkD e x k (j+1))):=by rw [ha,Int.toNat_natCast,a2x,hst]
    have had:EvH tt 220 [.bp 0 0,L ((ns (den e.Moves.length M (stkD e x k j))).set (iadd .i64 (imul .i64 (j:Int) e.Materials) (k:Int)).toNat (N (-1))),I (if x.All=true then 2 else 0),.v (eF (toF 0)),.v (eOr ⟨0,j,k,-1⟩)] (lsH false false false q) (.tup []) (lsH true true true (q++ [(stkR e j x k,(⟨0,j,k,-1⟩:Org))])):=by
     have h:=b6l q (den e.Moves.length M (stkD e x k (j+1))) (if x.All=true then 2 else 0) 0 ⟨0,j,k,-1⟩ (by rw [a3q];omega) (fun c hc=>by have:=d6c (e:=e) (x:=x) (mat:=k) (k:=j+1) c;rw [hMt]at this;exact this hc) (by omega);rw [e3f hM hlt hi,<-hcs]at h;exact h
    have g:=ih _ (q++ [(stkR e j x k,(⟨0,j,k,-1⟩:Org))],true) (a0a (by omega)) hlt ⟨by show q++ [_]=_;rw [hqe,List.range_succ,List.map_append,<-List.append_assoc];rfl,fun h=>by cases h⟩;clear ih;simp only [hAll,if_true,Bool.false_eq_true,if_false]at had;refine qN rfl (decide_eq_false (by omega)) ?_;refine qXm (g:=N) rfl ⟨by rw [ha];omega,by rw [ha,a3q];omega⟩ fun v hv _=> ?_;refine qK rfl (h0) rfl ?_;refine qK rfl (had) rfl ?_;exact qB g (by kernel_rfl)
   refine qN rfl (decide_eq_false (by rw [hM];omega)) ?_;first
    |(exfalso;have:=hb rfl;omega)
    |(obtain rfl:k=M:=by omega
      rw [hMt];subst hqe;exact qR rfl ⟨rfl,rfl⟩)
set_option linter.unusedVariables false
set_option maxHeartbeats 4000000
set_option maxRecDepth 100000
theorem b8k{e:Evi}(h:Good e)(l:List (Rw×Org))(i:Nat)(x:Mve)(hx:e.Moves[i]?=some x)(hw:wgts e i x= []):EvH tt 163 [.bp 0 0,.v (eEv e),I i] (lsH false false false l) (.tup []) (lsH false false false l):=by
 have h1:=h.crt;have h2:=h.rcl;have hx2:e.Moves[Int.toNat (i:Int)]?=some x:=by rw [Int.toNat_natCast];exact hx
 have hin:=b3f e x (by omega) (by omega);have hn:¬x.Scale=-1->itvl e x=none:=fun hs=>by
  unfold wgts at hw;rw [if_neg hs]at hw;cases hi:itvl e x with
  |none=>rfl
  |some lh=>rw [hi]at hw;cases hw
 refine evF (eInH 3 Tryz.func163 rfl rfl rfl ?_);refine qXi (g:=eMo) rfl (Int.natCast_nonneg _) hx2 ?_
 by_cases hs:x.Scale=-1
 ·cases hi:itvl e x with
  |none=>
   rw [hi]at hin;refine qK rfl hin rfl ?_;refine qT rfl (by simpa using hs) ?_;exact qR rfl ⟨rfl,rfl⟩
  |some lh=>
   rw [hi]at hin;refine qK rfl hin rfl ?_;refine qT rfl (by simpa using hs) ?_;exact qR rfl ⟨rfl,rfl⟩
 rw [hn hs]at hin;refine qK rfl hin rfl ?_;refine qN rfl (by simpa using hs) ?_;refine qT rfl rfl ?_;exact qR rfl ⟨rfl,rfl⟩
theorem c3s{n M i:Nat}{f:Nat->Int}(hf:∀m,-1000000<=f m/\f m<=1000000):∀c∈den n M (oneD i f),-1000000<=c/\c<=1000000:=fun c h=>by
 obtain⟨j,m,rfl⟩:=d4p h;unfold oneD;split
 ·exact hf m
 omega
theorem d0k{e:Evi}(h:Good e)(l:List (Rw×Org))(i:Nat)(x:Mve){lo hi:Rat}(hx:e.Moves[i]?=some x)(hs:x.Scale≠-1)(hw:itvl e x=some (lo,hi))(hll:l.length<100000):EvH tt 163 [.bp 0 0,.v (eEv e),I i] (lsH false false false l) (.tup []) (lsH true true true (l++wgts e i x)):=by
 have hw2:l++wgts e i x=l++ [(⟨sumT e i 1 (-1) 0,0,lo⟩,⟨1,i,-1,-1⟩)]++ [(⟨sumT e i 1 (-1) 0,1,hi⟩,⟨2,i,-1,-1⟩)]:=by
  unfold wgts;rw [if_neg hs,hw,List.append_assoc];rfl
 rw [hw2];have h1:=h.mat;have h2:=h.mov;have h3:=h.crt;have h4:=h.rcl;have hi2:=(List.getElem?_eq_some_iff.1 hx).1;obtain⟨M,hM⟩:∃M:Nat,e.Materials=M:=⟨e.Materials.toNat,by omega⟩
 have hva:=b5h h;have hve:((e.Moves.length:Int)*e.Materials)=((e.Moves.length*M:Nat):Int):=by rw [hM];simp
 have hvl:e.Moves.length*M<=200*6:=Nat.mul_le_mul (by omega) (by omega);rw [hve]at hva;have hx2:e.Moves[Int.toNat (i:Int)]?=some x:=by rw [Int.toNat_natCast];exact hx
 have hin:=b3f e x (by omega) (by omega);rw [hw]at hin;have hn8:(0:Int)<=((e.Moves.length*M:Nat):Int)/\(((e.Moves.length*M:Nat):Int)).toNat*8<=140737488355328:=⟨Int.natCast_nonneg _,by rw [Int.toNat_natCast];omega⟩
 refine evF (eInH 3 Tryz.func163 rfl rfl rfl ?_);refine qXi (g:=eMo) rfl (Int.natCast_nonneg _) hx2 ?_;refine qK rfl hin rfl ?_;refine qN rfl (by simpa using hs) ?_;refine qN rfl rfl ?_;refine qK rfl hva rfl ?_;refine qM 8 rfl rfl hn8 ?_;refine qF M (fun z _=> [(11,I z)]) (fun _ cs=> [(3,.row 3 1 cs)]) (fun k cs=>cs=ns (den e.Moves.length M (parD i (fun m=>if(m:Int)=-1 then 1+0 else 1) k))) (List.replicate (e.Moves.length*M) (N 0)) rfl rfl (by rw [b6y,b1l,b3d]) ?_;rintro k cs hk hcs ih;have hcs:cs=ns (den e.Moves.length M (parD i (fun m=>if(m:Int)=-1 then 1+0 else 1) k)):=hcs;subst hcs
 by_cases hlt:k<M
 ·obtain⟨ha,ha2⟩:=at_e (e:=e) (n:=e.Moves.length) (i:=i) (m:=k) hM hlt (by omega) hi2 (by omega);have hst:(ns (den e.Moves.length M (parD i (fun m=>if(m:Int)=-1 then 1+0 else 1) k))).set (iadd .i64 (imul .i64 (i:Int) e.Materials) (k:Int)).toNat (N 1)=ns (den e.Moves.length M (parD i (fun m=>if(m:Int)=-1 then 1+0 else 1) (k+1))):=by
   rw [ha,Int.toNat_natCast,a2x,<-b2d hlt];rw [if_neg (by omega)]
  have g:=ih _ _ (a0a (by omega)) hlt hst;clear ih;refine qT rfl (decide_eq_true (by rw [hM];omega)) ?_;refine qXm (g:=N) rfl ⟨by rw [ha];omega,by rw [ha,a3q];omega⟩ fun v hv _=> ?_;exact qB g (by kernel_rfl)
 clear ih;obtain rfl:k=M:=by omega
 rw [b5m];have hrg:=c3s (n:=e.Moves.length) (M:=k) (i:=i) (f:=fun m=>if(m:Int)=-1 then 1+0 else 1) (fun m=>by split<;>omega);have had:∀q kind v o,q.length<1000000->EvH tt 220 [.bp 0 0,L (ns (den e.Moves.length k (oneD i fun m=>if(m:Int)=-1 then 1+0 else 1))),I kind,.v (eF (toF v)),.v (eOr o)] (lsH false false false q) (.tup []) (lsH true true true (q++ [(⟨sumT e i 1 (-1) 0,kind,v⟩,o)])):=fun q kind v o hq=>by
  have h:=b6l q (den e.Moves.length k (oneD i fun m=>if(m:Int)=-1 then 1+0 else 1)) kind v o (by rw [a3q];omega) hrg hq;rw [d3y (own:=-1) (more:=0) (by':=1) hM (by omega) hi2]at h;exact h
 refine qN rfl (decide_eq_false (by rw [hM];omega)) ?_;have a1:=had l 0 lo ⟨1,i,-1,-1⟩ (by omega);have a2:=had (l++ [((⟨sumT e i 1 (-1) 0,0,lo⟩:Rw),(⟨1,i,-1,-1⟩:Org))]) 1 hi ⟨2,i,-1,-1⟩ (by simp;omega);refine qK rfl (a1) rfl ?_;refine qK rfl (a2) rfl ?_;exact qR rfl ⟨rfl,rfl⟩
set_option linter.unusedVariables false
set_option maxHeartbeats 4000000
set_option maxRecDepth 100000
theorem a8x{e:Evi}(h:Good e)(l:List (Rw×Org))(k i:Nat)(p:Pur)(hp:e.Purities[k]?=some p)(hpm:p.Move=i)(hi:i<e.Moves.length)(hll:l.length<100000):EvH tt 164 [.bp 0 0,.v (eEv e),I k] (lsH false false false l) (.tup []) (lsH true true true (l++a0r e i (k,p))):=by
 have h1:=h.mat;have h2:=h.mov;obtain⟨l1,l2,l3⟩:=h.purs p (List.mem_of_getElem? hp);have hpr:=h.pr p (List.mem_of_getElem? hp);have hmt:0<=p.Material/\p.Material<e.Materials:=by
  unfold purR at hpr;simp only [Bool.and_eq_true,a3w]at hpr;exact hpr.1.1.1.2
 obtain⟨M,hM⟩:∃M:Nat,e.Materials=M:=⟨e.Materials.toNat,by omega⟩
 obtain⟨pm,hpmat⟩:∃pm:Nat,p.Material=pm:=⟨p.Material.toNat,by omega⟩
 have hw2:l++a0r e i (k,p)=l++ [(⟨sumT e i (-p.Least) p.Material 1000,0,0⟩,⟨3,i,-1,k⟩)]++ [(⟨sumT e i p.Most p.Material (-1000),0,0⟩,⟨4,i,-1,k⟩)]:=by
  unfold a0r;rw [if_pos hpm,List.append_assoc];rfl
 rw [hw2];have hva:=b5h h;have hve:((e.Moves.length:Int)*e.Materials)=((e.Moves.length*M:Nat):Int):=by rw [hM];simp
 have hvl:e.Moves.length*M<=200*6:=Nat.mul_le_mul (by omega) (by omega);rw [hve]at hva;have hp2:e.Purities[Int.toNat (k:Int)]?=some p:=by rw [Int.toNat_natCast];exact hp
 have hn8:(0:Int)<=((e.Moves.length*M:Nat):Int)/\(((e.Moves.length*M:Nat):Int)).toNat*8<=140737488355328:=⟨Int.natCast_nonneg _,by rw [Int.toNat_natCast];omega⟩
 have hneg:IntKind.i64.wrap (0-p.Least)=-p.Least:=(a0c (x:=0) (y:=p.Least) (by omega) (by omega)).trans (by omega);have h0:EvF tt 55 [I 0] (.v (eF (toF 0))):=a3b (x:=0) (by decide) (by decide);refine evF (eInH 3 Tryz.func164 rfl rfl rfl ?_);refine qXi (g:=ePu) rfl (Int.natCast_nonneg _) hp2 ?_;refine qK rfl hva rfl ?_;refine qM 8 rfl rfl hn8 ?_;refine qK rfl hva rfl ?_;refine qM 8 rfl rfl hn8 ?_;refine qF (σ:=List VT×List VT) M (fun z _=> [(9,I z)]) (fun _ q=> [(3,.row 3 1 q.1),(4,.row 3 1 q.2)]) (fun j q=>q.1=ns (den e.Moves.length M (parD i (fun _=>p.Most) j))/\q.2=ns (den e.Moves.length M (parD i (fun _=>-p.Least) j))) (List.replicate (e.Moves.length*M) (N 0),List.replicate (e.Moves.length*M) (N 0)) rfl rfl ⟨by rw [b6y,b1l,b3d],by rw [b6y,b1l,b3d]⟩ ?_;rintro j ⟨hs,ls⟩ hj ⟨hhs,hls⟩ ih;obtain rfl:hs=ns (den e.Moves.length M (parD i (fun _=>p.Most) j)):=hhs;obtain rfl:ls=ns (den e.Moves.length M (parD i (fun _=>-p.Least) j)):=hls
 by_cases hlt:j<M
 ·obtain⟨ha,ha2⟩:=at_e (e:=e) (n:=e.Moves.length) (i:=i) (m:=j) hM hlt (by omega) hi (by omega);rw [<-hpm]at ha;have hst1:(ns (den e.Moves.length M (parD i (fun _=>p.Most) j))).set (iadd .i64 (imul .i64 p.Move e.Materials) (j:Int)).toNat (N p.Most)=ns (den e.Moves.length M (parD i (fun _=>p.Most) (j+1))):=by
   rw [ha,Int.toNat_natCast,a2x,<-b2d hlt]
  have hst2:(ns (den e.Moves.length M (parD i (fun _=>-p.Least) j))).set (iadd .i64 (imul .i64 p.Move e.Materials) (j:Int)).toNat (N (IntKind.i64.wrap (0-p.Least)))=ns (den e.Moves.length M (parD i (fun _=>-p.Least) (j+1))):=by
   rw [ha,Int.toNat_natCast,hneg,a2x,<-b2d hlt]
  have g:=ih _ (_,_) (a0a (by omega)) hlt ⟨hst1,hst2⟩;clear ih;refine qT rfl (decide_eq_true (by rw [hM];omega)) ?_;refine qXm (g:=N) rfl ⟨by rw [ha];omega,by rw [ha,a3q];omega⟩ fun v hv _=> ?_;refine qXm (g:=N) rfl ⟨by rw [ha];omega,by rw [ha,a3q];omega⟩ fun v hv _=> ?_;exact qB g (by kernel_rfl)
 clear ih;obtain rfl:j=M:=by omega
 rw [b5m,b5m];have hlt:pm<j:=by omega
 obtain⟨ha,ha2⟩:=at_e (e:=e) (n:=e.Moves.length) (i:=i) (m:=pm) hM hlt (by omega) hi (by omega);rw [<-hpm,<-hpmat]at ha;have hrg:∀f:Nat->Int,(∀m,-1000000<=f m/\f m<=1000000)->∀c∈den e.Moves.length j (oneD i f),-1000000<=c/\c<=1000000:=fun f hf=>c3s hf;have had:∀(q:List (Rw×Org))(by' more:Int)(o:Org),-100000<=by'/\by'<=100000->-100000<=more/\more<=100000->q.length<1000000->EvH tt 220 [.bp 0 0,L ((ns (den e.Moves.length j (oneD i fun _=>by'))).set (iadd .i64 (imul .i64 p.Move e.Materials) p.Material).toNat (N (by'+more))),I 0,.v (eF (toF 0)),.v (eOr o)] (lsH false false false q) (.tup []) (lsH true true true (q++ [(⟨sumT e i by' p.Material more,0,0⟩,o)])):=fun q by' more o hb hm hq=>by
  have hcs:(ns (den e.Moves.length j (oneD i fun _=>by'))).set (iadd .i64 (imul .i64 p.Move e.Materials) p.Material).toNat (N (by'+more))=ns (den e.Moves.length j (oneD i fun m=>if(m:Int)=p.Material then by'+more else by')):=by
   rw [ha,Int.toNat_natCast,a2x,d7j hlt];refine congrArg (fun f=>ns (den e.Moves.length j (oneD i f))) (funext fun m=> ?_);rw [hpmat]
   by_cases c:m=pm
   ·rw [if_pos c,if_pos (by rw [c])]
   rw [if_neg c,if_neg (by omega)]
  have h:=b6l q (den e.Moves.length j (oneD i fun m=>if(m:Int)=p.Material then by'+more else by')) 0 0 o (by rw [a3q];omega) (hrg _ fun m=>by split<;>omega) hq;rw [d3y (own:=p.Material) (more:=more) (by':=by') hM (by omega) hi,<-hcs]at h;exact h
 have ix1:∀c:Int,(den e.Moves.length j (oneD i fun _=>c))[(iadd .i64 (imul .i64 p.Move e.Materials) p.Material).toNat]?=some c:=fun c=>by
  rw [ha,Int.toNat_natCast,f0d hi hlt];simp [oneD]
 have a1:=had l (-p.Least) 1000 ⟨3,i,-1,k⟩ (by omega) (by omega) (by omega);have a2:=had (l++ [((⟨sumT e i (-p.Least) p.Material 1000,0,0⟩:Rw),(⟨3,i,-1,k⟩:Org))]) p.Most (-1000) ⟨4,i,-1,k⟩ (by omega) (by omega) (by simp;omega);rw [show-p.Least+1000=iadd .i64 (-p.Least) 1000 by rw [a0e (by omega) (by omega)]]at a1;rw [show p.Most+-1000=isub .i64 p.Most 1000 by rw [a0c (by omega) (by omega)];omega]at a2;rw [<-hpm]at a1 a2;refine qN rfl (decide_eq_false (by rw [hM];omega)) ?_;refine qXi (g:=N) rfl (by rw [ha];omega) (ix1 _) ?_;refine qXi (g:=N) rfl (by rw [ha];omega) (ix1 _) ?_;refine qXi (g:=N) rfl (by rw [ha];omega) (ix1 _) ?_;refine qXi (g:=N) rfl (by rw [ha];omega) (ix1 _) ?_;rw [<-hpm];refine qK rfl (h0) rfl ?_;refine qK rfl (a1) rfl ?_;refine qE rfl (by kernel_rfl) (by kernel_rfl) ?_;refine qK rfl (h0) rfl ?_;refine qK rfl (a2) rfl ?_;refine qE rfl (by kernel_rfl) (by kernel_rfl) ?_;exact qR rfl ⟨rfl,rfl⟩
set_option linter.unusedVariables false
set_option maxHeartbeats 4000000
set_option maxRecDepth 100000
theorem d3o{e:Evi}(h:Good e):EvH tt 94 [.v (eEv e)] [] (.bp 0 0) [⟨0,0,false,true,true,.box 142 [.row 1 0,.row 2 0]⟩,⟨0,0,false,true,true,.row 187 6 (rwL (a8z e))⟩,⟨0,0,false,true,true,.row 228 4 (orL (a8z e))⟩]:=by
 have hl1:=h.mov;have hl2:=h.pur;have hl5:=h.mat;have hpl:=h.plc;refine evF (eIn Tryz.func94 rfl rfl ?_);refine qF e.Moves.length (fun z _=> [(4,I z)]) (fun _ q=> [(1,.row 187 6 (rwL q)),(2,.row 228 4 (orL q))]) (fun k q=>q=(zipI 0 (e.Moves.take k)).flatMap (a7q e)/\q.length<=408*k) [] rfl rfl ⟨rfl,Nat.le_refl _⟩ ?_;rintro k q hk ⟨hq,hql⟩ ih;have hq:q=(zipI 0 (e.Moves.take k)).flatMap (a7q e):=hq;have hql:q.length<=408*k:=hql
 by_cases hlt:k<e.Moves.length
 ·have hy:=List.getElem?_eq_getElem hlt;generalize e.Moves[k]=y at hy;have hy2:e.Moves[Int.toNat (k:Int)]?=some y:=by rw [Int.toNat_natCast];exact hy
  obtain⟨p,f1,f2,f3⟩:=h.from' (List.mem_of_getElem? hy)
  have hr1:=b3o h (k,y);have hr2:a7q e (k,y)=stks e k y++wgts e k y++purs e k:=rfl;have hsw:(stks e k y).length+(wgts e k y).length<=408:=by rw [hr2]at hr1;simp only [List.length_append]at hr1;omega
  obtain⟨K,hK⟩:∃K,K=q++stks e k y++wgts e k y:=⟨_,rfl⟩
  have hKl:K.length<=82500:=by rw [hK];simp only [List.length_append];omega
  have gO:=fun(L:List (Rw×Org))(hL:L=K++purs e k)(_:True)=>ih _ L (a0a (by omega)) hlt ⟨by rw [b8l hy,hr2,hL,hK,<-hq];simp,by rw [hL,hK];rw [hr2]at hr1;simp only [List.length_append]at hr1⊢;omega⟩;have gO:=fun(L:List (Rw×Org))(hL:L=K++purs e k)(_:L.length<=1000000)=>gO L hL trivial;have hw:EvH tt 163 [.bp 0 0,.v (eEv e),I k] (lsH false false false (q++stks e k y)) (.tup []) (lsH false false false K)∨EvH tt 163 [.bp 0 0,.v (eEv e),I k] (lsH false false false (q++stks e k y)) (.tup []) (lsH true true true K):=by
   rw [hK]
   by_cases hs:y.Scale=-1
   ·left;have:wgts e k y= []:=by unfold wgts;rw [if_pos hs]
    rw [this,List.append_nil];exact b8k h _ k y hy this
   cases hi:itvl e y with
   |none=>
    left;have:wgts e k y= []:=by unfold wgts;rw [if_neg hs,hi]
    rw [this,List.append_nil];exact b8k h _ k y hy this
   |some lh=>exact .inr (d0k h _ k y hy hs hi (by simp only [List.length_append];omega))
  refine qT rfl (decide_eq_true (by rw [List.length_map];omega)) ?_;refine qXi (g:=eMo) rfl (Int.natCast_nonneg _) hy2 ?_;refine qXi (g:=ePl) rfl f1 f2 ?_;refine qE rfl (by kernel_rfl) (by kernel_rfl) ?_
  by_cases hk0:p.Kind=0
  ·have hs0:stks e k y= []:=by unfold stks;rw [if_pos (f3.trans hk0)]
   rw [hs0,List.append_nil]at hw;clear hK hr1 hr2;refine qN rfl (by simpa using hk0) ?_;rcases hw with hw|hw
   ·refine qK rfl hw rfl ?_;refine qF e.Purities.length (fun z _=> [(5,I z)]) (fun _ q=> [(1,.row 187 6 (rwL q)),(2,.row 228 4 (orL q))]) (fun j L=>L=K++(zipI 0 (e.Purities.take j)).flatMap (a0r e k)/\L.length<=K.length+2*j) K rfl rfl ⟨by simp [zipI],by omega⟩ ?_;rintro j L hj ⟨hL,hLl⟩ ih2;have hL:L=K++(zipI 0 (e.Purities.take j)).flatMap (a0r e k):=hL;have hLl:L.length<=K.length+2*j:=hLl
    by_cases hj2:j<e.Purities.length
    ·have hu:=List.getElem?_eq_getElem hj2;generalize e.Purities[j]=u at hu;have hu2:e.Purities[Int.toNat (j:Int)]?=some u:=by rw [Int.toNat_natCast];exact hu
     have hps:(zipI 0 (e.Purities.take (j+1))).flatMap (a0r e k)=(zipI 0 (e.Purities.take j)).flatMap (a0r e k)++a0r e k (j,u):=a4z hu;have hp2:(a0r e k (j,u)).length<=2:=by unfold a0r;split<;>simp
     have g:=ih2 _ (L++a0r e k (j,u)) (a0a (by omega)) hj2 ⟨by rw [hps,<-List.append_assoc,<-hL],by rw [List.length_append];omega⟩;clear ih ih2 gO;refine qT rfl (decide_eq_true (by rw [List.length_map];omega)) ?_;refine qXi (g:=ePu) rfl (Int.natCast_nonneg _) hu2 ?_
     by_cases c:u.Move=k
     ·have hpu:=a8x h L j k u hu c hlt (by omega);generalize L++a0r e k (j,u)=L2 at hpu g;refine qT rfl (by simpa using c) ?_;refine qK rfl (hpu) rfl ?_;exact qB g (by kernel_rfl)
     have h0:a0r e k (j,u)= []:=by unfold a0r;rw [if_neg c]
     rw [h0,List.append_nil]at g;refine qN rfl (by simpa using c) ?_;exact qB g (by kernel_rfl)
    clear ih ih2;obtain rfl:j=e.Purities.length:=by omega
    rw [List.take_length]at hL;have g:=gO L hL (by omega);clear gO;refine qN rfl (decide_eq_false (by rw [List.length_map];omega)) ?_;exact qB g (by kernel_rfl)
   refine qK rfl hw rfl ?_;refine qF e.Purities.length (fun z _=> [(5,I z)]) (fun _ q=> [(1,.row 187 6 (rwL q)),(2,.row 228 4 (orL q))]) (fun j L=>L=K++(zipI 0 (e.Purities.take j)).flatMap (a0r e k)/\L.length<=K.length+2*j) K rfl rfl ⟨by simp [zipI],by omega⟩ ?_;rintro j L hj ⟨hL,hLl⟩ ih2;have hL:L=K++(zipI 0 (e.Purities.take j)).flatMap (a0r e k):=hL;have hLl:L.length<=K.length+2*j:=hLl
   by_cases hj2:j<e.Purities.length
   ·have hu:=List.getElem?_eq_getElem hj2;generalize e.Purities[j]=u at hu;have hu2:e.Purities[Int.toNat (j:Int)]?=some u:=by rw [Int.toNat_natCast];exact hu
    have hps:(zipI 0 (e.Purities.take (j+1))).flatMap (a0r e k)=(zipI 0 (e.Purities.take j)).flatMap (a0r e k)++a0r e k (j,u):=a4z hu;have hp2:(a0r e k (j,u)).length<=2:=by unfold a0r;split<;>simp
    have g:=ih2 _ (L++a0r e k (j,u)) (a0a (by omega)) hj2 ⟨by rw [hps,<-List.append_assoc,<-hL],by rw [List.length_append];omega⟩;clear ih ih2 gO;refine qT rfl (decide_eq_true (by rw [List.length_map];omega)) ?_;refine qXi (g:=ePu) rfl (Int.natCast_nonneg _) hu2 ?_
    by_cases c:u.Move=k
    ·have hpu:=a8x h L j k u hu c hlt (by omega);generalize L++a0r e k (j,u)=L2 at hpu g;refine qT rfl (by simpa using c) ?_;refine qK rfl (hpu) rfl ?_;exact qB g (by kernel_rfl)
    have h0:a0r e k (j,u)= []:=by unfold a0r;rw [if_neg c]
    rw [h0,List.append_nil]at g;refine qN rfl (by simpa using c) ?_;exact qB g (by kernel_rfl)
   clear ih ih2;obtain rfl:j=e.Purities.length:=by omega
   rw [List.take_length]at hL;have g:=gO L hL (by omega);clear gO;refine qN rfl (decide_eq_false (by rw [List.length_map];omega)) ?_;exact qB g (by kernel_rfl)
  have hst:EvH tt 162 [.bp 0 0,.v (eEv e),I k] (lsH false false false q) (.tup []) (lsH true true true (q++stks e k y)):=by
   have:=d6z h q k y hy (by omega);unfold stks;rw [if_neg (by rw [f3];exact hk0)];exact this
  generalize q++stks e k y=K2 at hst hw;clear hK hr1 hr2;refine qT rfl (by simpa using hk0) ?_;rcases hw with hw|hw
  ·refine qK rfl hst rfl ?_;refine qK rfl hw rfl ?_;refine qF e.Purities.length (fun z _=> [(5,I z)]) (fun _ q=> [(1,.row 187 6 (rwL q)),(2,.row 228 4 (orL q))]) (fun j L=>L=K++(zipI 0 (e.Purities.take j)).flatMap (a0r e k)/\L.length<=K.length+2*j) K rfl rfl ⟨by simp [zipI],by omega⟩ ?_;rintro j L hj ⟨hL,hLl⟩ ih2;have hL:L=K++(zipI 0 (e.Purities.take j)).flatMap (a0r e k):=hL;have hLl:L.length<=K.length+2*j:=hLl
   by_cases hj2:j<e.Purities.length
   ·have hu:=List.getElem?_eq_getElem hj2;generalize e.Purities[j]=u at hu;have hu2:e.Purities[Int.toNat (j:Int)]?=some u:=by rw [Int.toNat_natCast];exact hu
    have hps:(zipI 0 (e.Purities.take (j+1))).flatMap (a0r e k)=(zipI 0 (e.Purities.take j)).flatMap (a0r e k)++a0r e k (j,u):=a4z hu;have hp2:(a0r e k (j,u)).length<=2:=by unfold a0r;split<;>simp
    have g:=ih2 _ (L++a0r e k (j,u)) (a0a (by omega)) hj2 ⟨by rw [hps,<-List.append_assoc,<-hL],by rw [List.length_append];omega⟩;clear ih ih2 gO;refine qT rfl (decide_eq_true (by rw [List.length_map];omega)) ?_;refine qXi (g:=ePu) rfl (Int.natCast_nonneg _) hu2 ?_
    by_cases c:u.Move=k
    ·have hpu:=a8x h L j k u hu c hlt (by omega);generalize L++a0r e k (j,u)=L2 at hpu g;refine qT rfl (by simpa using c) ?_;refine qK rfl (hpu) rfl ?_;exact qB g (by kernel_rfl)
    have h0:a0r e k (j,u)= []:=by unfold a0r;rw [if_neg c]
    rw [h0,List.append_nil]at g;refine qN rfl (by simpa using c) ?_;exact qB g (by kernel_rfl)
   clear ih ih2;obtain rfl:j=e.Purities.length:=by omega
   rw [List.take_length]at hL;have g:=gO L hL (by omega);clear gO;refine qN rfl (decide_eq_false (by rw [List.length_map];omega)) ?_;exact qB g (by kernel_rfl)
  refine qK rfl hst rfl ?_;refine qK rfl hw rfl ?_;refine qF e.Purities.length (fun z _=> [(5,I z)]) (fun _ q=> [(1,.row 187 6 (rwL q)),(2,.row 228 4 (orL q))]) (fun j L=>L=K++(zipI 0 (e.Purities.take j)).flatMap (a0r e k)/\L.length<=K.length+2*j) K rfl rfl ⟨by simp [zipI],by omega⟩ ?_;rintro j L hj ⟨hL,hLl⟩ ih2;have hL:L=K++(zipI 0 (e.Purities.take j)).flatMap (a0r e k):=hL;have hLl:L.length<=K.length+2*j:=hLl
  by_cases hj2:j<e.Purities.length
  ·have hu:=List.getElem?_eq_getElem hj2;generalize e.Purities[j]=u at hu;have hu2:e.Purities[Int.toNat (j:Int)]?=some u:=by rw [Int.toNat_natCast];exact hu
   have hps:(zipI 0 (e.Purities.take (j+1))).flatMap (a0r e k)=(zipI 0 (e.Purities.take j)).flatMap (a0r e k)++a0r e k (j,u):=a4z hu;have hp2:(a0r e k (j,u)).length<=2:=by unfold a0r;split<;>simp
   have g:=ih2 _ (L++a0r e k (j,u)) (a0a (by omega)) hj2 ⟨by rw [hps,<-List.append_assoc,<-hL],by rw [List.length_append];omega⟩;clear ih ih2 gO;refine qT rfl (decide_eq_true (by rw [List.length_map];omega)) ?_;refine qXi (g:=ePu) rfl (Int.natCast_nonneg _) hu2 ?_
   by_cases c:u.Move=k
   ·have hpu:=a8x h L j k u hu c hlt (by omega);generalize L++a0r e k (j,u)=L2 at hpu g;refine qT rfl (by simpa using c) ?_;refine qK rfl (hpu) rfl ?_;exact qB g (by kernel_rfl)
   have h0:a0r e k (j,u)= []:=by unfold a0r;rw [if_neg c]
   rw [h0,List.append_nil]at g;refine qN rfl (by simpa using c) ?_;exact qB g (by kernel_rfl)
  clear ih ih2;obtain rfl:j=e.Purities.length:=by omega
  rw [List.take_length]at hL;have g:=gO L hL (by omega);clear gO;refine qN rfl (decide_eq_false (by rw [List.length_map];omega)) ?_;exact qB g (by kernel_rfl)
 have hr:a8z e=q:=by
  unfold a8z;rw [hq,List.take_of_length_le (by omega)]
 rw [hr];clear ih;refine qN rfl (decide_eq_false (by rw [List.length_map];omega)) ?_;exact qR rfl ⟨rfl,rfl⟩
set_option linter.unusedVariables false
set_option maxHeartbeats 4000000
set_option maxRecDepth 100000
theorem b1t(e:Evi):EvF tt 47 [.v (eEv e)] (.tup [.v (eSy (if a1t e=0 then sysE e else⟨0,[]⟩)),I (a1t e)]):=by
 have hf:=c2g e;refine evF (eIn Tryz.func47 rfl rfl ?_);refine qK rfl hf rfl ?_
 by_cases h0:a1t e=0
 ·rw [if_pos h0];have hG:=a1o h0;have hma:=d3o hG;have hva:=b5h hG;refine qN rfl (by rw [h0];rfl) ?_;refine qK rfl (hva) rfl ?_;refine qK rfl (hma) rfl ?_;refine qE rfl (by kernel_rfl) (by kernel_rfl) ?_;refine qR rfl ⟨?_,rfl⟩;rotate_left;rw [h0];show DV.tup [.v (.agg [N ((e.Moves.length:Int)*e.Materials),.sl (rwL (a8z e))]),I 0]=_;unfold sysE eSy rwL;rw [List.map_map];rfl
 rw [if_neg h0];refine qT rfl (bne_iff_ne.2 h0) ?_;exact qR rfl ⟨rfl,rfl⟩
theorem d7a{e:Evi}{y:List Frac}(h:ELen e)(hY:YOk y 20):EvF tt 16 [.v (eEv e),L (fs y)] (B (impB e y)):=by
 refine evF (eIn Tryz.func16 rfl rfl ?_);refine qK rfl (b1t e) rfl ?_;unfold impB
 by_cases hf:a1t e=0
 ·rw [hf,if_pos rfl];obtain⟨h1,h2⟩:=b4u (a1o hf) h.mov;have hr:=b4e h1 (by omega) (by omega) h2 hY;rw [decide_eq_true rfl,Bool.true_and];refine qT rfl rfl ?_;refine qK rfl (hr) rfl ?_;exact qR rfl ⟨rfl,rfl⟩
 rw [if_neg hf,decide_eq_false hf,Bool.false_and];refine qN rfl (by simp [hf]) ?_;exact qR rfl ⟨rfl,rfl⟩
set_option linter.unusedVariables false
set_option maxHeartbeats 4000000
set_option maxRecDepth 100000
theorem d1b{n:Int}:∀{l:List Int}{last:Int},(∀v∈l,last<v/\v<n)->l.Pairwise (·<·)->rtT n last (l.map fun v=>((v,1):Trm))=true
 | [],_,_,_=>rfl
 |v::l,last,h,hp=>by
  obtain⟨h1,h2⟩:=h v (by simp);obtain⟨p1,p2⟩:=List.pairwise_cons.1 hp;have ih:=d1b (l:=l) (last:=v) (fun w hw=>⟨p1 w hw,(h w (by simp [hw])).2⟩) p2;show(decide (last<v)&&decide (v<n)&&decide ((1:Rat)≠0)&&rtT n v (l.map fun v=>((v,1):Trm)))=true;rw [ih,decide_eq_true h1,decide_eq_true h2];rfl
theorem e5e{n:Int}{l:List Int}(hn:l.Nodup)(h:∀v∈l,0<=v/\v<n):rtT n (-1) (sumV l)=true:=by
 unfold sumV;have hp:(srt l).Perm l:=List.mergeSort_perm l _;refine d1b (fun v hv=> ?_) ?_
 ·have:=h v (hp.mem_iff.1 hv);omega
 have h1:(srt l).Pairwise (fun x y=>decide (x<=y)=true):=List.pairwise_mergeSort (fun a b c h1 h2=>by simp at*;omega) (fun a b=>by simp;omega) l;have h2:(srt l).Nodup:=hp.nodup_iff.2 hn;exact(h1.and h2).imp fun⟨a,b⟩=>by simp at a;omega
theorem d2y{l:List Int}{i:Nat}{v:Int}(hn:l.Nodup)(hv:l[i]?=some v):plusT (sumV (l.take i)) [(v,1)]=sumV (l.take (i+1)):=by
 have h1:(l.take i).Nodup:=hn.sublist (List.take_sublist ..);have h2:(l.take (i+1)).Nodup:=hn.sublist (List.take_sublist ..);rw [<-b9x h1,<-b9x h2,a1h hv,List.foldl_append];rfl
theorem d1c{e:Evi}{ps:List Pck}{r:List Int}(hf:a1t e=0)(hl:ps.length<=1000)(hr:pkV e [] ps=some r):EvF tt 52 [.v (eEv e),L (ps.map ePk)] (L ((sumV r).map eTm)):=by
 have hpk:=c5x (e:=e) (ps:=ps) (by omega);rw [show pkB e ps=true by unfold pkB;rw [hr,hf];rfl]at hpk;obtain⟨k1,k2,k3⟩:=c2k hr;refine evF (eIn Tryz.func52 rfl rfl ?_);refine qK rfl hpk rfl ?_;refine qN rfl rfl ?_;have hG:=a1o hf;have g1:=hG.mov;have g2:=hG.mat;have hlen:r.length=ps.length:=by rw [k1,List.length_map]
 have h1:EvF tt 55 [I 1] (.v (eF (toF 1))):=a3b (x:=1) (by decide) (by decide);have hv:∀p,PkOk e p->iadd .i64 (imul .i64 p.Move e.Materials) p.Material=pkv e p/\0<=pkv e p/\pkv e p<1500:=fun p hp=>by
  have a1:=hp.mv;have a2:=hp.mt;have a3:=hp.rng;have a4:=a3y (a:=(e.Moves.length:Int)) (b:=e.Materials) (A:=200) (C:=6) (by omega) (by omega) (by omega) (by omega);have a5:=a3y (a:=p.Move) (b:=e.Materials) (A:=200) (C:=6) (by omega) (by omega) (by omega) (by omega);refine⟨?_,a3.1,by omega⟩;rw [a0s (by omega) (by omega),a0e (by omega) (by omega)];rfl
 have hplus:∀(i:Nat)(p:Pck),ps[i]?=some p->EvF tt 103 [L ((sumV (r.take i)).map eTm),L [.agg [N (iadd .i64 (imul .i64 p.Move e.Materials) p.Material),N (toF 1).P.Sign,.sl (ns (toF 1).P.Digits),N (toF 1).Q.Sign,.sl (ns (toF 1).Q.Digits)]]] (L ((sumV (r.take (i+1))).map eTm)):=fun i p hp=>by
  have hpo:=(k3 p (List.mem_of_getElem? hp)).1;obtain⟨b1,b2,b3⟩:=hv p hpo;have hri:r[i]?=some (pkv e p):=by rw [k1,List.getElem?_map,hp];rfl
  have hall:∀v∈r,0<=v/\v<1500:=fun v hv'=>by
   rw [k1]at hv';obtain⟨q,hq,rfl⟩:=List.mem_map.1 hv';obtain⟨-,c2,c3⟩:=hv q (k3 q hq).1;exact⟨c2,c3⟩
  rw [b1,<-d2y k2 hri];exact d8s (j:=40) (k:=40) (b:= [(pkv e p,1)]) (b1w _) (fun t ht=>by rw [List.mem_singleton]at ht;subst ht;exact(b3z (x:=1) (by decide)).mono (by omega)) (by omega) (by rw [a6x,List.length_take];omega) (by simp) (e5e (k2.sublist (List.take_sublist ..)) fun v hv'=>hall v (List.mem_of_mem_take hv')) (by
   show(decide (-1<pkv e p)&&decide (pkv e p<1500)&&decide ((1:Rat)≠0)&&true)=true;rw [decide_eq_true (show-1<pkv e p by omega),decide_eq_true b3];rfl)
 refine qB ?_ rfl;refine qI ?_
 by_cases h0:ps.length=0
 ·have hp0:ps= []:=List.eq_nil_of_length_eq_zero h0;subst hp0;obtain rfl:r= []:=k1;rw [show sumV []=([]:List Trm) by simp [sumV,srt]];refine qN rfl rfl ?_;exact qR rfl ⟨rfl,rfl⟩
 have hp:=List.getElem?_eq_getElem (show 0<ps.length by omega);generalize ps[0]=p at hp;have hs:=hplus 0 p hp;rw [show sumV (r.take 0)= [] by simp [sumV,srt]]at hs;refine qT rfl (decide_eq_true (by rw [List.length_map];omega)) ?_;refine qXi (g:=ePk) rfl (by decide) hp ?_;refine qXi (g:=ePk) rfl (by decide) hp ?_;refine qK rfl (h1) rfl ?_;refine qE rfl (by kernel_rfl) (by kernel_rfl) ?_;refine qK rfl (hs) rfl ?_;refine qL (σ:=Int×List VT) (fun q=> [(6,I q.1),(5,L q.2)]) (fun _=> []) (fun q=>∃k:Nat,q.1=(k:Int)/\k<=ps.length/\q.2=(sumV (r.take k)).map eTm) (fun q=>ps.length-q.1.toNat) (iadd .i64 0 1,(sumV (r.take (0+1))).map eTm) rfl rfl ⟨1,rfl,by omega,rfl⟩ ?_;rintro⟨z,ts⟩ ⟨k,hz,hk,hts⟩ ih;obtain rfl:z=(k:Int):=hz;obtain rfl:ts=(sumV (r.take k)).map eTm:=hts
 by_cases hlt:k<ps.length
 ·have hq:=List.getElem?_eq_getElem hlt;generalize ps[k]=p2 at hq;have hq2:ps[Int.toNat (k:Int)]?=some p2:=by rw [Int.toNat_natCast];exact hq
  have hs2:=hplus k p2 hq;have g:=ih (iadd .i64 (k:Int) 1,(sumV (r.take (k+1))).map eTm) ⟨k+1,a0a (by omega),by omega,rfl⟩ (by show ps.length-(iadd .i64 (k:Int) 1).toNat<ps.length-(k:Int).toNat;rw [a0a (by omega)];omega);clear ih;refine qT rfl (decide_eq_true (by rw [List.length_map];omega)) ?_;refine qXi (g:=ePk) rfl (Int.natCast_nonneg _) hq2 ?_;refine qXi (g:=ePk) rfl (Int.natCast_nonneg _) hq2 ?_;refine qK rfl (h1) rfl ?_;refine qE rfl (by kernel_rfl) (by kernel_rfl) ?_;refine qK rfl (hs2) rfl ?_;exact qB g (by kernel_rfl)
 clear ih;obtain rfl:k=ps.length:=by omega
 rw [<-hlen,List.take_length];refine qN rfl (decide_eq_false (by rw [List.length_map];omega)) ?_;exact qR rfl ⟨rfl,rfl⟩
theorem c8d{e:Evi}{ps:List Pck}{r:Rng}(h:ELen e)(hps:ps.length<=100)(h1:OOk r.Least 40)(h2:OOk r.Most 40):EvF tt 45 [.v (eEv e),L (ps.map ePk),.v (eRg r)] (B (rngB e ps r)):=by
 have hpk:=c5x (e:=e) (ps:=ps) (by omega);refine evF (eIn Tryz.func45 rfl rfl ?_);refine qK rfl (b1t e) rfl ?_;unfold rngB
 by_cases hf:a1t e=0
 ·have hG:=a1o hf;rw [if_pos hf];obtain⟨s1,s2⟩:=b4u hG h.mov;cases hr:pkV e [] ps with
  |none=>
   rw [show pkB e ps=false by unfold pkB;rw [hr];simp]at hpk;rw [Bool.and_false];refine qK rfl (hpk) rfl ?_;refine qN rfl rfl ?_;refine qE rfl (by kernel_rfl) (by kernel_rfl) ?_;exact qR rfl ⟨rfl,rfl⟩
  |some l=>
   rw [show pkB e ps=true by unfold pkB;rw [hr,hf];rfl]at hpk;have hgo:=d1c hf (by omega) hr;have hll:=d3v hr;have hck:=c6t (g:=sumV l) (s1.mono (show 20<=40 by omega)) (by omega) (by omega) s2 (by omega) h1 h2 (by rw [a6x];omega) (b1w l);rw [decide_eq_true hf,Bool.true_and];dsimp only;refine qK rfl (hpk) rfl ?_;refine qT rfl rfl ?_;refine qK rfl (hgo) rfl ?_;refine qK rfl (hck) rfl ?_;refine qE rfl (by kernel_rfl) (by kernel_rfl) ?_;exact qR rfl ⟨rfl,rfl⟩
 rw [if_neg hf,decide_eq_false hf,Bool.false_and,Bool.false_and,Bool.false_and];rw [show pkB e ps=false by unfold pkB;simp [hf]]at hpk;refine qK rfl (hpk) rfl ?_;refine qN rfl rfl ?_;refine qE rfl (by kernel_rfl) (by kernel_rfl) ?_;exact qR rfl ⟨rfl,rfl⟩
theorem d9d{e:Evi}{ps:List Pck}{r:Rng}(h:ELen e)(hps:ps.length<=100)(h1:OOk r.Least 40)(h2:OOk r.Most 40):EvF tt 14 [.v (eEv e),L (ps.map ePk),.v (eRg r)] (B (rngB e ps r)):=by
 have hc:=c8d h hps h1 h2;refine evF (eIn Tryz.func14 rfl rfl ?_);refine qK rfl (hc) rfl ?_;exact qR rfl ⟨rfl,rfl⟩
set_option linter.unusedVariables false
set_option maxHeartbeats 4000000
set_option maxRecDepth 100000
def risB(n:Int):Int->List Int->Bool |_,[]=>true |last,i::l=> !(decide (i<=last)||decide (n<=i))&&risB n i l
theorem b2x{n last i:Int}{l:List Int}:risB n last (i::l)=(!(decide (i<=last)||decide (n<=i))&&risB n i l):=rfl
theorem b6c{e:Evi}{mat:Int}:∀{l:List Int}{last:Int},(papV e mat last l).isSome=(risB e.Moves.length last l&&l.all fun i=>decide (a2n e i=5))
 | [],_=>rfl
 |i::l,last=>by
  rw [b2x,List.all_cons,show papV e mat last (i::l)=if i<=last∨(e.Moves.length:Int)<=i∨a2n e i≠5 then none else match papV e mat i l with
   |none=>none
   |some r=>some ((i*e.Materials+mat)::r)from rfl]
  by_cases c1:i<=last
  ·rw [if_pos (.inl c1),decide_eq_true c1];rfl
  by_cases c2:(e.Moves.length:Int)<=i
  ·rw [if_pos (.inr (.inl c2)),decide_eq_true c2];simp
  by_cases c3:a2n e i=5
  ·rw [if_neg (by simp [c1,c2,c3]),decide_eq_false c1,decide_eq_false c2,decide_eq_true c3];have ih:=b6c (e:=e) (mat:=mat) (l:=l) (last:=i);cases hp:papV e mat i l with
   |none=>rw [hp]at ih;simpa using ih
   |some r=>rw [hp]at ih;simpa using ih
  rw [if_pos (.inr (.inr c3)),decide_eq_false c3];simp
def pksB(b:Bch):List Pck:=b.Moves.map fun i=>⟨i,b.Material⟩
theorem c8t{e:Evi}{mat:Int}(hm:0<=mat/\mat<e.Materials):∀{l:List Int}{last:Int}{pre:List Pck}{r:List Int},-1<=last->(∀p∈pre,p.Move<=last)->papV e mat last l=some r->pkV e pre (l.map fun i=>⟨i,mat⟩)=some r
 | [],_,_,r,_,_,h=>by cases h;rfl
 |i::l,last,pre,r,h0,hp,h=>by
  rw [show papV e mat last (i::l)=if i<=last∨(e.Moves.length:Int)<=i∨a2n e i≠5 then none else match papV e mat i l with
   |none=>none
   |some r=>some ((i*e.Materials+mat)::r)from rfl]at h
  split at h
  ·cases h
  rename_i hc;simp only [not_or]at hc;split at h
  ·cases h
  rename_i r' hr';cases h;have hno:pre.any (a1i ⟨i,mat⟩)=false:=by
   rw [List.any_eq_false];intro q hq hs;have:=hp q hq;simp only [a1i,Bool.and_eq_true,decide_eq_true_eq]at hs;omega
  have ih:=c8t hm (l:=l) (last:=i) (pre:=pre++ [⟨i,mat⟩]) (r:=r') (by omega) (fun p hpp=>by
   rcases List.mem_append.1 hpp with h|h
   ·have:=hp p h;omega
   rw [List.mem_singleton]at h;subst h;exact Int.le_refl _) hr'
  rw [List.map_cons];unfold pkV;rw [if_neg (by simp only [not_or,Bool.not_eq_true];exact⟨by omega,by omega,by omega,by omega,hno⟩),ih]
theorem c3o{n m:Int}(h0:-9223372036854775808<=m-1)(h1:m<=9223372036854775807):EvF tt 97 [I n,I 0,I (isub .i64 m 1)] (B (idx n m)):=by
 have h:=e7h n 0 (m-1);rw [a0c (by omega) (by omega),show idx n m=btw n 0 (m-1) by unfold idx btw;congr 1;exact decide_eq_decide.2 (by omega)];exact h
def c0e(l:List Int):Nat->Int |0=>-1 |j+1=>(l[j]?).getD 0
theorem d7c{l:List Int}{n:Int}(hl:l.length<=100000)(hn:0<=n/\n<=100000):EvF tt 98 [L (ns l),I n] (B (risB n (-1) l&&decide (l≠ []))):=by
 have hlm:(ns l).length=l.length:=List.length_map ..;refine evF (eIn Tryz.func98 rfl rfl ?_);refine qF l.length (fun z _=> [(5,I z)]) (fun _ _=> []) (fun j(_:Unit)=>risB n (-1) l=risB n (c0e l j) (l.drop j)/\-1<=c0e l j) () rfl rfl ⟨rfl,Int.le_refl _⟩ ?_;rintro j ⟨⟩ hj ⟨hJ,h1⟩ ih
 by_cases hlt:j<l.length
 ·have hx:=List.getElem?_eq_getElem hlt;have hd:=a1p hx;generalize l[j]=x at hx hd;have hx2:l[Int.toNat (j:Int)]?=some x:=by rw [Int.toNat_natCast];exact hx
  have hln:c0e l (j+1)=x:=by show(l[j]?).getD 0=x;rw [hx];rfl
  rw [hd,b2x]at hJ;have b:=c3o (n:=x) (m:=n) (by omega) (by omega);have g:=fun(h:c0e l j<x/\0<=x/\x<n)=>ih _ () (a0a (by omega)) hlt ⟨by rw [hJ,hln,decide_eq_false (show¬x<=c0e l j by omega),decide_eq_false (show¬n<=x by omega)];rfl,by rw [hln];omega⟩;clear ih;refine qT rfl (decide_eq_true (by rw [hlm];omega)) ?_;refine qXi (g:=N) rfl (Int.natCast_nonneg _) hx2 ?_;cases c1:idx x n with
  |false=>
   rw [c1]at b;have hno:risB n (-1) l=false:=by
    have:¬(0<=x/\x<n):=fun h=>by rw [a3w.2 h]at c1;cases c1
    rw [hJ]
    by_cases hx0:x<n
    ·rw [decide_eq_true (show x<=c0e l j by omega)];rfl
    rw [decide_eq_true (show n<=x by omega)];simp
   rw [hno,Bool.false_and];clear g;refine qK rfl (b) rfl ?_;refine qT rfl rfl ?_;refine qE rfl (by kernel_rfl) (by kernel_rfl) ?_;exact qR rfl ⟨rfl,rfl⟩
  |true=>
  rw [c1]at b;have c1':=a3w.1 c1;refine qK rfl b rfl ?_;refine qN rfl rfl ?_;rcases j with _|j
  ·have g:=g ⟨by show(-1:Int)<x;omega,c1'⟩;refine qN rfl rfl ?_;refine qE rfl (by kernel_rfl) (by kernel_rfl) ?_;exact qB g (by kernel_rfl)
  have hj2:j<l.length:=by omega
  have hy:=List.getElem?_eq_getElem hj2;generalize l[j]=y at hy;have hlu:c0e l (j+1)=y:=by show(l[j]?).getD 0=y;rw [hy];rfl
  rw [hlu]at g hJ;have em:isub .i64 (((j+1:Nat):Int)) 1=(j:Int):=by rw [a0c (by omega) (by omega)];omega
  refine qT rfl (decide_eq_true (by omega)) ?_;refine qXi (g:=N) rfl (by rw [em];exact Int.natCast_nonneg _) (by rw [em,Int.toNat_natCast];exact hy) ?_;refine qXi (g:=N) rfl (Int.natCast_nonneg _) hx2 ?_
  by_cases c4:x<=y
  ·have hno:risB n (-1) l=false:=by rw [hJ,decide_eq_true c4];rfl
   rw [hno,Bool.false_and];clear g;refine qE rfl (by kernel_rfl) (by kernel_rfl) ?_;refine qT rfl (decide_eq_true c4) ?_;exact qR rfl ⟨rfl,rfl⟩
  have g:=g ⟨by omega,c1'⟩;refine qE rfl (by kernel_rfl) (by kernel_rfl) ?_;refine qN rfl (decide_eq_false c4) ?_;exact qB g (by kernel_rfl)
 have hd:l.drop j= []:=List.drop_eq_nil_of_le (by omega);rw [hd]at hJ;have hJ:risB n (-1) l=true:=hJ;rw [hJ,Bool.true_and];clear ih;refine qN rfl (decide_eq_false (by rw [hlm];omega)) ?_;have:decide (l≠ [])=decide (0<((ns l).length:Int)):=by rw [hlm];exact decide_eq_decide.2 ⟨fun h=>by have:=List.length_pos_iff.2 h;omega,fun h=>List.length_pos_iff.1 (by omega)⟩
 rw [this];exact qR rfl ⟨rfl,rfl⟩
def d1l(e:Evi)(b:Bch):Bool:=decide (a1t e=0)&&idx b.Material e.Materials&&(risB e.Moves.length (-1) b.Moves&&decide (b.Moves≠ []))&&b.Moves.all (fun i=>decide (a2n e i=5))
theorem d4v{n:Int}:∀{l:List Int}{last:Int},-1<=last->risB n last l=true->∀i∈l,0<=i/\i<n
 | [],_,_,_=>by simp
 |x::l,last,h0,h=>by
  rw [b2x,Bool.and_eq_true,Bool.not_eq_true',Bool.or_eq_false_iff,decide_eq_false_iff_not,decide_eq_false_iff_not]at h;intro i hi;rcases List.mem_cons.1 hi with rfl|hi
  ·omega
  exact d4v (by omega) h.2 i hi
theorem e2q{e:Evi}{b:Bch}(hb:b.Moves.length<=1000):EvF tt 50 [.v (eEv e),.v (eBt b)] (B (d1l e b)):=by
 have hfl:=c2g e;refine evF (eIn Tryz.func50 rfl rfl ?_);refine qK rfl hfl rfl ?_;unfold d1l
 by_cases hf:a1t e=0
 rotate_left
 ·rw [decide_eq_false hf];refine qT rfl (bne_iff_ne.2 hf) ?_;exact qR rfl ⟨rfl,rfl⟩
 have hG:=a1o hf;have g1:=hG.mov;have g2:=hG.mat;have g3:=hG.plc;have b1:=c3o (n:=b.Material) (m:=e.Materials) (by omega) (by omega);have b2:EvF tt 98 [L (ns b.Moves),I ((e.Moves.map eMo).length:Int)] (B (risB e.Moves.length (-1) b.Moves&&decide (b.Moves≠ []))):=by rw [List.length_map];exact d7c (by omega) (by omega)
 rw [decide_eq_true hf,hf,Bool.true_and];refine qN rfl rfl ?_;cases c1:idx b.Material e.Materials with
 |false=>
  rw [c1]at b1;refine qK rfl (b1) rfl ?_;refine qT rfl rfl ?_;exact qR rfl ⟨rfl,rfl⟩
 |true=>
 rw [c1]at b1;refine qK rfl b1 rfl ?_;refine qN rfl rfl ?_;rw [Bool.true_and];cases c2:(risB e.Moves.length (-1) b.Moves&&decide (b.Moves≠ []))with
 |false=>
  rw [c2]at b2;refine qK rfl (b2) rfl ?_;refine qT rfl rfl ?_;exact qR rfl ⟨rfl,rfl⟩
 |true=>
 rw [c2]at b2;refine qK rfl b2 rfl ?_;refine qN rfl rfl ?_;rw [Bool.true_and];rw [Bool.and_eq_true]at c2;have hmem:=d4v (by decide) c2.1;refine qF b.Moves.length (fun z _=> [(5,I z)]) (fun _ _=> []) (fun j(_:Unit)=>(b.Moves.all fun i=>decide (a2n e i=5))=((b.Moves.drop j).all fun i=>decide (a2n e i=5))) () rfl rfl rfl ?_;rintro j ⟨⟩ hj hJ ih;have hJ:(b.Moves.all fun i=>decide (a2n e i=5))=((b.Moves.drop j).all fun i=>decide (a2n e i=5)):=hJ
 by_cases hlt:j<b.Moves.length
 ·have hx:=List.getElem?_eq_getElem hlt;have hd:=a1p hx;generalize b.Moves[j]=i at hx hd;have hx2:b.Moves[Int.toNat (j:Int)]?=some i:=by rw [Int.toNat_natCast];exact hx
  obtain⟨m1,m2⟩:=hmem i (List.mem_of_getElem? hx);have hm:=List.getElem?_eq_getElem (show i.toNat<e.Moves.length by omega);have hmv:=hG.mv _ (List.mem_of_getElem? hm);generalize e.Moves[i.toNat]=m at hm hmv;have hto:0<=m.To/\m.To<e.Places.length:=by
   unfold movR at hmv;split at hmv
   ·cases hmv
   rename_i h;simp only [not_or,Bool.not_eq_false,a3w]at h;exact h.2.1
  have hp:=List.getElem?_eq_getElem (show m.To.toNat<e.Places.length by omega);generalize e.Places[m.To.toNat]=p at hp;have hk:a2n e i=p.Kind:=by unfold a2n;rw [hm];exact a6i hp
  rw [hd,List.all_cons,hk]at hJ;have g:=fun h=>ih _ () (a0a (by omega)) hlt h;clear ih;refine qT rfl (decide_eq_true (by rw [List.length_map];omega)) ?_;refine qXi (g:=N) rfl (Int.natCast_nonneg _) hx2 ?_;refine qXi (g:=eMo) rfl m1 hm ?_;refine qXi (g:=ePl) rfl hto.1 hp ?_;refine qE rfl (by kernel_rfl) (by kernel_rfl) ?_
  by_cases c5:p.Kind=5
  ·have g:=g (by rw [hJ,decide_eq_true c5];rfl);refine qN rfl (by simpa using c5) ?_;exact qB g (by kernel_rfl)
  have hno:(b.Moves.all fun i=>decide (a2n e i=5))=false:=by rw [hJ,decide_eq_false c5];rfl
  rw [hno];clear g;refine qT rfl (by simpa using c5) ?_;exact qR rfl ⟨rfl,rfl⟩
 have hd:b.Moves.drop j= []:=List.drop_eq_nil_of_le (by omega);rw [hd]at hJ;have hJ:(b.Moves.all fun i=>decide (a2n e i=5))=true:=hJ;rw [hJ];clear ih;refine qN rfl (decide_eq_false (by rw [List.length_map];omega)) ?_;exact qR rfl ⟨rfl,rfl⟩
theorem e8j{b:Bch}(hb:b.Moves.length<=1000):EvF tt 53 [.v (eBt b)] (L ((pksB b).map ePk)):=by
 refine evF (eIn Tryz.func53 rfl rfl ?_);refine qF b.Moves.length (fun z _=> [(4,I z)]) (fun _ ts=> [(0,.row 86 2 ts)]) (fun j ts=>ts=((b.Moves.take j).map fun i=>(⟨i,b.Material⟩:Pck)).map ePk/\ts.length<=j) [] rfl rfl ⟨rfl,Nat.le_refl _⟩ ?_;rintro j ts hj ⟨hts,htl⟩ ih;have hts:ts=((b.Moves.take j).map fun i=>(⟨i,b.Material⟩:Pck)).map ePk:=hts;have htl:ts.length<=j:=htl
 by_cases hlt:j<b.Moves.length
 ·have hx:=List.getElem?_eq_getElem hlt;generalize b.Moves[j]=i at hx;have hx2:b.Moves[Int.toNat (j:Int)]?=some i:=by rw [Int.toNat_natCast];exact hx
  have g:=ih _ (ts++ [ePk ⟨i,b.Material⟩]) (a0a (by omega)) hlt ⟨by rw [a1h hx,List.map_append,List.map_append,<-hts];rfl,by simp;omega⟩;clear ih;refine qT rfl (decide_eq_true (by rw [List.length_map];omega)) ?_;refine qXi (g:=N) rfl (Int.natCast_nonneg _) hx2 ?_;refine qA 16 rfl rfl ?_ ?_ (fun _=>rfl);rotate_left;refine qE rfl (by kernel_rfl) (by kernel_rfl) ?_;exact qB g (by kernel_rfl);all_goals (simp;omega)
 clear ih;rw [List.take_of_length_le (by omega)]at hts;unfold pksB;rw [<-hts];refine qN rfl (decide_eq_false (by rw [List.length_map];omega)) ?_;exact qR rfl ⟨rfl,rfl⟩
theorem YOk.mono{y:List Frac}{j k:Nat}(h:YOk y j)(hk:j<=k):YOk y k:=⟨h.len,fun f hf=>by have:=h.dig f hf;omega⟩
theorem d5p{e:Evi}{b:Bch}{grams:Int}{y:List Frac}(h:ELen e)(hY:YOk y 20)(hb:b.Moves.length<=100):EvF tt 18 [.v (eEv e),.v (eBt b),I grams,L (fs y)] (B (papB e b grams y)):=by
 have hfi:=e2q (e:=e) (b:=b) (by omega);have hpk:=e8j (b:=b) (by omega);have hno:papG e b grams=false->papB e b grams y=false:=fun h=>by unfold papB;rw [h];rfl
 refine evF (eIn Tryz.func18 rfl rfl ?_);refine qK rfl (b1t e) rfl ?_
 by_cases hf:a1t e=0
 rotate_left
 ·rw [if_neg hf,hno (by simp [papG,hf])];refine qT rfl (bne_iff_ne.2 hf) ?_;exact qR rfl ⟨rfl,rfl⟩
 rw [if_pos hf,hf];refine qN rfl rfl ?_;obtain⟨s1,s2⟩:=b4u (a1o hf) h.mov;cases hfb:d1l e b with
 |false=>
  rw [hfb]at hfi;have:papB e b grams y=false:=by
   unfold papB papG;unfold d1l at hfb;have hp:=b6c (e:=e) (mat:=b.Material) (l:=b.Moves) (last:=-1);cases hv:papV e b.Material (-1) b.Moves with
   |none=>simp
   |some r=>
    rw [hv]at hp;have hp:true=(risB e.Moves.length (-1) b.Moves&&b.Moves.all fun i=>decide (a2n e i=5)):=hp;rw [hf]at*;have hp:=hp.symm;rw [Bool.and_eq_true]at hp;rw [hp.1,hp.2]at hfb;unfold idx at hfb;simp only [decide_true,Bool.true_and,Bool.and_true]at hfb⊢
    by_cases m1:0<=b.Material
    ·by_cases m2:b.Material<e.Materials
     ·rw [decide_eq_true m1,decide_eq_true m2]at hfb;simp only [Bool.true_and,Bool.and_true]at hfb;rw [hfb];simp
     rw [decide_eq_false m2];simp
    rw [decide_eq_false m1];simp
  rw [this];refine qK rfl (hfi) rfl ?_;refine qT rfl rfl ?_;exact qR rfl ⟨rfl,rfl⟩
 |true=>
 rw [hfb]at hfi;unfold d1l at hfb;simp only [Bool.and_eq_true,decide_eq_true_eq]at hfb;obtain⟨⟨⟨-,f2⟩,f3,f4⟩,f5⟩:=hfb;have f2:=a3w.1 f2;refine qK rfl hfi rfl ?_;refine qN rfl rfl ?_
 by_cases c1:grams<0
 ·rw [hno (by simp [papG];omega)];refine qT rfl (decide_eq_true c1) ?_;exact qR rfl ⟨rfl,rfl⟩
 refine qN rfl (decide_eq_false c1) ?_
 by_cases c2:1099511627776<grams
 ·rw [hno (by simp [papG];omega)];refine qT rfl (decide_eq_true c2) ?_;exact qR rfl ⟨rfl,rfl⟩
 refine qN rfl (decide_eq_false c2) ?_;have hp:=b6c (e:=e) (mat:=b.Material) (l:=b.Moves) (last:=-1);rw [f3,f5]at hp;obtain⟨r,hr⟩:=Option.isSome_iff_exists.1 (hp.trans rfl);have hg:papG e b grams=true:=by simp [papG,hf,f4];omega
 have hpb:papB e b grams y=(lowB (sysE e) (sumV r) y&&decide (0<=cmpQ (lowV (sysE e) y) (grams:Rat))):=by unfold papB;rw [hg,hr];rfl
 have hpr:=c8t ⟨f2.1,f2.2⟩ (by decide) (pre:= []) (by simp) hr;have hgo:=d1c (ps:=pksB b) hf (by unfold pksB;rw [List.length_map];omega) hpr;have hrl:r.length<=100:=by rw [c3t hr];exact hb
 have hlo:=d4f (g:=sumV r) (s1.mono (show 20<=40 by omega)) (by omega) (by omega) s2 (hY.mono (by omega)) (by rw [a6x];omega) (b1w r);have hin:=a3b (x:=grams) (by omega) (by omega);rw [hpb];cases hlb:lowB (sysE e) (sumV r) y with
 |false=>
  rw [hlb]at hlo;refine qK rfl (hpk) rfl ?_;refine qK rfl (hgo) rfl ?_;refine qK rfl (hlo) rfl ?_;refine qE rfl (by kernel_rfl) (by kernel_rfl) ?_;refine qN rfl rfl ?_;refine qE rfl (by kernel_rfl) (by kernel_rfl) ?_;exact qR rfl ⟨rfl,rfl⟩
 |true=>
  rw [hlb,if_pos rfl]at hlo;have hsm:=b4v (s1.mono (show 20<=40 by omega)) (hY.mono (show 20<=40 by omega)) hlb;have hcm:=rfcmp_e hsm (a3r (x:=grams) (by omega)) (by decide);refine qK rfl (hpk) rfl ?_;refine qK rfl (hgo) rfl ?_;refine qK rfl (hlo) rfl ?_;refine qE rfl (by kernel_rfl) (by kernel_rfl) ?_;refine qT rfl rfl ?_;refine qK rfl (hin) rfl ?_;refine qK rfl (hcm) rfl ?_;refine qE rfl (by kernel_rfl) (by kernel_rfl) ?_;exact qR rfl ⟨rfl,rfl⟩
set_option linter.unusedVariables false
set_option maxHeartbeats 40000000
set_option maxRecDepth 100000
theorem b3p{l:List Frac}{m d:Nat}(h:fewP l m d=true):l.length<=m/\∀f∈l,f.P.Digits.length<=d/\f.Q.Digits.length<=d:=by
 unfold fewP at h;simp only [Bool.and_eq_true,decide_eq_true_eq]at h;refine⟨by omega,fun f hf=> ?_⟩;have:=List.all_eq_true.1 h.2 f hf;unfold fewF at this;simp only [Bool.and_eq_true,decide_eq_true_eq]at this;omega
theorem d8g(e:Evi)(ps:List Pck)(r:Rng)(b:Bch)(grams:Int)(y l:List Frac)(s:Bs):EvF tt 3 [.v (eEv e),L (ps.map ePk),.v (eRg r),.v (eBt b),I grams,L (fs y),L (fs l),S s] (B true):=by
 have h1:EvF tt 7 [L (fs l),I 20,I 20] (B (fewP l 20 20)):=b1z l 20 20 (by decide);have h2:=e5h e b y;have h3:EvF tt 6 [.v (eEv e),L (ps.map ePk),.v (eRg r),I 4,I 2] (B (b6n e ps r 4 2)):=c9l e ps r 4 2;refine evF (eIn Tryz.func3 rfl rfl ?_);refine qK rfl small_e rfl ?_;cases c1:c7b e b y with
 |false=>
  rw [c1]at h2;refine qK rfl (h2) rfl ?_;refine qT rfl rfl ?_;exact qR rfl ⟨rfl,rfl⟩
 |true=>
 rw [c1]at h2;refine qK rfl h2 rfl ?_;refine qN rfl rfl ?_;cases c2:b6n e ps r 4 2 with
 |false=>
  rw [c2]at h3;refine qK rfl (h3) rfl ?_;refine qT rfl rfl ?_;exact qR rfl ⟨rfl,rfl⟩
 |true=>
 rw [c2]at h3;refine qK rfl h3 rfl ?_;refine qN rfl rfl ?_;cases c3:fewP l 20 20 with
 |false=>
  rw [c3]at h1;refine qK rfl (h1) rfl ?_;refine qT rfl rfl ?_;exact qR rfl ⟨rfl,rfl⟩
 |true=>
 rw [c3]at h1;refine qK rfl h1 rfl ?_;refine qN rfl rfl ?_
 by_cases c4:400<s.length
 ·refine qT rfl (decide_eq_true (by omega)) ?_;exact qR rfl ⟨rfl,rfl⟩
 refine qN rfl (decide_eq_false (by omega)) ?_;obtain⟨l1,l2⟩:=b3p (m:=20) (d:=20) c3;have hys:y.length<=60/\∀f∈y,f.P.Digits.length<=20/\f.Q.Digits.length<=20:=by
  unfold c7b at c1;simp only [Bool.and_eq_true]at c1;exact b3p (m:=60) (d:=20) c1.1.2
 have hY:YOk y 20:=⟨by omega,hys.2⟩
 have hE:ELen e:=by
  unfold c7b b6n sml at c1;simp only [Bool.and_eq_true,decide_eq_true_eq]at c1;constructor<;>omega
 have hbm:b.Moves.length<=100:=by
  unfold c7b at c1;simp only [Bool.and_eq_true,decide_eq_true_eq]at c1;omega
 have hO:∀o,fewO o 60 40=true->OOk o 40:=fun o h=>by
  unfold fewO at h;simp only [Bool.and_eq_true]at h;obtain⟨⟨⟨o1,o2⟩,o3⟩,o4⟩:=h;have v:=o1;unfold fewF at v;simp only [Bool.and_eq_true,decide_eq_true_eq]at v;obtain⟨x1,x2⟩:=b3p (m:=60) (d:=40) o2;obtain⟨y1,y2⟩:=b3p (m:=60) (d:=40) o3;obtain⟨z1,z2⟩:=b3p (m:=60) (d:=40) o4;exact⟨by omega,⟨by omega,x2⟩,⟨by omega,y2⟩,⟨by omega,z2⟩⟩
 have hR:ps.length<=100/\OOk r.Least 40/\OOk r.Most 40:=by
  unfold b6n at c2;simp only [Bool.and_eq_true,decide_eq_true_eq]at c2;exact⟨by omega,hO _ c2.1.2,hO _ c2.2⟩
 have r1:=d9x s (by omega) (a5g (by omega));have r2:=c9v s (by omega);have t1:=d1f l2 (by decide) (by omega);have t2:=d2o l2 (by decide) (by omega);have g1:=d9e hE hR.1 hR.2.1 hR.2.2;have g2:=d9d hE hR.1 hR.2.1 hR.2.2;have i1:=d3z hE hY;have i2:=d7a hE hY;have p1:=c0w (b:=b) (grams:=grams) hE hY (by omega);have p2:=d5p (b:=b) (grams:=grams) hE hY hbm;generalize b3x l=tx at t1 t2;generalize rngB e ps r=g at g1 g2;generalize impB e y=i at i1 i2;generalize papB e b grams y=p at p1 p2;unfold rdV at r1 r2;cases hp:a4b s with
 |none=>
  rw [hp]at r1 r2;have hs:=c3w [] [] (by decide) (by simp);rw [decide_eq_true rfl]at hs;refine qK rfl r1 rfl ?_;refine qK rfl r2 rfl ?_;refine qT rfl rfl ?_;refine qK rfl hs rfl ?_;refine qT rfl rfl ?_;refine qK rfl t1 rfl ?_;refine qK rfl t2 rfl ?_;refine qT rfl (by simp) ?_;refine qK rfl g1 rfl ?_;refine qK rfl g2 rfl ?_;refine qE rfl (by kernel_rfl) (by kernel_rfl) ?_;refine qT rfl rfl ?_;refine qT rfl (by cases g<;>rfl) ?_;refine qK rfl i1 rfl ?_;refine qK rfl i2 rfl ?_;refine qT rfl (by cases i<;>rfl) ?_;refine qK rfl p1 rfl ?_;refine qK rfl p2 rfl ?_;refine qE rfl (by kernel_rfl) (by kernel_rfl) ?_;refine qR rfl ⟨congrArg B ?_,rfl⟩;cases p<;>rfl
 |some a=>
  rw [hp]at r1 r2;obtain⟨a1,a2⟩:=d0z (by omega) hp;have hs:=c3w a a (by omega) (fun f hf=>by have:=a1 f hf;omega);rw [decide_eq_true rfl]at hs;refine qK rfl r1 rfl ?_;refine qK rfl r2 rfl ?_;refine qT rfl rfl ?_;refine qK rfl hs rfl ?_;refine qT rfl rfl ?_;refine qK rfl t1 rfl ?_;refine qK rfl t2 rfl ?_;refine qT rfl (by simp) ?_;refine qK rfl g1 rfl ?_;refine qK rfl g2 rfl ?_;refine qE rfl (by kernel_rfl) (by kernel_rfl) ?_;refine qT rfl rfl ?_;refine qT rfl (by cases g<;>rfl) ?_;refine qK rfl i1 rfl ?_;refine qK rfl i2 rfl ?_;refine qT rfl (by cases i<;>rfl) ?_;refine qK rfl p1 rfl ?_;refine qK rfl p2 rfl ?_;refine qE rfl (by kernel_rfl) (by kernel_rfl) ?_;refine qR rfl ⟨congrArg B ?_,rfl⟩;cases p<;>rfl
end Dp
end Go.Proofs.YtjegnogjkddnbaaGreatDoor
