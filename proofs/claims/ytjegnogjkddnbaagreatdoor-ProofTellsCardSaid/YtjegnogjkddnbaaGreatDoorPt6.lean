/- Several texts in one, for ProofTells.card: what the theorem leans on. -/
import Derived.Test.YtjegnogjkddnbaaGreatDoorPt5
namespace Go.Proofs.YtjegnogjkddnbaaGreatDoor
set_option linter.unusedSimpArgs false
namespace Dp
open Go Go.RowKit Go.Proofs.YtjegnogjkddnbaaGreatDoor.Rt Go.Proofs Go.Proofs.YtjegnogjkddnbaaGreatDoor.D
set_option linter.unusedVariables false
set_option maxHeartbeats 4000000
set_option maxRecDepth 100000
theorem smF_0:SmF 1 (0:Rat):=⟨by unfold Sm;decide,by unfold Sm;decide⟩
theorem e0n{a b c:Rat}{j k:Nat}(ha:SmF j a)(hb:SmF k b)(hc:SmF k c)(hk:j+2*k<3000000):EvF tt 209 [.v (eF (toF a)),.v (eF (toF b)),.v (eF (toF c))] (.v (eF (toF (a+b*c)))):=by
 have h1:=fmul_e hb hc (by omega);have h2:=fadd_e ha (hb.mul hc) (by omega);refine evF (eIn Tryz.func209 rfl rfl ?_);refine qK rfl (h1) rfl ?_;refine qK rfl (h2) rfl ?_;exact qR rfl ⟨rfl,rfl⟩
def mixT(m:Rat):List Rat->List Trm->List Rat |s,[]=>s |s,t::l=>mixT m (s.set t.1.toNat (s.getD t.1.toNat 0+m*t.2)) l
def mixS:List Rat->List Rw->List Rat->List Rat |s,r::rs,m::ms=>mixS (if m=0 then s else mixT m s r.Terms) rs ms |s,_,_=>s
def mixV:Rat->List Rw->List Rat->Rat |v,r::rs,m::ms=>mixV (if m=0 then v else v+m*r.Value) rs ms |v,_,_=>v
def outT:Nat->List Rat->List Trm |_,[]=> [] |v,c::l=>if c=0 then outT (v+1) l else((v:Int),c)::outT (v+1) l
def mixO(s:Sy)(ys:List Rat):List Trm:=outT 0 (mixS (List.replicate s.N.toNat 0) s.Rows ys)
abbrev qs(l:List Rat):List VT:=l.map fun r=>eF (toF r)
theorem b0w{m:Rat}:∀{l:List Trm}{s:List Rat},(mixT m s l).length=s.length
 | [],_=>rfl
 |t::l,s=>by unfold mixT;rw [b0w,List.length_set]
abbrev boxF(v:Rat):Ob:= .box 34 [.v (N (toF v).P.Sign),.v (.sl (ns (toF v).P.Digits)),.v (N (toF v).Q.Sign),.v (.sl (ns (toF v).Q.Digits))]
theorem e6x{α:Type}(a b:α){j n:Nat}(h:j<n):(List.replicate j a++List.replicate (n-j) b).set j a=List.replicate (j+1) a++List.replicate (n-(j+1)) b:=by
 rw [show n-j=(n-(j+1))+1 by omega,List.replicate_succ,List.set_append_right _ _ (by simp),List.length_replicate,Nat.sub_self,List.set_cons_zero,List.replicate_succ',List.append_assoc];rfl
theorem c0t{n:Int}:∀{l:List Trm}{last:Int},rtT n last l=true->∀t∈l,last<t.1/\t.1<n
 | [],_,_,t,h=>by simp at h
 |x::l,last,h,t,ht=>by
  unfold rtT at h;simp only [Bool.and_eq_true,decide_eq_true_eq]at h;rcases List.mem_cons.1 ht with rfl|ht
  ·exact h.1.1
  have:=c0t h.2 t ht;omega
theorem f1v{s:Sy}{k:Nat}(hS:SyOk s k)(hk:k<=200)(ht:∀r∈s.Rows,r.Terms.length<=100)(y:List Frac)(hy:∀f∈y,f.P.Digits.length<=k/\f.Q.Digits.length<=k)(hl:y.length<=64)(hm:mulS s y=true):
 EvF tt 150 [.v (eSy s),L (fs y)] (.tup [L ((mixO s (y.map toQ)).map eTm),.v (eF (toF (mixV 0 s.Rows (y.map toQ))))]):=by
 have hmu:EvF tt 208 [.v (eSy s),L (fs y)] (B (mulS s y)):=c3y hS (by omega) y hy (by omega);rw [hm]at hmu;have h0:EvF tt 20 [I 0] (.v (eF (toF 0))):=a2f (x:=0) (by decide) (by decide);refine evF (eIn Tryz.func150 rfl rfl ?_);refine qK rfl hmu rfl ?_;refine qN rfl rfl ?_;have hN:0<=s.N/\s.N<=1500:=by
  unfold mulS sysR at hm;simp only [Bool.and_eq_true,a2q]at hm;exact hm.1.1.1.1
 have hyl:y.length=s.Rows.length/\y.all a0f=true:=by
  unfold mulS at hm;simp only [Bool.and_eq_true,decide_eq_true_eq]at hm;exact⟨hm.1.2,hm.2⟩
 refine qM 64 rfl rfl ⟨?_,?_⟩ ?_;rotate_left 2
 ·refine qF s.N.toNat (fun z _=> [(26,I z)]) (fun _ ts=> [(0,.row 34 4 ts)]) (fun j ts=>ts=fs (List.replicate j (toF 0)++List.replicate (s.N.toNat-j) zeroF)) (List.replicate s.N.toNat (eF zeroF)) rfl rfl (by simp) ?_;rintro j ts hj hts ih;have hts:ts=fs (List.replicate j (toF 0)++List.replicate (s.N.toNat-j) zeroF):=hts;subst hts
  by_cases hlt:j<s.N.toNat
  ·refine qT rfl (decide_eq_true (by rw [List.length_replicate];omega)) ?_;refine qK rfl (h0) rfl ?_;refine qXm rfl ⟨?_,?_⟩ fun v hv _=> ?_;rotate_left 2;refine qB (ih _ _ (a0a (by omega)) hlt ?_) rfl;rotate_left;all_goals clear ih
   ·omega
   ·simp;omega
   show List.set (fs _) (Int.toNat j) (eF (toF 0))=_;rw [Int.toNat_natCast,<-List.map_set,e6x _ _ hlt]
  refine qN rfl (decide_eq_false (by rw [List.length_replicate];omega)) ?_;obtain rfl:j=s.N.toNat:=by omega
  rw [Nat.sub_self,List.replicate_zero,List.append_nil];have hrep:fs (List.replicate s.N.toNat (toF 0))=qs (List.replicate s.N.toNat 0):=by simp
  rw [hrep];refine qK rfl (h0) rfl ?_;refine qF y.length (fun z _=> [(37,I z)]) (fun _ q=> [(0,boxF q.2),(1,.row 34 4 q.1)]) (fun j q=>∃cur:List Rat,q.1=qs cur/\mixS (List.replicate s.N.toNat 0) s.Rows (y.map toQ)=mixS cur (s.Rows.drop j) ((y.drop j).map toQ)/\mixV 0 s.Rows (y.map toQ)=mixV q.2 (s.Rows.drop j) ((y.drop j).map toQ)/\cur.length=s.N.toNat/\(∀x∈cur,SmF (1+100*j*(2*k+1)) x)/\SmF (1+j*(2*k+1)) q.2)
   (qs (List.replicate s.N.toNat 0),0) rfl rfl ⟨_,rfl,rfl,rfl,by simp,fun x hx=>by rw [List.eq_of_mem_replicate hx];exact smF_0.mono (by omega),smF_0.mono (by omega)⟩ ?_
  rintro j ⟨ts,v⟩ hj ⟨cur,hh,hms,hmv,hcl,hcs,hvs⟩ ih;obtain rfl:ts=qs cur:=hh;have hvs:SmF (1+j*(2*k+1)) v:=hvs;have hmv:mixV 0 s.Rows (y.map toQ)=mixV v (s.Rows.drop j) ((y.drop j).map toQ):=hmv;refine qXl rfl rfl rfl hj (fun f hf hd hlt=> ?_) (fun hd hj=> ?_)
  ·have hfm:=List.mem_of_getElem? hf;obtain⟨e1,e2⟩:=b3k (hy f hfm) (List.all_eq_true.1 hyl.2 f hfm);have hrl:j<s.Rows.length:=by omega
   have hr:=List.getElem?_eq_getElem hrl;generalize s.Rows[j]=r at hr;have hrm:=List.mem_of_getElem? hr;rw [hd,a1p hr,List.map_cons]at hms hmv;have hms:mixS (List.replicate s.N.toNat 0) s.Rows (y.map toQ)=mixS (if toQ f=0 then cur else mixT (toQ f) cur r.Terms) (s.Rows.drop (j+1)) ((y.drop (j+1)).map toQ):=hms;have hmv:mixV 0 s.Rows (y.map toQ)=mixV (if toQ f=0 then v else v+toQ f*r.Value) (s.Rows.drop (j+1)) ((y.drop (j+1)).map toQ):=hmv;generalize toQ f=g at*;subst e1;have hsg:=fsign_e e2 (by omega);refine qK rfl hsg rfl ?_
   by_cases hg:g=0
   ·refine qT rfl (by rw [b3w,hg];rfl) ?_;refine qB (ih _ (qs cur,v) (a0a (by omega)) hlt ⟨cur,rfl,hms.trans (by rw [if_pos hg]),hmv.trans (by rw [if_pos hg]),hcl,fun x hx=>(hcs x hx).mono (by have:=Nat.mul_le_mul_right (2*k+1) (show 100*j<=100*(j+1) by omega);omega),hvs.mono (by have:=Nat.mul_le_mul_right (2*k+1) (show j<=j+1 by omega);omega)⟩) (by kernel_rfl)
   refine qN rfl (by rw [b3w];exact decide_eq_false hg) ?_;refine qXi rfl (by omega) hr ?_;have hrt:rtT s.N (-1) r.Terms=true:=by
    unfold mulS sysR at hm;simp only [Bool.and_eq_true]at hm;have:=List.all_eq_true.1 hm.1.1.2 r hrm;unfold rowR at this;simp only [Bool.and_eq_true]at this;exact this.1
   obtain⟨t1,t2,t3⟩:=hS.terms r hrm;have t4:=ht r hrm;refine qF r.Terms.length (fun z _=> [(52,I z)]) (fun _ ts=> [(3,.row 34 4 ts)]) (fun i ts=>∃cu:List Rat,ts=qs cu/\mixT g cur r.Terms=mixT g cu (r.Terms.drop i)/\cu.length=s.N.toNat/\∀x∈cu,SmF (1+(100*j+i)*(2*k+1)) x) (qs cur) rfl rfl ⟨cur,rfl,rfl,hcl,hcs⟩ ?_;rintro i ts hi ⟨cu,rfl,hmt,hul,hus⟩ ih2;refine qXl rfl rfl rfl hi (fun t ht hd2 hlt2=> ?_) (fun hd2 hi=> ?_)
   ·have htm:=List.mem_of_getElem? ht;have hvr:=c0t hrt t htm;have hxl:t.1.toNat<cu.length:=by omega
    have hat:=List.getElem?_eq_getElem hxl;generalize cu[t.1.toNat]=x at hat;have hb1:=Nat.mul_le_mul (show 100*j+i<=6500 by omega) (show 2*k+1<=401 by omega);have hadd:=e0n (hus x (List.mem_of_getElem? hat)) e2 (t2 t htm) (by omega);refine qXi rfl (by omega) hat ?_;refine qK rfl hadd rfl ?_;refine qXi rfl (by omega) hat ?_;refine qE rfl (by kernel_rfl) (by kernel_rfl) ?_;refine qB (ih2 _ _ (a0a (by omega)) hlt2 ?_) rfl;refine⟨cu.set t.1.toNat (x+g*t.2),(List.map_set (f:=fun r:Rat=>eF (toF r))).symm,?_,by rw [List.length_set];exact hul,fun z hz=> ?_⟩
    ·rw [hmt,hd2];show mixT g (cu.set t.1.toNat (cu.getD t.1.toNat 0+g*t.2)) _=_;rw [List.getD_eq_getElem?_getD,hat];rfl
    have:=Nat.mul_le_mul_right (2*k+1) (show 100*j+i+1<=100*j+(i+1) by omega);rcases List.mem_or_eq_of_mem_set hz with hz|rfl
    ·exact(hus z hz).mono (by have:=Nat.mul_le_mul_right (2*k+1) (show 100*j+i<=100*j+(i+1) by omega);omega)
    exact((hus x (List.mem_of_getElem? hat)).add (e2.mul (t2 t htm))).mono (by rw [Nat.add_mul]at this;omega)
   refine qXi rfl (by omega) hr ?_;have hb1:=Nat.mul_le_mul (show j<=64 by omega) (show 2*k+1<=401 by omega);have hadd:=e0n hvs e2 t3 (by omega);have hmt:mixT g cur r.Terms=cu:=by rw [hmt,hd2];rfl
   refine qK rfl (hadd) rfl ?_;refine qE rfl (by kernel_rfl) (by kernel_rfl) ?_;refine qB (ih _ (qs cu,v+g*r.Value) (a0a (by omega)) hlt ⟨cu,rfl,hms.trans (by rw [if_neg hg,hmt]),hmv.trans (by rw [if_neg hg]),hul,fun x hx=>(hus x hx).mono (by have:=Nat.mul_le_mul_right (2*k+1) (show 100*j+i<=100*(j+1) by omega);omega),(hvs.add (e2.mul t3)).mono (by rw [Nat.add_mul];omega)⟩) (by kernel_rfl)
  have hms:mixS (List.replicate s.N.toNat 0) s.Rows (y.map toQ)=cur:=by
   rw [hms,hd];simp [mixS]
  have hmv:mixV 0 s.Rows (y.map toQ)=v:=by
   rw [hmv,hd];simp [mixV]
  have hout:mixO s (y.map toQ)=outT 0 cur:=by unfold mixO;rw [hms]
  rw [hout,hmv];clear ih;refine qF cur.length (fun z _=> [(82,I z)]) (fun _ o=> [(1,.row 131 5 o)]) (fun i o=>∃ac:List Trm,ac.length<=i/\o=ac.map eTm/\outT 0 cur=ac++outT i (cur.drop i)) [] rfl rfl ⟨[],by simp,rfl,rfl⟩ ?_;rintro i o hi ⟨ac,hal,rfl,hac⟩ ih3;refine qXl rfl rfl rfl hi (fun x hx hd3 hlt3=> ?_) (fun hd3 hi=> ?_)
  ·have hxs:=hcs x (List.mem_of_getElem? hx);have hsg:=fsign_e hxs (by have hb1:=Nat.mul_le_mul (show 100*j<=6400 by omega) (show 2*k+1<=401 by omega);omega);rw [hd3]at hac;have hac:outT 0 cur=ac++(if x=0 then outT (i+1) (cur.drop (i+1))else((i:Int),x)::outT (i+1) (cur.drop (i+1))):=hac;refine qK rfl hsg rfl ?_
   by_cases hg:x=0
   ·rw [if_pos hg]at hac;refine qN rfl (by rw [bne,b3w,hg];rfl) ?_;refine qB (ih3 _ (ac.map eTm) (a0a (by omega)) hlt3 ⟨ac,by omega,rfl,hac⟩) (by kernel_rfl)
   rw [if_neg hg]at hac;refine qT rfl (by rw [bne,b3w];simp [hg]) ?_;refine qA 72 rfl rfl ?_ ?_;rotate_left;refine qB (ih3 _ _ (a0a (by omega)) hlt3 ⟨ac++ [((i:Int),x)],by simp;omega,by rw [List.map_append];rfl,by rw [hac,List.append_assoc];rfl⟩) rfl;all_goals clear ih3
   ·simp;omega
  have hac:outT 0 cur=ac:=by rw [hac,hd3];simp [outT]
  rw [hac];refine qE rfl (by kernel_rfl) (by kernel_rfl) ?_;exact qR rfl ⟨rfl,rfl⟩;all_goals clear ih3
  all_goals rfl
 all_goals omega
set_option linter.unusedVariables false
set_option maxHeartbeats 4000000
set_option maxRecDepth 100000
def belF:Nat->List Trm->List Trm->Bool |0,_,_=>true |n+1,[],[]=>true |n+1,x::a,[]=>if 0<cmpQ x.2 0 then false else belF n a [] |n+1,[],y::b=>if 0<cmpQ 0 y.2 then false else belF n [] b |n+1,x::a,y::b=>if x.1<y.1 then(if 0<cmpQ x.2 0 then false else belF n a (y::b))else if y.1<x.1 then(if 0<cmpQ 0 y.2 then false else belF n (x::a) b)else if 0<cmpQ x.2 y.2 then false else belF n a b
theorem lslT(x:Trm)(l:List Trm){q:Nat}(hq:q=5){z:Int}(hz:z=((x::l).map eTm).length):lslQ q ((x::l).map eTm) 1 z=some (l.map eTm):=by
 subst hq hz;unfold lslQ lsl;have h1:szOk 5 ((x::l).map eTm)=true:=b1h (g:=eTm) (fun _=>rfl) _;rw [h1];show(if _ then _ else _)=_;rw [if_pos ⟨by omega,by simp;omega,by omega⟩];simp;exact List.take_of_length_le (by simp)
theorem f2b{a b:List Trm}{k:Nat}(ha:∀t∈a,SmF k t.2)(hb:∀t∈b,SmF k t.2)(hk:k<1000000)(hka:1<=k):EvF tt 151 [L (a.map eTm),L (b.map eTm)] (B (belF (a.length+b.length) a b)):=by
 have h0:EvF tt 20 [I 0] (.v (eF (toF 0))):=a2f (x:=0) (by decide) (by decide);have hz:SmF k (0:Rat):=smF_0.mono hka;refine evF (eIn Tryz.func151 rfl rfl ?_);refine qK rfl (h0) rfl ?_;refine qL (fun q:List Trm×List Trm=> [(0,L (q.1.map eTm)),(1,L (q.2.map eTm))]) (fun _=> []) (fun q=>(∀t∈q.1,SmF k t.2)/\(∀t∈q.2,SmF k t.2)/\∃n,q.1.length+q.2.length<=n/\belF (a.length+b.length) a b=belF n q.1 q.2) (fun q=>q.1.length+q.2.length) (a,b) rfl rfl ⟨ha,hb,_,Nat.le_refl _,rfl⟩ ?_;rintro⟨us,ws⟩ ⟨ha,hb,n,hm,hbel⟩ ih;have hbel:belF (a.length+b.length) a b=belF n us ws:=hbel;have hm:us.length+ws.length<=n:=hm;rcases us with _|⟨x,us⟩
 ·rcases ws with _|⟨y,ws⟩
  ·have e:belF n [] []=true:=by cases n<;>rfl
   rw [hbel,e];refine qN rfl rfl ?_;refine qN rfl rfl ?_;exact qR rfl ⟨rfl,rfl⟩
  have hy:=hb y (List.mem_cons_self ..);have c:=fcmp_e hz hy (by omega);obtain⟨m,rfl⟩:∃m,n=m+1:=⟨n-1,by simp at hm;omega⟩
  have hbel:belF (a.length+b.length) a b=if 0<cmpQ 0 y.2 then false else belF m [] ws:=hbel
  refine qN rfl rfl ?_;refine qT rfl (decide_eq_true (by first|omega|(simp;done)|(simp;omega))) ?_;refine qE rfl (by kernel_rfl) (by kernel_rfl) ?_;refine qN rfl rfl ?_;refine qN rfl rfl ?_;refine qE rfl (by kernel_rfl) (by kernel_rfl) ?_;refine qT rfl rfl ?_;refine qE rfl (by kernel_rfl) (by kernel_rfl) ?_;refine qV rfl rfl ?_;refine qV rfl (lslT y ws rfl rfl) ?_;refine qE rfl (by kernel_rfl) (by kernel_rfl) ?_;refine qK rfl c rfl ?_
  by_cases hp:0<cmpQ 0 y.2
  ·rw [hbel,if_pos hp];refine qT rfl (decide_eq_true hp) ?_;exact qR rfl ⟨rfl,rfl⟩
  have hbel:=hbel.trans (if_neg hp);refine qN rfl (decide_eq_false hp) ?_;refine qB (ih ([],ws) ⟨ha,fun t ht=>hb t (List.mem_cons_of_mem _ ht),m,by simp only [List.length_cons,List.length_nil]at hm⊢;omega,hbel⟩ (by simp only [List.length_cons,List.length_nil];omega)) rfl
 have hx:=ha x (List.mem_cons_self ..);obtain⟨m,rfl⟩:∃m,n=m+1:=⟨n-1,by simp at hm;omega⟩
 rcases ws with _|⟨y,ws⟩
 ·have c:=fcmp_e hx hz (by omega);have hbel:belF (a.length+b.length) a b=if 0<cmpQ x.2 0 then false else belF m us []:=hbel
  refine qT rfl (decide_eq_true (by first|omega|(simp;done)|(simp;omega))) ?_;refine qE rfl (by kernel_rfl) (by kernel_rfl) ?_;refine qT rfl rfl ?_;refine qE rfl (by kernel_rfl) (by kernel_rfl) ?_;refine qN rfl rfl ?_;refine qN rfl rfl ?_;refine qE rfl (by kernel_rfl) (by kernel_rfl) ?_;refine qV rfl rfl ?_;refine qV rfl (lslT x us rfl rfl) ?_;refine qE rfl (by kernel_rfl) (by kernel_rfl) ?_;refine qK rfl c rfl ?_
  by_cases hp:0<cmpQ x.2 0
  ·rw [hbel,if_pos hp];refine qT rfl (decide_eq_true hp) ?_;exact qR rfl ⟨rfl,rfl⟩
  have hbel:=hbel.trans (if_neg hp);refine qN rfl (decide_eq_false hp) ?_;refine qB (ih (us,[]) ⟨fun t ht=>ha t (List.mem_cons_of_mem _ ht),hb,m,by simp only [List.length_cons,List.length_nil]at hm⊢;omega,hbel⟩ (by simp only [List.length_cons,List.length_nil];omega)) rfl
 have hy:=hb y (List.mem_cons_self ..);have hbel:belF (a.length+b.length) a b=if x.1<y.1 then(if 0<cmpQ x.2 0 then false else belF m us (y::ws))else if y.1<x.1 then(if 0<cmpQ 0 y.2 then false else belF m (x::us) ws)else if 0<cmpQ x.2 y.2 then false else belF m us ws:=hbel
 rcases Int.lt_trichotomy x.1 y.1 with hl|hl|hl
 ·rw [if_pos hl]at hbel;have c:=fcmp_e hx hz (by omega);refine qT rfl (decide_eq_true (by first|omega|(simp;done)|(simp;omega))) ?_;refine qE rfl (by kernel_rfl) (by kernel_rfl) ?_;refine qN rfl rfl ?_;refine qT rfl (decide_eq_true (by first|omega|(simp;done)|(simp;omega))) ?_;refine qV rfl rfl ?_;refine qV rfl rfl ?_;refine qE rfl (by kernel_rfl) (by kernel_rfl) ?_;refine qN rfl rfl ?_;refine qT rfl (decide_eq_true (by first|omega|(simp;done)|(simp;omega))) ?_;refine qV rfl rfl ?_;refine qV rfl rfl ?_;refine qE rfl (by kernel_rfl) (by kernel_rfl) ?_;refine qT rfl (decide_eq_true (by first|omega|(simp;done)|(simp;omega))) ?_;refine qV rfl rfl ?_;refine qV rfl (lslT x us rfl rfl) ?_;refine qE rfl (by kernel_rfl) (by kernel_rfl) ?_;refine qN rfl (decide_eq_false (by first|omega|(simp;done)|(simp;omega))) ?_;refine qK rfl c rfl ?_
  by_cases hp:0<cmpQ x.2 0
  ·rw [hbel,if_pos hp];refine qT rfl (decide_eq_true hp) ?_;exact qR rfl ⟨rfl,rfl⟩
  have hbel:=hbel.trans (if_neg hp);refine qN rfl (decide_eq_false hp) ?_;refine qB (ih (us,y::ws) ⟨fun t ht=>ha t (List.mem_cons_of_mem _ ht),hb,m,by simp only [List.length_cons]at hm⊢;omega,hbel⟩ (by simp only [List.length_cons];omega)) rfl
 ·rw [if_neg (by omega),if_neg (by omega)]at hbel;have c:=fcmp_e hx hy (by omega);refine qT rfl (decide_eq_true (by first|omega|(simp;done)|(simp;omega))) ?_;refine qE rfl (by kernel_rfl) (by kernel_rfl) ?_;refine qN rfl rfl ?_;refine qT rfl (decide_eq_true (by first|omega|(simp;done)|(simp;omega))) ?_;refine qV rfl rfl ?_;refine qV rfl rfl ?_;refine qE rfl (by kernel_rfl) (by kernel_rfl) ?_;refine qN rfl rfl ?_;refine qT rfl (decide_eq_true (by first|omega|(simp;done)|(simp;omega))) ?_;refine qV rfl rfl ?_;refine qV rfl rfl ?_;refine qE rfl (by kernel_rfl) (by kernel_rfl) ?_;refine qT rfl (decide_eq_true (by first|omega|(simp;done)|(simp;omega))) ?_;refine qV rfl rfl ?_;refine qV rfl (lslT x us rfl rfl) ?_;refine qE rfl (by kernel_rfl) (by kernel_rfl) ?_;refine qT rfl (decide_eq_true (by first|omega|(simp;done)|(simp;omega))) ?_;refine qV rfl rfl ?_;refine qV rfl (lslT y ws rfl rfl) ?_;refine qE rfl (by kernel_rfl) (by kernel_rfl) ?_;refine qK rfl c rfl ?_
  by_cases hp:0<cmpQ x.2 y.2
  ·rw [hbel,if_pos hp];refine qT rfl (decide_eq_true hp) ?_;exact qR rfl ⟨rfl,rfl⟩
  have hbel:=hbel.trans (if_neg hp);refine qN rfl (decide_eq_false hp) ?_;refine qB (ih (us,ws) ⟨fun t ht=>ha t (List.mem_cons_of_mem _ ht),fun t ht=>hb t (List.mem_cons_of_mem _ ht),m,by simp only [List.length_cons]at hm⊢;omega,hbel⟩ (by simp only [List.length_cons];omega)) rfl
 rw [if_neg (by omega),if_pos hl]at hbel;have c:=fcmp_e hz hy (by omega);refine qT rfl (decide_eq_true (by first|omega|(simp;done)|(simp;omega))) ?_;refine qE rfl (by kernel_rfl) (by kernel_rfl) ?_;refine qN rfl rfl ?_;refine qT rfl (decide_eq_true (by first|omega|(simp;done)|(simp;omega))) ?_;refine qV rfl rfl ?_;refine qV rfl rfl ?_;refine qE rfl (by kernel_rfl) (by kernel_rfl) ?_;refine qN rfl rfl ?_;refine qT rfl (decide_eq_true (by first|omega|(simp;done)|(simp;omega))) ?_;refine qV rfl rfl ?_;refine qV rfl rfl ?_;refine qE rfl (by kernel_rfl) (by kernel_rfl) ?_;refine qN rfl (decide_eq_false (by first|omega|(simp;done)|(simp;omega))) ?_;refine qT rfl (decide_eq_true (by first|omega|(simp;done)|(simp;omega))) ?_;refine qV rfl rfl ?_;refine qV rfl (lslT y ws rfl rfl) ?_;refine qE rfl (by kernel_rfl) (by kernel_rfl) ?_;refine qK rfl c rfl ?_
 by_cases hp:0<cmpQ 0 y.2
 ·rw [hbel,if_pos hp];refine qT rfl (decide_eq_true hp) ?_;exact qR rfl ⟨rfl,rfl⟩
 have hbel:=hbel.trans (if_neg hp);refine qN rfl (decide_eq_false hp) ?_;refine qB (ih (x::us,ws) ⟨ha,fun t ht=>hb t (List.mem_cons_of_mem _ ht),m,by simp only [List.length_cons]at hm⊢;omega,hbel⟩ (by simp only [List.length_cons];omega)) rfl
theorem d3b{m:Rat}{k:Nat}(hm:SmF k m):∀{l:List Trm}{s:List Rat}{j:Nat},1<=j->(∀t∈l,SmF k t.2)->(∀x∈s,SmF j x)->∀x∈mixT m s l,SmF (j+l.length*(2*k+1)) x
 | [],s,j,_,_,hs,x,hx=>(hs x hx).mono (by omega)
 |t::l,s,j,hj,hl,hs,x,hx=>by
  unfold mixT at hx;have h1:∀z∈s.set t.1.toNat (s.getD t.1.toNat 0+m*t.2),SmF (j+(2*k+1)) z:=by
   intro z hz;rcases List.mem_or_eq_of_mem_set hz with hz|rfl
   ·exact(hs z hz).mono (by omega)
   have h2:SmF j (s.getD t.1.toNat 0):=by
    rw [List.getD_eq_getElem?_getD];cases hq:s[t.1.toNat]? with
    |none=>exact smF_0.mono hj
    |some v=>exact hs v (List.mem_of_getElem? hq)
   exact(h2.add (hm.mul (hl t (List.mem_cons_self ..)))).mono (by omega)
  refine(d3b hm (by omega) (fun t ht=>hl t (List.mem_cons_of_mem _ ht)) h1 x hx).mono ?_;rw [List.length_cons,Nat.add_mul];omega
theorem d1t{k:Nat}:∀{ms:List Rat}{rs:List Rw}{s:List Rat}{j:Nat},1<=j->(∀m∈ms,SmF k m)->(∀r∈rs,r.Terms.length<=100/\∀t∈r.Terms,SmF k t.2)->(∀x∈s,SmF j x)->∀x∈mixS s rs ms,SmF (j+100*ms.length*(2*k+1)) x
 | [],rs,s,j,_,_,_,hs,x,hx=>by
   cases rs<;>exact(hs x hx).mono (by omega)
 |m::ms,[],s,j,_,_,_,hs,x,hx=>(hs x hx).mono (by omega)
 |m::ms,r::rs,s,j,hj,hm,hr,hs,x,hx=>by
  unfold mixS at hx;have h3:=hr r (List.mem_cons_self ..);have h4:=Nat.mul_le_mul_right (2*k+1) h3.1;refine(d1t (j:=j+100*(2*k+1)) (by omega) (fun z hz=>hm z (List.mem_cons_of_mem _ hz)) (fun z hz=>hr z (List.mem_cons_of_mem _ hz)) (fun z hz=> ?_) x hx).mono ?_
  ·by_cases h0:m=0
   ·rw [if_pos h0]at hz;exact(hs z hz).mono (by omega)
   rw [if_neg h0]at hz;exact(d3b (hm m (List.mem_cons_self ..)) hj h3.2 hs z hz).mono (by omega)
  rw [List.length_cons,show 100*(ms.length+1)=100*ms.length+100 by omega,Nat.add_mul];omega
theorem d1v{k:Nat}:∀{ms:List Rat}{rs:List Rw}{v:Rat}{j:Nat},(∀m∈ms,SmF k m)->(∀r∈rs,SmF k r.Value)->SmF j v->SmF (j+ms.length*(2*k+1)) (mixV v rs ms)
 | [],rs,v,j,_,_,hs=>by
   cases rs<;>exact hs.mono (by omega)
 |m::ms,[],v,j,_,_,hs=>hs.mono (by omega)
 |m::ms,r::rs,v,j,hm,hr,hs=>by
  unfold mixV;refine(d1v (j:=j+(2*k+1)) (fun z hz=>hm z (List.mem_cons_of_mem _ hz)) (fun z hz=>hr z (List.mem_cons_of_mem _ hz)) ?_).mono ?_
  ·by_cases h0:m=0
   ·rw [if_pos h0];exact hs.mono (by omega)
   rw [if_neg h0];exact(hs.add ((hm m (List.mem_cons_self ..)).mul (hr r (List.mem_cons_self ..)))).mono (by omega)
  rw [List.length_cons,Nat.add_mul];omega
theorem outT_mem:∀{l:List Rat}{v:Nat},∀t∈outT v l,t.2∈l
 | [],v,t,h=>by simp [outT]at h
 |c::l,v,t,h=>by
  unfold outT at h
  by_cases h0:c=0
  ·rw [if_pos h0]at h;exact List.mem_cons_of_mem _ (outT_mem t h)
  rw [if_neg h0]at h;rcases List.mem_cons.1 h with rfl|h
  ·exact List.mem_cons_self ..
  exact List.mem_cons_of_mem _ (outT_mem t h)
theorem d2u{s:Sy}{k:Nat}{ms:List Rat}(hS:SyOk s k)(ht:∀r∈s.Rows,r.Terms.length<=100)(hm:∀m∈ms,SmF k m):∀t∈mixO s ms,SmF (1+100*ms.length*(2*k+1)) t.2:=fun t h=>by
 refine d1t (Nat.le_refl 1) hm (fun r hr=>⟨ht r hr,(hS.terms r hr).2.1⟩) (fun x hx=> ?_) t.2 (outT_mem t h);rw [List.eq_of_mem_replicate hx];exact smF_0
def lowB(s:Sy)(g:List Trm)(y:List Frac):Bool:=sgnS s y&&rtT s.N (-1) g&&belF ((mixO s (y.map toQ)).length+g.length) (mixO s (y.map toQ)) g
def lowV(s:Sy)(y:List Frac):Rat:=mixV 0 s.Rows (y.map toQ)
structure YOk(y:List Frac)(k:Nat):Prop where
 len:y.length<=64
 dig:∀f∈y,f.P.Digits.length<=k/\f.Q.Digits.length<=k
theorem e2y{s:Sy}{y:List Frac}(h:sgnS s y=true):mulS s y=true/\y.all a0f=true/\0<=s.N:=by
 unfold sgnS at h;simp only [Bool.and_eq_true]at h;have h1:=h.1;unfold mulS sysR at h1;simp only [Bool.and_eq_true,a2q]at h1;exact⟨h.1,h1.2,h1.1.1.1.1.1⟩
theorem y_sm{y:List Frac}{k:Nat}(hY:YOk y k)(hr:y.all a0f=true):∀m∈y.map toQ,SmF k m:=fun m hm=>by
 obtain⟨f,hf,rfl⟩:=List.mem_map.1 hm;exact(b3k (hY.dig f hf) (List.all_eq_true.1 hr f hf)).2
theorem e1u{s:Sy}{g:List Trm}{y:List Frac}{k:Nat}(hS:SyOk s k)(hk:k<=70)(ht:∀r∈s.Rows,r.Terms.length<=100)(hY:YOk y k)(hg:g.length<=10000)(hs:∀t∈g,SmF k t.2):
 EvF tt 82 [.v (eSy s),L (g.map eTm),L (fs y)] (.tup [.v (eF (if lowB s g y=true then toF (lowV s y)else zeroF)),B (lowB s g y)]):=by
 have h1:=d3h hS (by omega) y hY.dig (by have:=hY.len;omega);refine evF (eIn Tryz.func82 rfl rfl ?_);refine qK rfl h1 rfl ?_;unfold lowB;cases hsg:sgnS s y with
 |false=>
  refine qT rfl rfl ?_;exact qR rfl ⟨rfl,rfl⟩
 |true=>
  obtain⟨hm,hr,hN⟩:=e2y hsg;have h2:=a6w hg hs (show k<4000000 by omega) hN;have h3:=f1v hS (by omega) ht y hY.dig hY.len hm;refine qN rfl rfl ?_;refine qK rfl h2 rfl ?_;cases hrt:rtT s.N (-1) g with
  |false=>
   refine qT rfl rfl ?_;exact qR rfl ⟨rfl,rfl⟩
  |true=>
   have hb1:=Nat.mul_le_mul (show 100*(y.map toQ).length<=6400 by rw [List.length_map];have:=hY.len;omega) (show 2*k+1<=141 by omega);have h4:=f2b (k:=902401) (fun t h=>(d2u hS ht (y_sm hY hr) t h).mono (by omega)) (fun t h=>(hs t h).mono (by omega)) (by decide) (by decide);refine qN rfl rfl ?_;refine qK rfl h3 rfl ?_;refine qK rfl h4 rfl ?_;cases hbf:belF ((mixO s (y.map toQ)).length+g.length) (mixO s (y.map toQ)) g with
   |false=>
    refine qT rfl rfl ?_;exact qR rfl ⟨rfl,rfl⟩
   |true=>
    refine qN rfl rfl ?_;exact qR rfl ⟨rfl,rfl⟩
theorem b4v{s:Sy}{g:List Trm}{y:List Frac}{k:Nat}(hS:SyOk s k)(hY:YOk y k)(hl:lowB s g y=true):SmF (1+64*(2*k+1)) (lowV s y):=by
 unfold lowB at hl;simp only [Bool.and_eq_true]at hl;obtain⟨hm,hr,hN⟩:=e2y hl.1.1;refine(d1v (y_sm hY hr) (fun r h=>(hS.terms r h).2.2) smF_0).mono ?_;rw [List.length_map];have:=Nat.mul_le_mul_right (2*k+1) hY.len;omega
def rftB(s:Sy)(y:List Frac):Bool:=lowB s [] y&&decide (0<sg (lowV s y).num)
theorem b8o{s:Sy}{y:List Frac}{k:Nat}(hS:SyOk s k)(hk:k<=70)(ht:∀r∈s.Rows,r.Terms.length<=100)(hY:YOk y k):EvF tt 46 [.v (eSy s),L (fs y)] (B (rftB s y)):=by
 have h1:EvF tt 82 [.v (eSy s),L [],L (fs y)] _:=e1u (g:= []) hS hk ht hY (by simp) (fun t h=>by simp at h);refine evF (eIn Tryz.func46 rfl rfl ?_);refine qK rfl h1 rfl ?_;unfold rftB;cases hl:lowB s [] y with
 |false=>
  refine qN rfl rfl ?_;exact qR rfl ⟨rfl,rfl⟩
 |true=>
  have h2:=fsign_e (b4v hS hY hl) (by omega);refine qT rfl rfl ?_;refine qK rfl (h2) rfl ?_;exact qR rfl ⟨rfl,rfl⟩
set_option linter.unusedVariables false
def coT:List Trm->Int->Rat | [],_=>0 |t::l,v=>if t.1=v then t.2 else coT l v
theorem a8d{n:Int}:∀{l:List Trm}{last v:Int},rtT n last l=true->v<=last->coT l v=0
 | [],_,_,_,_=>rfl
 |t::l,last,v,h,hv=>by
  unfold rtT at h;simp only [Bool.and_eq_true,decide_eq_true_eq]at h;unfold coT;rw [if_neg (by omega)];exact a8d h.2 (by omega)
theorem d9r{n:Int}:∀{l:List Trm}{last v:Int},rtT n last l=true->n<=v->coT l v=0
 | [],_,_,_,_=>rfl
 |t::l,last,v,h,hv=>by
  unfold rtT at h;simp only [Bool.and_eq_true,decide_eq_true_eq]at h;unfold coT;rw [if_neg (by omega)];exact d9r h.2 (by omega)
theorem b3l{a b:Rat}:(0<cmpQ a b)↔b<a:=by
 rcases a0q a b with⟨h,e⟩|⟨h,e⟩|⟨h,e⟩<;>rw [e]<;>constructor<;>intro h2<;>first|grind|omega
theorem a5v{n:Int}:∀(m:Nat)(a b:List Trm)(la lb:Int),rtT n la a=true->rtT n lb b=true->a.length+b.length<=m->(belF m a b=true↔∀v,coT a v<=coT b v)
 |0,a,b,_,_,_,_,hm=>by
  obtain rfl:a= []:=List.eq_nil_of_length_eq_zero (by omega);obtain rfl:b= []:=List.eq_nil_of_length_eq_zero (by omega);exact⟨fun _ _=>Rat.le_refl,fun _=>rfl⟩
 |m+1,[],[],_,_,_,_,_=>⟨fun _ _=>Rat.le_refl,fun _=>rfl⟩
 |m+1,x::a,[],la,lb,ha,hb,hm=>by
  have ha2:=ha;unfold rtT at ha2;simp only [Bool.and_eq_true,decide_eq_true_eq]at ha2;have ih:=a5v m a [] x.1 lb ha2.2 hb (by simp at hm⊢;omega);have h0:=a8d ha2.2 (Int.le_refl _);show(if 0<cmpQ x.2 0 then false else belF m a [])=true↔_;simp only [b3l];constructor
  ·intro h v;split at h
   ·cases h
   rw [ih]at h;unfold coT;split
   ·show x.2<=0;grind
   exact h v
  intro h;have h1:=h x.1;simp only [coT,if_true]at h1;rw [if_neg (by grind),ih];intro v
  by_cases hv:x.1=v
  ·subst hv;rw [h0];exact Rat.le_refl
  have:=h v;simp only [coT,if_neg hv]at this;exact this
 |m+1,[],y::b,la,lb,ha,hb,hm=>by
  have hb2:=hb;unfold rtT at hb2;simp only [Bool.and_eq_true,decide_eq_true_eq]at hb2;have ih:=a5v m [] b la y.1 ha hb2.2 (by simp at hm⊢;omega);have h0:=a8d hb2.2 (Int.le_refl _);show(if 0<cmpQ 0 y.2 then false else belF m [] b)=true↔_;simp only [b3l];constructor
  ·intro h v;split at h
   ·cases h
   rw [ih]at h;show 0<=coT (y::b) v;unfold coT;split
   ·grind
   exact h v
  intro h;have h1:=h y.1;simp only [coT,if_true]at h1;rw [if_neg (by grind),ih];intro v
  by_cases hv:y.1=v
  ·subst hv;rw [h0];exact Rat.le_refl
  have:=h v;simp only [coT,if_neg hv]at this;exact this
 |m+1,x::a,y::b,la,lb,ha,hb,hm=>by
  have ha2:=ha;unfold rtT at ha2;simp only [Bool.and_eq_true,decide_eq_true_eq]at ha2;have hb2:=hb;unfold rtT at hb2;simp only [Bool.and_eq_true,decide_eq_true_eq]at hb2;have hx0:=fun v=>a8d (v:=v) ha2.2;have hy0:=fun v=>a8d (v:=v) hb2.2;simp only [List.length_cons]at hm;show(if x.1<y.1 then(if 0<cmpQ x.2 0 then false else belF m a (y::b))else if y.1<x.1 then(if 0<cmpQ 0 y.2 then false else belF m (x::a) b)else if 0<cmpQ x.2 y.2 then false else belF m a b)=true↔_
  by_cases c1:x.1<y.1
  ·rw [if_pos c1];have hb3:rtT n x.1 (y::b)=true:=by unfold rtT;simp only [Bool.and_eq_true,decide_eq_true_eq];exact⟨⟨⟨c1,hb2.1.1.2⟩,hb2.1.2⟩,hb2.2⟩
   have ih:=a5v m a (y::b) x.1 lb ha2.2 hb (by simp;omega);have hyx:=a8d hb3 (Int.le_refl _);simp only [b3l];constructor
   ·intro h v;split at h
    ·cases h
    rw [ih]at h
    by_cases hv:x.1=v
    ·subst hv;rw [hyx];simp only [coT,if_true];grind
    have:=h v;rw [show coT (x::a) v=coT a v by rw [coT,if_neg hv]];exact this
   intro h;have h1:=h x.1;rw [hyx]at h1;simp only [coT,if_true]at h1;rw [if_neg (by grind),ih];intro v
   by_cases hv:x.1=v
   ·subst hv;rw [hyx,hx0 _ (Int.le_refl _)];exact Rat.le_refl
   have:=h v;rw [show coT (x::a) v=coT a v by rw [coT,if_neg hv]]at this;exact this
  rw [if_neg c1]
  by_cases c2:y.1<x.1
  ·rw [if_pos c2];have ha3:rtT n y.1 (x::a)=true:=by unfold rtT;simp only [Bool.and_eq_true,decide_eq_true_eq];exact⟨⟨⟨c2,ha2.1.1.2⟩,ha2.1.2⟩,ha2.2⟩
   have ih:=a5v m (x::a) b la y.1 ha hb2.2 (by simp;omega);have hxy:=a8d ha3 (Int.le_refl _);simp only [b3l];constructor
   ·intro h v;split at h
    ·cases h
    rw [ih]at h
    by_cases hv:y.1=v
    ·subst hv;rw [hxy];simp only [coT,if_true];grind
    have:=h v;rw [show coT (y::b) v=coT b v by rw [coT,if_neg hv]];exact this
   intro h;have h1:=h y.1;rw [hxy]at h1;simp only [coT,if_true]at h1;rw [if_neg (by grind),ih];intro v
   by_cases hv:y.1=v
   ·subst hv;rw [hxy,hy0 _ (Int.le_refl _)];exact Rat.le_refl
   have:=h v;rw [show coT (y::b) v=coT b v by rw [coT,if_neg hv]]at this;exact this
  rw [if_neg c2];have he:x.1=y.1:=by omega
  have ih:=a5v m a b x.1 y.1 ha2.2 hb2.2 (by omega);simp only [b3l];constructor
  ·intro h v;split at h
   ·cases h
   rw [ih]at h
   by_cases hv:x.1=v
   ·simp only [coT,if_pos hv,if_pos (he▸hv)];grind
   rw [show coT (x::a) v=coT a v by rw [coT,if_neg hv],show coT (y::b) v=coT b v by rw [coT,if_neg (he▸hv)]];exact h v
  intro h;have h1:=h x.1;simp only [coT,if_pos he.symm,if_true]at h1;rw [if_neg (by grind),ih];intro v
  by_cases hv:x.1=v
  ·subst hv;rw [hx0 _ (Int.le_refl _),hy0 _ (by omega)];exact Rat.le_refl
  have:=h v;rw [show coT (x::a) v=coT a v by rw [coT,if_neg hv],show coT (y::b) v=coT b v by rw [coT,if_neg (he▸hv)]]at this;exact this
def mixC:List Rw->List Rat->Int->Rat |r::rs,m::ms,v=>m*coT r.Terms v+mixC rs ms v |_,_,_=>0
theorem c3r{n:Int}{m:Rat}{q:Nat}:∀{l:List Trm}{s:List Rat}{last:Int},-1<=last->rtT n last l=true->q<s.length->n<=s.length->(mixT m s l).getD q 0=s.getD q 0+m*coT l q
 | [],s,_,_,_,_,_=>by simp [mixT,coT];grind
 |t::l,s,last,hl,h,hq,hn=>by
  have h2:=h;unfold rtT at h2;simp only [Bool.and_eq_true,decide_eq_true_eq]at h2;unfold mixT;rw [c3r (last:=t.1) (by omega) h2.2 (by rw [List.length_set];exact hq) (by rw [List.length_set];exact hn)];have e:(s.set t.1.toNat (s.getD t.1.toNat 0+m*t.2)).getD q 0=if t.1.toNat=q then s.getD q 0+m*t.2 else s.getD q 0:=by
   rw [List.getD_eq_getElem?_getD,List.getElem?_set];split
   ·rename_i he;subst he;rw [if_pos (by omega)];rfl
   rw [<-List.getD_eq_getElem?_getD]
  rw [e]
  by_cases hv:t.1=(q:Int)
  ·rw [if_pos (by omega),a8d h2.2 (by omega)];simp only [coT,if_pos hv];grind
  rw [if_neg (by omega)];simp only [coT,if_neg hv]
theorem b0y{n:Int}{q:Nat}:∀{rs:List Rw}{ms:List Rat}{s:List Rat},(∀r∈rs,rtT n (-1) r.Terms=true)->q<s.length->n<=s.length->(mixS s rs ms).getD q 0=s.getD q 0+mixC rs ms q
 | [],ms,s,_,_,_=>by cases ms<;>simp [mixS,mixC]<;>grind
 |r::rs,[],s,_,_,_=>by simp [mixS,mixC];grind
 |r::rs,m::ms,s,h,hq,hn=>by
  unfold mixS mixC
  by_cases h0:m=0
  ·rw [if_pos h0,b0y (fun x hx=>h x (List.mem_cons_of_mem _ hx)) hq hn,h0];grind
  rw [if_neg h0,b0y (fun x hx=>h x (List.mem_cons_of_mem _ hx)) (by rw [b0w];exact hq) (by rw [b0w];exact hn),c3r (Int.le_refl _) (h r (List.mem_cons_self ..)) hq hn];grind
theorem b1f{rs:List Rw}:∀{ms:List Rat}{s:List Rat},(mixS s rs ms).length=s.length:=by
 induction rs with
 |nil=>intro ms s;cases ms<;>rfl
 |cons r rs ih=>
  intro ms s;cases ms with
  |nil=>rfl
  |cons m ms=>
   unfold mixS;rw [ih];split
   ·rfl
   exact b0w
theorem outT_get:∀{l:List Rat}{i:Nat}{v:Int},coT (outT i l) v=if(i:Int)<=v then l.getD (v-i).toNat 0 else 0
 | [],i,v=>by simp [outT,coT]
 |c::l,i,v=>by
  unfold outT;have ih:=outT_get (l:=l) (i:=i+1) (v:=v)
  by_cases h1:(i:Int)=v
  ·have h0:coT (outT (i+1) l) v=0:=by rw [ih,if_neg (by omega)]
   rw [if_pos (show(i:Int)<=v by omega),show(v-i).toNat=0 by omega];split
   ·rename_i hc;rw [h0,hc];rfl
   simp only [coT,if_pos h1];rfl
  have e:coT (if c=0 then outT (i+1) l else((i:Int),c)::outT (i+1) l) v=coT (outT (i+1) l) v:=by
   split
   ·rfl
   simp only [coT,if_neg h1]
  rw [e,ih]
  by_cases h2:(i:Int)<=v
  ·rw [if_pos h2,if_pos (by omega),show(v-i).toNat=(v-(i+1:Nat)).toNat+1 by omega];rfl
  rw [if_neg h2,if_neg (by omega)]
theorem c0s{n:Int}:∀{l:List Rat}{i:Nat}{last:Int},last<i->((i+l.length:Nat):Int)<=n->rtT n last (outT i l)=true
 | [],_,_,_,_=>rfl
 |c::l,i,last,h1,h2=>by
  unfold outT;simp only [List.length_cons]at h2;split
  ·exact c0s (by omega) (by omega)
  rename_i hc;unfold rtT;simp only [Bool.and_eq_true,decide_eq_true_eq];exact⟨⟨⟨h1,by show(i:Int)<n;omega⟩,hc⟩,c0s (by show(i:Int)<((i+1:Nat):Int);omega) (by omega)⟩
theorem a5h{s:Sy}(h:sysR s=true):0<=s.N/\s.N<=1500/\s.Rows.length<=6000/\∀r∈s.Rows,rtT s.N (-1) r.Terms=true/\0<=r.Kind/\r.Kind<=2:=by
 unfold sysR at h;simp only [Bool.and_eq_true,decide_eq_true_eq,a2q]at h;refine⟨h.1.1.1,h.1.1.2,h.1.2,fun r hr=> ?_⟩;have:=List.all_eq_true.1 h.2 r hr;unfold rowR at this;simp only [Bool.and_eq_true,a2q]at this;exact this
theorem c1t{s:Sy}(h:sysR s=true)(ms:List Rat)(v:Int):coT (mixO s ms) v=if 0<=v/\v<s.N then mixC s.Rows ms v else 0:=by
 obtain⟨h1,h2,h3,h4⟩:=a5h h;unfold mixO;rw [outT_get];have hl:(mixS (List.replicate s.N.toNat 0) s.Rows ms).length=s.N.toNat:=by rw [b1f,List.length_replicate]
 by_cases hv:0<=v
 ·rw [if_pos (by omega)]
  by_cases hn:v<s.N
  ·rw [if_pos ⟨hv,hn⟩,show(v-(0:Nat)).toNat=v.toNat by omega,b0y (n:=s.N) (fun r hr=>(h4 r hr).1) (by rw [List.length_replicate];omega) (by rw [List.length_replicate];omega)];rw [show((v.toNat:Nat):Int)=v by omega];have:(List.replicate s.N.toNat (0:Rat)).getD v.toNat 0=0:=by
    rw [List.getD_eq_getElem?_getD,List.getElem?_replicate];split<;>rfl
   rw [this];grind
  rw [if_neg (fun h=>hn h.2),List.getD_eq_getElem?_getD,List.getElem?_eq_none (by rw [hl];omega)];rfl
 rw [if_neg (by omega),if_neg (fun h=>hv h.1)]
theorem d2e{s:Sy}(h:sysR s=true)(ms:List Rat):rtT s.N (-1) (mixO s ms)=true:=by
 obtain⟨h1,-⟩:=a5h h;unfold mixO;refine c0s (by omega) ?_;rw [b1f,List.length_replicate];omega
theorem d8n{s:Sy}{g:List Trm}{y:List Frac}:lowB s g y=true↔sgnS s y=true/\rtT s.N (-1) g=true/\∀v,0<=v->v<s.N->mixC s.Rows (y.map toQ) v<=coT g v:=by
 unfold lowB;simp only [Bool.and_eq_true];constructor
 ·rintro⟨⟨h1,h2⟩,h3⟩;refine⟨h1,h2,fun v hv hn=> ?_⟩;have hS:sysR s=true:=by unfold sgnS mulS at h1;simp only [Bool.and_eq_true]at h1;exact h1.1.1.1
  have:=(a5v (n:=s.N) _ _ _ (-1) (-1) (d2e hS _) h2 (Nat.le_refl _)).1 h3 v;rw [c1t hS,if_pos ⟨hv,hn⟩]at this;exact this
 rintro⟨h1,h2,h3⟩;have hS:sysR s=true:=by unfold sgnS mulS at h1;simp only [Bool.and_eq_true]at h1;exact h1.1.1.1
 refine⟨⟨h1,h2⟩,(a5v (n:=s.N) _ _ _ (-1) (-1) (d2e hS _) h2 (Nat.le_refl _)).2 fun v=> ?_⟩;rw [c1t hS];split
 ·rename_i hv;exact h3 v hv.1 hv.2
 rename_i hv
 by_cases hv0:0<=v
 ·rw [d9r h2 (by omega)];exact Rat.le_refl
 rw [a8d h2 (by omega)];exact Rat.le_refl
end Dp
set_option linter.unusedVariables false
namespace Sx
def sm(f:Nat->Rat):Nat->Rat |0=>0 |n+1=>sm f n+f n
theorem b0p{f g:Nat->Rat}:∀{n:Nat},(∀k,k<n->f k=g k)->sm f n=sm g n
 |0,_=>rfl
 |n+1,h=>by
  show sm f n+f n=sm g n+g n;rw [b0p fun k hk=>h k (by omega),h n (by omega)]
theorem b3j(f g:Nat->Rat):∀n,sm (fun k=>f k+g k) n=sm f n+sm g n
 |0=>by simp [sm,Rat.add_zero]
 |n+1=>by
  show sm (fun k=>f k+g k) n+(f n+g n)=sm f n+f n+(sm g n+g n)
  rw [b3j f g n];grind
theorem b2i(c:Rat)(f:Nat->Rat):∀n,sm (fun k=>c*f k) n=c*sm f n
 |0=>by simp [sm]
 |n+1=>by
  show sm (fun k=>c*f k) n+c*f n=c*(sm f n+f n);rw [b2i c f n];grind
theorem e4t{f:Nat->Rat}{n:Nat}(h:∀k,k<n->f k=0):sm f n=0:=by
 induction n with
 |zero=>rfl
 |succ n ih=>
  show sm f n+f n=0;rw [ih fun k hk=>h k (by omega),h n (by omega)];grind
theorem sm_one{f:Nat->Rat}{i:Nat}:∀{n:Nat},i<n->(∀k,k<n->k≠i->f k=0)->sm f n=f i
 |0,h,_=>by omega
 |n+1,h,h0=>by
  show sm f n+f n=f i
  by_cases hi:i=n
  ·subst hi;rw [e4t fun k hk=>h0 k (by omega) (by omega)];grind
  rw [sm_one (by omega) fun k hk hn=>h0 k (by omega) hn,h0 n (by omega) (by omega)];grind
theorem f0z{f:Nat->Rat}{i j n:Nat}(hi:i<n)(hj:j<n)(hij:i≠j)(h:∀k,k<n->k≠i->k≠j->f k=0):sm f n=f i+f j:=by
 have h1:sm f n=sm (fun k=>(if k=i then f i else 0)+(if k=i then 0 else f k)) n:=b0p fun k _=>by
  by_cases hk:k=i
  ·subst hk;simp [Rat.add_zero]
  simp [hk,Rat.zero_add]
 rw [h1,b3j,sm_one hi fun k _ hk=>by simp [hk],sm_one (i:=j) hj fun k hk hn=>by
  by_cases hki:k=i
  ·simp [hki]
  simp [hki,h k hk hki hn]]
 simp [Ne.symm hij]
theorem b7y{f:Nat->Rat}:∀{n:Nat},(∀k,k<n->0<=f k)->0<=sm f n
 |0,_=>Rat.le_refl
 |n+1,h=>by
  have h1:=b7y (f:=f) (n:=n) fun k hk=>h k (by omega);have h2:=h n (by omega);show 0<=sm f n+f n
  grind
theorem d1e{f:Nat->Rat}{i:Nat}:∀{n:Nat},i<n->0<f i->(∀k,k<n->0<=f k)->0<sm f n
 |0,h,_,_=>by omega
 |n+1,h,hi,h0=>by
  show 0<sm f n+f n
  by_cases he:i=n
  ·subst he;have:=b7y (f:=f) (n:=i) fun k hk=>h0 k (by omega)
   grind
  have:=d1e (n:=n) (by omega) hi fun k hk=>h0 k (by omega);have:=h0 n (by omega)
  grind
def dot(y t:Nat->Rat)(n:Nat):Rat:=sm (fun k=>y k*t k) n
theorem d2f{y t u v:Nat->Rat}{a b:Rat}{n:Nat}(h:∀k,k<n->t k=a*u k+b*v k):dot y t n=a*dot y u n+b*dot y v n:=by
 unfold dot;rw [<-b2i,<-b2i,<-b3j];exact b0p fun k hk=>by rw [h k hk];grind
theorem c4c{y t u v:Nat->Rat}{a b:Rat}{n:Nat}(h:∀k,k<n->y k=a*u k+b*v k):dot y t n=a*dot u t n+b*dot v t n:=by
 unfold dot;rw [<-b2i,<-b2i,<-b3j];exact b0p fun k hk=>by rw [h k hk];grind
structure Tab where
 bas:Nat->Bool
 A:Nat->Nat->Rat
def Tab.row(D:Tab)(i j:Nat):Rat:=if j=i then 1 else if D.bas j=true then 0 else D.A i j
def Tab.col(D:Tab)(j i:Nat):Rat:=if i=j then 1 else if D.bas i=true then-D.A i j else 0
def Tab.piv(D:Tab)(r s:Nat):Tab where
 bas i:=if i=r then false else if i=s then true else D.bas i
 A i j:=if i=s then(if j=r then(D.A r s)⁻¹else D.A r j/D.A r s)else if j=r then-(D.A i s/D.A r s)else D.A i j-D.A i s*(D.A r j/D.A r s)
def Ort(M:Nat)(D E:Tab):Prop:=∀i j,i<M->j<M->D.bas i=true->E.bas j=false->dot (D.row i) (E.col j) M=0
theorem b5i(M:Nat)(D:Tab):Ort M D D:=fun i j hi hj bi bj=>by
 have hij:i≠j:=fun h=>by subst h;rw [bi]at bj;cases bj
 unfold dot;rw [f0z hi hj hij fun k hk h1 h2=>by
  unfold Tab.row Tab.col;rw [if_neg h1,if_neg h2];split<;>grind]
 unfold Tab.row Tab.col;simp [bi,bj,hij,Ne.symm hij]
 grind
theorem e2j{M:Nat}{D E:Tab}{r s:Nat}(h:Ort M D E)(hr:r<M)(hs:s<M)(br:E.bas r=true)(bs:E.bas s=false)(hp:E.A r s≠0):Ort M D (E.piv r s):=fun i j hi hj bi bj=>by
 have hrs:r≠s:=fun h=>by subst h;rw [br]at bs;cases bs
 have hs0:=h i s hi hs bi bs
 by_cases hjr:j=r
 ·subst hjr;rw [d2f (u:=E.col s) (v:=E.col s) (a:=-(E.A j s)⁻¹) (b:=0) fun k hk=>by
   simp only [Tab.col,Tab.piv]
   by_cases h1:k=j
   ·subst h1;simp [hrs,br];grind
   by_cases h2:k=s
   ·subst h2;simp [h1];grind
   simp [h1,h2];split<;>grind]
  rw [hs0];grind
 have hjs:j≠s:=fun h=>by subst h;simp [Tab.piv,hjr]at bj
 have bj':E.bas j=false:=by simpa [Tab.piv,hjr,hjs]using bj
 have hj0:=h i j hi hj bi bj';rw [d2f (u:=E.col j) (v:=E.col s) (a:=1) (b:=-(E.A r j/E.A r s)) fun k hk=>by
  simp only [Tab.col,Tab.piv]
  by_cases h1:k=r
  ·subst h1;simp [hrs,br,Ne.symm hjr];grind
  by_cases h2:k=s
  ·subst h2;simp [h1,Ne.symm hjs,bs,hjr];grind
  by_cases h3:k=j
  ·subst h3;simp [h2,bj'];grind
  simp [h1,h2,h3,hjr];split<;>grind]
 rw [hs0,hj0];grind
theorem e6l{M:Nat}{D E:Tab}{r s:Nat}(h:Ort M D E)(hr:r<M)(hs:s<M)(br:D.bas r=true)(bs:D.bas s=false)(hp:D.A r s≠0):Ort M (D.piv r s) E:=fun i j hi hj bi bj=>by
 have hrs:r≠s:=fun h=>by subst h;rw [br]at bs;cases bs
 have hr0:=h r j hr hj br bj
 by_cases his:i=s
 ·subst his;rw [c4c (u:=D.row r) (v:=D.row r) (a:=(D.A r i)⁻¹) (b:=0) fun k hk=>by
   simp only [Tab.row,Tab.piv]
   by_cases h1:k=i
   ·subst h1;simp [Ne.symm hrs,bs];grind
   by_cases h2:k=r
   ·subst h2;simp [h1];grind
   simp [h1,h2];split<;>grind]
  rw [hr0];grind
 have hir:i≠r:=fun h=>by subst h;simp [Tab.piv]at bi
 have bi':D.bas i=true:=by simpa [Tab.piv,hir,his]using bi
 have hi0:=h i j hi hj bi' bj;rw [c4c (u:=D.row i) (v:=D.row r) (a:=1) (b:=-(D.A i s/D.A r s)) fun k hk=>by
  simp only [Tab.row,Tab.piv]
  by_cases h1:k=s
  ·subst h1;simp [Ne.symm hrs,bs,Ne.symm his];grind
  by_cases h2:k=r
  ·subst h2;simp [h1,Ne.symm hir,br,his];grind
  by_cases h3:k=i
  ·subst h3;simp [h2,bi'];grind
  simp [h1,h2,h3,his];split<;>grind]
 rw [hr0,hi0];grind
structure Stp(N:Nat)(D:Tab)(r s:Nat):Prop where
 rN:r<N
 sN:s<N
 br:D.bas r=true
 bs:D.bas s=false
 how:(0<D.A r (N+1)/\(∀i,i<r->D.bas i=true->D.A i (N+1)<=0)/\(∀j,j<r->D.bas j=false->0<=D.A N j)/\D.A r s<0/\∀j,j<s->D.bas j=false->0<=D.A r j)∨
  (D.A N s<0/\(∀j,j<s->D.bas j=false->0<=D.A N j)/\(∀i,i<s->D.bas i=true->D.A i (N+1)<=0)/\0<D.A r s/\∀i,i<r->D.bas i=true->D.A i s<=0)
theorem Stp.ne{N:Nat}{D:Tab}{r s:Nat}(h:Stp N D r s):D.A r s≠0:=by
 rcases h.how with⟨_,_,_,h,_⟩|⟨_,_,_,h,_⟩<;>grind
structure Run(N:Nat)(D:Nat->Tab)(r s:Nat->Nat)(L:Nat):Prop where
 f:(D 0).bas N=true
 g:(D 0).bas (N+1)=false
 step:∀t,t<L->Stp N (D t) (r t) (s t)/\D (t+1)=(D t).piv (r t) (s t)
section
variable{N:Nat}{D:Nat->Tab}{r s:Nat->Nat}{L:Nat}(R:Run N D r s L)
include R
theorem Run.fg:∀{t:Nat},t<=L->(D t).bas N=true/\(D t).bas (N+1)=false
 |0,_=>⟨R.f,R.g⟩
 |t+1,h=>by
  obtain⟨h1,h2⟩:=R.step t h;have ih:=Run.fg (t:=t) (by omega);rw [h2];have:=h1.rN;have:=h1.sN;simp only [Tab.piv];rw [if_neg (by omega),if_neg (by omega),if_neg (by omega),if_neg (by omega)];exact ih
theorem Run.ort0{E:Tab}(hE:Ort (N+2) E (D 0)):∀{t:Nat},t<=L->Ort (N+2) E (D t)
 |0,_=>hE
 |t+1,h=>by
  obtain⟨h1,h2⟩:=R.step t h;have h3:=h1.rN;have h4:=h1.sN;rw [h2];exact e2j (Run.ort0 hE (by omega)) (by omega) (by omega) h1.br h1.bs h1.ne
theorem Run.ort{t u:Nat}(ht:t<=L)(hu:u<=L):Ort (N+2) (D t) (D u):=by
 refine R.ort0 ?_ hu;induction t with
 |zero=>exact b5i _ _
 |succ t ih=>
  obtain⟨h1,h2⟩:=R.step t ht;have h3:=h1.rN;have h4:=h1.sN;rw [h2];exact e6l (ih (by omega)) (by omega) (by omega) h1.br h1.bs h1.ne
theorem Run.stay{k a:Nat}:∀{b:Nat},a<=b->b<=L->(∀t,a<=t->t<b->r t≠k/\s t≠k)->(D b).bas k=(D a).bas k
 |b,hab,hb,h=>by
  by_cases he:a=b
  ·rw [he]
  obtain⟨b,rfl⟩:∃c,b=c+1:=⟨b-1,by omega⟩
  rw [(R.step b hb).2];obtain⟨h1,h2⟩:=h b (by omega) (by omega);simp only [Tab.piv];rw [if_neg (Ne.symm h1),if_neg (Ne.symm h2)];exact Run.stay (by omega) (by omega) fun t h1 h2=>h t h1 (by omega)
theorem Run.two{u v:Nat}(hu:u<L)(hv:v<L){k:Nat}(hs:s u=k)(hr:r v=k)(hru:r u<k)(hsv:s v<k)(hst:∀j,k<j->j<N+2->(D u).bas j=(D v).bas j):False:=by
 have o1:=R.ort (t:=u) (u:=v) (by omega) (by omega);have o2:=R.ort (t:=v) (u:=u) (by omega) (by omega);obtain⟨f1,g1⟩:=Run.fg R (t:=u) (by omega);obtain⟨f2,g2⟩:=Run.fg R (t:=v) (by omega);obtain⟨p,-⟩:=R.step u hu;obtain⟨q,-⟩:=R.step v hv;rw [hs]at p;rw [hr]at q;generalize (D u)=E at*;generalize (D v)=F at*;generalize r u=a at*;generalize s v=b at*;have hkN:=p.sN;have hk1:=p.bs;have hk2:=q.br;have hz:∀(i j x:Nat),k<x->x<N+2->x≠i->x≠j->E.row i x*F.col j x=0:=fun i j x h1 h2 h3 h4=>by
  unfold Tab.row Tab.col;rw [if_neg h3,if_neg h4,<-hst x h1 h2];split<;>grind
 have hrow:∀(G:Tab)(i x:Nat),x≠i->G.bas x=true->G.row i x=0:=fun G i x h1 h2=>by
  unfold Tab.row;rw [if_neg h1,if_pos h2]
 have hcol:∀(G:Tab)(j x:Nat),x≠j->G.bas x=false->G.col j x=0:=fun G j x h1 h2=>by
  unfold Tab.col;rw [if_neg h1,if_neg (by rw [h2];decide)]
 have hrow1:∀(G:Tab)(i x:Nat),x≠i->G.bas x=false->G.row i x=G.A i x:=fun G i x h1 h2=>by
  unfold Tab.row;rw [if_neg h1,if_neg (by rw [h2];decide)]
 have hcol1:∀(G:Tab)(j x:Nat),x≠j->G.bas x=true->G.col j x=-G.A x j:=fun G j x h1 h2=>by
  unfold Tab.col;rw [if_neg h1,if_pos h2]
 have hrow2:∀(G:Tab)(i:Nat),G.row i i=1:=fun G i=>by unfold Tab.row;rw [if_pos rfl]
 have hcol2:∀(G:Tab)(i:Nat),G.col i i=1:=fun G i=>by unfold Tab.col;rw [if_pos rfl]
 have key:∀(i j:Nat),(∀x,x<k->0<=E.row i x)->(∀x,x<k->0<=F.col j x)->E.row i k<0->F.col j k<0->(i<=k∨N<=i)->(j<=k∨N<=j)->0<=E.row i N*F.col j N->0<=E.row i (N+1)*F.col j (N+1)->0<dot (E.row i) (F.col j) (N+2):=by
  intro i j h1 h2 h3 h4 h5 h6 h7 h8;refine d1e (i:=k) (by omega) ?_ fun x hx=> ?_
  ·have:=Rat.mul_pos (a:=-E.row i k) (b:=-F.col j k) (by grind) (by grind)
   grind
  by_cases c1:x<k
  ·exact Rat.mul_nonneg (h1 x c1) (h2 x c1)
  by_cases c2:x=k
  ·subst c2;have:=Rat.mul_pos (a:=-E.row i x) (b:=-F.col j x) (by grind) (by grind)
   grind
  by_cases c3:x=N
  ·subst c3;exact h7
  by_cases c4:x=N+1
  ·subst c4;exact h8
  rw [hz i j x (by omega) hx (by omega) (by omega)];exact Rat.le_refl
 have eR:0<E.A a (N+1)->(∀j,j<k->E.bas j=false->0<=E.A a j)->(∀x,x<k->0<=E.row a x):=fun _ h x hx=>by
  by_cases hxa:x=a
  ·rw [hxa,hrow2];decide
  cases hb:E.bas x with
  |true=>rw [hrow E a x hxa hb];decide
  |false=>rw [hrow1 E a x hxa hb];exact h x hx hb
 have eC:(∀j,j<k->E.bas j=false->0<=E.A N j)->(∀x,x<k->0<=E.row N x):=fun h x hx=>by
  cases hb:E.bas x with
  |true=>rw [hrow E N x (by omega) hb];decide
  |false=>rw [hrow1 E N x (by omega) hb];exact h x hx hb
 have lR:(∀i,i<k->F.bas i=true->F.A i (N+1)<=0)->(∀x,x<k->0<=F.col (N+1) x):=fun h x hx=>by
  cases hb:F.bas x with
  |true=>rw [hcol1 F (N+1) x (by omega) hb];have:=h x hx hb;grind
  |false=>rw [hcol F (N+1) x (by omega) hb];decide
 have lC:(∀i,i<k->F.bas i=true->F.A i b<=0)->(∀x,x<k->0<=F.col b x):=fun h x hx=>by
  by_cases hxb:x=b
  ·rw [hxb,hcol2];decide
  cases hb:F.bas x with
  |true=>rw [hcol1 F b x hxb hb];have:=h x hx hb;grind
  |false=>rw [hcol F b x hxb hb];decide
 rcases p.how with⟨A1,A2,A3,A4,A5⟩|⟨A1,A2,A3,A4,A5⟩<;>rcases q.how with⟨B1,B2,B3,B4,B5⟩|⟨B1,B2,B3,B4,B5⟩
 ·have h0:=o1 a (N+1) (by omega) (by omega) p.br g2;have:=key a (N+1) (eR A1 A5) (lR B2) (by rw [hrow1 E a k (by omega) hk1];exact A4) (by rw [hcol1 F (N+1) k (by omega) hk2];grind) (by omega) (by omega)
   (by rw [hrow E a N (by omega) f1];grind) (by rw [hrow1 E a (N+1) (by omega) g1,hcol2];grind)
  grind
 ·have h0:=o1 a b (by omega) (by have:=q.sN;omega) p.br q.bs;have:=key a b (eR A1 A5) (lC B5) (by rw [hrow1 E a k (by omega) hk1];exact A4) (by rw [hcol1 F b k (by omega) hk2];grind) (by omega) (by omega)
   (by rw [hrow E a N (by omega) f1];grind) (by rw [hcol F b (N+1) (by have:=q.sN;omega) g2];grind)
  grind
 · -- the goal's row and the constant's column
   have e11:=b5i (N+2) E N (N+1) (by omega) (by omega) f1 g1;have e22:=b5i (N+2) F N (N+1) (by omega) (by omega) f2 g2;have e12:=o1 N (N+1) (by omega) (by omega) f1 g2;have e21:=o2 N (N+1) (by omega) (by omega) f2 g1;have hsum:sm (fun x=>(E.row N x*F.col (N+1) x+F.row N x*E.col (N+1) x)+((-1)*(E.row N x*E.col (N+1) x)+(-1)*(F.row N x*F.col (N+1) x))) (N+2)=0:=by
    rw [b3j,b3j,b3j,b2i,b2i];unfold dot at e11 e22 e12 e21;rw [e11,e22,e12,e21];grind
   have hsE:∀(G:Tab)x,x<N->G.row N x*G.col (N+1) x=0:=fun G x hx=>by
    cases hb:G.bas x with
    |true=>rw [hrow G N x (by omega) hb];grind
    |false=>rw [hcol G (N+1) x (by omega) hb];grind
   have hFrow:∀x,x<k->0<=F.row N x:=fun x hx=>by
    cases hb:F.bas x with
    |true=>rw [hrow F N x (by omega) hb];decide
    |false=>rw [hrow1 F N x (by omega) hb];exact B3 x hx hb
   have hEcol:∀x,x<k->0<=E.col (N+1) x:=fun x hx=>by
    cases hb:E.bas x with
    |true=>rw [hcol1 E (N+1) x (by omega) hb];have:=A3 x hx hb;grind
    |false=>rw [hcol E (N+1) x (by omega) hb];decide
   have:0<sm (fun x=>(E.row N x*F.col (N+1) x+F.row N x*E.col (N+1) x)+((-1)*(E.row N x*E.col (N+1) x)+(-1)*(F.row N x*F.col (N+1) x))) (N+2):=by
    have hk:0<(E.row N k*F.col (N+1) k+F.row N k*E.col (N+1) k)+((-1)*(E.row N k*E.col (N+1) k)+(-1)*(F.row N k*F.col (N+1) k)):=by
     rw [hsE E k hkN,hsE F k hkN,hrow F N k (by omega) hk2,hrow1 E N k (by omega) hk1,hcol1 F (N+1) k (by omega) hk2];have:=Rat.mul_pos (a:=-E.A N k) (b:=F.A k (N+1)) (by grind) B1
     grind
    refine d1e (i:=k) (by omega) hk fun x hx=> ?_
    by_cases c1:x<k
    ·have m1:=Rat.mul_nonneg (eC A2 x c1) (lR B2 x c1);have m2:=Rat.mul_nonneg (hFrow x c1) (hEcol x c1);have m3:=hsE E x (by omega);have m4:=hsE F x (by omega)
     grind
    by_cases c2:x=k
    ·subst c2;exact Rat.le_of_lt hk
    by_cases c3:x<N
    ·have m3:=hsE E x c3;have m4:=hsE F x c3;have m1:=hz N (N+1) x (by omega) hx (by omega) (by omega);have m2:F.row N x*E.col (N+1) x=0:=by
      cases hb:F.bas x with
      |true=>rw [hrow F N x (by omega) hb];grind
      |false=>rw [hcol E (N+1) x (by omega) (by rw [hst x (by omega) hx];exact hb)];grind
     grind
    by_cases c4:x=N
    ·subst c4;rw [hrow2,hrow2];grind
    obtain rfl:x=N+1:=by omega
    rw [hcol2,hcol2];grind
   rw [hsum]at this;exact absurd this (by decide)
 have h0:=o1 N b (by omega) (by have:=q.sN;omega) f1 q.bs;have:=key N b (eC A2) (lC B5) (by rw [hrow1 E N k (by omega) hk1];exact A1) (by rw [hcol1 F b k (by omega) hk2];grind) (by omega) (by omega)
  (by rw [hrow2,hcol1 F b N (by have:=q.sN;omega) f2];grind) (by rw [hcol F b (N+1) (by have:=q.sN;omega) g2];grind)
 grind
theorem Run.fresh{a b:Nat}(hab:a<b)(hb:b<=L):¬∀i,i<N->(D a).bas i=(D b).bas i:=by
 intro heq;have hex:∀m,∃k,(∃t,a<=t/\t<b/\(r t=k∨s t=k))/\((∀t,a<=t->t<b->r t<=k/\s t<=k)∨m<=k):=by
  intro m;induction m with
  |zero=>exact⟨r a,⟨a,Nat.le_refl _,hab,Or.inl rfl⟩,Or.inr (Nat.zero_le _)⟩
  |succ m ih=>
   obtain⟨k,h1,h2⟩:=ih;rcases h2 with h2|h2
   ·exact⟨k,h1,Or.inl h2⟩
   by_cases hall:∀t,a<=t->t<b->r t<=k/\s t<=k
   ·exact⟨k,h1,Or.inl hall⟩
   have:∃t,a<=t/\t<b/\(k<r t∨k<s t):=by
    refine Classical.byContradiction fun hn=>hall fun t h3 h4=> ?_;refine⟨Nat.le_of_not_lt fun h5=>hn ⟨t,h3,h4,Or.inl h5⟩,Nat.le_of_not_lt fun h5=>hn ⟨t,h3,h4,Or.inr h5⟩⟩
   obtain⟨t,h3,h4,h5|h5⟩:=this
   ·exact⟨r t,⟨t,h3,h4,Or.inl rfl⟩,Or.inr (by omega)⟩
   exact⟨s t,⟨t,h3,h4,Or.inr rfl⟩,Or.inr (by omega)⟩
 obtain⟨k,⟨t0,h1,h2,h3⟩,h4⟩:=hex N;have hp0:=(R.step t0 (by omega)).1;have hkN:k<N:=by have:=hp0.rN;have:=hp0.sN;rcases h3 with h3|h3<;>omega
 have hmax:∀t,a<=t->t<b->r t<=k/\s t<=k:=by
  rcases h4 with h4|h4
  ·exact h4
  omega
 have hother:∀t,a<=t->t<b->r t≠s t:=fun t h5 h6 h7=>by
  have hp:=(R.step t (by omega)).1;have e1:=hp.br;have e2:=hp.bs;rw [h7,e2]at e1;cases e1
 have hstay:∀t u,a<=t->t<b->a<=u->u<b->∀j,k<j->j<N+2->(D t).bas j=(D u).bas j:=fun t u h5 h6 h7 h8 j h9 _=>by
  have e:∀t,a<=t->t<b->(D t).bas j=(D a).bas j:=fun t h5 h6=>R.stay h5 (by omega) fun x h10 h11=>by have:=hmax x h10 (by omega);omega
  rw [e t h5 h6,e u h7 h8]
 have hin:(∃t,a<=t/\t<b/\s t=k)/\∃t,a<=t/\t<b/\r t=k:=by
  have hstep:∀t,a<=t->t<b->(r t=k->(D t).bas k=true/\(D (t+1)).bas k=false)/\(s t=k->(D t).bas k=false/\(D (t+1)).bas k=true):=fun t h5 h6=>by
   obtain⟨hp,hq⟩:=R.step t (by omega);refine⟨fun h=> ?_,fun h=> ?_⟩
   ·subst h;rw [hq];exact⟨hp.br,by simp [Tab.piv]⟩
   have:=hother t h5 h6;subst h;rw [hq];exact⟨hp.bs,by simp [Tab.piv,Ne.symm this]⟩
  have hk:=heq k hkN;have hmono:∀(c:Bool),(∀t,a<=t->t<b->(D t).bas k=c->(D (t+1)).bas k=c)->∀t u,a<=t->t<=u->u<=b->(D t).bas k=c->(D u).bas k=c:=by
   intro c hc t u h5 h6 h7 h8;induction u with
   |zero=>obtain rfl:t=0:=by omega
          exact h8
   |succ u ih=>
    by_cases he:t=u+1
    ·rw [<-he];exact h8
    exact hc u (by omega) (by omega) (ih (by omega) (by omega))
  have hkeep:∀t,a<=t->t<b->r t≠k->s t≠k->(D (t+1)).bas k=(D t).bas k:=fun t h5 h6 h7 h8=>R.stay (a:=t) (b:=t+1) (by omega) (by omega) fun x h9 h10=>by
   obtain rfl:x=t:=by omega
   exact⟨h7,h8⟩
  constructor
  ·refine Classical.byContradiction fun hn=> ?_;have hr0:r t0=k:=by
    rcases h3 with h3|h3
    ·exact h3
    exact absurd ⟨t0,h1,h2,h3⟩ hn
   have hf:=hmono false (fun t h5 h6 h7=>by
    by_cases h8:r t=k
    ·exact((hstep t h5 h6).1 h8).2
    rw [hkeep t h5 h6 h8 fun h9=>hn ⟨t,h5,h6,h9⟩];exact h7)
   have e1:=((hstep t0 h1 h2).1 hr0)
   have e2:=hf (t0+1) b (by omega) (by omega) (by omega) e1.2;rw [<-hk]at e2;have e3:=hf a t0 (by omega) h1 (by omega) e2;rw [e1.1]at e3;cases e3
  refine Classical.byContradiction fun hn=> ?_;have hs0:s t0=k:=by
   rcases h3 with h3|h3
   ·exact absurd ⟨t0,h1,h2,h3⟩ hn
   exact h3
  have hf:=hmono true (fun t h5 h6 h7=>by
   by_cases h8:s t=k
   ·exact((hstep t h5 h6).2 h8).2
   rw [hkeep t h5 h6 (fun h9=>hn ⟨t,h5,h6,h9⟩) h8];exact h7)
  have e1:=((hstep t0 h1 h2).2 hs0)
  have e2:=hf (t0+1) b (by omega) (by omega) (by omega) e1.2;rw [<-hk]at e2;have e3:=hf a t0 (by omega) h1 (by omega) e2;rw [e1.1]at e3;cases e3
 obtain⟨⟨u,u1,u2,u3⟩,⟨v,v1,v2,v3⟩⟩:=hin;have m1:=hmax u u1 u2;have m2:=hmax v v1 v2;have o1:=hother u u1 u2;have o2:=hother v v1 v2;exact R.two (by omega) (by omega) u3 v3 (by omega) (by omega) (hstay u v u1 u2 v1 v2)
end
theorem pigeon:∀(m:Nat)(f:Nat->Nat),(∀t,t<=m->f t<m)->∃a b,a<b/\b<=m/\f a=f b
 |0,f,h=>by have:=h 0 (Nat.le_refl _);omega
 |m+1,f,h=>by
  by_cases hc:∃a,a<=m/\f a=f (m+1)
  ·obtain⟨a,h1,h2⟩:=hc;exact⟨a,m+1,by omega,Nat.le_refl _,h2⟩
  have hc:∀a,a<=m->f a≠f (m+1):=fun a h1 h2=>hc ⟨a,h1,h2⟩;have hl:=h (m+1) (Nat.le_refl _);obtain⟨a,b,h1,h2,h3⟩:=pigeon m (fun t=>if f t=m then f (m+1)else f t) (fun t ht=>by
   have:=h t (by omega);have:=hc t ht;split<;>omega)
  refine⟨a,b,h1,by omega,?_⟩;have ha:=hc a (by omega);have hb:=hc b (by omega);split at h3<;>split at h3<;>omega
def cod(b:Nat->Bool):Nat->Nat |0=>0 |n+1=>cod b n+if b n=true then 2^n else 0
theorem c5o(b:Nat->Bool):∀n,cod b n<2^n
 |0=>by simp [cod]
 |n+1=>by
  have:=c5o b n;simp only [cod,Nat.pow_succ];split<;>omega
theorem c8j{b c:Nat->Bool}:∀{n:Nat},cod b n=cod c n->∀i,i<n->b i=c i
 |0,_,i,h=>by omega
 |n+1,h,i,hi=>by
  have h1:=c5o b n;have h2:=c5o c n;simp only [cod]at h;have hn:b n=c n/\cod b n=cod c n:=by
   cases h3:b n<;>cases h4:c n<;>simp [h3,h4]at h⊢<;>omega
  by_cases he:i=n
  ·rw [he];exact hn.1
  exact c8j hn.2 i (by omega)
theorem Run.len{N:Nat}{D:Nat->Tab}{r s:Nat->Nat}{L:Nat}(R:Run N D r s L):L<2^N:=by
 refine Nat.lt_of_not_le fun h=> ?_;obtain⟨a,b,h1,h2,h3⟩:=pigeon (2^N) (fun t=>cod (D t).bas N) fun t _=>c5o _ _;exact R.fresh h1 (by omega) (c8j h3)
structure Siz(P:Nat->Rat->Prop):Prop where
 mono:∀{j k a},P j a->j<=k->P k a
 one:P 1 1
 sub:∀{j k a b},P j a->P k b->P (j+k+1) (a-b)
 mul:∀{j k a b},P j a->P k b->P (j+k) (a*b)
 neg:∀{j a},P j a->P j (-a)
 inv:∀{j a},P j a->P j a⁻¹
end Sx
set_option linter.unusedVariables false
namespace Sx
structure Dct where
 n:Nat
 rows:List (Rat×List Rat)
 goal:List Rat
 own:List Nat
 free:List Nat
 frm:List (Nat×Bool)
def Dct.v(D:Dct)(p:Nat):Rat:=(D.rows.getD p (0,[])).1
def Dct.a(D:Dct)(p q:Nat):Rat:=(D.rows.getD p (0,[])).2.getD q 0
def Dct.g(D:Dct)(q:Nat):Rat:=D.goal.getD q 0
def Dct.o(D:Dct)(p:Nat):Nat:=D.own.getD p 0
def Dct.f(D:Dct)(q:Nat):Nat:=D.free.getD q 0
def c2b(a row:List Rat)(s:Nat):List Rat:=a.mapIdx fun j x=>if j=s then 0-a.getD s 0*row.getD s 0 else x-a.getD s 0*row.getD j 0
def newL(p:Rat)(s:Nat)(a:List Rat):List Rat:=a.mapIdx fun j x=>if j=s then 1/p else x/p
def exD(D:Dct)(r s:Nat):Dct where
 n:=D.n
 rows:=D.rows.mapIdx fun i l=>if i=r then(D.v r/D.a r s,newL (D.a r s) s (D.rows.getD r (0,[])).2)else(l.1-l.2.getD s 0*(D.v r/D.a r s),c2b l.2 (newL (D.a r s) s (D.rows.getD r (0,[])).2) s)
 goal:=c2b D.goal (newL (D.a r s) s (D.rows.getD r (0,[])).2) s
 own:=D.own.set r (D.f s)
 free:=D.free.set s (D.o r)
 frm:=D.frm
structure Shp(D:Dct)(m n:Nat):Prop where
 rows:D.rows.length=m
 row:∀l∈D.rows,l.2.length=n
 goal:D.goal.length=n
 own:D.own.length=m
 free:D.free.length=n
 nn:D.n=n
theorem a2t{α β:Type}{f:Nat->α->β}{l:List α}{i:Nat}{d:β}{e:α}(h:i<l.length):(l.mapIdx f).getD i d=f i (l.getD i e):=by
 rw [List.getD_eq_getElem?_getD,List.getD_eq_getElem?_getD,List.getElem?_mapIdx,List.getElem?_eq_getElem h];rfl
section
variable{D:Dct}{m n r s:Nat}(H:Shp D m n)
include H
theorem Shp.rowlen{p:Nat}(hp:p<m):(D.rows.getD p (0,[])).2.length=n:=by
 have hl:p<D.rows.length:=by rw [H.rows];exact hp
 rw [List.getD_eq_getElem?_getD,List.getElem?_eq_getElem hl];exact H.row _ (List.getElem_mem hl)
theorem Shp.ex(hr:r<m):Shp (exD D r s) m n where
 rows:=by simp [exD,H.rows]
 row l hl:=by
  simp only [exD,List.mem_mapIdx]at hl;obtain⟨i,hi,rfl⟩:=hl;split
  ·simp [newL];exact H.rowlen hr
  simp [c2b];exact H.row _ (List.getElem_mem hi)
 goal:=by simp [exD,c2b,H.goal]
 own:=by simp [exD,H.own]
 free:=by simp [exD,H.free]
 nn:=H.nn
theorem Shp.ex_v(hr:r<m){p:Nat}(hp:p<m):(exD D r s).v p=if p=r then D.v r/D.a r s else D.v p-D.a p s*(D.v r/D.a r s):=by
 unfold exD;simp only [Dct.v];rw [a2t (e:=(0,[])) (by rw [H.rows];exact hp)];split<;>rfl
theorem Shp.ex_a(hr:r<m){p q:Nat}(hp:p<m)(hq:q<n):(exD D r s).a p q=if p=r then(if q=s then 1/D.a r s else D.a r q/D.a r s)else if q=s then 0-D.a p s*(1/D.a r s)else D.a p q-D.a p s*(D.a r q/D.a r s):=by
 have e0:(exD D r s).a p q=((exD D r s).rows.getD p (0,[])).2.getD q 0:=rfl;rw [e0];unfold exD;dsimp only;rw [a2t (e:=(0,[])) (by rw [H.rows];exact hp)];have hl:=H.rowlen hr;have hlp:=H.rowlen hp;have hn:∀j,j<n->(newL (D.a r s) s (D.rows.getD r (0,[])).2).getD j 0=if j=s then 1/D.a r s else D.a r j/D.a r s:=fun j hj=>by
  unfold newL;rw [a2t (e:=0) (by rw [hl];exact hj)];rfl
 split
 ·exact hn q hq
 show(c2b (D.rows.getD p (0,[])).2 _ s).getD q 0=_;unfold c2b;rw [a2t (e:=0) (by rw [hlp];exact hq)]
 by_cases hqs:q=s
 ·rw [if_pos hqs,if_pos hqs,hn s (by omega),if_pos rfl];rfl
 rw [if_neg hqs,if_neg hqs,hn q hq,if_neg hqs];rfl
theorem Shp.ex_g(hr:r<m){q:Nat}(hq:q<n):(exD D r s).g q=if q=s then 0-D.g s*(1/D.a r s)else D.g q-D.g s*(D.a r q/D.a r s):=by
 have e0:(exD D r s).g q=(exD D r s).goal.getD q 0:=rfl;rw [e0];unfold exD;dsimp only;have hl:=H.rowlen hr;have hn:∀j,j<n->(newL (D.a r s) s (D.rows.getD r (0,[])).2).getD j 0=if j=s then 1/D.a r s else D.a r j/D.a r s:=fun j hj=>by
  unfold newL;rw [a2t (e:=0) (by rw [hl];exact hj)];rfl
 unfold c2b;rw [a2t (e:=0) (by rw [H.goal];exact hq)]
 by_cases hqs:q=s
 ·rw [if_pos hqs,if_pos hqs,hn s (by omega),if_pos rfl];rfl
 rw [if_neg hqs,if_neg hqs,hn q hq,if_neg hqs];rfl
theorem Shp.ex_o(hr:r<m){p:Nat}:(exD D r s).o p=if p=r then D.f s else D.o p:=by
 have e0:(exD D r s).o p=(D.own.set r (D.f s)).getD p 0:=rfl;rw [e0,List.getD_eq_getElem?_getD,List.getElem?_set];split
 ·rename_i h;rw [if_pos h.symm,if_pos (by rw [H.own];exact hr)];rfl
 rename_i h;rw [if_neg (Ne.symm h)];rw [<-List.getD_eq_getElem?_getD];rfl
theorem Shp.ex_f(hs:s<n){q:Nat}:(exD D r s).f q=if q=s then D.o r else D.f q:=by
 have e0:(exD D r s).f q=(D.free.set s (D.o r)).getD q 0:=rfl;rw [e0,List.getD_eq_getElem?_getD,List.getElem?_set];split
 ·rename_i h;rw [if_pos h.symm,if_pos (by rw [H.free];exact hs)];rfl
 rename_i h;rw [if_neg (Ne.symm h)];rw [<-List.getD_eq_getElem?_getD];rfl
end
structure Rep(D:Dct)(T:Tab)(m n:Nat):Prop where
 shp:Shp D m n
 oi:∀p q,p<m->q<m->D.o p=D.o q->p=q
 fi:∀p q,p<n->q<n->D.f p=D.f q->p=q
 of:∀p q,p<m->q<n->D.o p≠D.f q
 lo:∀p,p<m->D.o p<n+m
 lf:∀q,q<n->D.f q<n+m
 all:∀i,i<n+m->(∃p,p<m/\D.o p=i)∨∃q,q<n/\D.f q=i
 bo:∀p,p<m->T.bas (D.o p)=true
 bf:∀q,q<n->T.bas (D.f q)=false
 bN:T.bas (n+m)=true
 bN1:T.bas (n+m+1)=false
 A:∀p q,p<m->q<n->T.A (D.o p) (D.f q)=D.a p q
 V:∀p,p<m->T.A (D.o p) (n+m+1)=-D.v p
 G:∀q,q<n->T.A (n+m) (D.f q)=-D.g q
theorem Rep.ex{D:Dct}{T:Tab}{m n r s:Nat}(R:Rep D T m n)(hr:r<m)(hs:s<n)(hp:D.a r s≠0):Rep (exD D r s) (T.piv (D.o r) (D.f s)) m n:=by
 have H:=R.shp;have eo:=fun p=>H.ex_o (s:=s) (p:=p) hr;have ef:=fun q=>H.ex_f (r:=r) (q:=q) hs;have hA:=R.A r s hr hs;have lor:=R.lo r hr;have lfs:=R.lf s hs;have hrs:=R.of r s hr hs;have o1:∀p,p<m->p≠r->(exD D r s).o p=D.o p/\D.o p≠D.o r/\D.o p≠D.f s:=fun p hp h=>⟨by rw [eo,if_neg h],fun e=>h (R.oi p r hp hr e),R.of p s hp hs⟩
 have f1:∀q,q<n->q≠s->(exD D r s).f q=D.f q/\D.f q≠D.f s/\D.f q≠D.o r:=fun q hq h=>⟨by rw [ef,if_neg h],fun e=>h (R.fi q s hq hs e),Ne.symm (R.of r q hr hq)⟩
 have o0:(exD D r s).o r=D.f s:=by rw [eo,if_pos rfl]
 have f0:(exD D r s).f s=D.o r:=by rw [ef,if_pos rfl]
 constructor
 ·exact H.ex hr
 ·intro p q hp hq h
  by_cases h1:p=r<;>by_cases h2:q=r
  ·rw [h1,h2]
  ·obtain⟨e,-,e2⟩:=o1 q hq h2;rw [h1,o0,e]at h;exact absurd h.symm e2
  ·obtain⟨e,-,e2⟩:=o1 p hp h1;rw [h2,o0,e]at h;exact absurd h e2
  rw [(o1 p hp h1).1,(o1 q hq h2).1]at h;exact R.oi p q hp hq h
 ·intro p q hp hq h
  by_cases h1:p=s<;>by_cases h2:q=s
  ·rw [h1,h2]
  ·obtain⟨e,-,e2⟩:=f1 q hq h2;rw [h1,f0,e]at h;exact absurd h.symm e2
  ·obtain⟨e,-,e2⟩:=f1 p hp h1;rw [h2,f0,e]at h;exact absurd h e2
  rw [(f1 p hp h1).1,(f1 q hq h2).1]at h;exact R.fi p q hp hq h
 ·intro p q hp hq h
  by_cases h1:p=r<;>by_cases h2:q=s
  ·rw [h1,h2,o0,f0]at h;exact hrs h.symm
  ·rw [h1,o0,(f1 q hq h2).1]at h;exact(f1 q hq h2).2.1 h.symm
  ·rw [h2,f0,(o1 p hp h1).1]at h;exact(o1 p hp h1).2.1 h
  rw [(o1 p hp h1).1,(f1 q hq h2).1]at h;exact R.of p q hp hq h
 ·intro p hp;rw [eo];split
  ·exact lfs
  exact R.lo p hp
 ·intro q hq;rw [ef];split
  ·exact lor
  exact R.lf q hq
 ·intro i hi;rcases R.all i hi with⟨p,h1,h2⟩|⟨q,h1,h2⟩
  ·by_cases hpr:p=r
   ·exact Or.inr ⟨s,hs,by rw [f0,<-h2,hpr]⟩
   exact Or.inl ⟨p,h1,by rw [(o1 p h1 hpr).1,h2]⟩
  by_cases hqs:q=s
  ·exact Or.inl ⟨r,hr,by rw [o0,<-h2,hqs]⟩
  exact Or.inr ⟨q,h1,by rw [(f1 q h1 hqs).1,h2]⟩
 ·intro p hp;simp only [Tab.piv]
  by_cases h1:p=r
  ·rw [h1,o0,if_neg (Ne.symm hrs),if_pos rfl]
  obtain⟨e,e1,e2⟩:=o1 p hp h1;rw [e,if_neg e1,if_neg e2];exact R.bo p hp
 ·intro q hq;simp only [Tab.piv]
  by_cases h1:q=s
  ·rw [h1,f0,if_pos rfl]
  obtain⟨e,e1,e2⟩:=f1 q hq h1;rw [e,if_neg e2,if_neg e1];exact R.bf q hq
 ·simp only [Tab.piv];rw [if_neg (by omega),if_neg (by omega)];exact R.bN
 ·simp only [Tab.piv];rw [if_neg (by omega),if_neg (by omega)];exact R.bN1
 ·intro p q hp hq;rw [H.ex_a hr hp hq];simp only [Tab.piv]
  by_cases h1:p=r
  ·rw [h1,o0,if_pos rfl,if_pos rfl]
   by_cases h2:q=s
   ·rw [h2,f0,if_pos rfl,if_pos rfl,hA];grind
   obtain⟨e,e1,e2⟩:=f1 q hq h2;rw [e,if_neg e2,if_neg h2,hA,R.A r q hr hq]
  obtain⟨e,e1,e2⟩:=o1 p hp h1;rw [e,if_neg e2,if_neg h1]
  by_cases h2:q=s
  ·rw [h2,f0,if_pos rfl,if_pos rfl,hA,R.A p s hp hs];grind
  obtain⟨e',e1',e2'⟩:=f1 q hq h2;rw [e',if_neg e2',if_neg h2,hA,R.A p q hp hq,R.A p s hp hs,R.A r q hr hq]
 ·intro p hp;rw [H.ex_v hr hp];simp only [Tab.piv]
  by_cases h1:p=r
  ·rw [h1,o0,if_pos rfl,if_pos rfl,if_neg (by omega),hA,R.V r hr];grind
  obtain⟨e,e1,e2⟩:=o1 p hp h1;rw [e,if_neg e2,if_neg h1,if_neg (by omega),hA,R.V p hp,R.A p s hp hs,R.V r hr];grind
 intro q hq;rw [H.ex_g hr hq];simp only [Tab.piv];rw [if_neg (by omega)]
 by_cases h2:q=s
 ·rw [h2,f0,if_pos rfl,if_pos rfl,hA,R.G s hs];grind
 obtain⟨e',e1',e2'⟩:=f1 q hq h2;rw [e',if_neg e2',if_neg h2,hA,R.G q hq,R.G s hs,R.A r q hr hq];grind
def c6b(ch:Nat->Bool):Nat->Option (Nat×Nat)->List Nat->Option (Nat×Nat)
 |_,b,[]=>b
 |i,b,x::l=>c6b ch (i+1) (if ch i=true/\(match b with|none=>true|some y=>decide (x<y.2))=true then some (i,x)else b) l
def c1c(ch:Nat->Bool)(l:List Nat):Option (Nat×Nat)->Prop |none=>∀i,i<l.length->ch i=false |some (i,x)=>i<l.length/\l.getD i 0=x/\ch i=true/\∀j,j<l.length->ch j=true->x<=l.getD j 0
theorem b7z(ch:Nat->Bool):∀(l pre:List Nat)(b:Option (Nat×Nat)),c1c ch pre b->c1c ch (pre++l) (c6b ch pre.length b l)
 | [],pre,b,h=>by rw [List.append_nil];exact h
 |x::l,pre,b,h=>by
  have e:pre++x::l=(pre++ [x])++l:=by simp
  have hl:pre.length+1=(pre++ [x]).length:=by simp
  rw [e];unfold c6b;rw [hl];have hg:∀j,j<pre.length->(pre++ [x]).getD j 0=pre.getD j 0:=fun j hj=>by
   rw [List.getD_eq_getElem?_getD,List.getD_eq_getElem?_getD,List.getElem?_append_left hj]
  have hx:(pre++ [x]).getD pre.length 0=x:=by
   rw [List.getD_eq_getElem?_getD,List.getElem?_append_right (Nat.le_refl _)];simp
  refine b7z ch l (pre++ [x]) _ ?_
  by_cases hc:ch pre.length=true
  ·match b,h with
   |none,h=>
    rw [if_pos ⟨hc,rfl⟩];refine⟨by simp,hx,hc,fun j hj hcj=> ?_⟩;rw [<-hl]at hj
    by_cases he:j=pre.length
    ·rw [he,hx];exact Nat.le_refl _
    have:=h j (by omega);rw [this]at hcj;cases hcj
   |some (i,y),⟨h1,h2,h3,h4⟩=>
    by_cases hlt:x<y
    ·rw [if_pos ⟨hc,decide_eq_true hlt⟩];refine⟨by simp,hx,hc,fun j hj hcj=> ?_⟩;rw [<-hl]at hj
     by_cases he:j=pre.length
     ·rw [he,hx];exact Nat.le_refl _
     rw [hg j (by omega)];have:=h4 j (by omega) hcj;omega
    rw [if_neg (fun h=>hlt (of_decide_eq_true h.2))];refine⟨by simp;omega,by rw [hg i h1];exact h2,h3,fun j hj hcj=> ?_⟩;rw [<-hl]at hj
    by_cases he:j=pre.length
    ·rw [he,hx];omega
    rw [hg j (by omega)];exact h4 j (by omega) hcj
  rw [if_neg (fun h=>hc h.1)];have hcf:ch pre.length=false:=by simpa using hc
  match b,h with
  |none,h=>
   intro j hj;rw [<-hl]at hj
   by_cases he:j=pre.length
   ·rw [he];exact hcf
   exact h j (by omega)
  |some (i,y),⟨h1,h2,h3,h4⟩=>
   refine⟨by simp;omega,by rw [hg i h1];exact h2,h3,fun j hj hcj=> ?_⟩;rw [<-hl]at hj
   by_cases he:j=pre.length
   ·rw [he,hcf]at hcj;cases hcj
   rw [hg j (by omega)];exact h4 j (by omega) hcj
def least(ch:Nat->Bool)(l:List Nat):Option (Nat×Nat):=c6b ch 0 none l
theorem b0z(ch:Nat->Bool)(l:List Nat):c1c ch l (least ch l):=b7z ch l [] none fun i h=>by simp at h
inductive Sel where
 |best
 |row (r:Nat)
 |col (s:Nat)
 |piv (r s:Nat)
def neg(x:Rat):Bool:=decide (x<0)
def pos(x:Rat):Bool:=decide (0<x)
def selR(D:Dct)(r:Nat):Sel:=match least (fun j=>neg (D.a r j)) D.free with
 |none=> .row r
 |some (s,_)=> .piv r s
def selC(D:Dct)(s:Nat):Sel:=match least (fun i=>pos (D.a i s)) D.own with
 |none=> .col s
 |some (r,_)=> .piv r s
def sel(D:Dct):Sel:=match least (fun i=>neg (D.v i)) D.own,least (fun j=>pos (D.g j)) D.free with
 |none,none=> .best
 |some (r,_),none=>selR D r
 |some (r,x),some (s,y)=>if x<y then selR D r else selC D s
 |none,some (s,_)=>selC D s
theorem e2n{D:Dct}{T:Tab}{m n r s:Nat}(R:Rep D T m n)(h:sel D= .piv r s):r<m/\s<n/\D.a r s≠0/\Stp (n+m) T (D.o r) (D.f s):=by
 have H:=R.shp;have l1:=b0z (fun i=>neg (D.v i)) D.own;have l2:=b0z (fun j=>pos (D.g j)) D.free;have hown:=H.own;have hfree:=H.free;have sV:∀x:Nat,(∀p,p<m->neg (D.v p)=true->x<=D.o p)->∀i,i<x->i<n+m->T.bas i=true->T.A i (n+m+1)<=0:=fun x hx i hi hiN hb=>by
  rcases R.all i hiN with⟨p,hp,rfl⟩|⟨q,hq,rfl⟩
  ·rw [R.V p hp];have:¬neg (D.v p)=true:=fun h=>by have:=hx p hp h;omega
   simp only [neg,decide_eq_true_eq]at this
   grind
  rw [R.bf q hq]at hb;cases hb
 have sG:∀x:Nat,(∀q,q<n->pos (D.g q)=true->x<=D.f q)->∀j,j<x->j<n+m->T.bas j=false->0<=T.A (n+m) j:=fun x hx j hj hjN hb=>by
  rcases R.all j hjN with⟨p,hp,rfl⟩|⟨q,hq,rfl⟩
  ·rw [R.bo p hp]at hb;cases hb
  rw [R.G q hq];have:¬pos (D.g q)=true:=fun h=>by have:=hx q hq h;omega
  simp only [pos,decide_eq_true_eq]at this
  grind
 have hR:∀r',r'<m->neg (D.v r')=true->(∀p,p<m->neg (D.v p)=true->D.o r'<=D.o p)->(∀q,q<n->pos (D.g q)=true->D.o r'<=D.f q)->selR D r'= .piv r s->r<m/\s<n/\D.a r s≠0/\Stp (n+m) T (D.o r) (D.f s):=by
  intro r' hr hn h1 h2 he;have l3:=b0z (fun j=>neg (D.a r' j)) D.free;unfold selR at he;cases hl:least (fun j=>neg (D.a r' j)) D.free with
  |none=>rw [hl]at he;cases he
  |some sx=>
   obtain⟨s',x⟩:=sx;rw [hl]at he l3;simp only [Sel.piv.injEq]at he;obtain⟨rfl,rfl⟩:=he;obtain⟨k1,k2,k3,k4⟩:=l3;rw [hfree]at k1 k4;have hng:D.a r' s'<0:=of_decide_eq_true k3;refine⟨hr,k1,by grind,⟨R.lo _ hr,R.lf _ k1,R.bo _ hr,R.bf _ k1,Or.inl ⟨?_,fun i hi hb=> ?_,fun j hj hb=> ?_,?_,fun j hj hb=> ?_⟩⟩⟩
   ·rw [R.V _ hr];have:D.v r'<0:=of_decide_eq_true hn
    grind
   ·exact sV _ h1 i hi (by have:=R.lo _ hr;omega) hb
   ·exact sG _ h2 j hj (by have:=R.lo _ hr;omega) hb
   ·rw [R.A _ _ hr k1];exact hng
   have hjN:j<n+m:=by have:=R.lf _ k1;omega
   rcases R.all j hjN with⟨p,hp,rfl⟩|⟨q,hq,rfl⟩
   ·rw [R.bo p hp]at hb;cases hb
   rw [R.A _ _ hr hq];have:¬neg (D.a r' q)=true:=fun h=>by
    have:=k4 q hq h;have e:D.free.getD q 0=D.f q:=rfl;have e2:D.free.getD s' 0=D.f s':=rfl;omega
   simp only [neg,decide_eq_true_eq]at this
   grind
 have hC:∀s',s'<n->pos (D.g s')=true->(∀q,q<n->pos (D.g q)=true->D.f s'<=D.f q)->(∀p,p<m->neg (D.v p)=true->D.f s'<=D.o p)->selC D s'= .piv r s->r<m/\s<n/\D.a r s≠0/\Stp (n+m) T (D.o r) (D.f s):=by
  intro s' hs hn h1 h2 he;have l3:=b0z (fun i=>pos (D.a i s')) D.own;unfold selC at he;cases hl:least (fun i=>pos (D.a i s')) D.own with
  |none=>rw [hl]at he;cases he
  |some sx=>
   obtain⟨r',x⟩:=sx;rw [hl]at he l3;simp only [Sel.piv.injEq]at he;obtain⟨rfl,rfl⟩:=he;obtain⟨k1,k2,k3,k4⟩:=l3;rw [hown]at k1 k4;have hng:0<D.a r' s':=of_decide_eq_true k3;refine⟨k1,hs,by grind,⟨R.lo _ k1,R.lf _ hs,R.bo _ k1,R.bf _ hs,Or.inr ⟨?_,fun j hj hb=> ?_,fun i hi hb=> ?_,?_,fun i hi hb=> ?_⟩⟩⟩
   ·rw [R.G _ hs];have:0<D.g s':=of_decide_eq_true hn
    grind
   ·exact sG _ h1 j hj (by have:=R.lf _ hs;omega) hb
   ·exact sV _ h2 i hi (by have:=R.lf _ hs;omega) hb
   ·rw [R.A _ _ k1 hs];exact hng
   have hiN:i<n+m:=by have:=R.lo _ k1;omega
   rcases R.all i hiN with⟨p,hp,rfl⟩|⟨q,hq,rfl⟩
   ·rw [R.A _ _ hp hs];have:¬pos (D.a p s')=true:=fun h=>by
     have:=k4 p hp h;have e:D.own.getD p 0=D.o p:=rfl;have e2:D.own.getD r' 0=D.o r':=rfl;omega
    simp only [pos,decide_eq_true_eq]at this
    grind
   rw [R.bf q hq]at hb;cases hb
 unfold sel at h;cases e1:least (fun i=>neg (D.v i)) D.own with
 |none=>
  cases e2:least (fun j=>pos (D.g j)) D.free with
  |none=>rw [e1,e2]at h;cases h
  |some sy=>
   obtain⟨s',y⟩:=sy;rw [e1,e2]at h;rw [e1]at l1;rw [e2]at l2;obtain⟨k1,k2,k3,k4⟩:=l2;rw [hfree]at k1 k4;have l1:∀i,i<D.own.length->neg (D.v i)=false:=l1;rw [hown]at l1;exact hC s' k1 k3 (fun q hq hg=>by rw [<-k2]at k4;exact k4 q hq hg) (fun p hp hv=>by rw [l1 p hp]at hv;cases hv) h
 |some rx=>
  obtain⟨r',x⟩:=rx;rw [e1]at l1;obtain⟨j1,j2,j3,j4⟩:=l1;rw [hown]at j1 j4;cases e2:least (fun j=>pos (D.g j)) D.free with
  |none=>
   rw [e1,e2]at h;rw [e2]at l2;have l2:∀i,i<D.free.length->pos (D.g i)=false:=l2;rw [hfree]at l2;exact hR r' j1 j3 (fun p hp hv=>by rw [<-j2]at j4;exact j4 p hp hv) (fun q hq hg=>by rw [l2 q hq]at hg;cases hg) h
  |some sy=>
   obtain⟨s',y⟩:=sy;rw [e1,e2]at h;rw [e2]at l2;obtain⟨k1,k2,k3,k4⟩:=l2;rw [hfree]at k1 k4;rw [<-j2]at j4;rw [<-k2]at k4;have ej:D.own.getD r' 0=D.o r':=rfl;have ek:D.free.getD s' 0=D.f s':=rfl;rw [ej]at j2 j4;rw [ek]at k2 k4;dsimp only at h
   by_cases hxy:x<y
   ·rw [if_pos hxy]at h;exact hR r' j1 j3 j4 (fun q hq hg=>Nat.le_trans (by omega) (k4 q hq hg)) h
   rw [if_neg hxy]at h;exact hC s' k1 k3 k4 (fun p hp hv=>Nat.le_trans (by omega) (j4 p hp hv)) h
def Rch(m n:Nat)(T0:Tab)(D:Dct)(t:Nat):Prop:=∃(T:Nat->Tab)(r s:Nat->Nat),Run (n+m) T r s t/\T 0=T0/\Rep D (T t) m n
theorem Rch.next{m n:Nat}{T0:Tab}{D:Dct}{t r s:Nat}(h:Rch m n T0 D t)(hs:sel D= .piv r s):r<m/\s<n/\D.a r s≠0/\Rch m n T0 (exD D r s) (t+1):=by
 obtain⟨T,rr,ss,R,h0,hR⟩:=h;obtain⟨h1,h2,h3,h4⟩:=e2n hR hs;refine⟨h1,h2,h3,fun u=>if u<=t then T u else(T t).piv (D.o r) (D.f s),fun u=>if u<t then rr u else D.o r,fun u=>if u<t then ss u else D.f s,⟨?_,?_,fun u hu=> ?_⟩,?_,?_⟩
 ·simpa using R.f
 ·simpa using R.g
 ·by_cases hut:u<t
  ·obtain⟨k1,k2⟩:=R.step u hut;simp only [show u<=t by omega,show u+1<=t by omega,hut,if_true];exact⟨k1,k2⟩
  obtain rfl:u=t:=by omega
  simp only [Nat.le_refl,Nat.lt_irrefl,show¬(u+1<=u) by omega,if_true,if_false];exact⟨h4,trivial⟩
 ·simpa using h0
 simp only [show¬(t+1<=t) by omega,if_false];exact hR.ex h1 h2 h3
theorem Rch.few{m n:Nat}{T0:Tab}{D:Dct}{t:Nat}(h:Rch m n T0 D t):t<2^(n+m):=by
 obtain⟨T,rr,ss,R,h0,hR⟩:=h;exact R.len
end Sx
set_option linter.unusedVariables false
namespace Sx
structure Ini(D:Dct)(T:Tab)(m n:Nat):Prop where
 rep:Rep D T m n
 o:∀p,p<m->D.o p=n+p
 f:∀q,q<n->D.f q=q
 z:T.A (n+m) (n+m+1)=0
section
variable{D0 D:Dct}{T0 T:Tab}{m n:Nat}(I:Ini D0 T0 m n)(R:Rep D T m n)
theorem Ini.bp(I:Ini D0 T0 m n){p:Nat}(hp:p<m):T0.bas (n+p)=true:=by have:=I.rep.bo p hp;rwa [I.o p hp]at this
theorem Ini.A(I:Ini D0 T0 m n){p q:Nat}(hp:p<m)(hq:q<n):T0.A (n+p) q=D0.a p q:=by have:=I.rep.A p q hp hq;rwa [I.o p hp,I.f q hq]at this
theorem Ini.V(I:Ini D0 T0 m n){p:Nat}(hp:p<m):T0.A (n+p) (n+m+1)=-D0.v p:=by have:=I.rep.V p hp;rwa [I.o p hp]at this
theorem Ini.G(I:Ini D0 T0 m n){q:Nat}(hq:q<n):T0.A (n+m) q=-D0.g q:=by have:=I.rep.G q hq;rwa [I.f q hq]at this
theorem Rep.var(R:Rep D T m n){P:Nat->Prop}(ho:∀p,p<m->P (D.o p))(hf:∀q,q<n->P (D.f q)):∀i,i<n+m->P i:=fun i hi=>by
 rcases R.all i hi with⟨p,h1,rfl⟩|⟨q,h1,rfl⟩
 ·exact ho p h1
 exact hf q h1
end
end Sx
namespace Dp
open Go Go.RowKit Go.Proofs.YtjegnogjkddnbaaGreatDoor.Rt Go.Proofs Go.Proofs.YtjegnogjkddnbaaGreatDoor.D Go.Proofs.YtjegnogjkddnbaaGreatDoor.Sx
set_option linter.unusedVariables false
def valT:List Trm->List Rat->Rat | [],_=>0 |t::l,x=>t.2*x.getD t.1.toNat 0+valT l x
def f1i(r:Rw)(x:List Rat):Prop:=(r.Kind≠1->r.Value<=valT r.Terms x)/\(r.Kind≠0->valT r.Terms x<=r.Value)
structure Sol(s:Sy)(x:List Rat):Prop where
 len:x.length=s.N.toNat
 nn:∀v∈x,0<=v
 rows:∀r∈s.Rows,f1i r x
end Dp
namespace Dp
open Go Go.RowKit Go.Proofs.YtjegnogjkddnbaaGreatDoor.Rt Go.Proofs Go.Proofs.YtjegnogjkddnbaaGreatDoor.D
set_option linter.unusedVariables false
set_option maxHeartbeats 4000000
set_option maxRecDepth 100000
abbrev wrongC:DV:= .v (.clo 211 [] [])
theorem d8b{f:Frac}{k:Nat}(hp:f.P.Digits.length<=k)(hq:f.Q.Digits.length<=k)(hk:k<8388608):EvF tt 211 [.v (eF f)] (B (!a0f f)):=by
 refine evF (eIn Tryz.func211 rfl rfl ?_);refine qK rfl (a4c hp hq hk) rfl ?_;exact qR rfl ⟨rfl,rfl⟩
def badI:Nat->List Frac->Int |_,[]=>-1 |i,f::l=>if a0f f=true then badI (i+1) l else i
theorem badI_nn:∀{l:List Frac}{i:Nat},(0<=badI i l)↔l.all a0f=false
 | [],i=>by simp [badI]
 |f::l,i=>by
  unfold badI;split
  ·rename_i h;rw [badI_nn,List.all_cons,h];simp
  rename_i h;rw [List.all_cons];simp [h]
theorem e9g{x:List Frac}{k:Nat}(hd:∀f∈x,f.P.Digits.length<=k/\f.Q.Digits.length<=k)(hk:k<8388608)(hl:x.length<1000000):EvF tt 265 [L (fs x),wrongC] (I (badI 0 x)):=by
 refine evF (eIn Tryz.func265 rfl rfl ?_);refine qF x.length (fun z _=> [(8,I z)]) (fun _ _=> []) (fun j(_:Unit)=>badI 0 x=badI j (x.drop j)) () rfl rfl rfl ?_;rintro j ⟨⟩ hj hq ih
 by_cases hlt:j<x.length
 ·have hf:=List.getElem?_eq_getElem hlt;generalize x[j]=f at hf;have hd2:=a1p hf;obtain⟨d1,d2⟩:=hd f (List.mem_of_getElem? hf);have hw:=d8b d1 d2 hk;rw [hd2]at hq;have hq:badI 0 x=if a0f f=true then badI (j+1) (x.drop (j+1))else j:=hq
  refine qT rfl (decide_eq_true (by rw [List.length_map];omega)) ?_;refine qXi rfl (by omega) (by rw [Int.toNat_natCast];exact hf) ?_;refine qK rfl hw rfl ?_;cases hr:a0f f with
  |true=>
   rw [hr,if_pos rfl]at hq;refine qN rfl rfl ?_;refine qB (ih _ () (a0a (by omega)) hlt hq) (by kernel_rfl)
  |false=>
   rw [hr,if_neg (by decide)]at hq;rw [hq];refine qT rfl rfl ?_;exact qR rfl ⟨rfl,rfl⟩
 obtain rfl:j=x.length:=by omega
 rw [List.drop_length]at hq;have hq:badI 0 x=-1:=hq;rw [hq];refine qN rfl (decide_eq_false (by rw [List.length_map];omega)) ?_;exact qR rfl ⟨rfl,rfl⟩
theorem d8t{x:List Frac}{k:Nat}(hd:∀f∈x,f.P.Digits.length<=k/\f.Q.Digits.length<=k)(hk:k<8388608)(hl:x.length<1000000):EvF tt 210 [L (fs x),wrongC] (B (!x.all a0f)):=by
 refine evF (eIn Tryz.func210 rfl rfl ?_);refine qK rfl (e9g hd hk hl) rfl ?_;refine qR rfl ⟨congrArg B ?_,rfl⟩;have:=badI_nn (l:=x) (i:=0);cases h:x.all a0f with
 |true=>rw [h]at this;exact decide_eq_false (by intro hh;have:=this.1 hh;cases this)
 |false=>exact decide_eq_true (this.2 h)
theorem c3j{x:List Frac}{k:Nat}(hd:∀f∈x,f.P.Digits.length<=k/\f.Q.Digits.length<=k)(hk:k<8388608)(hl:x.length<1000000):EvF tt 152 [L (fs x)] (B (x.all a0f)):=by
 refine evF (eIn Tryz.func152 rfl rfl ?_);refine qK rfl (d8t hd hk hl) rfl ?_;refine qR rfl ⟨congrArg B ?_,rfl⟩;cases x.all a0f<;>rfl
theorem c6m{l:List Trm}{xs:List Rat}{k j n:Nat}(hs:∀t∈l,SmF k t.2)(hx:∀x∈xs,SmF j x)(hl:l.length<=n)(hv:∀t∈l,0<=t.1/\t.1<xs.length)(hb:1+n*(k+j+1)+k+j<3000000)(hn:n<=1000000):
 EvF tt 153 [L (l.map eTm),L (qs xs)] (.v (eF (toF (valT l xs)))):=by
 have h0:EvF tt 20 [I 0] (.v (eF (toF 0))):=a2f (x:=0) (by decide) (by decide);refine evF (eIn Tryz.func153 rfl rfl ?_);refine qK rfl h0 rfl ?_;refine qF l.length (fun z _=> [(13,I z)]) (fun _ q=> [(0,boxF q)]) (fun i q=>valT l xs=q+valT (l.drop i) xs/\SmF (1+i*(k+j+1)) q) 0 rfl rfl ⟨by show _=0+_;grind,smF_0.mono (by omega)⟩ ?_;rintro i q hi ⟨hq,hqs⟩ ih;have hq:valT l xs=q+valT (l.drop i) xs:=hq;have hqs:SmF (1+i*(k+j+1)) q:=hqs;refine qXl rfl rfl rfl hi (fun t ht hd hlt=> ?_) (fun hd hi=> ?_)
 ·obtain⟨v1,v2⟩:=hv t (List.mem_of_getElem? ht);have hxl:t.1.toNat<xs.length:=by omega
  have hat:=List.getElem?_eq_getElem hxl;generalize xs[t.1.toNat]=x at hat;have b1:=Nat.mul_le_mul_right (k+j+1) (show i<=n by omega);have s1:=hs t (List.mem_of_getElem? ht);have s2:=hx x (List.mem_of_getElem? hat);have hm:=fmul_e s1 s2 (by omega);have ha:=fadd_e hqs (s1.mul s2) (by omega);refine qXi (g:=fun r:Rat=>eF (toF r)) rfl v1 hat ?_;refine qK rfl (hm) rfl ?_;refine qE rfl (by kernel_rfl) (by kernel_rfl) ?_;refine qK rfl (ha) rfl ?_;refine qB (ih _ _ (a0a (by omega)) hlt ?_) rfl;rotate_left;all_goals clear ih
  refine⟨?_,(hqs.add (s1.mul s2)).mono (by rw [Nat.add_mul];omega)⟩;rw [hq,hd];show q+(t.2*xs.getD t.1.toNat 0+valT (l.drop (i+1)) xs)=q+t.2*x+valT (l.drop (i+1)) xs;rw [List.getD_eq_getElem?_getD,hat];show q+(t.2*x+valT (l.drop (i+1)) xs)=q+t.2*x+valT (l.drop (i+1)) xs
  grind
 rw [hd]at hq;have hq:valT l xs=q:=by rw [hq];show q+0=q;grind
 rw [hq];exact qR rfl ⟨rfl,rfl⟩
theorem a4g{l:List Trm}{xs:List Rat}{k j n:Nat}(hs:∀t∈l,SmF k t.2)(hx:∀x∈xs,SmF j x)(hl:l.length<=n)(hj:1<=j):SmF (1+n*(k+j+1)) (valT l xs):=by
 have:∀l:List Trm,(∀t∈l,SmF k t.2)->SmF (1+l.length*(k+j+1)) (valT l xs):=by
  intro l;induction l with
  |nil=>intro _;exact smF_0.mono (by omega)
  |cons t l ih=>
   intro h;have h1:=ih fun u hu=>h u (List.mem_cons_of_mem _ hu);have h2:SmF (k+j) (t.2*xs.getD t.1.toNat 0):=by
    refine(h t (List.mem_cons_self ..)).mul ?_;rw [List.getD_eq_getElem?_getD];cases hq:xs[t.1.toNat]? with
    |none=>exact smF_0.mono hj
    |some v=>exact hx v (List.mem_of_getElem? hq)
   exact(h2.add h1).mono (by rw [List.length_cons,Nat.add_mul];omega)
 exact(this l hs).mono (by have:=Nat.mul_le_mul_right (k+j+1) hl;omega)
theorem b2a(l:List Rat):fs (l.map toF)=qs l:=by
 show List.map _ (List.map _ _)=_;rw [List.map_map];rfl
theorem b5d{x:List Frac}{k:Nat}(hd:∀f∈x,f.P.Digits.length<=k/\f.Q.Digits.length<=k)(hr:x.all a0f=true):x=(x.map toQ).map toF/\∀r∈x.map toQ,SmF k r:=by
 constructor
 ·rw [List.map_map];have:x.map (toF∘toQ)=x.map id:=List.map_congr_left fun f hf=>(b3k (hd f hf) (List.all_eq_true.1 hr f hf)).1.symm;rw [this,List.map_id]
 intro r h;obtain⟨f,hf,rfl⟩:=List.mem_map.1 h;exact(b3k (hd f hf) (List.all_eq_true.1 hr f hf)).2
end Dp
namespace Dp
open Go Go.RowKit Go.Proofs.YtjegnogjkddnbaaGreatDoor.Rt Go.Proofs Go.Proofs.YtjegnogjkddnbaaGreatDoor.D
set_option linter.unusedVariables false
set_option maxHeartbeats 4000000
set_option maxRecDepth 100000
structure PtOk(x:List Frac)(j:Nat):Prop where
 len:x.length<=10000
 dig:∀f∈x,f.P.Digits.length<=j/\f.Q.Digits.length<=j
theorem d4x{m:Int}{l:List Trm}(h:rtT m (-1) l=true):∀t∈l,0<=t.1/\t.1<m:=fun t ht=>by
 have:=c0t h t ht;omega
def valB(l:List Trm)(x:List Frac):Bool:=rtT x.length (-1) l&&x.all a0f
theorem d3e{l:List Trm}{x:List Frac}{k j n:Nat}(hs:∀t∈l,SmF k t.2)(hX:PtOk x j)(hl:l.length<=n)(hn:n<=10000)(hb:1+n*(k+j+1)+k+j<3000000)(hj:j<8388608):
 EvF tt 83 [L (l.map eTm),L (fs x)] (.tup [.v (eF (if valB l x=true then toF (valT l (x.map toQ))else zeroF)),B (valB l x)]):=by
 have h1:EvF tt 81 [L (l.map eTm),I ((x.length:Nat):Int)] (B (rtT x.length (-1) l)):=a6w (by omega) hs (by omega) (by omega);have hxl:=hX.len;rw [show((x.length:Nat):Int)=(((fs x).length:Nat):Int) by rw [List.length_map]]at h1;refine evF (eIn Tryz.func83 rfl rfl ?_);refine qK rfl h1 rfl ?_;unfold valB;rw [show((x.length:Nat):Int)=(((fs x).length:Nat):Int) by rw [List.length_map]];cases hr:rtT (((fs x).length:Nat):Int) (-1) l with
 |false=>
  refine qT rfl rfl ?_;exact qR rfl ⟨rfl,rfl⟩
 |true=>
  have h2:=c3j hX.dig hj (by omega);cases ha:x.all a0f with
  |false=>
   rw [ha]at h2;refine qN rfl rfl ?_;refine qK rfl (h2) rfl ?_;refine qT rfl rfl ?_;exact qR rfl ⟨rfl,rfl⟩
  |true=>
   rw [ha]at h2;obtain⟨e1,e2⟩:=b5d hX.dig ha;generalize x.map toQ=xs at e1 e2;subst e1;have e3:(xs.map toF).map toQ=xs:=by rw [List.map_map,show toQ∘toF=id from funext a7s,List.map_id]
   rw [List.length_map,List.length_map]at hr;have h3:=c6m hs e2 hl (d4x hr) hb (by omega);rw [b2a]at*;refine qN rfl rfl ?_;refine qK rfl (h2) rfl ?_;refine qN rfl rfl ?_;refine qK rfl (h3) rfl ?_;exact qR rfl ⟨rfl,rfl⟩
def a8e(x:List Rat)(r:Rw):Bool:=(decide (r.Kind=1)||decide (r.Value<=valT r.Terms x))&&(decide (r.Kind=0)||decide (valT r.Terms x<=r.Value))
def solB(s:Sy)(x:List Frac):Bool:=sysR s&&decide ((x.length:Int)=s.N)&&x.all a0f&&(x.map toQ).all (fun v=>decide (0<=v))&&s.Rows.all (a8e (x.map toQ))
theorem e5a{s:Sy}{x:List Frac}{k j n:Nat}(hS:SyOk s k)(hX:PtOk x j)(ht:∀r∈s.Rows,r.Terms.length<=n)(hn:n<=10000)(hb:1+n*(k+j+1)+k+j<3000000)(hj:j<4000000)(hk:k<900000)(hj1:1<=j):
 EvF tt 84 [.v (eSy s),L (fs x)] (B (solB s x)):=by
 have h1:=b5k hS (by omega);have h2:=c3j hX.dig (by omega) (by have:=hX.len;omega);have hxl:=hX.len;have hsl:=hS.len;refine evF (eIn Tryz.func84 rfl rfl ?_);refine qK rfl h1 rfl ?_;unfold solB;cases hr:sysR s with
 |false=>
  refine qT rfl rfl ?_;exact qR rfl ⟨rfl,rfl⟩
 |true=>
  by_cases hl:(x.length:Int)=s.N
  ·rw [decide_eq_true hl];refine qN rfl rfl ?_;refine qN rfl (by rw [List.length_map];simp [hl]) ?_;cases ha:x.all a0f with
   |false=>
    rw [ha]at h2;refine qK rfl (h2) rfl ?_;refine qT rfl rfl ?_;exact qR rfl ⟨rfl,rfl⟩
   |true=>
    rw [ha]at h2;obtain⟨e1,e2⟩:=b5d hX.dig ha;generalize x.map toQ=xs at e1 e2;subst e1;rw [b2a]at*;rw [List.length_map]at hl hxl;have hql:(qs xs).length=xs.length:=List.length_map ..;refine qK rfl h2 rfl ?_;refine qN rfl rfl ?_;show Tt _ _ _ fun r' H'=>r'=B (xs.all (fun v=>decide (0<=v))&&s.Rows.all (a8e xs))/\H'= []
    refine qF xs.length (fun z _=> [(27,I z)]) (fun _ _=> []) (fun i(_:Unit)=>xs.all (fun v=>decide (0<=v))=(xs.drop i).all (fun v=>decide (0<=v))) () rfl rfl rfl ?_;rintro i ⟨⟩ hi hq ih;refine qXl rfl rfl rfl hi (fun v hv hd hlt=> ?_) (fun hd hi=> ?_)
    ·rw [hd,List.all_cons]at hq;have hsg:=fsign_e (e2 v (List.mem_of_getElem? hv)) (by omega);have hc:=a0q v 0;rw [<-a5x]at hc;refine qK rfl hsg rfl ?_
     by_cases h0:v<0
     ·have:xs.all (fun v=>decide (0<=v))=false:=by rw [hq];simp;intro h;exfalso;grind
      rw [this];refine qT rfl (decide_eq_true (by grind)) ?_;exact qR rfl ⟨rfl,rfl⟩
     refine qN rfl (decide_eq_false (by grind)) ?_;refine qB (ih _ () (a0a (by omega)) hlt (by rw [hq,decide_eq_true (show(0:Rat)<=v by grind),Bool.true_and])) (by kernel_rfl)
    have hq:xs.all (fun v=>decide (0<=v))=true:=by rw [hq,hd];rfl
    rw [hq,Bool.true_and];clear ih;refine qF s.Rows.length (fun z _=> [(38,I z)]) (fun _ _=> []) (fun i(_:Unit)=>s.Rows.all (a8e xs)=(s.Rows.drop i).all (a8e xs)) () rfl rfl rfl ?_;rintro i ⟨⟩ hi hq ih;refine qXl rfl rfl rfl hi (fun r hrr hd hlt=> ?_) (fun hd hi=> ?_)
    ·rw [hd,List.all_cons]at hq;obtain⟨t1,t2,t3⟩:=hS.terms r (List.mem_of_getElem? hrr);have htn:=ht r (List.mem_of_getElem? hrr);obtain⟨r1,r2,r3⟩:=(a5h hr).2.2.2 r (List.mem_of_getElem? hrr);have hva:=c6m t2 e2 htn (by rw [hl];exact d4x r1) hb (by omega);have hcm:=fcmp_e (a4g t2 e2 htn hj1) t3 (by omega);have hc:=a0q (valT r.Terms xs) r.Value;refine qK rfl hva rfl ?_;refine qK rfl hcm rfl ?_;refine qE rfl (by kernel_rfl) (by kernel_rfl) ?_;refine qC rfl (fun h=> ?_) (fun h=> ?_);refine qC rfl (fun h=> ?_) (fun h=> ?_);refine qR rfl ⟨congrArg B ?_,rfl⟩;rotate_left;refine qN rfl (decide_eq_false (by first|omega|(simp;done)|(simp;omega))) ?_;refine qB (ih _ () (a0a (by omega)) hlt ?_) (by kernel_rfl);rotate_left;refine qC rfl (fun h=> ?_) (fun h=> ?_);refine qC rfl (fun h=> ?_) (fun h=> ?_);refine qR rfl ⟨congrArg B ?_,rfl⟩;rotate_left;refine qB (ih _ () (a0a (by omega)) hlt ?_) (by kernel_rfl);rotate_left;refine qB (ih _ () (a0a (by omega)) hlt ?_) (by kernel_rfl);rotate_left;all_goals clear ih
     all_goals (simp only [a8e]at*;grind)
    have hq:s.Rows.all (a8e xs)=true:=by rw [hq,hd];rfl
    rw [hq];exact qR rfl ⟨rfl,rfl⟩
  rw [decide_eq_false hl];refine qN rfl rfl ?_;refine qT rfl (by rw [List.length_map];simp [hl]) ?_;exact qR rfl ⟨rfl,rfl⟩
set_option linter.unusedVariables false
set_option maxHeartbeats 4000000
set_option maxRecDepth 100000
def timT(l:List Trm)(c:Rat):List Trm:=l.map fun t=>(t.1,t.2*c)
def timB(l:List Trm)(c:Rat):Bool:=rtT 1500 (-1) l&&decide (c≠0)
theorem d9i{l:List Trm}{c:Rat}{k j:Nat}(hs:∀t∈l,SmF k t.2)(hc:SmF j c)(hl:l.length<=10000)(hb:k+j<4000000):EvF tt 88 [L (l.map eTm),.v (eF (toF c))] (L ((if timB l c=true then timT l c else []).map eTm)):=by
 have h1:EvF tt 81 [L (l.map eTm),I 1500] (B (rtT 1500 (-1) l)):=a6w hl hs (by omega) (by omega);have h2:=fsign_e hc (by omega);have h3:=b3w (r:=c);refine evF (eIn Tryz.func88 rfl rfl ?_);refine qK rfl h1 rfl ?_;unfold timB;cases hr:rtT 1500 (-1) l with
 |false=>
  refine qT rfl rfl ?_;exact qR rfl ⟨rfl,rfl⟩
 |true=>
  refine qN rfl rfl ?_;refine qK rfl h2 rfl ?_
  by_cases h0:c=0
  ·rw [decide_eq_false (by simp [h0])];refine qT rfl (by rw [h3,h0];rfl) ?_;exact qR rfl ⟨rfl,rfl⟩
  rw [decide_eq_true h0];refine qN rfl (by rw [h3];exact decide_eq_false h0) ?_;show Tt _ _ _ fun r' H'=>r'=L ((timT l c).map eTm)/\H'= []
  refine qF l.length (fun z _=> [(20,I z)]) (fun _ o=> [(0,.row 131 5 o)]) (fun i o=>o=(timT (l.take i) c).map eTm) [] rfl rfl rfl ?_;rintro i o hi rfl ih;refine qXl rfl rfl rfl hi (fun t ht hd hlt=> ?_) (fun hd hi=> ?_)
  ·have hm:=fmul_e (hs t (List.mem_of_getElem? ht)) hc hb;refine qK rfl hm rfl ?_;refine qA 72 rfl rfl ?_ ?_;rotate_left;refine qB (ih _ _ (a0a (by omega)) hlt (by rw [a1h ht];unfold timT;rw [List.map_append,List.map_append];rfl)) rfl;all_goals clear ih
   all_goals simp [timT]
   all_goals omega
  rw [hi,List.take_length];exact qR rfl ⟨rfl,rfl⟩
theorem e8o{l:List Trm}{k:Nat}(hs:∀t∈l,SmF k t.2)(hl:l.length<=10000)(hb:k<3000000):EvF tt 44 [L (l.map eTm)] (L ((if timB l (-1)=true then timT l (-1)else []).map eTm)):=by
 have h0:EvF tt 20 [I (-1)] (.v (eF (toF (-1)))):=a2f (x:=-1) (by decide) (by decide);have h1:=d9i hs (c:=-1) (j:=4) (a3r (x:=-1) (by decide)) hl (by omega);refine evF (eIn Tryz.func44 rfl rfl ?_);refine qK rfl (h0) rfl ?_;refine qK rfl (h1) rfl ?_;exact qR rfl ⟨rfl,rfl⟩
def rayR(d:List Rat)(r:Rw):Bool:=(decide (r.Kind=1)||decide (0<=valT r.Terms d))&&(decide (r.Kind=0)||decide (valT r.Terms d<=0))
def rayB(s:Sy)(g:List Trm)(d:List Frac):Bool:=sysR s&&rtT s.N (-1) g&&decide ((d.length:Int)=s.N)&&d.all a0f&&(d.map toQ).all (fun v=>decide (0<=v))&&s.Rows.all (rayR (d.map toQ))&&decide (valT g (d.map toQ)<0)
theorem b2f{l:List Trm}{xs:List Rat}{m:Int}(h:rtT m (-1) l=true)(hm:(xs.length:Int)=m):valB l (xs.map toF)=true:=by
 unfold valB;rw [List.length_map,hm,h];simp only [List.all_map,Bool.true_and,List.all_eq_true];exact fun x _=>a2u x
theorem f0i{s:Sy}{g:List Trm}{d:List Frac}{k j n:Nat}(hS:SyOk s k)(hX:PtOk d j)(ht:∀r∈s.Rows,r.Terms.length<=n)(hg:g.length<=n)(hgs:∀t∈g,SmF k t.2)(hn:n<=10000)(hb:1+n*(k+j+1)+k+j<3000000)(hj:j<4000000)(hk:k<900000)(hj1:1<=j):
 EvF tt 87 [.v (eSy s),L (g.map eTm),L (fs d)] (B (rayB s g d)):=by
 have h1:=b5k hS (by omega);have hxl:=hX.len;have hsl:=hS.len;refine evF (eIn Tryz.func87 rfl rfl ?_);refine qK rfl h1 rfl ?_;unfold rayB;cases hr:sysR s with
 |false=>
  refine qT rfl rfl ?_;exact qR rfl ⟨rfl,rfl⟩
 |true=>
  obtain⟨r1,r2,r3,r4⟩:=a5h hr;have h2:=a6w (n:=s.N) (by omega) hgs (show k<4000000 by omega) r1;cases hrg:rtT s.N (-1) g with
  |false=>
   rw [hrg]at h2;refine qN rfl rfl ?_;refine qK rfl (h2) rfl ?_;refine qT rfl rfl ?_;exact qR rfl ⟨rfl,rfl⟩
  |true=>
   rw [hrg]at h2;refine qN rfl rfl ?_;refine qK rfl h2 rfl ?_;refine qN rfl rfl ?_
   by_cases hl:(d.length:Int)=s.N
   ·rw [decide_eq_true hl];refine qN rfl (by rw [List.length_map];simp [hl]) ?_;cases ha:d.all a0f with
    |false=>
     refine qF d.length (fun z _=> [(35,I z)]) (fun _ _=> []) (fun i(_:Unit)=>(d.drop i).all a0f=false) () rfl rfl ha ?_;rintro i ⟨⟩ hi hq ih;refine qXl rfl rfl rfl hi (fun f hf hd hlt=> ?_) (fun hd hi=> ?_)
     ·rw [hd,List.all_cons]at hq;obtain⟨d1,d2⟩:=hX.dig f (List.mem_of_getElem? hf);have hfr:=a4c d1 d2 (by omega);refine qK rfl hfr rfl ?_;cases hff:a0f f with
      |false=>
       refine qT rfl rfl ?_;exact qR rfl ⟨rfl,rfl⟩
      |true=>
       rw [hff,Bool.true_and]at hq;obtain⟨e1,e2⟩:=b3k ⟨d1,d2⟩ hff;generalize toQ f=v at e1 e2;subst e1;have hsg:=fsign_e e2 (by omega);refine qN rfl rfl ?_;refine qK rfl hsg rfl ?_;refine qC rfl (fun h=> ?_) (fun h=> ?_);exact qR rfl ⟨rfl,rfl⟩;refine qB (ih _ () (a0a (by omega)) hlt hq) (by kernel_rfl)
     rw [hd]at hq;cases hq
    |true=>
     obtain⟨e1,e2⟩:=b5d hX.dig ha;generalize d.map toQ=xs at e1 e2;subst e1;have hfr:=fun v(hv:v∈xs)=>a4w (e2 v hv) (show j<8388608 by omega);rw [b2a]at*;rw [List.length_map]at hl hxl;have hql:(qs xs).length=xs.length:=List.length_map ..;show Tt _ _ _ fun r' H'=>r'=B (xs.all (fun v=>decide (0<=v))&&s.Rows.all (rayR xs)&&decide (valT g xs<0))/\H'= []
     refine qF xs.length (fun z _=> [(35,I z)]) (fun _ _=> []) (fun i(_:Unit)=>xs.all (fun v=>decide (0<=v))=(xs.drop i).all (fun v=>decide (0<=v))) () rfl rfl rfl ?_;rintro i ⟨⟩ hi hq ih;refine qXl rfl rfl rfl hi (fun v hv hd hlt=> ?_) (fun hd hi=> ?_)
     ·rw [hd,List.all_cons]at hq;have hsg:=fsign_e (e2 v (List.mem_of_getElem? hv)) (by omega);have hc:=a0q v 0;rw [<-a5x]at hc;refine qK rfl (hfr v (List.mem_of_getElem? hv)) rfl ?_;refine qN rfl rfl ?_;refine qK rfl hsg rfl ?_
      by_cases h0:v<0
      ·have:xs.all (fun v=>decide (0<=v))=false:=by rw [hq];simp;intro h;exfalso;grind
       rw [this];refine qT rfl (decide_eq_true (by grind)) ?_;exact qR rfl ⟨rfl,rfl⟩
      refine qN rfl (decide_eq_false (by grind)) ?_;refine qB (ih _ () (a0a (by omega)) hlt (by rw [hq,decide_eq_true (show(0:Rat)<=v by grind),Bool.true_and])) (by kernel_rfl)
     have hq:xs.all (fun v=>decide (0<=v))=true:=by rw [hq,hd];rfl
     rw [hq,Bool.true_and];clear ih;refine qF s.Rows.length (fun z _=> [(51,I z)]) (fun _ _=> []) (fun i(_:Unit)=>s.Rows.all (rayR xs)=(s.Rows.drop i).all (rayR xs)) () rfl rfl rfl ?_;rintro i ⟨⟩ hi hq ih;refine qXl rfl rfl rfl hi (fun r hrr hd hlt=> ?_) (fun hd hi=> ?_)
     ·rw [hd,List.all_cons]at hq;obtain⟨t1,t2,t3⟩:=hS.terms r (List.mem_of_getElem? hrr);have htn:=ht r (List.mem_of_getElem? hrr);have hva:=d3e (x:=xs.map toF) t2 ⟨by rw [List.length_map];exact hxl,by
       intro f hf;obtain⟨v,hv,rfl⟩:=List.mem_map.1 hf;exact a4a (e2 v hv)⟩ htn hn hb (by omega)
      rw [if_pos (b2f (r4 r (List.mem_of_getElem? hrr)).1 hl),b2f (r4 r (List.mem_of_getElem? hrr)).1 hl,b2a,List.map_map,show toQ∘toF=id from funext a7s,List.map_id]at hva;have hsg:=fsign_e (a4g t2 e2 htn hj1) (by omega);have hc:=a0q (valT r.Terms xs) 0;rw [<-a5x]at hc;refine qK rfl hva rfl ?_;refine qK rfl hsg rfl ?_;refine qC rfl (fun h=> ?_) (fun h=> ?_);refine qC rfl (fun h=> ?_) (fun h=> ?_);refine qR rfl ⟨congrArg B ?_,rfl⟩;rotate_left;refine qN rfl (decide_eq_false (by first|omega|(simp;done)|(simp;omega))) ?_;refine qB (ih _ () (a0a (by omega)) hlt ?_) (by kernel_rfl);rotate_left;refine qC rfl (fun h=> ?_) (fun h=> ?_);refine qC rfl (fun h=> ?_) (fun h=> ?_);refine qR rfl ⟨congrArg B ?_,rfl⟩;rotate_left;refine qB (ih _ () (a0a (by omega)) hlt ?_) (by kernel_rfl);rotate_left;refine qB (ih _ () (a0a (by omega)) hlt ?_) (by kernel_rfl);rotate_left;all_goals clear ih
      all_goals (simp only [rayR]at*;grind)
     have hq:s.Rows.all (rayR xs)=true:=by rw [hq,hd];rfl
     rw [hq,Bool.true_and];have hva:=d3e (x:=xs.map toF) hgs ⟨by rw [List.length_map];exact hxl,by
      intro f hf;obtain⟨v,hv,rfl⟩:=List.mem_map.1 hf;exact a4a (e2 v hv)⟩ hg hn hb (by omega)
     rw [if_pos (b2f hrg hl),b2f hrg hl,b2a,List.map_map,show toQ∘toF=id from funext a7s,List.map_id]at hva;have hsg:=fsign_e (a4g hgs e2 hg hj1) (by omega);have hc:=a0q (valT g xs) 0;rw [<-a5x]at hc;refine qK rfl (hva) rfl ?_;refine qK rfl (hsg) rfl ?_;refine qR rfl ⟨congrArg B ?_,rfl⟩;rotate_left;all_goals clear ih
     all_goals grind
   rw [decide_eq_false hl];refine qT rfl (by rw [List.length_map];simp [hl]) ?_;exact qR rfl ⟨rfl,rfl⟩
set_option linter.unusedVariables false
set_option maxHeartbeats 4000000
set_option maxRecDepth 100000
theorem d5l(f:Frac):EvF tt 86 [.v (eF f)] (B (decide (f=zeroF))):=by
 obtain⟨⟨s,x⟩,⟨t,y⟩⟩:=f;refine evF (eIn Tryz.func86 rfl rfl ?_);refine qC rfl (fun h=> ?_) (fun h=> ?_);refine qC rfl (fun h=> ?_) (fun h=> ?_);refine qC rfl (fun h=> ?_) (fun h=> ?_);refine qR rfl ⟨congrArg B ?_,rfl⟩;rotate_left;refine qR rfl ⟨congrArg B ?_,rfl⟩;rotate_left;refine qR rfl ⟨congrArg B ?_,rfl⟩;rotate_left;refine qR rfl ⟨congrArg B ?_,rfl⟩;rotate_left;all_goals try simp_all [zeroF]
 all_goals (cases y<;>simp)
 all_goals omega
def atV(g:List Trm)(x:List Frac):Frac:=if valB g x=true then toF (valT g (x.map toQ))else zeroF
def lowF(s:Sy)(g:List Trm)(y:List Frac):Frac:=if lowB s g y=true then toF (lowV s y)else zeroF
def chkB(s:Sy)(g:List Trm)(o:Opt):Bool:=sysR s&&rtT s.N (-1) g&& (if o.Kind=0 then lowB s g o.Y&&solB s o.X&&decide (atV g o.X=o.Value)&&decide (lowF s g o.Y=o.Value)&&decide (o.Ray= []) else if o.Kind=1 then rftB s o.Y&&decide (o.X= [])&&decide (o.Ray= [])&&decide (o.Value=zeroF) else if o.Kind=2 then solB s o.X&&rayB s g o.Ray&&decide (o.Y= [])&&decide (o.Value=zeroF)else false)
structure OOk(o:Opt)(j:Nat):Prop where
 val:o.Value.P.Digits.length<=j/\o.Value.Q.Digits.length<=j
 x:PtOk o.X j
 y:YOk o.Y j
 ray:PtOk o.Ray j
theorem c2q{s:Sy}{g:List Trm}{o:Opt}{k n:Nat}(hS:SyOk s k)(hk:k<=70)(hk1:1<=k)(ht:∀r∈s.Rows,r.Terms.length<=n)(hn:n<=100)(hO:OOk o k)(hg:g.length<=n)(hgs:∀t∈g,SmF k t.2):
 EvF tt 43 [.v (eSy s),L (g.map eTm),.v (eOp o)] (B (chkB s g o)):=by
 have h1:=b5k hS (by omega);have b1:=Nat.mul_le_mul hn (show k+k+1<=141 by omega);have hlow:EvF tt 82 [.v (eSy s),L (g.map eTm),L (fs o.Y)] (.tup [.v (eF (lowF s g o.Y)),B (lowB s g o.Y)]):=e1u hS hk (fun r hr=>by have:=ht r hr;omega) hO.y (by omega) hgs;have hsol:=e5a hS hO.x ht (by omega) (by omega) (by omega) (by omega) hk1;have hval:EvF tt 83 [L (g.map eTm),L (fs o.X)] (.tup [.v (eF (atV g o.X)),B (valB g o.X)]):=d3e (n:=n) hgs hO.x hg (by omega) (by omega) (by omega);have hrft:=b8o hS hk (fun r hr=>by have:=ht r hr;omega) hO.y;have hray:=f0i (g:=g) hS hO.ray ht hg hgs (by omega) (by omega) (by omega) (by omega) hk1;have hemp:=d5l o.Value;have hat:(atV g o.X).P.Digits.length<=3000000/\(atV g o.X).Q.Digits.length<=3000000:=by
  unfold atV;split
  ·rename_i h;unfold valB at h;rw [Bool.and_eq_true]at h;exact a4a ((a4g hgs (b5d hO.x.dig h.2).2 hg hk1).mono (show _<=3000000 by omega))
  decide
 have hlv:(lowF s g o.Y).P.Digits.length<=3000000/\(lowF s g o.Y).Q.Digits.length<=3000000:=by
  unfold lowF;split
  ·rename_i h;exact a4a ((b4v hS hO.y h).mono (show _<=3000000 by omega))
  decide
 have hsm1:=d4t (atV g o.X) o.Value (by omega) (by omega);have hsm2:=d4t (lowF s g o.Y) o.Value (by omega) (by omega);have hsml:∀l:List Frac,decide (((fs l).length:Int)=0)=decide (l= []):=fun l=>by
  cases l with
  |nil=>rfl
  |cons x l=>rw [decide_eq_false (show¬(((fs (x::l)).length:Int)=0) by rw [List.length_map,List.length_cons];omega),decide_eq_false (by simp)]
 refine evF (eIn Tryz.func43 rfl rfl ?_);refine qK rfl h1 rfl ?_;unfold chkB;cases hr:sysR s with
 |false=>
  refine qT rfl rfl ?_;exact qR rfl ⟨rfl,rfl⟩
 |true=>
  obtain⟨r1,r2,r3,r4⟩:=a5h hr;have h2:=a6w (n:=s.N) (by omega) hgs (show k<4000000 by omega) r1;refine qN rfl rfl ?_;refine qK rfl h2 rfl ?_;cases hrg:rtT s.N (-1) g with
  |false=>
   refine qT rfl rfl ?_;exact qR rfl ⟨rfl,rfl⟩
  |true=>
   refine qN rfl rfl ?_
   by_cases k0:o.Kind=0
   ·rw [if_pos k0];refine qT rfl (by rw [k0];rfl) ?_;refine qK rfl hlow rfl ?_;refine qK rfl hval rfl ?_;cases lowB s g o.Y with
    |false=>
     refine qN rfl rfl ?_;exact qR rfl ⟨rfl,rfl⟩
    |true=>
     refine qT rfl rfl ?_;refine qK rfl hsol rfl ?_;cases solB s o.X with
     |false=>
      refine qN rfl rfl ?_;exact qR rfl ⟨rfl,rfl⟩
     |true=>
      refine qT rfl rfl ?_;refine qK rfl (hsm1) rfl ?_;refine qC rfl (fun h=> ?_) (fun h=> ?_);refine qK rfl (hsm2) rfl ?_;refine qC rfl (fun h=> ?_) (fun h=> ?_);refine qR rfl ⟨congrArg B ?_,rfl⟩;rotate_left;refine qR rfl ⟨congrArg B ?_,rfl⟩;rotate_left;refine qR rfl ⟨congrArg B ?_,rfl⟩;rotate_left;all_goals simp_all
      all_goals (cases o.Ray<;>simp)
      all_goals omega
   rw [if_neg k0];refine qN rfl (by simp [k0]) ?_
   by_cases k1:o.Kind=1
   ·rw [if_pos k1];refine qT rfl (by rw [k1];rfl) ?_;refine qK rfl hrft rfl ?_;cases rftB s o.Y with
    |false=>
     refine qN rfl rfl ?_;exact qR rfl ⟨rfl,rfl⟩
    |true=>
     refine qT rfl rfl ?_;refine qC rfl (fun h=> ?_) (fun h=> ?_);refine qC rfl (fun h=> ?_) (fun h=> ?_);refine qK rfl (hemp) rfl ?_;refine qR rfl ⟨congrArg B ?_,rfl⟩;rotate_left;refine qR rfl ⟨congrArg B ?_,rfl⟩;rotate_left;refine qR rfl ⟨congrArg B ?_,rfl⟩;rotate_left;all_goals simp_all
   rw [if_neg k1];refine qN rfl (by simp [k1]) ?_
   by_cases k2:o.Kind=2
   ·rw [if_pos k2];refine qT rfl (by rw [k2];rfl) ?_;refine qK rfl hsol rfl ?_;cases solB s o.X with
    |false=>
     refine qN rfl rfl ?_;exact qR rfl ⟨rfl,rfl⟩
    |true=>
     refine qT rfl rfl ?_;refine qK rfl hray rfl ?_;cases rayB s g o.Ray with
     |false=>
      refine qN rfl rfl ?_;exact qR rfl ⟨rfl,rfl⟩
     |true=>
      refine qT rfl rfl ?_;refine qC rfl (fun h=> ?_) (fun h=> ?_);refine qK rfl (hemp) rfl ?_;refine qR rfl ⟨congrArg B ?_,rfl⟩;rotate_left;refine qR rfl ⟨congrArg B ?_,rfl⟩;rotate_left;all_goals simp_all
   rw [if_neg k2];refine qN rfl (by simp [k2]) ?_;exact qR rfl ⟨rfl,rfl⟩
set_option linter.unusedVariables false
set_option maxHeartbeats 4000000
set_option maxRecDepth 100000
theorem intsQ_of:∀l:List Int,intsQ (ns l)=some l
 | []=>rfl
 |x::l=>by show(match intsQ (ns l)with|some r=>some (x::r)|none=>none)=_;rw [intsQ_of l]
abbrev srt(l:List Int):List Int:=l.mergeSort (fun x y=>decide (x<=y))
theorem d7k(l:List Int):EvF tt 79 [L (ns l)] (.v (.clo 148 [] [.el (.agg [.sl (ns l)]) 0])):=EvF.ext (g:=xValues) rfl rfl rfl
theorem d7r(l:List Int)(hl:l.length<1000000):EvF tt 78 [.v (.clo 148 [] [.el (.agg [.sl (ns l)]) 0])] (L (ns (srt l))):=EvF.ext (g:=xSorted) rfl rfl (by
 show(match true,intsQ (ns l)with
  |true,some l=>okB (decide (l.length<1000000)) (.v (.sl ((l.mergeSort (fun x y=>decide (x<=y))).map (VT.int .i64))))
  |_,_=>none)=_
 rw [intsQ_of];show okB (decide (l.length<1000000)) _=_;rw [decide_eq_true hl];rfl)
def sumV(l:List Int):List Trm:=(srt l).map fun v=>(v,1)
theorem e1b(l:List Int)(hl:l.length<1000000):EvF tt 42 [L (ns l)] (L ((sumV l).map eTm)):=by
 have h1:EvF tt 20 [I 1] (.v (eF (toF 1))):=a2f (x:=1) (by decide) (by decide);refine evF (eIn Tryz.func42 rfl rfl ?_);refine qK rfl (d7k _) rfl ?_;refine qK rfl (d7r _ hl) rfl ?_;have hsl:(srt l).length=l.length:=List.length_mergeSort ..;refine qF (srt l).length (fun z _=> [(11,I z)]) (fun _ o=> [(0,.row 131 5 o)]) (fun j o=>o=(((srt l).take j).map fun v=>(v,(1:Rat))).map eTm) [] rfl rfl rfl ?_;rintro j o hj rfl ih;refine qXl rfl rfl rfl hj (fun v hv hd hlt=> ?_) (fun hd hj=> ?_)
 ·refine qK rfl (h1) rfl ?_;refine qA 72 rfl rfl ?_ ?_;rotate_left;refine qB (ih _ _ (a0a (by omega)) hlt (by rw [a1h hv,List.map_append,List.map_append];rfl)) rfl;all_goals clear ih
  all_goals simp
  all_goals omega
 rw [hj,List.take_length];exact qR rfl ⟨rfl,rfl⟩;all_goals clear ih
 all_goals rfl
theorem d4c{s:Sy}{g:List Trm}{y:List Frac}{k:Nat}{x:Rat}(hS:SyOk s k)(hk:k<=70)(ht:∀r∈s.Rows,r.Terms.length<=100)(hY:YOk y k)(hg:g.length<=10000)(hs:∀t∈g,SmF k t.2)(hx:SmF k x):
 EvF tt 49 [.v (eSy s),L (g.map eTm),L (fs y),.v (eF (toF x))] (B (lowB s g y&&decide (0<=cmpQ (lowV s y) x))):=by
 refine evF (eIn Tryz.func49 rfl rfl ?_);refine qK rfl (e1u hS hk ht hY hg hs) rfl ?_;cases hl:lowB s g y with
 |false=>
  refine qN rfl rfl ?_;exact qR rfl ⟨rfl,rfl⟩
 |true=>
  have h1:=fcmp_e ((b4v hS hY hl).mono (show _<=20000 by omega)) (hx.mono (show _<=20000 by omega)) (by omega);refine qT rfl rfl ?_;refine qK rfl (h1) rfl ?_;exact qR rfl ⟨rfl,rfl⟩
set_option linter.unusedVariables false
theorem c4t{α:Type}:∀{l:List α}{i:Nat}{p:Nat×α},p∈zipI i l->p.2∈l
 | [],_,_,h=>by simp [zipI]at h
 |x::l,i,p,h=>by
  simp only [zipI]at h;rcases List.mem_cons.1 h with rfl|h
  ·exact List.mem_cons_self ..
  exact List.mem_cons_of_mem _ (c4t h)
theorem b6e{α:Type}:∀{l:List α}{i:Nat},(zipI i l).length=l.length
 | [],_=>rfl
 |x::l,i=>by simp only [zipI,List.length_cons];rw [b6e]
structure RwOk(r:Rw):Prop where
 len:r.Terms.length<=100
 co:∀t∈r.Terms,SmF 20 t.2
 val:SmF 20 r.Value
theorem b3z{x:Int}(h:x.natAbs<18446744073709551616):SmF 20 (x:Rat):=(a3r h).mono (by omega)
theorem c1p{e:Evi}{i:Nat}{a own more:Int}(h1:a.natAbs<=10000)(h2:more.natAbs<=10000):∀t∈sumT e i a own more,SmF 20 t.2:=fun t ht=>by
 unfold sumT at ht;obtain⟨mat,_,h3⟩:=List.mem_filterMap.1 ht;unfold b0a at h3;dsimp only at h3;split at h3
 ·split at h3
  ·cases h3
  cases h3;exact b3z (by omega)
 split at h3
 ·cases h3
 cases h3;exact b3z (by omega)
theorem b6m{e:Evi}{i:Nat}{a own more:Int}:(sumT e i a own more).length<=e.Materials.toNat:=by
 unfold sumT;refine Nat.le_trans (List.length_filterMap_le ..) ?_;rw [List.length_range];exact Nat.le_refl _
theorem smF_z:SmF 20 (0:Rat):=smF_0.mono (by omega)
theorem e1n{e:Evi}{i:Nat}{x:Mve}(hm:e.Moves.length<=100):∀p∈stks e i x,RwOk p.1:=fun p hp=>by
 unfold stks at hp;split at hp
 ·simp at hp
 obtain⟨mat,_,rfl⟩:=List.mem_map.1 hp;refine⟨?_,fun t ht=> ?_,smF_z⟩
 ·refine Nat.le_trans (List.length_filterMap_le ..) ?_;rw [b6e,List.length_take];omega
 obtain⟨q,_,h3⟩:=List.mem_filterMap.1 ht;unfold a8g at h3;split at h3
 ·cases h3;exact b3z (x:=-1) (by decide)
 split at h3
 ·cases h3;exact b3z (x:=1) (by decide)
 cases h3
theorem SmF.sub'{j k:Nat}{a b:Rat}(ha:SmF j a)(hb:SmF k b):SmF (j+k+1) (a-b):=by
 rw [Rat.sub_eq_add_neg];exact ha.add hb.neg
theorem e1t{e:Evi}{x:Mve}{lo hi:Rat}(h:itvl e x=some (lo,hi)):SmF 20 lo/\SmF 20 hi:=by
 unfold itvl at h;split at h
 ·split at h
  ·cases h
  split at h
  ·rename_i c _;split at h
   ·rename_i hc;have h1:=c0v hc;have hb:=hc.2;rw [a2q]at hb;have h2:SmF 4 (x.Reading:Rat):=a3r (by omega);simp only [Option.some.injEq,Prod.mk.injEq]at h;obtain⟨rfl,rfl⟩:=h;refine⟨?_,(h2.add h1).mono (by omega)⟩;unfold maxQ;split
    ·exact smF_z
    exact(h2.sub' h1).mono (by omega)
   cases h
  cases h
 cases h
theorem e6g{e:Evi}{i:Nat}{x:Mve}(hM:e.Materials<=100):∀p∈wgts e i x,RwOk p.1:=fun p hp=>by
 unfold wgts at hp;split at hp
 ·simp at hp
 split at hp
 ·simp at hp
 rename_i lo hi hit;obtain⟨h1,h2⟩:=e1t hit;have hl:=b6m (e:=e) (i:=i) (a:=1) (own:=-1) (more:=0);have hc:=c1p (e:=e) (i:=i) (a:=1) (own:=-1) (more:=0) (by decide) (by decide);simp only [List.mem_cons,List.not_mem_nil,or_false]at hp;rcases hp with rfl|rfl
 ·exact⟨by show(sumT _ _ _ _ _).length<=_;omega,hc,h1⟩
 exact⟨by show(sumT _ _ _ _ _).length<=_;omega,hc,h2⟩
theorem e4z{e:Evi}{i:Nat}(h:Good e):∀p∈purs e i,RwOk p.1:=fun p hp=>by
 unfold purs at hp;obtain⟨q,hq,hp⟩:=List.mem_flatMap.1 hp;obtain⟨k1,k2,k3⟩:=h.purs q.2 (c4t hq);have hM:=h.mat;unfold a0r at hp;split at hp
 ·have hl1:=b6m (e:=e) (i:=i) (a:=-q.2.Least) (own:=q.2.Material) (more:=1000);have hc1:=c1p (e:=e) (i:=i) (a:=-q.2.Least) (own:=q.2.Material) (more:=1000) (by omega) (by decide);have hl2:=b6m (e:=e) (i:=i) (a:=q.2.Most) (own:=q.2.Material) (more:=-1000);have hc2:=c1p (e:=e) (i:=i) (a:=q.2.Most) (own:=q.2.Material) (more:=-1000) (by omega) (by decide);simp only [List.mem_cons,List.not_mem_nil,or_false]at hp;rcases hp with rfl|rfl
  ·exact⟨by show(sumT _ _ _ _ _).length<=_;omega,hc1,smF_z⟩
  exact⟨by show(sumT _ _ _ _ _).length<=_;omega,hc2,smF_z⟩
 simp at hp
theorem d7n{e:Evi}(h:Good e)(hm:e.Moves.length<=100):∀p∈a8z e,RwOk p.1:=fun p hp=>by
 unfold a8z at hp;obtain⟨q,hq,hp⟩:=List.mem_flatMap.1 hp;unfold a7q at hp;have hM:=h.mat;rcases List.mem_append.1 hp with hp|hp
 ·rcases List.mem_append.1 hp with hp|hp
  ·exact e1n hm p hp
  exact e6g (by omega) p hp
 exact e4z h p hp
theorem c4y{α β:Type}{f:α->List β}{k:Nat}:∀{l:List α},(∀x∈l,(f x).length<=k)->(l.flatMap f).length<=l.length*k
 | [],_=>by simp
 |x::l,h=>by
  have h1:=c4y (l:=l) fun y hy=>h y (List.mem_cons_of_mem _ hy);have h2:=h x (List.mem_cons_self ..);rw [List.flatMap_cons,List.length_append,List.length_cons,Nat.add_mul];omega
theorem b4u{e:Evi}(h:Good e)(hm:e.Moves.length<=100):SyOk (sysE e) 20/\∀r∈(sysE e).Rows,r.Terms.length<=100:=by
 have hr:∀r∈(sysE e).Rows,RwOk r:=fun r hr=>by
  obtain⟨p,hp,rfl⟩:=List.mem_map.1 hr;exact d7n h hm p hp
 refine⟨⟨?_,fun r h1=>⟨by have:=(hr r h1).len;omega,(hr r h1).co,(hr r h1).val⟩⟩,fun r h1=>(hr r h1).len⟩;show((a8z e).map _).length<=_;rw [List.length_map];have:=c4y (l:=zipI 0 e.Moves) (f:=a7q e) (k:=408) fun q _=>b3o h q;rw [b6e]at this;unfold a8z;omega
set_option linter.unusedVariables false
set_option maxHeartbeats 4000000
set_option maxRecDepth 100000
structure ELen(e:Evi):Prop where
 plc:e.Places.length<1000000
 mov:e.Moves.length<=100
 crt:e.Certs.length<1000000
 rcl:e.Recalls.length<1000000
 pur:e.Purities.length<1000000
theorem e2t{e:Evi}(h:ELen e):EvF tt 40 [.v (eEv e)] (.tup [.v (eSy (if a1t e=0 then sysE e else⟨0,[]⟩)),I (a1t e)]):=d7f e h.plc (by have:=h.mov;omega) h.crt h.rcl h.pur
def impB(e:Evi)(y:List Frac):Bool:=decide (a1t e=0)&&rftB (sysE e) y
theorem d3z{e:Evi}{y:List Frac}(h:ELen e)(hY:YOk y 20):EvF tt 15 [.v (eEv e),L (fs y)] (B (impB e y)):=by
 refine evF (eIn Tryz.func15 rfl rfl ?_);refine qK rfl (e2t h) rfl ?_;unfold impB
 by_cases hf:a1t e=0
 ·rw [hf,if_pos rfl];obtain⟨h1,h2⟩:=b4u (a1o hf) h.mov;refine qT rfl rfl ?_;refine qK rfl (b8o h1 (by omega) h2 hY) rfl ?_;exact qR rfl ⟨rfl,rfl⟩
 rw [if_neg hf];refine qN rfl (by simp [hf]) ?_;refine qR rfl ⟨congrArg B ?_,rfl⟩;rotate_left;all_goals simp [hf]
def a2n(e:Evi)(i:Int):Int:=match e.Moves[i.toNat]? with
 |some m=>a4u e m.To
 |none=>-1
def papV(e:Evi)(mat:Int):Int->List Int->Option (List Int)
 |_,[]=>some []
 |last,i::l=>if i<=last∨(e.Moves.length:Int)<=i∨a2n e i≠5 then none else match papV e mat i l with
  |none=>none
  |some r=>some ((i*e.Materials+mat)::r)
def papG(e:Evi)(b:Bch)(grams:Int):Bool:=decide (a1t e=0)&&decide (0<=grams)&&decide (grams<=1099511627776)&&decide (b.Moves≠ [])&&decide (0<=b.Material)&&decide (b.Material<e.Materials)
def papB(e:Evi)(b:Bch)(grams:Int)(y:List Frac):Bool:=papG e b grams&&match papV e b.Material (-1) b.Moves with
 |none=>false
 |some l=>lowB (sysE e) (sumV l) y&&decide (0<=cmpQ (lowV (sysE e) y) (grams:Rat))
theorem c3t{e:Evi}{mat:Int}:∀{l:List Int}{last:Int}{r:List Int},papV e mat last l=some r->r.length=l.length
 | [],_,_,h=>by cases h;rfl
 |i::l,last,r,h=>by
  unfold papV at h;split at h
  ·cases h
  split at h
  ·cases h
  rename_i r' h';cases h;simp [c3t h']
theorem c0w{e:Evi}{b:Bch}{grams:Int}{y:List Frac}(h:ELen e)(hY:YOk y 20)(hb:b.Moves.length<=1000):EvF tt 17 [.v (eEv e),.v (eBt b),I grams,L (fs y)] (B (papB e b grams y)):=by
 refine evF (eIn Tryz.func17 rfl rfl ?_);refine qK rfl (e2t h) rfl ?_;have hno:papG e b grams=false->papB e b grams y=false:=fun h=>by unfold papB;rw [h];rfl
 by_cases hf:a1t e=0
 ·have hG:=a1o hf;rw [hf,if_pos rfl];obtain⟨h1,h2⟩:=b4u hG h.mov;refine qN rfl rfl ?_
  by_cases g1:grams<0
  ·rw [hno (by simp [papG];omega)];refine qT rfl (decide_eq_true (by first|omega|(simp;done)|(simp;omega))) ?_;exact qR rfl ⟨rfl,rfl⟩
  refine qN rfl (decide_eq_false g1) ?_
  by_cases g2:1099511627776<grams
  ·rw [hno (by simp [papG];omega)];refine qT rfl (decide_eq_true (by first|omega|(simp;done)|(simp;omega))) ?_;exact qR rfl ⟨rfl,rfl⟩
  refine qN rfl (decide_eq_false g2) ?_
  by_cases g3:b.Moves= []
  ·rw [hno (by simp [papG,g3])];refine qT rfl (by rw [g3];rfl) ?_;exact qR rfl ⟨rfl,rfl⟩
  have g3':b.Moves.length≠0:=fun h=>g3 (List.eq_nil_of_length_eq_zero h);refine qN rfl (decide_eq_false (by rw [List.length_map];omega)) ?_
  by_cases g4:b.Material<0
  ·rw [hno (by simp [papG];omega)];refine qT rfl (decide_eq_true (by first|omega|(simp;done)|(simp;omega))) ?_;exact qR rfl ⟨rfl,rfl⟩
  refine qN rfl (decide_eq_false g4) ?_
  by_cases g5:e.Materials<=b.Material
  ·rw [hno (by simp [papG];omega)];refine qT rfl (decide_eq_true (by first|omega|(simp;done)|(simp;omega))) ?_;exact qR rfl ⟨rfl,rfl⟩
  refine qN rfl (decide_eq_false g5) ?_;have hyes:papG e b grams=true:=by simp [papG,hf,g3];omega
  have hpb:papB e b grams y=match papV e b.Material (-1) b.Moves with
   |none=>false
   |some l=>lowB (sysE e) (sumV l) y&&decide (0<=cmpQ (lowV (sysE e) y) (grams:Rat)):=by unfold papB;rw [hyes];rfl
  rw [hpb];have hM:=hG.mat;have hmv:=h.mov;refine qF b.Moves.length (fun z q=> [(51,I z),(11,I q.1)]) (fun _ q=> [(0,.row 3 1 q.2)]) (fun j(q:Int×List VT)=>∃vars:List Int,q.2=ns vars/\-1<=q.1/\q.1<100/\vars.length=j/\papV e b.Material (-1) b.Moves=(papV e b.Material q.1 (b.Moves.drop j)).map (vars++·)) (-1,[]) rfl rfl ⟨[],rfl,by decide,by decide,rfl,by rw [List.drop_zero];cases papV e b.Material (-1) b.Moves<;>rfl⟩ ?_;rintro j ⟨last,ts⟩ hj ⟨vars,hts,l1,l2,l3,l4⟩ ih;obtain rfl:ts=ns vars:=hts;refine qXl rfl rfl rfl hj (fun i hi hd hlt=> ?_) (fun hd hj=> ?_)
  ·rw [hd]at l4;have l4:papV e b.Material (-1) b.Moves=(if i<=last∨(e.Moves.length:Int)<=i∨a2n e i≠5 then none else match papV e b.Material i (b.Moves.drop (j+1))with
    |none=>none
    |some r=>some ((i*e.Materials+b.Material)::r)).map (vars++·):=l4
   have l1:-1<=last:=l1;have l3:vars.length=j:=l3
   by_cases c1:i<=last
   ·rw [l4,if_pos (Or.inl c1)];clear ih;refine qT rfl (decide_eq_true c1) ?_;refine qE rfl (by kernel_rfl) (by kernel_rfl) ?_;exact qR rfl ⟨rfl,rfl⟩
   refine qN rfl (decide_eq_false c1) ?_
   by_cases c2:(e.Moves.length:Int)<=i
   ·rw [l4,if_pos (Or.inr (Or.inl c2))];clear ih;refine qT rfl (decide_eq_true (by rw [List.length_map];exact c2)) ?_;refine qE rfl (by kernel_rfl) (by kernel_rfl) ?_;exact qR rfl ⟨rfl,rfl⟩
   refine qN rfl (decide_eq_false (by rw [List.length_map];exact c2)) ?_;have hml:i.toNat<e.Moves.length:=by omega
   have hm:=List.getElem?_eq_getElem hml;generalize e.Moves[i.toNat]=m at hm;have hmr:=hG.mv m (List.mem_of_getElem? hm);have hto:idx m.To e.Places.length=true:=by
    unfold movR at hmr;split at hmr
    ·cases hmr
    rename_i hn;simp only [not_or]at hn;simpa using hn.2.1
   rw [a3w]at hto;have hpl:m.To.toNat<e.Places.length:=by omega
   have hp:=List.getElem?_eq_getElem hpl;generalize e.Places[m.To.toNat]=p at hp;have hk:a2n e i=p.Kind:=by
    unfold a2n;rw [hm];show a4u e m.To=_;unfold a4u;rw [hp]
   refine qXi rfl (by omega) hm ?_;refine qXi rfl hto.1 hp ?_;refine qE rfl (by kernel_rfl) (by kernel_rfl) ?_
   by_cases c3:p.Kind≠5
   ·rw [l4,if_pos (Or.inr (Or.inr (by rw [hk];exact c3)))];clear ih;refine qT rfl (by simpa using c3) ?_;exact qR rfl ⟨rfl,rfl⟩
   refine qN rfl (by simpa using c3) ?_;have hb1:i*e.Materials<=100*6:=Int.mul_le_mul (by omega) (by omega) (by omega) (by omega);have hb2:0<=i*e.Materials:=Int.mul_nonneg (by omega) (by omega);have ea:iadd .i64 (imul .i64 i e.Materials) b.Material=i*e.Materials+b.Material:=by rw [a0s (by omega) (by omega),a0e (by omega) (by omega)]
   rw [if_neg (by rw [hk];omega)]at l4;have hq:=fun(ts:List VT)(h:ts=ns (vars++ [i*e.Materials+b.Material]))=>ih ((j+1:Nat):Int) (i,ts) rfl hlt ⟨vars++ [i*e.Materials+b.Material],h,by show-1<=i;omega,by show i<100;omega,by rw [List.length_append,l3];rfl,by rw [l4];cases papV e b.Material i (b.Moves.drop (j+1))<;>simp⟩;clear ih;rw [<-a0a (by omega)]at hq;refine qA 8 rfl rfl ?_ ?_;rotate_left;refine qB (hq _ ?_) rfl;rotate_left
   ·simp;omega
   show ns vars++ [N (iadd .i64 (imul .i64 i e.Materials) b.Material)]=(vars++ [i*e.Materials+b.Material]).map N;rw [ea,List.map_append];rfl
  rw [hd]at l4;clear ih;have l4:papV e b.Material (-1) b.Moves=some vars:=by rw [l4];show some (vars++ [])=_;rw [List.append_nil]
  have l3:vars.length=j:=l3;rw [l4];have hps:=e1b vars (by omega);have hgi:EvF tt 20 [I grams] (.v (eF (toF (grams:Rat)))):=a2f (by omega) (by omega);have hal:=d4c (g:=sumV vars) (x:=(grams:Rat)) h1 (by omega) h2 hY (by unfold sumV;rw [List.length_map];show(srt vars).length<=_;rw [List.length_mergeSort];omega) (fun t ht=>by
   unfold sumV at ht;obtain⟨v,_,rfl⟩:=List.mem_map.1 ht;exact b3z (x:=1) (by decide)) (b3z (by omega))
  refine qK rfl (hps) rfl ?_;refine qK rfl (hgi) rfl ?_;refine qK rfl (hal) rfl ?_;refine qE rfl (by kernel_rfl) (by kernel_rfl) ?_;exact qR rfl ⟨rfl,rfl⟩
 rw [hno (by simp [papG,hf]),if_neg hf];refine qT rfl (by simp [hf]) ?_;exact qR rfl ⟨rfl,rfl⟩
set_option linter.unusedVariables false
set_option maxHeartbeats 4000000
set_option maxRecDepth 100000
def a1i(p q:Pck):Bool:=decide (p.Move=q.Move)&&decide (p.Material=q.Material)
def pkI(p:Pck):Nat->List Pck->Int |_,[]=>-1 |i,q::l=>if a1i p q=true then i else pkI p (i+1) l
theorem e0a{p:Pck}:∀{l:List Pck}{i:Nat},(0<=pkI p i l)↔l.any (a1i p)=true
 | [],i=>by simp [pkI]
 |q::l,i=>by
  unfold pkI;split
  ·rename_i h;rw [List.any_cons,h];simp
  rename_i h;rw [e0a,List.any_cons];simp [h]
theorem f1q{l:List Pck}{p:Pck}(hl:l.length<1000000):EvF tt 77 [L (l.map ePk),.v (ePk p)] (I (pkI p 0 l)):=by
 refine evF (eIn Tryz.func77 rfl rfl ?_);refine qF l.length (fun z _=> [(8,I z)]) (fun _ _=> []) (fun j(_:Unit)=>pkI p 0 l=pkI p j (l.drop j)) () rfl rfl rfl ?_;rintro j ⟨⟩ hj hq ih
 by_cases hlt:j<l.length
 ·have hf:=List.getElem?_eq_getElem hlt;generalize l[j]=q at hf;rw [a1p hf]at hq;have hq:pkI p 0 l=if a1i p q=true then(j:Int)else pkI p (j+1) (l.drop (j+1)):=hq
  refine qT rfl (decide_eq_true (by rw [List.length_map];omega)) ?_;refine qXi rfl (by omega) (by rw [Int.toNat_natCast];exact hf) ?_;refine qE rfl (by kernel_rfl) (by kernel_rfl) ?_;refine qC rfl (fun h=> ?_) (fun h=> ?_);refine qR rfl ⟨congrArg I ?_,rfl⟩;rotate_left;refine qB (ih _ () (a0a (by omega)) hlt ?_) (by kernel_rfl);rotate_left;all_goals clear ih
  all_goals (simp only [a1i]at*;grind)
 obtain rfl:j=l.length:=by omega
 rw [List.drop_length]at hq;have hq:pkI p 0 l=-1:=hq;rw [hq];refine qN rfl (decide_eq_false (by rw [List.length_map];omega)) ?_;exact qR rfl ⟨rfl,rfl⟩
theorem e4m{l:List Pck}{p:Pck}(hl:l.length<1000000):EvF tt 41 [L (l.map ePk),.v (ePk p)] (B (l.any (a1i p))):=by
 refine evF (eIn Tryz.func41 rfl rfl ?_);refine qK rfl (f1q hl) rfl ?_;refine qR rfl ⟨congrArg B ?_,rfl⟩;have:=e0a (p:=p) (l:=l) (i:=0);cases h:l.any (a1i p)with
 |true=>exact decide_eq_true (this.2 h)
 |false=>rw [h]at this;exact decide_eq_false (by intro hh;have:=this.1 hh;cases this)
set_option linter.unusedVariables false
set_option maxHeartbeats 8000000
set_option maxRecDepth 100000
def pkV(e:Evi):List Pck->List Pck->Option (List Int)
 |_,[]=>some []
 |pre,p::l=>if p.Move<0∨(e.Moves.length:Int)<=p.Move∨p.Material<0∨e.Materials<=p.Material∨pre.any (a1i p)=true then none else match pkV e (pre++ [p]) l with
  |none=>none
  |some r=>some ((p.Move*e.Materials+p.Material)::r)
def oppT(g:List Trm):List Trm:=if timB g (-1)=true then timT g (-1)else []
def rngB(e:Evi)(ps:List Pck)(r:Rng):Bool:=decide (a1t e=0)&&decide (r.Least.Kind≠1)&&decide (r.Most.Kind≠1)&&match pkV e [] ps with
 |none=>false
 |some l=>chkB (sysE e) (sumV l) r.Least&&chkB (sysE e) (oppT (sumV l)) r.Most
theorem d3v{e:Evi}:∀{l pre:List Pck}{r:List Int},pkV e pre l=some r->r.length=l.length
 | [],_,_,h=>by cases h;rfl
 |p::l,pre,r,h=>by
  unfold pkV at h;split at h
  ·cases h
  split at h
  ·cases h
  rename_i r' h';cases h;simp [d3v h']
theorem b1w(l:List Int):∀t∈sumV l,SmF 40 t.2:=fun t ht=>by
 unfold sumV at ht;obtain⟨v,_,rfl⟩:=List.mem_map.1 ht;exact(b3z (x:=1) (by decide)).mono (by omega)
theorem a6x(l:List Int):(sumV l).length=l.length:=by unfold sumV;rw [List.length_map];exact List.length_mergeSort ..
theorem e4x(l:List Int):∀t∈oppT (sumV l),SmF 40 t.2:=fun t ht=>by
 unfold oppT at ht;split at ht
 ·unfold timT at ht;obtain⟨u,hu,rfl⟩:=List.mem_map.1 ht;unfold sumV at hu;obtain⟨v,_,rfl⟩:=List.mem_map.1 hu;exact((b3z (x:=1) (by decide)).mul (b3z (x:=-1) (by decide))).mono (by omega)
 simp at ht
theorem d5i(l:List Trm):(oppT l).length<=l.length:=by
 unfold oppT;split
 ·unfold timT;rw [List.length_map];exact Nat.le_refl _
 exact Nat.zero_le _
theorem SyOk.mono{s:Sy}{j k:Nat}(h:SyOk s j)(hk:j<=k):SyOk s k:=⟨h.len,fun r hr=>⟨(h.terms r hr).1,fun t ht=>((h.terms r hr).2.1 t ht).mono hk,(h.terms r hr).2.2.mono hk⟩⟩
theorem d9e{e:Evi}{ps:List Pck}{r:Rng}(h:ELen e)(hps:ps.length<=100)(h1:OOk r.Least 40)(h2:OOk r.Most 40):EvF tt 13 [.v (eEv e),L (ps.map ePk),.v (eRg r)] (B (rngB e ps r)):=by
 refine evF (eIn Tryz.func13 rfl rfl ?_);refine qK rfl (e2t h) rfl ?_;unfold rngB
 by_cases hf:a1t e=0
 ·have hG:=a1o hf;rw [hf,if_pos rfl];obtain⟨s1,s2⟩:=b4u hG h.mov;refine qN rfl rfl ?_
  by_cases k1:r.Least.Kind=1
  ·refine qT rfl (by rw [k1];rfl) ?_;rw [show decide (r.Least.Kind≠1)=false by simp [k1],Bool.and_false,Bool.false_and,Bool.false_and];exact qR rfl ⟨rfl,rfl⟩
  refine qN rfl (by simpa using k1) ?_
  by_cases k2:r.Most.Kind=1
  ·refine qT rfl (by rw [k2];rfl) ?_;rw [show decide (r.Most.Kind≠1)=false by simp [k2],Bool.and_false,Bool.false_and];exact qR rfl ⟨rfl,rfl⟩
  refine qN rfl (by simpa using k2) ?_;rw [decide_eq_true k1,decide_eq_true k2];have hM:=hG.mat;have hmv:=h.mov;refine qF ps.length (fun z _=> [(34,I z)]) (fun _ q=> [(0,.row 3 1 q)]) (fun j(q:List VT)=>∃vars:List Int,q=ns vars/\vars.length=j/\pkV e [] ps=(pkV e (ps.take j) (ps.drop j)).map (vars++·)) [] rfl rfl ⟨[],rfl,rfl,by rw [List.drop_zero,List.take_zero];cases pkV e [] ps<;>rfl⟩ ?_;rintro j ts hj ⟨vars,hts,l3,l4⟩ ih;obtain rfl:ts=ns vars:=hts;refine qXl rfl rfl rfl hj (fun p hp hd hlt=> ?_) (fun hd hj=> ?_)
  ·rw [hd]at l4;have l4:pkV e [] ps=(if p.Move<0∨(e.Moves.length:Int)<=p.Move∨p.Material<0∨e.Materials<=p.Material∨(ps.take j).any (a1i p)=true then none else match pkV e (ps.take j++ [p]) (ps.drop (j+1))with
    |none=>none
    |some r=>some ((p.Move*e.Materials+p.Material)::r)).map (vars++·):=l4
   have hml:(((e.Moves.map eMo).length:Nat):Int)=e.Moves.length:=by rw [List.length_map]
   by_cases c1:p.Move<0
   ·rw [l4,if_pos (Or.inl c1)];clear ih;refine qT rfl (decide_eq_true c1) ?_;refine qE rfl (by kernel_rfl) (by kernel_rfl) ?_;exact qR rfl ⟨rfl,rfl⟩
   refine qN rfl (decide_eq_false c1) ?_
   by_cases c2:(e.Moves.length:Int)<=p.Move
   ·rw [l4,if_pos (Or.inr (Or.inl c2))];clear ih;refine qT rfl (decide_eq_true (by rw [hml];exact c2)) ?_;refine qE rfl (by kernel_rfl) (by kernel_rfl) ?_;exact qR rfl ⟨rfl,rfl⟩
   refine qN rfl (decide_eq_false (by rw [hml];exact c2)) ?_
   by_cases c3:p.Material<0
   ·rw [l4,if_pos (Or.inr (Or.inr (Or.inl c3)))];clear ih;refine qT rfl (decide_eq_true c3) ?_;refine qE rfl (by kernel_rfl) (by kernel_rfl) ?_;exact qR rfl ⟨rfl,rfl⟩
   refine qN rfl (decide_eq_false c3) ?_
   by_cases c4:e.Materials<=p.Material
   ·rw [l4,if_pos (Or.inr (Or.inr (Or.inr (Or.inl c4))))];clear ih;refine qT rfl (decide_eq_true c4) ?_;refine qE rfl (by kernel_rfl) (by kernel_rfl) ?_;exact qR rfl ⟨rfl,rfl⟩
   refine qN rfl (decide_eq_false c4) ?_;have hhas:=e4m (l:=ps.take j) (p:=p) (by rw [List.length_take];omega);refine qSl 2 rfl rfl (b1h (g:=ePk) (fun _=>rfl) _) ⟨by omega,by omega,by rw [List.length_map];omega⟩ ?_;have hhas':EvF tt 41 [L (((ps.map ePk).take (Int.toNat (j:Int))).drop (Int.toNat 0)),.v (ePk p)] (B ((ps.take j).any (a1i p))):=by
    rw [Int.toNat_natCast,show Int.toNat 0=0 from rfl,List.drop_zero,<-List.map_take];exact hhas
   refine qK rfl hhas' rfl ?_;cases c5:(ps.take j).any (a1i p)with
   |true=>
    rw [l4,if_pos (Or.inr (Or.inr (Or.inr (Or.inr c5))))];clear ih;refine qE rfl (by kernel_rfl) (by kernel_rfl) ?_;refine qT rfl rfl ?_;exact qR rfl ⟨rfl,rfl⟩
   |false=>
    have hno:¬(p.Move<0∨(e.Moves.length:Int)<=p.Move∨p.Material<0∨e.Materials<=p.Material∨(ps.take j).any (a1i p)=true):=by rw [c5];simp;omega
    rw [if_neg hno]at l4;have hb1:p.Move*e.Materials<=100*6:=Int.mul_le_mul (by omega) (by omega) (by omega) (by omega);have hb2:0<=p.Move*e.Materials:=Int.mul_nonneg (by omega) (by omega);have ea:iadd .i64 (imul .i64 p.Move e.Materials) p.Material=p.Move*e.Materials+p.Material:=by rw [a0s (by omega) (by omega),a0e (by omega) (by omega)]
    refine qE rfl (by kernel_rfl) (by kernel_rfl) ?_;refine qN rfl rfl ?_;refine qA 8 rfl rfl ?_ ?_;rotate_left;refine qB (ih _ (ns vars++ [N (iadd .i64 (imul .i64 p.Move e.Materials) p.Material)]) (a0a (by omega)) hlt ⟨vars++ [p.Move*e.Materials+p.Material],by rw [ea];show vars.map N++ [_]=(vars++ [_]).map N;rw [List.map_append];rfl,by rw [List.length_append,l3];rfl,by rw [l4,a1h hp];cases pkV e (ps.take j++ [p]) (ps.drop (j+1))<;>simp⟩) (by kernel_rfl);rw [List.length_map];simp;omega
  rw [hd]at l4;clear ih;have l4:pkV e [] ps=some vars:=by rw [l4];show some (vars++ [])=_;rw [List.append_nil]
  rw [l4];have hps:=e1b vars (by omega);have hop:=e8o (l:=sumV vars) (k:=40) (b1w vars) (by rw [a6x];omega) (by decide);have hc1:=c2q (g:=sumV vars) (n:=100) (s1.mono (show 20<=40 by decide)) (by decide) (by decide) s2 (by decide) h1 (by rw [a6x];omega) (b1w vars);have hc2:=c2q (g:=oppT (sumV vars)) (n:=100) (s1.mono (show 20<=40 by decide)) (by decide) (by decide) s2 (by decide) h2 (by have:=d5i (sumV vars);rw [a6x]at this;omega) (e4x vars);refine qK rfl hps rfl ?_;refine qK rfl hc1 rfl ?_;refine qC rfl (fun h=> ?_) (fun h=> ?_);refine qK rfl (hop) rfl ?_;refine qK rfl (hc2) rfl ?_;refine qE rfl (by kernel_rfl) (by kernel_rfl) ?_;refine qR rfl ⟨congrArg B ?_,rfl⟩;rotate_left;refine qE rfl (by kernel_rfl) (by kernel_rfl) ?_;refine qR rfl ⟨congrArg B ?_,rfl⟩;rotate_left;all_goals simp_all
 refine qT rfl (by simp [hf]) ?_;rw [decide_eq_false hf,Bool.false_and,Bool.false_and,Bool.false_and];exact qR rfl ⟨rfl,rfl⟩
set_option linter.unusedVariables false
set_option maxHeartbeats 4000000
set_option maxRecDepth 100000
theorem b6a{x:List Frac}{k:Nat}(hd:∀f∈x,f.P.Digits.length<=k/\f.Q.Digits.length<=k)(hk:k<8388608)(hl:x.length<1000000):EvF tt 37 [L (fs x)] (B (x.all a0f)):=by
 refine evF (eIn Tryz.func37 rfl rfl ?_);refine qF x.length (fun z _=> [(3,I z)]) (fun _ _=> []) (fun j(_:Unit)=>x.all a0f=(x.drop j).all a0f) () rfl rfl rfl ?_;rintro j _ hj hq ih;have hq:x.all a0f=(x.drop j).all a0f:=hq;refine qXl rfl rfl rfl hj (fun t ht hd2 hlt=> ?_) (fun hd2 hj=> ?_)
 ·obtain⟨h1,h2⟩:=hd t (List.mem_of_getElem? ht);have h3:=a8p h1 h2 hk;rw [hd2,List.all_cons]at hq;have g:=fun h:a0f t=true=>ih _ () (a0a (by omega)) hlt (by rw [hq,h,Bool.true_and]);clear ih;cases ht:a0f t with
  |false=>
   rw [ht]at h3 hq;rw [hq];refine qK rfl (h3) rfl ?_;refine qT rfl rfl ?_;exact qR rfl ⟨rfl,rfl⟩
  |true=>
   rw [ht]at h3;have g:=g ht;refine qK rfl (h3) rfl ?_;refine qN rfl rfl ?_;exact qB g (by kernel_rfl)
 clear ih;rw [hd2,List.all_nil]at hq;rw [hq];exact qR rfl ⟨rfl,rfl⟩
def c0p(l:List Trm):Nat->Int |0=>-1 |j+1=>((l[j]?).map (·.1)).getD 0
theorem a2w{n:Int}{l:List Trm}{k:Nat}(hl:l.length<=10000)(hs:∀t∈l,SmF k t.2)(hk:k<4000000)(hn:0<=n):EvF tt 100 [L (l.map eTm),I n] (B (rtT n (-1) l)):=by
 refine evF (eIn Tryz.func100 rfl rfl ?_);refine qN rfl (decide_eq_false (by omega)) ?_;refine qF l.length (fun z(_:Unit)=> [(5,I z)]) (fun _ _=> []) (fun j _=>rtT n (-1) l=rtT n (c0p l j) (l.drop j)/\-1<=c0p l j) () rfl rfl ⟨rfl,Int.le_refl _⟩ ?_;rintro j q hj ⟨hq,hq1⟩ ih
 by_cases hlt:j<l.length
 ·have hx:=List.getElem?_eq_getElem hlt;have hd:=a1p hx;generalize l[j]=t at hx hd;have hsm:=hs t (List.mem_of_getElem? hx);have hr:=a2p hsm (by omega);have hs0:=b3w (r:=t.2);have hlast:c0p l (j+1)=t.1:=by show((l[j]?).map (·.1)).getD 0=_;rw [hx];rfl
  rw [hd,show rtT n (c0p l j) (t::l.drop (j+1))=(decide (c0p l j<t.1)&&decide (t.1<n)&&decide (t.2≠0)&&rtT n t.1 (l.drop (j+1)))from rfl]at hq;have hx2:l[Int.toNat (j:Int)]?=some t:=by rw [Int.toNat_natCast];exact hx
  refine qT rfl (decide_eq_true (by rw [List.length_map];omega)) ?_;refine qXi (g:=eTm) rfl (Int.natCast_nonneg _) hx2 ?_
  by_cases c1:t.1<0
  ·have:rtT n (-1) l=false:=by rw [hq,decide_eq_false (by omega)];rfl
   rw [this];refine qT rfl (decide_eq_true c1) ?_;exact qR rfl ⟨rfl,rfl⟩
  refine qN rfl (decide_eq_false c1) ?_;refine qXi (g:=eTm) rfl (Int.natCast_nonneg _) hx2 ?_
  by_cases c2:n<=t.1
  ·have:rtT n (-1) l=false:=by rw [hq,decide_eq_false (show¬t.1<n by omega),Bool.and_false];rfl
   rw [this];refine qT rfl (decide_eq_true c2) ?_;exact qR rfl ⟨rfl,rfl⟩
  refine qN rfl (decide_eq_false c2) ?_;refine qXi (g:=eTm) rfl (Int.natCast_nonneg _) hx2 ?_;refine qK rfl hr rfl ?_;refine qN rfl rfl ?_;refine qXi (g:=eTm) rfl (Int.natCast_nonneg _) hx2 ?_
  by_cases c3:t.2=0
  ·have:rtT n (-1) l=false:=by rw [hq,decide_eq_false (show¬t.2≠0 by simp [c3]),Bool.and_false];rfl
   rw [this];refine qT rfl (by show(sg t.2.num==0)=true;rw [hs0,decide_eq_true c3]) ?_;exact qR rfl ⟨rfl,rfl⟩
  refine qN rfl (by show(sg t.2.num==0)=false;rw [hs0,decide_eq_false c3]) ?_;have g:=fun h:c0p l j<t.1=>ih _ () (a0a (by omega)) hlt ⟨by rw [hq,hlast,decide_eq_true h,decide_eq_true (show t.1<n by omega),decide_eq_true (show t.2≠0 from c3)];rfl,by rw [hlast];omega⟩;clear ih;rcases j with _|j
  ·have g:=g (show(-1:Int)<t.1 by omega);refine qN rfl rfl ?_;refine qE rfl (by kernel_rfl) (by kernel_rfl) ?_;exact qB g (by kernel_rfl)
  have hj2:j<l.length:=by omega
  have hy:=List.getElem?_eq_getElem hj2;generalize l[j]=u at hy;have hlu:c0p l (j+1)=u.1:=by show((l[j]?).map (·.1)).getD 0=_;rw [hy];rfl
  rw [hlu]at g hq;have em:imax (isub .i64 (((j+1:Nat):Int)) 1) 0=(j:Int):=by
   rw [a0c (by omega) (by omega)];unfold imax;split<;>omega
  refine qT rfl (decide_eq_true (by omega)) ?_;refine qXi (g:=eTm) rfl (Int.natCast_nonneg _) hx2 ?_;refine qXi (g:=eTm) rfl (by show 0<=imax (isub .i64 ((j+1:Nat):Int) 1) 0;rw [em];exact Int.natCast_nonneg _) (by show l[Int.toNat (imax (isub .i64 ((j+1:Nat):Int) 1) 0)]?=some u;rw [em,Int.toNat_natCast];exact hy) ?_
  by_cases c4:t.1<=u.1
  ·have:rtT n (-1) l=false:=by rw [hq,decide_eq_false (show¬u.1<t.1 by omega)];rfl
   rw [this];refine qE rfl (by kernel_rfl) (by kernel_rfl) ?_;refine qT rfl (decide_eq_true c4) ?_;exact qR rfl ⟨rfl,rfl⟩
  have g:=g (by omega);refine qE rfl (by kernel_rfl) (by kernel_rfl) ?_;refine qN rfl (decide_eq_false c4) ?_;exact qB g (by kernel_rfl)
 clear ih;rw [List.drop_of_length_le (by omega)]at hq;rw [hq];refine qN rfl (decide_eq_false (by rw [List.length_map];omega)) ?_;exact qR rfl ⟨rfl,rfl⟩
theorem f0w{n:Int}{r:Rw}{k:Nat}(hl:r.Terms.length<=10000)(hs:∀t∈r.Terms,SmF k t.2)(hv:SmF k r.Value)(hk:k<4000000)(hn:0<=n):EvF tt 225 [.v (eRw r),I n] (B (rowR n r)):=by
 have h1:=a2w hl hs hk hn;have h2:=a2p hv (by omega);refine evF (eIn Tryz.func225 rfl rfl ?_);unfold rowR btw;cases ht:rtT n (-1) r.Terms with
 |false=>
  rw [ht]at h1;refine qK rfl (h1) rfl ?_;refine qN rfl rfl ?_;exact qR rfl ⟨rfl,rfl⟩
 |true=>
  rw [ht]at h1
  by_cases c1:0<=r.Kind
  ·by_cases c2:r.Kind<3
   ·rw [decide_eq_true c1,decide_eq_true (show r.Kind<=2 by omega)];refine qK rfl h1 rfl ?_;refine qT rfl rfl ?_;refine qT rfl (decide_eq_true c1) ?_;refine qT rfl (decide_eq_true c2) ?_;refine qK rfl (h2) rfl ?_;exact qR rfl ⟨rfl,rfl⟩
   rw [decide_eq_false (show¬r.Kind<=2 by omega),Bool.and_false,Bool.and_false];refine qK rfl h1 rfl ?_;refine qT rfl rfl ?_;refine qT rfl (decide_eq_true c1) ?_;refine qN rfl (decide_eq_false c2) ?_;exact qR rfl ⟨rfl,rfl⟩
  rw [decide_eq_false c1];refine qK rfl h1 rfl ?_;refine qT rfl rfl ?_;refine qN rfl (decide_eq_false c1) ?_;exact qR rfl ⟨rfl,rfl⟩
theorem a9g{s:Sy}{k:Nat}(hS:SyOk s k)(hk:k<4000000):EvF tt 167 [.v (eSy s)] (B (sysR s)):=by
 have hll:=hS.len;have hlm:(s.Rows.map eRw).length=s.Rows.length:=List.length_map ..;refine evF (eIn Tryz.func167 rfl rfl ?_);unfold sysR btw
 by_cases c1:s.N<0
 ·rw [decide_eq_false (show¬0<=s.N by omega)];refine qT rfl (decide_eq_true c1) ?_;exact qR rfl ⟨rfl,rfl⟩
 refine qN rfl (decide_eq_false c1) ?_;rw [decide_eq_true (show 0<=s.N by omega)]
 by_cases c2:1500<s.N
 ·rw [decide_eq_false (show¬s.N<=1500 by omega)];refine qT rfl (decide_eq_true c2) ?_;exact qR rfl ⟨rfl,rfl⟩
 refine qN rfl (decide_eq_false c2) ?_;rw [decide_eq_true (show s.N<=1500 by omega)]
 by_cases c3:6000<s.Rows.length
 ·rw [decide_eq_false (show¬s.Rows.length<=6000 by omega)];refine qT rfl (decide_eq_true (by rw [hlm];omega)) ?_;exact qR rfl ⟨rfl,rfl⟩
 refine qN rfl (decide_eq_false (by rw [hlm];omega)) ?_;rw [decide_eq_true (show s.Rows.length<=6000 by omega),Bool.and_true,Bool.true_and];refine qF s.Rows.length (fun z _=> [(3,I z)]) (fun _ _=> []) (fun j(_:Unit)=>s.Rows.all (rowR s.N)=(s.Rows.drop j).all (rowR s.N)) () rfl rfl rfl ?_;rintro j _ hj hq ih;have hq:s.Rows.all (rowR s.N)=(s.Rows.drop j).all (rowR s.N):=hq;refine qXl rfl rfl rfl hj (fun r hr hd hlt=> ?_) (fun hd hj=> ?_)
 ·obtain⟨h1,h2,h3⟩:=hS.terms r (List.mem_of_getElem? hr);rw [hd,List.all_cons]at hq;have hrow:=f0w h1 h2 h3 hk (show 0<=s.N by omega);have g:=fun h:rowR s.N r=true=>ih _ () (a0a (by omega)) hlt (by rw [hq,h,Bool.true_and]);clear ih;cases ht:rowR s.N r with
  |false=>
   rw [ht]at hrow hq;rw [hq];refine qK rfl (hrow) rfl ?_;refine qE rfl (by kernel_rfl) (by kernel_rfl) ?_;refine qT rfl rfl ?_;exact qR rfl ⟨rfl,rfl⟩
  |true=>
   rw [ht]at hrow;have g:=g ht;refine qK rfl (hrow) rfl ?_;refine qE rfl (by kernel_rfl) (by kernel_rfl) ?_;refine qN rfl rfl ?_;exact qB g (by kernel_rfl)
 clear ih;rw [hd,List.all_nil]at hq;rw [hq];exact qR rfl ⟨rfl,rfl⟩
theorem b5y{x:List Frac}{n:Int}{k:Nat}(hd:∀f∈x,f.P.Digits.length<=k/\f.Q.Digits.length<=k)(hk:k<8388608)(hl:x.length<1000000):EvF tt 168 [L (fs x),I n] (B (x.all a0f&&decide ((x.length:Int)=n))):=by
 have hlm:(fs x).length=x.length:=List.length_map ..;refine evF (eIn Tryz.func168 rfl rfl ?_);refine qF x.length (fun z _=> [(5,I z)]) (fun _ _=> []) (fun j(_:Unit)=>x.all a0f=(x.drop j).all a0f) () rfl rfl rfl ?_;rintro j _ hj hq ih;have hq:x.all a0f=(x.drop j).all a0f:=hq;refine qXl rfl rfl rfl hj (fun t ht hd2 hlt=> ?_) (fun hd2 hj=> ?_)
 ·obtain⟨h1,h2⟩:=hd t (List.mem_of_getElem? ht);have h3:=a8p h1 h2 hk;rw [hd2,List.all_cons]at hq;have g:=fun h:a0f t=true=>ih _ () (a0a (by omega)) hlt (by rw [hq,h,Bool.true_and]);clear ih;cases ht:a0f t with
  |false=>
   rw [ht]at h3 hq;rw [hq];refine qK rfl (h3) rfl ?_;refine qT rfl rfl ?_;exact qR rfl ⟨rfl,rfl⟩
  |true=>
   rw [ht]at h3;have g:=g ht;refine qK rfl (h3) rfl ?_;refine qN rfl rfl ?_;exact qB g (by kernel_rfl)
 clear ih;rw [hd2,List.all_nil]at hq;rw [hq,Bool.true_and];refine qR rfl ⟨congrArg B ?_,rfl⟩;show((((fs x).length:Nat):Int)==n)=_;rw [hlm];by_cases h:(x.length:Int)=n<;>simp [h]
set_option linter.unusedVariables false
set_option maxHeartbeats 4000000
set_option maxRecDepth 100000
theorem d5c(a b:Big)(hl:a.Digits.length<1000000):EvF tt 67 [.v (eB a),.v (eB b)] (B (decide (a=b))):=by
 obtain⟨s,x⟩:=a;obtain⟨t,y⟩:=b;have hl:x.length<1000000:=hl;refine evF (eIn Tryz.func67 rfl rfl ?_)
 by_cases h1:s=t
 ·subst h1;refine qN rfl (by simp) ?_
  by_cases h2:x.length=y.length
  ·refine qN rfl (by simp [h2]) ?_;refine qF x.length (fun z _=> [(5,I z)]) (fun _ _=> []) (fun j(_:Unit)=>x.take j=y.take j) () rfl rfl rfl ?_;rintro j ⟨⟩ hj hsame ih
   by_cases hlt:j<x.length
   ·have hx:=List.getElem?_eq_getElem hlt;have hy:=List.getElem?_eq_getElem (show j<y.length by omega);generalize x[j]=u at hx;generalize y[j]=v at hy;refine qT rfl (decide_eq_true (by rw [List.length_map];show(j:Int)<(x.length:Int);omega)) ?_;refine qXi rfl (by omega) hx ?_;refine qXi rfl (by omega) hy ?_;refine qE rfl (by kernel_rfl) (by kernel_rfl) ?_
    by_cases h3:u=v
    ·subst h3;refine qN rfl (by simp) ?_;refine qB (ih _ () (a0a (by omega)) hlt (by rw [a1h hx,a1h hy,hsame])) (by kernel_rfl)
    refine qT rfl (by simpa using h3) ?_;refine qR rfl ⟨congrArg B ?_,rfl⟩;rotate_left;all_goals clear ih
    all_goals (rw [eq_comm,decide_eq_false_iff_not];intro h;cases h;rw [hx]at hy;exact h3 (Option.some.inj hy))
   refine qN rfl (decide_eq_false (by first|omega|(simp;done)|(simp;omega))) ?_;refine qR rfl ⟨congrArg B ?_,rfl⟩;rotate_left;all_goals clear ih
   obtain rfl:j=x.length:=by omega
   have hxy:x=y:=by
    rw [List.take_length,h2,List.take_length]at hsame;exact hsame
   all_goals simp [hxy]
  refine qT rfl (by simp;omega) ?_;refine qR rfl ⟨congrArg B ?_,rfl⟩;rotate_left;all_goals (rw [eq_comm,decide_eq_false_iff_not];intro h;cases h;exact h2 rfl)
 refine qT rfl (by simp [h1]) ?_;refine qR rfl ⟨congrArg B ?_,rfl⟩;rotate_left;all_goals (rw [eq_comm,decide_eq_false_iff_not];intro h;cases h;exact h1 rfl)
def zeroOpt:Opt:=⟨0,zeroF,[],[],[]⟩
def c7b(e:Evi)(b:Bch)(y:List Frac):Bool:=b6n e [] ⟨zeroOpt,zeroOpt⟩ 4 2&&decide (e.Purities.length<=2)&&decide (b.Moves.length<=8)&&fewP y 60 20&&e5p e
theorem e5h(e:Evi)(b:Bch)(y:List Frac):EvF tt 5 [.v (eEv e),.v (eBt b),L (fs y)] (B (c7b e b y)):=by
 have h1:EvF tt 6 [.v (eEv e),L [],.v (eRg ⟨zeroOpt,zeroOpt⟩),I 4,I 2] (B (b6n e [] ⟨zeroOpt,zeroOpt⟩ 4 2)):=c9l e [] ⟨zeroOpt,zeroOpt⟩ 4 2;have h2:EvF tt 7 [L (fs y),I 60,I 20] (B (fewP y 60 20)):=b1z y 60 20 (by decide);have h3:=e4f e;refine evF (eIn Tryz.func5 rfl rfl ?_);refine qK rfl h1 rfl ?_;unfold c7b;cases b6n e [] ⟨zeroOpt,zeroOpt⟩ 4 2 with
 |false=>
  refine qN rfl rfl ?_;exact qR rfl ⟨rfl,rfl⟩
 |true=>
  refine qT rfl rfl ?_
  by_cases h4:e.Purities.length<=2
  ·rw [decide_eq_true h4]
   by_cases h5:b.Moves.length<=8
   ·rw [decide_eq_true h5];refine qT rfl (decide_eq_true (by first|omega|(simp;done)|(simp;omega))) ?_;refine qT rfl (decide_eq_true (by first|omega|(simp;done)|(simp;omega))) ?_;refine qK rfl h2 rfl ?_;cases fewP y 60 20 with
    |false=>
     refine qN rfl rfl ?_;exact qR rfl ⟨rfl,rfl⟩
    |true=>
     refine qT rfl rfl ?_;refine qK rfl (h3) rfl ?_;exact qR rfl ⟨rfl,rfl⟩
   rw [decide_eq_false h5];refine qT rfl (decide_eq_true (by first|omega|(simp;done)|(simp;omega))) ?_;refine qN rfl (decide_eq_false (by first|omega|(simp;done)|(simp;omega))) ?_;exact qR rfl ⟨rfl,rfl⟩
  rw [decide_eq_false h4];refine qN rfl (decide_eq_false (by first|omega|(simp;done)|(simp;omega))) ?_;exact qR rfl ⟨rfl,rfl⟩
theorem e4i(f g:Frac)(hp:f.P.Digits.length<1000000)(hq:f.Q.Digits.length<1000000):EvF tt 33 [.v (eF f),.v (eF g)] (B (decide (f=g))):=by
 obtain⟨a,b⟩:=f;obtain⟨c,d⟩:=g;refine evF (eIn Tryz.func33 rfl rfl ?_);refine qK rfl (d5c a c hp) rfl ?_
 by_cases h1:a=c
 ·subst h1;rw [decide_eq_true rfl];refine qT rfl rfl ?_;refine qK rfl (d5c b d hq) rfl ?_;refine qR rfl ⟨congrArg B ?_,rfl⟩;rotate_left;all_goals simp
 rw [decide_eq_false h1];refine qN rfl rfl ?_;refine qR rfl ⟨congrArg B ?_,rfl⟩;rotate_left;all_goals (rw [eq_comm,decide_eq_false_iff_not];intro h;cases h;exact h1 rfl)
theorem c3w(x y:List Frac)(hl:x.length<1000000)(hd:∀f∈x,f.P.Digits.length<1000000/\f.Q.Digits.length<1000000):EvF tt 10 [L (fs x),L (fs y)] (B (decide (x=y))):=by
 refine evF (eIn Tryz.func10 rfl rfl ?_)
 by_cases h2:x.length=y.length
 ·refine qN rfl (by simp [h2]) ?_;refine qF x.length (fun z _=> [(5,I z)]) (fun _ _=> []) (fun j(_:Unit)=>x.take j=y.take j) () rfl rfl rfl ?_;rintro j ⟨⟩ hj hsame ih
  by_cases hlt:j<x.length
  ·have hx:=List.getElem?_eq_getElem hlt;have hy:=List.getElem?_eq_getElem (show j<y.length by omega);generalize x[j]=u at hx;generalize y[j]=v at hy;obtain⟨d1,d2⟩:=hd u (List.mem_of_getElem? hx);refine qT rfl (decide_eq_true (by rw [List.length_map];omega)) ?_;refine qXi rfl (by omega) hx ?_;refine qXi rfl (by omega) hy ?_;refine qK rfl (e4i u v d1 d2) rfl ?_;refine qE rfl (by kernel_rfl) (by kernel_rfl) ?_
   by_cases h3:u=v
   ·subst h3;refine qN rfl (by simp) ?_;refine qB (ih _ () (a0a (by omega)) hlt (by rw [a1h hx,a1h hy,hsame])) (by kernel_rfl)
   refine qT rfl (by simpa using h3) ?_;refine qR rfl ⟨congrArg B ?_,rfl⟩;rotate_left;all_goals clear ih
   all_goals (rw [eq_comm,decide_eq_false_iff_not];intro h;subst h;rw [hx]at hy;exact h3 (Option.some.inj hy))
  refine qN rfl (decide_eq_false (by first|omega|(simp;done)|(simp;omega))) ?_;refine qR rfl ⟨congrArg B ?_,rfl⟩;rotate_left;all_goals clear ih
  obtain rfl:j=x.length:=by omega
  have hxy:x=y:=by
   rw [List.take_length,h2,List.take_length]at hsame;exact hsame
  all_goals simp [hxy]
 refine qT rfl (by simp;omega) ?_;refine qR rfl ⟨congrArg B ?_,rfl⟩;rotate_left;all_goals (rw [eq_comm,decide_eq_false_iff_not];intro h;exact h2 (by rw [h]))
set_option linter.unusedVariables false
set_option maxHeartbeats 4000000
set_option maxRecDepth 100000
def a4b(s:Bs):Option (List Frac):=match a1m s with
 |none=>none
 |some (l,t)=>if t= []then fracsR l else none
def rdQ(s:Bs)(r:DV)(H:DH):Prop:=H= []/\match a4b s with
 |some l=>r= .tup [L (fs l),B true]
 |none=>r= .tup [L [],B false]
theorem b5n(x:Bs)(h:x.length<=500):(cutS x).1.length<=500/\(cutS x).2.1.length<=500:=by have:=b5j x;omega
theorem e6o(s:Bs)(hl:s.length<1000000)(h5:∀l t,a1m s=some (l,t)->∀x∈l,x.length<=500)(h6:∀l t,a1m s=some (l,t)->l.length<1000000):Ev tt 8 [S s] [] (rdQ s):=by
 refine eIn Tryz.func8 rfl rfl ?_;refine qK rfl (e7v s) rfl ?_;have bad:a4b s=none->rdQ s (.tup [L [],B false]) []:=fun h=>by unfold rdQ;rw [h];exact⟨rfl,rfl⟩
 obtain⟨k,r,H,h1,h2⟩:=e3d s hl;unfold txsQ at h2;cases ht:a1m s with
 |none=>
  rw [ht]at h2;obtain⟨rfl,rfl⟩:=h2;refine qK rfl ⟨k,h1⟩ rfl ?_;refine qK rfl done_d rfl ?_;refine qT rfl rfl ?_;exact qR rfl (bad (by unfold a4b;rw [ht]))
 |some p=>
  obtain⟨l,t⟩:=p;rw [ht]at h2;obtain⟨rfl,rfl⟩:=h2;refine qK rfl ⟨k,h1⟩ rfl ?_;refine qK rfl (e9m t) rfl ?_;have h5:=h5 l t ht;have h6:=h6 l t ht;refine qC rfl (fun h=> ?_) (fun h=> ?_)
  ·have h:¬t= []:=h;exact qR rfl (bad (by unfold a4b;rw [ht];exact if_neg h))
  have h:¬¬t= []:=h;have h:=Classical.not_not.1 h;have hp:a4b s=fracsR l:=by unfold a4b;rw [ht];exact if_pos h
  refine qL (σ:=Int×List VT) (fun q=> [(20,I q.1)]) (fun q=> [(0,.row 34 4 q.2)]) (fun q=>∃(k:Nat)(acc:List Frac),q.1=k/\k<=l.length/\q.2=fs acc/\acc.length=k/\fracsR l=(fracsR (l.drop k)).map (acc++·)) (fun q=>l.length-q.1.toNat) (0,[]) rfl rfl ⟨0,[],rfl,by omega,rfl,rfl,by simp⟩ ?_;rintro⟨i,out⟩ ⟨k,acc,hi,hk,ho,ha,hf⟩ ih;obtain rfl:i=k:=hi;obtain rfl:out=fs acc:=ho;refine qC rfl (fun h=> ?_) (fun h=> ?_)
  ·have h:(k:Int)<((ss l).length:Int):=h;rw [List.length_map]at h;refine qXm (g:=VT.str) (l:=l) rfl ⟨by show(0:Int)<=k;omega,by show(k:Int)<_;omega⟩ fun x hx _=> ?_;have hx:l[k]?=some x:=hx;have hxl:=h5 x (List.mem_of_getElem? hx);have hdr:l.drop k=x::l.drop (k+1):=by rw [List.drop_eq_getElem_cons (by omega)];congr 1;exact(List.getElem?_eq_some_iff.1 hx).2
   refine qK rfl (e6e (s:=x) (by omega) (b5n x hxl).1 (b5n x hxl).2) rfl ?_;refine qC rfl (fun e=> ?_) (fun e=> ?_)
   ·have e:¬(a2m x).2=0:=e;refine qR rfl (bad ?_);rw [hp,hf,hdr];unfold fracsR;rw [if_neg e];rfl
   have e:¬¬(a2m x).2=0:=e;have e:=Classical.not_not.1 e;refine qA 64 rfl rfl (by simp;omega) ?_;have hi:iadd .i64 (k:Int) 1=((k+1:Nat):Int):=by rw [a0e (by omega) (by omega)];rfl
   refine qB (ih (iadd .i64 (k:Int) 1,fs acc++ [eF (a2m x).1]) ⟨k+1,acc++ [(a2m x).1],hi,by omega,by simp,by simp [ha],?_⟩ ?_) (by kernel_rfl)
   ·rw [hf,hdr]
    conv=>lhs;unfold fracsR
    rw [if_pos e];cases fracsR (l.drop (k+1))with
    |none=>rfl
    |some r=>simp
   show l.length-(iadd .i64 (k:Int) 1).toNat<l.length-(k:Int).toNat;rw [hi];simp only [Int.toNat_natCast];omega
  have h:¬(k:Int)<((ss l).length:Int):=h;rw [List.length_map]at h;have hd:l.drop k= []:=List.drop_eq_nil_of_le (by omega);refine qR rfl ?_;unfold rdQ;rw [hp,hf,hd];refine⟨rfl,?_⟩;show _=DV.tup [L (fs (acc++ [])),B true];rw [List.append_nil];rfl
set_option linter.unusedVariables false
theorem f1u{f:Frac}(hr:a0f f=true):∃r,f=toF r:=by
 obtain⟨r,h,_⟩:=c8k (k:=f.P.Digits.length+f.Q.Digits.length) ⟨by omega,by omega⟩ hr;exact⟨r,h⟩
theorem fracsR_of:∀{l:List Bs}{a:List Frac},fracsR l=some a->a.all a0f=true/\a.map a3a=l
 | [],a,h=>by cases h;exact⟨rfl,rfl⟩
 |x::l,a,h=>by
  have h:(if(a2m x).2=0 then(match fracsR l with
   |none=>none
   |some r=>some ((a2m x).1::r))else none)=some a:=h
  split at h
  ·rename_i h0;split at h
   ·cases h
   rename_i r hr;cases h;obtain⟨h1,h2⟩:=fracsR_of hr;rcases d0e x with⟨q,h3,h4⟩|h3
   ·rw [h3];exact⟨by simp only [List.all_cons,Bool.and_eq_true];exact⟨a2u q,h1⟩,by rw [List.map_cons,h4,h2]⟩
   rw [h3]at h0;cases h0
  cases h
theorem c7v{s:Bs}{a:List Frac}(h:a4b s=some a):a.all a0f=true/\b3x a=s:=by
 unfold a4b at h;split at h
 ·cases h
 rename_i l t ht;split at h
 ·rename_i h0;subst h0;obtain⟨h1,h2⟩:=fracsR_of h;have h3:=b1q ht;rw [List.append_nil]at h3;exact⟨h1,by unfold b3x;rw [if_pos h1,h2,h3]⟩
 cases h
set_option linter.unusedVariables false
set_option maxHeartbeats 4000000
set_option maxRecDepth 100000
theorem wT_len:∀{l:List Bs},l.length<=(l.flatMap a2e).length/\∀x∈l,x.length<=(l.flatMap a2e).length
 | []=>⟨Nat.le_refl _,fun x h=>by simp at h⟩
 |y::l=>by
  obtain⟨h1,h2⟩:=wT_len (l:=l);have h3:y.length+1<=(a2e y).length:=by unfold a2e;simp;omega
  rw [List.flatMap_cons,List.length_append,List.length_cons];refine⟨by omega,fun x hx=> ?_⟩;rcases List.mem_cons.1 hx with rfl|hx
  ·omega
  have:=h2 x hx;omega
theorem a5g{s:Bs}(hl:s.length<=400):∀l t,a1m s=some (l,t)->(∀x∈l,x.length<=500)/\l.length<1000000:=fun l t h=>by
 have h1:=congrArg List.length (b1q h);unfold a9e at h1;simp only [List.length_append]at h1;obtain⟨h2,h3⟩:=wT_len (l:=l);exact⟨fun x hx=>by have:=h3 x hx;omega,by omega⟩
def rdV(s:Bs):DV:=match a4b s with
 |some l=> .tup [L (fs l),B true]
 |none=> .tup [L [],B false]
theorem d9x(s:Bs)(hl:s.length<1000000)(h5:∀l t,a1m s=some (l,t)->(∀x∈l,x.length<=500)/\l.length<1000000):EvF tt 8 [S s] (rdV s):=by
 obtain⟨k,r,H,h1,rfl,h2⟩:=e6o s hl (fun l t h=>(h5 l t h).1) (fun l t h=>(h5 l t h).2);refine evF ⟨k,r,[],h1,?_,rfl⟩;unfold rdV;cases hr:a4b s with
 |none=>rw [hr]at h2;exact h2
 |some l=>rw [hr]at h2;exact h2
theorem d5f{s:Bs}(hl:s.length<=500):(a2m s).1.P.Digits.length<=100/\(a2m s).1.Q.Digits.length<=100:=by
 have hc:=b5j s;unfold a2m;split
 ·exact⟨a4r _ (by omega),a4r _ (by omega)⟩
 exact⟨by show([]:List Int).length<=_;simp,by show([]:List Int).length<=_;simp⟩
theorem fracsR_dig:∀{l:List Bs}{a:List Frac},fracsR l=some a->(∀x∈l,x.length<=500)->(∀f∈a,f.P.Digits.length<=100/\f.Q.Digits.length<=100)/\a.length=l.length
 | [],a,h,_=>by cases h;exact⟨fun f h=>by simp at h,rfl⟩
 |x::l,a,h,hl=>by
  have h:(if(a2m x).2=0 then(match fracsR l with
   |none=>none
   |some r=>some ((a2m x).1::r))else none)=some a:=h
  split at h
  ·split at h
   ·cases h
   rename_i r hr;cases h;obtain⟨h1,h2⟩:=fracsR_dig hr fun y hy=>hl y (List.mem_cons_of_mem _ hy);refine⟨fun f hf=> ?_,by simp [h2]⟩;rcases List.mem_cons.1 hf with rfl|hf
   ·exact d5f (hl x (List.mem_cons_self ..))
   exact h1 f hf
  cases h
theorem d4u{k:Nat}:∀{l:List Bs},(∀x∈l,k<=x.length)->l.length*(k+2)<=(l.flatMap a2e).length
 | [],_=>by simp
 |x::l,h=>by
  have h1:=d4u (l:=l) fun y hy=>h y (List.mem_cons_of_mem _ hy);have h2:=h x (List.mem_cons_self ..);rw [List.flatMap_cons,List.length_append,List.length_cons,Nat.add_mul];have:(a2e x).length=(Lib.itoa (x.length:Int)).length+1+x.length+1:=by unfold a2e;simp;omega
  omega
theorem d8d{f:Frac}(h:a0f f=true):2<=(a3a f).length:=by
 obtain⟨r,rfl⟩:=f1u h;rw [a8j];obtain⟨b,l,h1,_,_⟩:=d7p ((r.den:Int).natAbs) (by have:=r.den_nz;omega);have h2:txt (r.den:Int)=b::l:=by unfold txt;rw [if_neg (by omega),h1]
 rw [h2];simp;omega
theorem d0z{s:Bs}{a:List Frac}(hl:s.length<=400)(h:a4b s=some a):(∀f∈a,f.P.Digits.length<=100/\f.Q.Digits.length<=100)/\a.length<=100:=by
 obtain⟨hr,_⟩:=c7v h;unfold a4b at h;split at h
 ·cases h
 rename_i l t ht;split at h
 ·obtain⟨h1,h2⟩:=a5g hl l t ht;obtain⟨h3,h4⟩:=fracsR_dig h h1;refine⟨h3,?_⟩;have h5:=congrArg List.length (b1q ht);have h6:=d4u (k:=2) (l:=l) (fun x hx=>by
   rw [<-(fracsR_of h).2]at hx;obtain⟨f,hf,rfl⟩:=List.mem_map.1 hx;exact d8d (List.all_eq_true.1 hr f hf))
  unfold a9e at h5;simp only [List.length_append]at h5;omega
 cases h
theorem sm1:a4b [49,91,51,58,50,47,52,44,93]=none:=by kernel_rfl
theorem sm2:a4b [48,91,93]=some []:=by kernel_rfl
theorem sm3:b3x [toF (Rat.divInt 1 2),toF ((-3:Int):Rat)]= [50,91,51,58,49,47,50,44,52,58,45,51,47,49,44,93]:=by kernel_rfl
def eS:Evi:=⟨1,1,1,[⟨0,0,0⟩,⟨5,-1,-1⟩],[⟨3,0,1,0,20,false⟩],[⟨0,0,9,2,0,0⟩],[],[]⟩
def bS:Bch:=⟨0,[0]⟩
def yS:List Frac:= [toF ((1:Int):Rat),toF ((0:Int):Rat)]
theorem sm9:impB eS [toF ((1:Int):Rat),toF ((-1:Int):Rat)]=false:=by kernel_rfl
theorem sm10:srt [0]= [0]:=by simp
theorem sm11:papB eS bS 18 yS=true:=by
 have h:papV eS bS.Material (-1) bS.Moves=some [0]:=by kernel_rfl
 have h2:sumV [0]= [(0,1)]:=by unfold sumV;rw [sm10];rfl
 unfold papB;rw [h];show(_&&(lowB (sysE eS) (sumV [0]) yS&&_))=true;rw [h2]
 kernel_rfl
theorem sm12:papB eS bS 19 yS=false:=by
 have h:papV eS bS.Material (-1) bS.Moves=some [0]:=by kernel_rfl
 have h2:sumV [0]= [(0,1)]:=by unfold sumV;rw [sm10];rfl
 unfold papB;rw [h];show(_&&(lowB (sysE eS) (sumV [0]) yS&&_))=false;rw [h2]
 kernel_rfl
def rdO:Option (List Frac)->DV |some l=> .tup [L (fs l),B true] |none=> .tup [L [],B false]
theorem e7q{s:Bs}{v:Option (List Frac)}(hl:s.length<=400)(h:a4b s=v):EvF tt 8 [S s] (rdO v):=by
 have:=d9x s (by omega) (a5g hl);subst h;exact this
theorem small_e:EvF tt 4 [] (B true):=by
 have hof:EvF tt 19 [I 1,I 2] (.tup [.v (eF (toF (Rat.divInt 1 2))),I 0]):=e9b (by decide) (by decide) (by decide) (by decide) (by decide);have i3:EvF tt 20 [I (-3)] (.v (eF (toF (-3:Int)))):=a2f (by decide) (by decide);have i1:EvF tt 20 [I 1] (.v (eF (toF (1:Int)))):=a2f (by decide) (by decide);have i0:EvF tt 20 [I 0] (.v (eF (toF (0:Int)))):=a2f (by decide) (by decide);have im:EvF tt 20 [I (-1)] (.v (eF (toF (-1:Int)))):=a2f (by decide) (by decide);have r1:EvF tt 8 [S [49,91,51,58,50,47,52,44,93]] (.tup [L [],B false]):=e7q (by decide) sm1;have r2:EvF tt 8 [S [48,91,93]] (.tup [L [],B true]):=e7q (by decide) sm2;have t1:EvF tt 11 [L (fs [toF (Rat.divInt 1 2),toF ((-3:Int):Rat)])] (S (b3x [toF (Rat.divInt 1 2),toF ((-3:Int):Rat)])):=d1f (k:=20) (by
  intro f hf;simp only [List.mem_cons,List.not_mem_nil,or_false]at hf;rcases hf with rfl|rfl<;>decide+kernel) (by decide) (by decide)
 rw [sm3]at t1;have hE:ELen eS:=by constructor<;>decide
 have hY:YOk yS 20:=⟨by decide,by
  intro f hf;simp only [yS,List.mem_cons,List.not_mem_nil,or_false]at hf;rcases hf with rfl|rfl<;>decide+kernel⟩
 have hY2:YOk [toF ((1:Int):Rat),toF ((-1:Int):Rat)] 20:=⟨by decide,by
  intro f hf;simp only [List.mem_cons,List.not_mem_nil,or_false]at hf;rcases hf with rfl|rfl<;>decide+kernel⟩
 have p1:=c0w (b:=bS) (grams:=18) hE hY (by decide);rw [sm11]at p1;have p2:=c0w (b:=bS) (grams:=19) hE hY (by decide);rw [sm12]at p2;have q1:=d3z hE hY2;rw [sm9]at q1;refine evF (eIn Tryz.func4 rfl rfl ?_);refine qK rfl (hof) rfl ?_;refine qK rfl (r1) rfl ?_;refine qK rfl (r2) rfl ?_;refine qK rfl (i1) rfl ?_;refine qK rfl (i0) rfl ?_;refine qK rfl (i3) rfl ?_;refine qK rfl (t1) rfl ?_;refine qT rfl rfl ?_;refine qT rfl rfl ?_;refine qT rfl rfl ?_;refine qE rfl (by kernel_rfl) (by kernel_rfl) ?_;refine qT rfl rfl ?_;refine qK rfl (p1) rfl ?_;refine qT rfl rfl ?_;refine qK rfl (p2) rfl ?_;refine qT rfl rfl ?_;refine qK rfl (i1) rfl ?_;refine qK rfl (im) rfl ?_;refine qK rfl (q1) rfl ?_;refine qE rfl (by kernel_rfl) (by kernel_rfl) ?_;exact qR rfl ⟨rfl,rfl⟩
set_option linter.unusedVariables false
set_option maxHeartbeats 4000000
set_option maxRecDepth 100000
theorem d2w{l:List Bs}(h:∀x∈l,x.length<=1000000)(hl:l.length<=100):EvF tt 39 [L (ss l)] (S (a9e l)):=by
 have hd:EvF tt 73 [I (IntKind.i64.wrap (0-((ss l).length:Int)))] (S (Lib.itoa l.length)):=by rw [List.length_map];exact c2o (by omega)
 have h20:=a3l (n:=l.length) (by omega);refine evF (eIn Tryz.func39 rfl rfl ?_);refine qK rfl hd rfl ?_;refine qS rfl (by simp only [List.length_append,List.length_cons,List.length_nil];omega) ?_;refine qF l.length (fun z w=> [(4,I z),(3,S w)]) (fun _ _=> []) (fun k w=>w=Lib.itoa l.length++ [91]++(l.take k).flatMap a2e) (Lib.itoa l.length++ [91]) rfl rfl (by simp) ?_;rintro k w hk hw ih;have hw:w=Lib.itoa l.length++ [91]++(l.take k).flatMap a2e:=hw;have hfl:((l.take k).flatMap a2e).length<=100*1000022:=Nat.le_trans (b2g fun x hx=>h x (List.mem_of_mem_take hx)) (Nat.mul_le_mul_right _ (by rw [List.length_take];omega));have hwl:w.length<=100002300:=by rw [hw];simp only [List.length_append,List.length_cons,List.length_nil];omega
 by_cases hlt:k<l.length
 ·have hx:=List.getElem?_eq_getElem hlt;generalize l[k]=x at hx;have hx2:l[Int.toNat (k:Int)]?=some x:=by rw [Int.toNat_natCast];exact hx
  have hxl:=h x (List.mem_of_getElem? hx);have ht:=d8l hxl;have hwx:(a2e x).length<=1000022:=by
   have:=b2g (l:= [x]) (by simpa using hxl);simpa using this
  have g:=ih _ (w++a2e x) (a0a (by omega)) hlt (by rw [hw,a1h hx,List.flatMap_append];simp);clear ih;refine qT rfl (decide_eq_true (by rw [List.length_map];omega)) ?_;refine qXi (g:=VT.str) rfl (Int.natCast_nonneg _) hx2 ?_;refine qK rfl (ht) rfl ?_;refine qS rfl ?_ ?_;rotate_left;exact qB g (by kernel_rfl);all_goals omega
 clear ih;rw [List.take_of_length_le (by omega)]at hw;have:a9e l=w++ [93]:=by rw [hw];rfl
 rw [this];refine qN rfl (decide_eq_false (by rw [List.length_map];omega)) ?_;refine qS rfl ?_ ?_;rotate_left;exact qR rfl ⟨rfl,rfl⟩;all_goals (simp;omega)
theorem d2o{l:List Frac}{k:Nat}(hp:∀f∈l,f.P.Digits.length<=k/\f.Q.Digits.length<=k)(hk:k<=1000)(hl:l.length<=100):EvF tt 12 [L (fs l)] (S (b3x l)):=by
 have h1:=b6a hp (by omega) (by omega);refine evF (eIn Tryz.func12 rfl rfl ?_);unfold b3x;cases hr:l.all a0f with
 |false=>
  rw [hr]at h1;refine qK rfl (h1) rfl ?_;refine qT rfl rfl ?_;exact qR rfl ⟨rfl,rfl⟩
 |true=>
 rw [hr]at h1;refine qK rfl h1 rfl ?_;refine qN rfl rfl ?_;rw [if_pos rfl];refine qF l.length (fun z _=> [(4,I z)]) (fun _ q=> [(0,.row 9 1 q)]) (fun j q=>q=ss ((l.take j).map a3a)/\q.length<=j) [] rfl rfl ⟨rfl,Nat.le_refl _⟩ ?_;rintro j q hj ⟨hq,hql⟩ ih;have hq:q=ss ((l.take j).map a3a):=hq;have hql:q.length<=j:=hql
 by_cases hlt:j<l.length
 ·have hx:=List.getElem?_eq_getElem hlt;generalize l[j]=x at hx;have hx2:l[Int.toNat (j:Int)]?=some x:=by rw [Int.toNat_natCast];exact hx
  obtain⟨d1,d2⟩:=hp x (List.mem_of_getElem? hx);have ht:=b5c d1 d2 (by omega);have g:=ih _ (q++ [.str (a3a x)]) (a0a (by omega)) hlt ⟨by rw [hq,a1h hx];simp,by simp;omega⟩;clear ih;refine qT rfl (decide_eq_true (by rw [List.length_map];omega)) ?_;refine qXi (g:=eF) rfl (Int.natCast_nonneg _) hx2 ?_;refine qK rfl (ht) rfl ?_;refine qA 16 rfl rfl ?_ ?_;rotate_left;exact qB g (by kernel_rfl);all_goals (simp;omega)
 clear ih;rw [List.take_of_length_le (by omega)]at hq;have hwt:=d2w (l:=l.map a3a) (fun x hx=>by
  obtain⟨f,hf,rfl⟩:=List.mem_map.1 hx;have:=b8e (hp f hf).1 (hp f hf).2;omega) (by rw [List.length_map];omega)
 rw [<-hq]at hwt;refine qN rfl (decide_eq_false (by rw [List.length_map];omega)) ?_;refine qK rfl (hwt) rfl ?_;exact qR rfl ⟨rfl,rfl⟩
set_option linter.unusedVariables false
set_option maxHeartbeats 4000000
set_option maxRecDepth 100000
theorem c9v(s:Bs)(hl:s.length<=400):EvF tt 9 [S s] (rdV s):=by
 have hte:=d6s (s:=s) (by omega);have bad:a4b s=none->rdV s= .tup [L [],B false]:=fun h=>by unfold rdV;rw [h]
 unfold txsO at hte;refine evF (eIn Tryz.func9 rfl rfl ?_);refine qK rfl (e4y s) rfl ?_;cases ht:a1m s with
 |none=>
  rw [ht]at hte;rw [bad (by unfold a4b;rw [ht])];refine qK rfl (hte) rfl ?_;refine qK rfl (d4l _ _) rfl ?_;refine qT rfl rfl ?_;exact qR rfl ⟨rfl,rfl⟩
 |some p=>
  obtain⟨l,t⟩:=p;rw [ht]at hte;obtain⟨h5,h6⟩:=a5g hl l t ht;dsimp only at hte;refine qK rfl hte rfl ?_;refine qK rfl (d4l t false) rfl ?_
  by_cases h:t= []
  rotate_left
  ·rw [bad (by unfold a4b;rw [ht];exact if_neg h)];refine qT rfl (by simp [h]) ?_;exact qR rfl ⟨rfl,rfl⟩
  have hp:a4b s=fracsR l:=by unfold a4b;rw [ht];exact if_pos h
  refine qN rfl (by simp [h]) ?_;refine qF l.length (fun z _=> [(7,I z)]) (fun _ ts=> [(0,.row 34 4 ts)]) (fun k ts=>∃acc:List Frac,ts=fs acc/\acc.length=k/\fracsR l=(fracsR (l.drop k)).map (acc++·)) [] rfl rfl ⟨[],rfl,rfl,by rw [List.drop_zero];generalize fracsR l=q;cases q<;>rfl⟩ ?_;rintro k ts hk ⟨acc,hts,ha,hf⟩ ih;obtain rfl:ts=fs acc:=hts
  by_cases hlt:k<l.length
  ·have hx:=List.getElem?_eq_getElem hlt;have hdr:=a1p hx;generalize l[k]=x at hx hdr;have hx2:l[Int.toNat (k:Int)]?=some x:=by rw [Int.toNat_natCast];exact hx
   have hxl:=h5 x (List.mem_of_getElem? hx);have hrd:=d6i (s:=x) (by omega) (b5n x hxl).1 (b5n x hxl).2;refine qT rfl (decide_eq_true (by rw [List.length_map];omega)) ?_;refine qXi (g:=VT.str) rfl (Int.natCast_nonneg _) hx2 ?_;refine qK rfl hrd rfl ?_
   by_cases e:(a2m x).2=0
   ·have g:=ih _ (fs acc++ [eF (a2m x).1]) (a0a (by omega)) hlt ⟨acc++ [(a2m x).1],by simp,by simp [ha],by
     rw [hf,hdr]
     conv=>lhs;unfold fracsR
     rw [if_pos e];cases fracsR (l.drop (k+1))with
     |none=>rfl
     |some r=>simp⟩
    clear ih;refine qN rfl (by simpa using e) ?_;refine qA 64 rfl rfl ?_ ?_;rotate_left;exact qB g (by kernel_rfl);all_goals (simp;omega)
   clear ih;rw [bad (by
    rw [hp,hf,hdr];unfold fracsR;rw [if_neg e];rfl)]
   refine qT rfl (by simpa using e) ?_;exact qR rfl ⟨rfl,rfl⟩
  clear ih;have hd:l.drop k= []:=List.drop_eq_nil_of_le (by omega);rw [hd]at hf;have hr:a4b s=some acc:=by rw [hp,hf];show some (acc++ [])=some acc;rw [List.append_nil]
  have:rdV s= .tup [L (fs acc),B true]:=by unfold rdV;rw [hr]
  rw [this];refine qN rfl (decide_eq_false (by rw [List.length_map];omega)) ?_;exact qR rfl ⟨rfl,rfl⟩
set_option linter.unusedVariables false
def den(n M:Nat)(g:Nat->Nat->Int):List Int:=(List.range (n*M)).map fun v=>g (v/M) (v %M)
def spa:Nat->List Int->List (Int×Rat) |_,[]=> [] |v,c::l=>if c=0 then spa (v+1) l else((v:Int),(c:Rat))::spa (v+1) l
theorem a3q(n M:Nat)(g:Nat->Nat->Int):(den n M g).length=n*M:=by simp [den]
theorem f0d{n M i m:Nat}{g:Nat->Nat->Int}(hi:i<n)(hm:m<M):(den n M g)[i*M+m]?=some (g i m):=by
 have h1:i*M+m<n*M:=Nat.lt_of_lt_of_le (show i*M+m<(i+1)*M by rw [Nat.add_mul];omega) (Nat.mul_le_mul_right M hi);unfold den;rw [List.getElem?_map,List.getElem?_range h1,Option.map_some,Nat.mul_comm,Nat.mul_add_div (by omega),Nat.mul_add_mod,Nat.div_eq_of_lt hm,Nat.mod_eq_of_lt hm,Nat.add_zero]
theorem c1h{n M i m:Nat}{g:Nat->Nat->Int}{x:Int}(hm:m<M):(den n M g).set (i*M+m) x=den n M (fun j k=>if j=i/\k=m then x else g j k):=by
 apply List.ext_getElem
 ·simp [den]
 intro v h1 h2;rw [List.getElem_set];simp only [den,List.getElem_map,List.getElem_range]
 by_cases h:i*M+m=v
 ·subst h;rw [if_pos rfl,if_pos];rw [Nat.mul_comm,Nat.mul_add_div (by omega),Nat.mul_add_mod,Nat.div_eq_of_lt hm,Nat.mod_eq_of_lt hm];exact⟨rfl,rfl⟩
 rw [if_neg h,if_neg];rintro⟨rfl,rfl⟩;exact h (by rw [Nat.mul_comm];exact Nat.div_add_mod v M)
theorem b1l(n M:Nat):List.replicate (n*M) 0=den n M fun _ _=>0:=by
 unfold den;rw [List.map_const'];simp
theorem spa_app:∀(a b:List Int)(v:Nat),spa v (a++b)=spa v a++spa (v+a.length) b
 | [],b,v=>rfl
 |c::a,b,v=>by
  have ih:=spa_app a b (v+1);simp only [List.cons_append,spa,List.length_cons];rw [ih,show v+1+a.length=v+(a.length+1) by omega];split<;>rfl
theorem d3i(h:Nat->Int)(v:Nat):∀M:Nat,spa v ((List.range M).map h)=(List.range M).filterMap fun m=>if h m=0 then none else some (((v+m:Nat):Int),(h m:Rat))
 |0=>rfl
 |M+1=>by
  rw [List.range_succ,List.map_append,spa_app,d3i h v M,List.filterMap_append,List.length_map,List.length_range]
  congr 1
  simp only [List.map_cons,List.map_nil,spa,List.filterMap_cons,List.filterMap_nil];split<;>rfl
theorem d7w(n M:Nat)(g:Nat->Nat->Int)(hM:0<M):den (n+1) M g=den n M g++(List.range M).map (g n):=by
 apply List.ext_getElem
 ·simp [den,Nat.add_mul]
 intro v h1 h2;simp only [den,List.getElem_map,List.getElem_range]
 by_cases h:v<n*M
 ·rw [List.getElem_append_left (by simpa [den]using h)];simp
 rw [List.getElem_append_right (by simpa [den]using h)];simp only [List.getElem_map,List.getElem_range,List.length_map,List.length_range];have h3:v<n*M+M:=by simpa [den,Nat.add_mul]using h1
 have e:v=n*M+(v-n*M):=by omega
 generalize v-n*M=m at e;subst e;rw [Nat.mul_comm,Nat.mul_add_div hM,Nat.mul_add_mod,Nat.div_eq_of_lt (by omega),Nat.mod_eq_of_lt (by omega),Nat.add_zero]
theorem c1w(M:Nat)(g:Nat->Nat->Int)(hM:0<M):∀n:Nat,spa 0 (den n M g)=(List.range n).flatMap fun i=>(List.range M).filterMap fun m=>if g i m=0 then none else some (((i*M+m:Nat):Int),(g i m:Rat))
 |0=>by simp [den,spa]
 |n+1=>by
  rw [d7w n M g hM,spa_app,c1w M g hM n,a3q,Nat.zero_add,d3i,List.range_succ,List.flatMap_append];simp
def stkC(x:Mve)(y:Mve):Int:=if y.From=x.From then-1 else if y.To=x.From then 1 else 0
def stkD(e:Evi)(x:Mve)(mat k:Nat)(j m:Nat):Int:=if m=mat/\j<k then match e.Moves[j]? with
 |some y=>stkC x y
 |none=>0 else 0
theorem d6f{α:Type}{M mat:Nat}(hm:mat<M){f:Nat->Option α}(h:∀m,m≠mat->f m=none):(List.range M).filterMap f=(f mat).toList:=by
 induction M with
 |zero=>omega
 |succ M ih=>
  rw [List.range_succ,List.filterMap_append]
  by_cases hM:mat<M
  ·rw [ih hM];have:=h M (by omega);simp [this]
  obtain rfl:mat=M:=by omega
  have:(List.range mat).filterMap f= []:=by
   rw [List.filterMap_eq_nil_iff];intro a ha;rw [List.mem_range]at ha;exact h a (by omega)
  rw [this];cases hf:f mat<;>simp [hf]
theorem c5r{α:Type}{n k:Nat}(hk:k<=n){F:Nat->List α}(h:∀j,k<=j->F j= []):(List.range n).flatMap F=(List.range k).flatMap F:=by
 induction n with
 |zero=>obtain rfl:k=0:=by omega
        rfl
 |succ n ih=>
  by_cases e:k=n+1
  ·rw [e]
  rw [List.range_succ,List.flatMap_append,ih (by omega)];simp [h n (by omega)]
theorem c2y{α β:Type}(l:List α)(F:Nat->List β)(G:Nat×α->Option β):∀k,k<=l.length->(∀j y,j<k->l[j]?=some y->F j=(G (j,y)).toList)->(List.range k).flatMap F=(zipI 0 (l.take k)).filterMap G
 |0,_,_=>by simp [zipI]
 |k+1,hk,h=>by
  have hy:=List.getElem?_eq_getElem (show k<l.length by omega);rw [List.range_succ,List.flatMap_append,c2y l F G k (by omega) (fun j y hj=>h j y (by omega)),a6o l 0 k _ hy,List.filterMap_append,Nat.zero_add]
  congr 1
  have:=h k _ (by omega) hy;cases hG:G (k,l[k])with
  |none=>simp [this,hG]
  |some b=>simp [this,hG]
theorem e3f{e:Evi}{x:Mve}{mat i M:Nat}(hM:e.Materials=M)(hm:mat<M)(hi:i<e.Moves.length):spa 0 (den e.Moves.length M (stkD e x mat (i+1)))=(zipI 0 (e.Moves.take (i+1))).filterMap (a8g e x mat):=by
 rw [c1w M _ (by omega),c5r (k:=i+1) (by omega)]
 ·refine c2y e.Moves _ _ (i+1) (by omega) fun j y hj hy=> ?_;rw [d6f hm fun m h=>by simp [stkD,h]]
  congr 1
  have hd:stkD e x mat (i+1) j mat=stkC x y:=by unfold stkD;rw [if_pos ⟨rfl,hj⟩,hy]
  rw [hd];have hv:((j*M+mat:Nat):Int)=(j:Int)*e.Materials+mat:=by rw [hM];simp
  rw [hv];unfold a8g stkC;dsimp only
  by_cases h1:y.From=x.From
  ·rw [if_pos h1,if_pos h1,if_neg (by decide)];rfl
  rw [if_neg h1,if_neg h1]
  by_cases h2:y.To=x.From
  ·rw [if_pos h2,if_pos h2,if_neg (by decide)];rfl
  rw [if_neg h2,if_neg h2,if_pos rfl]
 intro j hj;rw [List.filterMap_eq_nil_iff];intro m hm;simp [stkD,show¬j<i+1 by omega]
def oneD(i:Nat)(f:Nat->Int)(j m:Nat):Int:=if j=i then f m else 0
theorem d5z{α:Type}{n i:Nat}(hi:i<n){F:Nat->List α}(h:∀j,j≠i->F j= []):(List.range n).flatMap F=F i:=by
 rw [c5r (k:=i+1) (by omega) fun j hj=>h j (by omega),List.range_succ,List.flatMap_append];have:(List.range i).flatMap F= []:=by
  rw [List.flatMap_eq_nil_iff];intro j hj;rw [List.mem_range]at hj;exact h j (by omega)
 rw [this];simp
theorem d3y{e:Evi}{i M:Nat}{by' own more:Int}(hM:e.Materials=M)(hm:0<M)(hi:i<e.Moves.length):spa 0 (den e.Moves.length M (oneD i fun m=>if(m:Int)=own then by'+more else by'))=sumT e i by' own more:=by
 rw [c1w M _ hm,d5z hi]
 ·unfold sumT;rw [hM,Int.toNat_natCast];apply congrArg (fun f=>List.filterMap f (List.range M))
  funext m
  unfold oneD b0a;rw [if_pos rfl,hM];dsimp only;rw [show((i*M+m:Nat):Int)=(i:Int)*M+m by simp]
 intro j hj;rw [List.filterMap_eq_nil_iff];intro m _;simp [oneD,hj]
theorem a6n{n M:Nat}{g h:Nat->Nat->Int}(e:∀j m,m<M->g j m=h j m):den n M g=den n M h:=by
 unfold den;rcases Nat.eq_zero_or_pos M with rfl|hM
 ·simp
 apply List.map_congr_left;intro v _;exact e _ _ (Nat.mod_lt _ hM)
theorem d5a{e:Evi}{x:Mve}{mat:Nat}:stkD e x mat 0=fun _ _=>0:=by
 funext j m;simp [stkD]
theorem b9j{e:Evi}{x y:Mve}{mat k M:Nat}(hm:mat<M)(hy:e.Moves[k]?=some y):den e.Moves.length M (stkD e x mat (k+1))=if stkC x y=0 then den e.Moves.length M (stkD e x mat k)else(den e.Moves.length M (stkD e x mat k)).set (k*M+mat) (stkC x y):=by
 have hd:∀j m,stkD e x mat (k+1) j m=if j=k/\m=mat then stkC x y else stkD e x mat k j m:=fun j m=>by
  unfold stkD
  by_cases h1:j=k/\m=mat
  ·obtain⟨rfl,rfl⟩:=h1;rw [if_pos ⟨rfl,by omega⟩,if_pos ⟨rfl,rfl⟩,hy]
  rw [if_neg h1]
  by_cases h2:m=mat/\j<k
  ·rw [if_pos h2,if_pos ⟨h2.1,by omega⟩]
  rw [if_neg h2,if_neg (fun h3=>by have:j=k:=by omega
                                   exact h1 ⟨this,h3.1⟩)]
 split
 ·rename_i h0;refine a6n fun j m _=> ?_;rw [hd];split
  ·rename_i hj;rw [h0,hj.1,hj.2];simp [stkD]
  rfl
 rw [c1h hm];exact a6n fun j m _=>hd j m
def parD(i:Nat)(f:Nat->Int)(k:Nat)(j m:Nat):Int:=if j=i/\m<k then f m else 0
theorem b3d{i:Nat}{f:Nat->Int}:parD i f 0=fun _ _=>0:=by funext j m;simp [parD]
theorem b2d{n M i k:Nat}{f:Nat->Int}(hk:k<M):(den n M (parD i f k)).set (i*M+k) (f k)=den n M (parD i f (k+1)):=by
 rw [c1h hk];refine a6n fun j m _=> ?_;unfold parD
 by_cases h:j=i/\m=k
 ·obtain⟨rfl,rfl⟩:=h;rw [if_pos ⟨rfl,rfl⟩,if_pos ⟨rfl,by omega⟩]
 rw [if_neg h]
 by_cases h2:j=i/\m<k
 ·rw [if_pos h2,if_pos ⟨h2.1,by omega⟩]
 rw [if_neg h2,if_neg (fun h3=>h ⟨h3.1,by omega⟩)]
theorem b5m{n M i:Nat}{f:Nat->Int}:den n M (parD i f M)=den n M (oneD i f):=by
 refine a6n fun j m hm=> ?_;unfold parD oneD
 by_cases h:j=i
 ·rw [if_pos ⟨h,hm⟩,if_pos h]
 rw [if_neg h,if_neg (fun h3=>h h3.1)]
theorem d7j{n M i p:Nat}{f:Nat->Int}{x:Int}(hp:p<M):(den n M (oneD i f)).set (i*M+p) x=den n M (oneD i fun m=>if m=p then x else f m):=by
 rw [c1h hp];refine a6n fun j m _=> ?_;unfold oneD
 by_cases h:j=i
 ·by_cases h2:m=p
  ·rw [if_pos ⟨h,h2⟩,if_pos h];exact(if_pos h2).symm
  rw [if_neg (fun h3=>h2 h3.2),if_pos h,if_pos h];exact(if_neg h2).symm
 rw [if_neg (fun h3=>h h3.1),if_neg h,if_neg h]
set_option linter.unusedVariables false
def plusT:List Trm->List Trm->List Trm | [],b=>b |x::a,[]=>x::a |x::a,y::b=>if x.1<y.1 then x::plusT a (y::b)else if y.1<x.1 then y::plusT (x::a) b else if x.2+y.2=0 then plusT a b else(x.1,x.2+y.2)::plusT a b
 termination_by a b=>a.length+b.length
def insI(v:Int):List Int->List Int | []=> [v] |x::l=>if x<v then x::insI v l else v::x::l
theorem c3x(v:Int):∀l:List Int,v∉l->plusT (l.map fun v=>(v,1)) [(v,1)]=(insI v l).map fun v=>((v,1):Trm)
 | [],_=>by simp [plusT,insI]
 |x::l,h=>by
  have hx:x≠v:=fun e=>h (by simp [e]);have ih:=c3x v l fun e=>h (by simp [e]);rw [List.map_cons,plusT];unfold insI
  by_cases c:x<v
  ·rw [if_pos c,if_pos c,ih];rfl
  rw [if_neg c,if_neg c,if_pos (show v<x by omega)];cases l<;>simp [plusT]
theorem b1a(v:Int):∀l:List Int,(insI v l).Perm (v::l)
 | []=> .refl _
 |x::l=>by
  unfold insI;split
  ·exact((b1a v l).cons x).trans (.swap ..)
  exact .refl _
theorem d1i(v:Int):∀l:List Int,l.Pairwise (·<=·)->(insI v l).Pairwise (·<=·)
 | [],_=>by simp [insI]
 |x::l,h=>by
  obtain⟨h1,h2⟩:=List.pairwise_cons.1 h;unfold insI;split
  ·rename_i c;refine List.pairwise_cons.2 ⟨fun y hy=> ?_,d1i v l h2⟩;rcases List.mem_cons.1 ((b1a v l).mem_iff.1 hy)with rfl|hy
   ·omega
   exact h1 y hy
  rename_i c;refine List.pairwise_cons.2 ⟨fun y hy=> ?_,h⟩;rcases List.mem_cons.1 hy with rfl|hy
  ·omega
  have:=h1 y hy;omega
theorem e9s{a b:List Int}(hp:a.Perm b)(hs:a.Pairwise (·<=·)):a=srt b:=by
 have h1:(srt b).Pairwise (fun x y=>decide (x<=y)=true):=List.pairwise_mergeSort (fun a b c h1 h2=>by simp at*;omega) (fun a b=>by simp;omega) b;refine List.Perm.eq_of_pairwise (le:=fun x y=>x<=y) (fun x y _ _ h1 h2=>by omega) hs (h1.imp (by simp)) (hp.trans (List.mergeSort_perm b _).symm)
theorem goal_sum:∀(l:List Int)(acc:List Int),acc.Pairwise (·<=·)->(acc++l).Nodup->∃r:List Int,l.foldl (fun o v=>plusT o [(v,1)]) (acc.map fun v=>(v,1))=r.map (fun v=>((v,1):Trm))/\r.Perm (acc++l)/\r.Pairwise (·<=·)
 | [],acc,h,_=>⟨acc,rfl,by simp,h⟩
 |v::l,acc,h,hn=>by
  have hv:v∉acc:=fun hm=>by
   rw [List.nodup_append]at hn;exact hn.2.2 v hm v (by simp) rfl
  obtain⟨r,h1,h2,h3⟩:=goal_sum l (insI v acc) (d1i v acc h) (by
   have hp:(insI v acc++l).Perm (acc++v::l):=((b1a v acc).append_right l).trans List.perm_middle.symm;exact hp.nodup_iff.2 hn)
  refine⟨r,?_,h2.trans (((b1a v acc).append_right l).trans List.perm_middle.symm),h3⟩;rw [List.foldl_cons,c3x v acc hv];exact h1
theorem b9x{l:List Int}(hn:l.Nodup):l.foldl (fun o v=>plusT o [(v,1)]) []=sumV l:=by
 obtain⟨r,h1,h2,h3⟩:=goal_sum l [] .nil (by simpa using hn);unfold sumV;rw [<-e9s (by simpa using h2) h3];exact h1
set_option linter.unusedVariables false
set_option maxHeartbeats 4000000
set_option maxRecDepth 100000
theorem b8a(a:List Trm):plusT a []=a:=by cases a<;>simp [plusT]
theorem b8j(b:List Trm):plusT [] b=b:=by simp [plusT]
theorem c6q(x y:Trm)(a b:List Trm):plusT (x::a) (y::b)=if x.1<y.1 then x::plusT a (y::b)else if y.1<x.1 then y::plusT (x::a) b else if x.2+y.2=0 then plusT a b else(x.1,x.2+y.2)::plusT a b:=by rw [plusT]
theorem b9o{i n:Nat}(h:i<n)(hn:n<=100000):imin (i:Int) (isub .i64 (n:Int) 1)=(i:Int):=by
 rw [a0c (by omega) (by omega)];unfold imin;split<;>omega
theorem d8s{a b:List Trm}{j k:Nat}(ha:∀t∈a,SmF j t.2)(hb:∀t∈b,SmF k t.2)(hjk:j+k<3000000)(la:a.length<=10000)(lb:b.length<=10000)(ra:rtT 1500 (-1) a=true)(rb:rtT 1500 (-1) b=true):
 EvF tt 103 [L (a.map eTm),L (b.map eTm)] (L ((plusT a b).map eTm)):=by
 have h1:=a2w (n:=1500) la ha (by omega) (by decide);have h2:=a2w (n:=1500) lb hb (by omega) (by decide);rw [ra]at h1;rw [rb]at h2;have hla:(a.map eTm).length=a.length:=List.length_map ..;have hlb:(b.map eTm).length=b.length:=List.length_map ..;refine evF (eIn Tryz.func103 rfl rfl ?_);refine qK rfl h1 rfl ?_;refine qN rfl rfl ?_;refine qK rfl h2 rfl ?_;refine qN rfl rfl ?_;refine qL (σ:=(Int×Int)×List VT) (fun q=> [(6,I q.1.1),(7,I q.1.2)]) (fun q=> [(0,.row 131 5 q.2)]) (fun q=>∃(i k:Nat)(pre:List Trm),q.1=((i:Int),(k:Int))/\q.2=pre.map eTm/\i<=a.length/\k<=b.length/\pre.length<=i+k/\pre++plusT (a.drop i) (b.drop k)=plusT a b) (fun q=>(a.length-q.1.1.toNat)+(b.length-q.1.2.toNat)) ((0,0),[]) rfl rfl ⟨0,0,[],rfl,rfl,by omega,by omega,by simp,rfl⟩ ?_;rintro⟨⟨zi,zk⟩,ts⟩ ⟨i,k,pre,hz,hts,hi,hk,hp,hJ⟩ ih;obtain⟨rfl,rfl⟩:=Prod.mk.inj hz;obtain rfl:ts=pre.map eTm:=hts;have hpl:(pre.map eTm).length=pre.length:=List.length_map ..;have gA:=fun(z:Int)(t:Trm)(hz:z=((i+1:Nat):Int))(hlt:i<a.length)(h:(pre++ [t])++plusT (a.drop (i+1)) (b.drop k)=plusT a b)=>ih ((z,(k:Int)),(pre++ [t]).map eTm) ⟨i+1,k,pre++ [t],by rw [hz],rfl,by omega,hk,by simp;omega,h⟩ (by show(a.length-z.toNat)+(b.length-(k:Int).toNat)<(a.length-(i:Int).toNat)+(b.length-(k:Int).toNat);omega);have gB:=fun(z:Int)(t:Trm)(hz:z=((k+1:Nat):Int))(hlt:k<b.length)(h:(pre++ [t])++plusT (a.drop i) (b.drop (k+1))=plusT a b)=>ih (((i:Int),z),(pre++ [t]).map eTm) ⟨i,k+1,pre++ [t],by rw [hz],rfl,hi,by omega,by simp;omega,h⟩ (by show(a.length-(i:Int).toNat)+(b.length-z.toNat)<(a.length-(i:Int).toNat)+(b.length-(k:Int).toNat);omega);have gC:=fun(z u:Int)(t:List Trm)(hz:z=((i+1:Nat):Int))(hu:u=((k+1:Nat):Int))(hl:t.length<=1)(h1:i<a.length)(h2:k<b.length)(h:(pre++t)++plusT (a.drop (i+1)) (b.drop (k+1))=plusT a b)=>ih ((z,u),(pre++t).map eTm) ⟨i+1,k+1,pre++t,by rw [hz,hu],rfl,by omega,by omega,by simp;omega,h⟩ (by show(a.length-z.toNat)+(b.length-u.toNat)<(a.length-(i:Int).toNat)+(b.length-(k:Int).toNat);omega);have ni:iadd .i64 (i:Int) 1=((i+1:Nat):Int):=a0a (by omega);have nk:iadd .i64 (k:Int) 1=((k+1:Nat):Int):=a0a (by omega);clear ih
 by_cases hia:i<a.length
 ·have hx:=List.getElem?_eq_getElem hia;have hda:=a1p hx;generalize a[i]=x at hx hda;have hx2:a[Int.toNat (i:Int)]?=some x:=by rw [Int.toNat_natCast];exact hx
  have em:imin (i:Int) (isub .i64 ((a.map eTm).length:Int) 1)=(i:Int):=by rw [hla];exact b9o hia (by omega)
  refine qT rfl (decide_eq_true (by simp only [hla];omega)) ?_
  by_cases hkb:k<b.length
  ·have hy:=List.getElem?_eq_getElem hkb;have hdb:=a1p hy;generalize b[k]=y at hy hdb;have hy2:b[Int.toNat (k:Int)]?=some y:=by rw [Int.toNat_natCast];exact hy
   have en:imin (k:Int) (isub .i64 ((b.map eTm).length:Int) 1)=(k:Int):=by rw [hlb];exact b9o hkb (by omega)
   rw [hda,hdb,c6q,<-hda,<-hdb]at hJ;refine qN rfl (decide_eq_false (by simp only [hlb];omega)) ?_;refine qT rfl (decide_eq_true (by simp only [hla];omega)) ?_;refine qXi (g:=eTm) rfl (by show 0<=imin _ _;rw [em];exact Int.natCast_nonneg _) (by show a[Int.toNat (imin _ _)]?=some x;rw [em];exact hx2) ?_;refine qXi (g:=eTm) rfl (by show 0<=imin _ _;rw [en];exact Int.natCast_nonneg _) (by show b[Int.toNat (imin _ _)]?=some y;rw [en];exact hy2) ?_;refine qE rfl (by kernel_rfl) (by kernel_rfl) ?_
   by_cases c1:x.1<y.1
   ·rw [if_pos c1]at hJ;have g:=gA _ x ni hia (by rw [<-hJ];simp);rw [List.map_append]at g;refine qT rfl (decide_eq_true c1) ?_;refine qXi (g:=eTm) rfl (Int.natCast_nonneg _) hx2 ?_;refine qA 72 rfl rfl ?_ ?_;rotate_left;exact qB g (by kernel_rfl);all_goals (simp;omega)
   rw [if_neg c1]at hJ;refine qN rfl (decide_eq_false c1) ?_;refine qN rfl (decide_eq_false (by simp only [hla];omega)) ?_;refine qXi (g:=eTm) rfl (Int.natCast_nonneg _) hy2 ?_;refine qXi (g:=eTm) rfl (by show 0<=imin _ _;rw [em];exact Int.natCast_nonneg _) (by show a[Int.toNat (imin _ _)]?=some x;rw [em];exact hx2) ?_;refine qE rfl (by kernel_rfl) (by kernel_rfl) ?_
   by_cases c2:y.1<x.1
   ·rw [if_pos c2]at hJ;have g:=gB _ y nk hkb (by rw [<-hJ];simp);rw [List.map_append]at g;refine qT rfl (decide_eq_true c2) ?_;refine qXi (g:=eTm) rfl (Int.natCast_nonneg _) hy2 ?_;refine qA 72 rfl rfl ?_ ?_;rotate_left;exact qB g (by kernel_rfl);all_goals (simp;omega)
   rw [if_neg c2]at hJ;have hadd:=rfadd_e (ha x (List.mem_of_getElem? hx)) (hb y (List.mem_of_getElem? hy)) (by omega);have hs0:=b3w (r:=x.2+y.2);refine qN rfl (decide_eq_false c2) ?_;refine qXi (g:=eTm) rfl (Int.natCast_nonneg _) hx2 ?_;refine qXi (g:=eTm) rfl (Int.natCast_nonneg _) hy2 ?_;refine qK rfl hadd rfl ?_;refine qE rfl (by kernel_rfl) (by kernel_rfl) ?_
   by_cases c3:x.2+y.2=0
   ·rw [if_pos c3]at hJ;have g:=gC _ _ [] ni nk (by simp) hia hkb (by rw [<-hJ];simp);rw [List.append_nil]at g;refine qN rfl (by show(sg (x.2+y.2).num !=0)=false;rw [bne,hs0,decide_eq_true c3];rfl) ?_;exact qB g (by kernel_rfl)
   rw [if_neg c3]at hJ;have g:=gC _ _ [(x.1,x.2+y.2)] ni nk (by simp) hia hkb (by rw [<-hJ];simp);rw [List.map_append]at g;refine qT rfl (by show(sg (x.2+y.2).num !=0)=true;rw [bne,hs0,decide_eq_false c3];rfl) ?_;refine qXi (g:=eTm) rfl (Int.natCast_nonneg _) hx2 ?_;refine qA 72 rfl rfl ?_ ?_ (fun _=>rfl);rotate_left;refine qE rfl (by kernel_rfl) (by kernel_rfl) ?_;exact qB g (by kernel_rfl);all_goals (simp;omega)
  have hdb:b.drop k= []:=List.drop_eq_nil_of_le (by omega);rw [hdb,b8a,hda]at hJ;have g:=gA _ x ni hia (by rw [hdb,b8a,<-hJ];simp);rw [List.map_append]at g;refine qT rfl (decide_eq_true (by simp only [hlb];omega)) ?_;refine qE rfl (by kernel_rfl) (by kernel_rfl) ?_;refine qXi (g:=eTm) rfl (Int.natCast_nonneg _) hx2 ?_;refine qA 72 rfl rfl ?_ ?_;rotate_left;exact qB g (by kernel_rfl);all_goals (simp;omega)
 have hda:a.drop i= []:=List.drop_eq_nil_of_le (by omega);rw [hda,b8j]at hJ;refine qN rfl (decide_eq_false (by simp only [hla];omega)) ?_
 by_cases hkb:k<b.length
 ·have hy:=List.getElem?_eq_getElem hkb;have hdb:=a1p hy;generalize b[k]=y at hy hdb;have hy2:b[Int.toNat (k:Int)]?=some y:=by rw [Int.toNat_natCast];exact hy
  rw [hdb]at hJ;have g:=gB _ y nk hkb (by rw [hda,b8j,<-hJ];simp);rw [List.map_append]at g;refine qT rfl (decide_eq_true (by simp only [hlb];omega)) ?_;refine qN rfl (decide_eq_false (by simp only [hlb];omega)) ?_;refine qN rfl (decide_eq_false (by simp only [hla];omega)) ?_;refine qE rfl (by kernel_rfl) (by kernel_rfl) ?_;refine qT rfl (decide_eq_true (by simp only [hla];omega)) ?_;refine qE rfl (by kernel_rfl) (by kernel_rfl) ?_;refine qXi (g:=eTm) rfl (Int.natCast_nonneg _) hy2 ?_;refine qA 72 rfl rfl ?_ ?_;rotate_left;exact qB g (by kernel_rfl);all_goals (simp;omega)
 have hdb:b.drop k= []:=List.drop_eq_nil_of_le (by omega);rw [hdb,List.append_nil]at hJ;rw [<-hJ];refine qN rfl (decide_eq_false (by simp only [hlb];omega)) ?_;exact qR rfl ⟨rfl,rfl⟩
set_option linter.unusedVariables false
set_option maxHeartbeats 4000000
set_option maxRecDepth 100000
theorem a8o(n lo hi:Int):EvF tt 271 [I n,I lo,I hi] (B (btw n lo hi)):=by
 refine evF (eIn Tryz.func271 rfl rfl ?_);unfold btw
 by_cases h:lo<=n
 ·rw [decide_eq_true h];refine qT rfl (decide_eq_true h) ?_;exact qR rfl ⟨rfl,rfl⟩
 rw [decide_eq_false h];refine qN rfl (decide_eq_false h) ?_;exact qR rfl ⟨rfl,rfl⟩
theorem a7j(n lo hi:Int):EvF tt 219 [I n,I lo,I hi] (B (btw n lo hi)):=by
 refine evF (eIn Tryz.func219 rfl rfl ?_);unfold btw
 by_cases h:lo<=n
 ·rw [decide_eq_true h];refine qT rfl (decide_eq_true h) ?_;exact qR rfl ⟨rfl,rfl⟩
 rw [decide_eq_false h];refine qN rfl (decide_eq_false h) ?_;exact qR rfl ⟨rfl,rfl⟩
theorem e7h(n lo hi:Int):EvF tt 97 [I n,I lo,I hi] (B (btw n lo hi)):=by
 refine evF (eIn Tryz.func97 rfl rfl ?_);unfold btw
 by_cases h:lo<=n
 ·rw [decide_eq_true h];refine qT rfl (decide_eq_true h) ?_;exact qR rfl ⟨rfl,rfl⟩
 rw [decide_eq_false h];refine qN rfl (decide_eq_false h) ?_;exact qR rfl ⟨rfl,rfl⟩
theorem e5m{l:List Rcl}{sc day:Int}(hl:l.length<=100000):EvF tt 270 [L (l.map eRc),I sc,I day] (B (rcld l sc day)):=by
 refine evF (eIn Tryz.func270 rfl rfl ?_);refine qF l.length (fun z _=> [(7,I z)]) (fun _ _=> []) (fun j(_:Unit)=>rcld l sc day=rcld (l.drop j) sc day) () rfl rfl rfl ?_;rintro j _ hj hq ih;have hq:rcld l sc day=rcld (l.drop j) sc day:=hq;refine qXl (g:=eRc) (l:=l) rfl rfl rfl hj (fun c hc hd hlt=> ?_) (fun hd hj=> ?_)
 ·rw [hd,show rcld (c::l.drop (j+1)) sc day=((decide (c.Scale=sc)&&decide (c.Since<=day))||rcld (l.drop (j+1)) sc day)from rfl]at hq
  by_cases h1:c.Scale=sc
  ·refine qT rfl (by simpa using h1) ?_;refine qXi (g:=eRc) rfl (Int.natCast_nonneg _) (by rw [Int.toNat_natCast];exact hc) ?_
   by_cases h2:c.Since<=day
   ·clear ih;rw [decide_eq_true h1,decide_eq_true h2,Bool.and_self,Bool.true_or]at hq;rw [hq];refine qT rfl (decide_eq_true h2) ?_;exact qR rfl ⟨rfl,rfl⟩
   rw [decide_eq_false h2,Bool.and_false,Bool.false_or]at hq;have g:=ih _ () (a0a (by omega)) hlt hq;clear ih;refine qN rfl (decide_eq_false h2) ?_;exact qB g (by kernel_rfl)
  rw [decide_eq_false h1,Bool.false_and,Bool.false_or]at hq;have g:=ih _ () (a0a (by omega)) hlt hq;clear ih;refine qN rfl (by simpa using h1) ?_;exact qB g (by kernel_rfl)
 clear ih;rw [hd]at hq;rw [hq];exact qR rfl ⟨rfl,rfl⟩
set_option linter.unusedVariables false
set_option maxHeartbeats 4000000
set_option maxRecDepth 100000
theorem b3i(c:Crt):EvF tt 301 [.v (eCr c)] (B (a0o c)):=by
 have b1:=a8o c.Scale 0 29;have b2:=a8o c.Grams 0 1099511627776;have b3:=a8o c.PerMille 0 1000;have b4:=a8o c.Drift 0 10000000;refine evF (eIn Tryz.func301 rfl rfl ?_);refine qK rfl b1 rfl ?_;cases h1:btw c.Scale 0 29 with
 |false=>
  have hf:a0o c=false:=by simp [a0o,h1]
  rw [hf];refine qN rfl rfl ?_;exact qR rfl ⟨rfl,rfl⟩
 |true=>
 refine qT rfl rfl ?_
 by_cases h2:0<=c.From
 rotate_left
 ·have hf:a0o c=false:=by simp [a0o,h2]
  rw [hf];refine qN rfl (decide_eq_false h2) ?_;exact qR rfl ⟨rfl,rfl⟩
 refine qT rfl (decide_eq_true h2) ?_
 by_cases h3:c.From<=c.Until
 rotate_left
 ·have hf:a0o c=false:=by simp [a0o,h3]
  rw [hf];refine qN rfl (decide_eq_false h3) ?_;exact qR rfl ⟨rfl,rfl⟩
 refine qT rfl (decide_eq_true h3) ?_
 by_cases h4:c.Until<=100000
 rotate_left
 ·have hf:a0o c=false:=by simp [a0o,h4]
  rw [hf];refine qN rfl (decide_eq_false h4) ?_;exact qR rfl ⟨rfl,rfl⟩
 refine qT rfl (decide_eq_true h4) ?_;refine qK rfl b2 rfl ?_;cases h5:btw c.Grams 0 1099511627776 with
 |false=>
  have hf:a0o c=false:=by simp [a0o,h5]
  rw [hf];refine qN rfl rfl ?_;exact qR rfl ⟨rfl,rfl⟩
 |true=>
 refine qT rfl rfl ?_;refine qK rfl b3 rfl ?_;cases h6:btw c.PerMille 0 1000 with
 |false=>
  have hf:a0o c=false:=by simp [a0o,h6]
  rw [hf];refine qN rfl rfl ?_;exact qR rfl ⟨rfl,rfl⟩
 |true=>
 refine qT rfl rfl ?_;refine qK rfl b4 rfl ?_;have hf:a0o c=btw c.Drift 0 10000000:=by simp [a0o,h1,h2,h3,h4,h5,h6]
 rw [hf];exact qR rfl ⟨rfl,rfl⟩
set_option linter.unusedVariables false
set_option maxHeartbeats 4000000
set_option maxRecDepth 100000
theorem a5o{n m:Int}(h0:-9223372036854775808<=m-1)(h1:m<=9223372036854775807):EvF tt 219 [I n,I 0,I (isub .i64 m 1)] (B (idx n m)):=by
 have h:=a7j n 0 (m-1);rw [a0c (by omega) (by omega),show idx n m=btw n 0 (m-1) by unfold idx btw;congr 1;exact decide_eq_decide.2 (by omega)];exact h
theorem e2e(e:Evi):EvF tt 158 [.v (eEv e)] (B (b9e e)):=by
 refine evF (eIn Tryz.func158 rfl rfl ?_);refine qC rfl (fun h=> ?_) (fun h=> ?_);refine qR rfl ⟨congrArg B ?_,rfl⟩;rotate_left;refine qC rfl (fun h=> ?_) (fun h=> ?_);refine qR rfl ⟨congrArg B ?_,rfl⟩;rotate_left;refine qC rfl (fun h=> ?_) (fun h=> ?_);refine qR rfl ⟨congrArg B ?_,rfl⟩;rotate_left;refine qC rfl (fun h=> ?_) (fun h=> ?_);refine qR rfl ⟨congrArg B ?_,rfl⟩;rotate_left;refine qC rfl (fun h=> ?_) (fun h=> ?_);refine qR rfl ⟨congrArg B ?_,rfl⟩;rotate_left;refine qC rfl (fun h=> ?_) (fun h=> ?_);refine qR rfl ⟨congrArg B ?_,rfl⟩;rotate_left;refine qC rfl (fun h=> ?_) (fun h=> ?_);refine qR rfl ⟨congrArg B ?_,rfl⟩;rotate_left;refine qR rfl ⟨congrArg B ?_,rfl⟩;rotate_left;all_goals try simp only [List.length_map]at*
 all_goals grind [b9e]
structure Nums(e:Evi):Prop where
 mat:1<=e.Materials/\e.Materials<=6
 hou:0<=e.Households/\e.Households<=100
 sca:0<=e.Scales/\e.Scales<=30
 plc:e.Places.length<=100
 mov:e.Moves.length<=200
 crt:e.Certs.length<=100
 rcl:e.Recalls.length<=30
 pur:e.Purities.length<=200
theorem d7l{e:Evi}(h:Nums e)(p:Plc):EvF tt 159 [.v (eEv e),.v (ePl p)] (B (plcR e p)):=by
 have h1:=h.hou;have h2:=h.mat;have b1:=a5o (n:=p.Household) (m:=e.Households) (by omega) (by omega);have b2:=a5o (n:=p.Material) (m:=e.Materials) (by omega) (by omega);have b3:=a7j p.Kind 0 6;refine evF (eIn Tryz.func159 rfl rfl ?_);refine qC rfl (fun h=> ?_) (fun h=> ?_);refine qK rfl (b1) rfl ?_;refine qC rfl (fun h=> ?_) (fun h=> ?_);refine qK rfl (b2) rfl ?_;refine qR rfl ⟨congrArg B ?_,rfl⟩;rotate_left;refine qR rfl ⟨congrArg B ?_,rfl⟩;rotate_left;refine qK rfl (b3) rfl ?_;refine qC rfl (fun h=> ?_) (fun h=> ?_);refine qC rfl (fun h=> ?_) (fun h=> ?_);refine qR rfl ⟨congrArg B ?_,rfl⟩;rotate_left;refine qR rfl ⟨congrArg B ?_,rfl⟩;rotate_left;refine qR rfl ⟨congrArg B ?_,rfl⟩;rotate_left;all_goals grind [plcR,idx,btw]
theorem e2k{e:Evi}(h:Nums e):EvF tt 161 [.v (eEv e)] (B (a7u e)):=by
 have h1:=h.sca;have h2:=h.mat;have h3:=h.mov;have h4:=h.crt;have h5:=h.rcl;have h6:=h.pur;have b1:∀n,EvF tt 219 [I n,I 0,I (isub .i64 e.Scales 1)] (B (idx n e.Scales)):=fun n=>a5o (by omega) (by omega);have b2:∀n,EvF tt 219 [I n,I 0,I (isub .i64 e.Materials 1)] (B (idx n e.Materials)):=fun n=>a5o (by omega) (by omega);have b3:∀n,EvF tt 219 [I n,I 0,I (isub .i64 ((e.Moves.map eMo).length:Int) 1)] (B (idx n e.Moves.length)):=fun n=>by rw [List.length_map];exact a5o (by omega) (by omega)
 refine evF (eIn Tryz.func161 rfl rfl ?_);refine qF e.Certs.length (fun z _=> [(3,I z)]) (fun _ _=> []) (fun k(_:Unit)=>e.Certs.all (crtR e)=(e.Certs.drop k).all (crtR e)) () rfl rfl rfl ?_;intro k _ hk hJ ih;refine qXl rfl rfl rfl hk (fun a ha hd hlt=> ?_) (fun hd hk=> ?_)
 ·rw [hd,List.all_cons]at hJ;refine qK rfl (b1 _) rfl ?_;refine qC rfl (fun h=> ?_) (fun h=> ?_);refine qR rfl ⟨congrArg B ?_,rfl⟩;rotate_left;refine qC rfl (fun h=> ?_) (fun h=> ?_);refine qR rfl ⟨congrArg B ?_,rfl⟩;rotate_left;refine qK rfl (a7j _ _ _) rfl ?_;refine qC rfl (fun h=> ?_) (fun h=> ?_);refine qR rfl ⟨congrArg B ?_,rfl⟩;rotate_left;refine qK rfl (a7j _ _ _) rfl ?_;refine qC rfl (fun h=> ?_) (fun h=> ?_);refine qR rfl ⟨congrArg B ?_,rfl⟩;rotate_left;refine qK rfl (a7j _ _ _) rfl ?_;refine qC rfl (fun h=> ?_) (fun h=> ?_);refine qR rfl ⟨congrArg B ?_,rfl⟩;rotate_left;refine qK rfl (a7j _ _ _) rfl ?_;refine qC rfl (fun h=> ?_) (fun h=> ?_);refine qR rfl ⟨congrArg B ?_,rfl⟩;rotate_left;refine qB (ih _ () (a0a (by omega)) hlt ?_) (by kernel_rfl);rotate_left;all_goals clear ih
  all_goals grind [a7u,crtR,idx,btw]
 rw [hd,List.all_nil]at hJ;clear ih;refine qF e.Recalls.length (fun z _=> [(5,I z)]) (fun _ _=> []) (fun k(_:Unit)=>e.Recalls.all (rclR e)=(e.Recalls.drop k).all (rclR e)) () rfl rfl rfl ?_;intro k _ hk hJ2 ih;refine qXl rfl rfl rfl hk (fun a ha hd hlt=> ?_) (fun hd hk=> ?_)
 ·rw [hd,List.all_cons]at hJ2;refine qK rfl (b1 _) rfl ?_;refine qC rfl (fun h=> ?_) (fun h=> ?_);refine qE rfl (by kernel_rfl) (by kernel_rfl) ?_;refine qR rfl ⟨congrArg B ?_,rfl⟩;rotate_left;refine qXm rfl ⟨?_,?_⟩ fun v hv _=> ?_;rotate_left 2;refine qK rfl (a7j _ _ _) rfl ?_;refine qE rfl (by kernel_rfl) (by kernel_rfl) ?_;refine qC rfl (fun h=> ?_) (fun h=> ?_);refine qR rfl ⟨congrArg B ?_,rfl⟩;rotate_left;refine qB (ih _ () (a0a (by omega)) hlt ?_) (by kernel_rfl);rotate_left;all_goals clear ih
  all_goals try simp only [Int.toNat_natCast]at*
  all_goals try(rename_i hv _ _;rw [ha]at hv;cases hv)
  all_goals try(rename_i hv _;rw [ha]at hv;cases hv)
  all_goals grind [a7u,rclR,idx,btw]
 rw [hd,List.all_nil]at hJ2;clear ih;refine qF e.Purities.length (fun z _=> [(6,I z)]) (fun _ _=> []) (fun k(_:Unit)=>e.Purities.all (purR e)=(e.Purities.drop k).all (purR e)) () rfl rfl rfl ?_;intro k _ hk hJ3 ih;refine qXl rfl rfl rfl hk (fun a ha hd hlt=> ?_) (fun hd hk=> ?_)
 ·rw [hd,List.all_cons]at hJ3;refine qK rfl (b3 _) rfl ?_;refine qC rfl (fun h=> ?_) (fun h=> ?_);refine qR rfl ⟨congrArg B ?_,rfl⟩;rotate_left;refine qK rfl (b2 _) rfl ?_;refine qC rfl (fun h=> ?_) (fun h=> ?_);refine qR rfl ⟨congrArg B ?_,rfl⟩;rotate_left;refine qC rfl (fun h=> ?_) (fun h=> ?_);refine qR rfl ⟨congrArg B ?_,rfl⟩;rotate_left;refine qK rfl (a7j _ _ _) rfl ?_;refine qC rfl (fun h=> ?_) (fun h=> ?_);refine qR rfl ⟨congrArg B ?_,rfl⟩;rotate_left;refine qB (ih _ () (a0a (by omega)) hlt ?_) (by kernel_rfl);rotate_left;all_goals try simp only [List.length_map]at*
  all_goals clear ih
  all_goals grind [a7u,purR,idx,btw]
 rw [hd,List.all_nil]at hJ3;exact qR rfl ⟨congrArg B (by unfold a7u;rw [hJ,hJ2,hJ3];rfl),rfl⟩
def dayB(e:Evi):Nat->Int
 |0=>0
 |i+1=>match e.Moves[i]? with
  |some m=>m.Day
  |none=>0
def mvE(e:Evi)(last:Int)(m:Mve):Int:=if m.Day<last∨100000<m.Day then 17 else if movR e m=false then 1 else 0
theorem c8r{e:Evi}{last:Int}{m:Mve}{l:List Mve}:chkM e last (m::l)=if mvE e last m=0 then chkM e m.Day l else mvE e last m:=by
 show(if m.Day<last∨100000<m.Day then(17:Int)else if movR e m=false then 1 else chkM e m.Day l)=_;unfold mvE;split
 ·rfl
 split
 ·rfl
 rfl
theorem a6i{e:Evi}{i:Int}{p:Plc}(h:e.Places[i.toNat]?=some p):a4u e i=p.Kind:=by unfold a4u;rw [h]
set_option linter.unusedVariables false
set_option maxHeartbeats 4000000
set_option maxRecDepth 100000
theorem e2c{e:Evi}(h:Nums e){i:Nat}{m:Mve}(hm:e.Moves[i]?=some m)(hl:0<=dayB e i):EvF tt 160 [.v (eEv e),I i] (I (mvE e (dayB e i) m)):=by
 have h1:=h.sca;have h2:=h.plc;have h3:=h.mov;have hi:=(List.getElem?_eq_some_iff.1 hm).1;have b1:∀n,EvF tt 219 [I n,I 0,I (isub .i64 e.Scales 1)] (B (idx n e.Scales)):=fun n=>a5o (by omega) (by omega);have b2:∀n,EvF tt 219 [I n,I 0,I (isub .i64 ((e.Places.map ePl).length:Int) 1)] (B (idx n e.Places.length)):=fun n=>by rw [List.length_map];exact a5o (by omega) (by omega)
 have b3:=a7j m.Day 0 100000;have b4:=a7j m.Reading 0 1099511627776;refine evF (eIn Tryz.func160 rfl rfl ?_);refine qXi (g:=eMo) rfl (Int.natCast_nonneg _) (by rw [Int.toNat_natCast];exact hm) ?_;refine qK rfl b3 rfl ?_;cases hd:btw m.Day 0 100000 with
 |false=>
  have hv:mvE e (dayB e i) m=17:=by
   unfold mvE;have:¬(0<=m.Day/\m.Day<=100000):=fun h=>by rw [a2q.2 h]at hd;cases hd
   rw [if_pos (by omega)]
  rw [hv];refine qT rfl rfl ?_;refine qE rfl (by kernel_rfl) (by kernel_rfl) ?_;exact qR rfl ⟨rfl,rfl⟩
 |true=>
  have hd2:=a2q.1 hd;refine qN rfl rfl ?_;rcases i with _|j
  ·have hda:dayB e 0=0:=rfl;rw [hda];have nl:¬(m.Day<0∨100000<m.Day):=by omega
   refine qN rfl rfl ?_;refine qE rfl (by kernel_rfl) (by kernel_rfl) ?_;cases f1:idx m.From e.Places.length with
   |false=>
    have hv:mvE e 0 m=1:=by unfold mvE;rw [if_neg nl];simp [movR,f1]
    rw [hv];have b:=b2 m.From;rw [f1]at b;refine qK rfl b rfl ?_;refine qT rfl rfl ?_;exact qR rfl ⟨rfl,rfl⟩
   |true=>
   have b:=b2 m.From;rw [f1]at b;refine qK rfl b rfl ?_;refine qN rfl rfl ?_;cases f2:idx m.To e.Places.length with
   |false=>
    have hv:mvE e 0 m=1:=by unfold mvE;rw [if_neg nl];simp [movR,f2]
    rw [hv];have b:=b2 m.To;rw [f2]at b;refine qK rfl b rfl ?_;refine qT rfl rfl ?_;exact qR rfl ⟨rfl,rfl⟩
   |true=>
   have b:=b2 m.To;rw [f2]at b;refine qK rfl b rfl ?_;refine qN rfl rfl ?_
   by_cases f3:m.From=m.To
   ·have hv:mvE e 0 m=1:=by unfold mvE;rw [if_neg nl];simp [movR,f3]
    rw [hv];refine qT rfl (by simpa using f3) ?_;exact qR rfl ⟨rfl,rfl⟩
   refine qN rfl (by simpa using f3) ?_;have f1':=a3w.1 f1;have f2':=a3w.1 f2;have hp:=List.getElem?_eq_getElem (show m.From.toNat<e.Places.length by omega);have hq:=List.getElem?_eq_getElem (show m.To.toNat<e.Places.length by omega);generalize e.Places[m.From.toNat]=p at hp;generalize e.Places[m.To.toNat]=q at hq;have kp:=a6i hp;have kq:=a6i hq;have hmr:movR e m=if p.Kind=5∨p.Kind=6 then false else if p.Kind=0/\m.All=true then false else if q.Kind=0 then false else if m.Scale=-1 then decide (m.Reading=0)else idx m.Scale e.Scales&&btw m.Reading 0 1099511627776:=by
    unfold movR;rw [f1,f2,kp,kq,if_neg (by simp [f3])]
   have hmv:∀b,movR e m=b->mvE e 0 m=if b=false then 1 else 0:=fun b hb=>by unfold mvE;rw [if_neg nl,hb]
   have g1:0<=m.From:=f1'.1;have g2:0<=m.To:=f2'.1;clear f1' f2' f1 f2;refine qXi (g:=ePl) rfl (by omega) hp ?_
   by_cases c1:p.Kind=5
   ·rw [hmv false (by rw [hmr];simp [c1])];refine qT rfl (by simpa using c1) ?_;exact qR rfl ⟨rfl,rfl⟩
   refine qN rfl (by simpa using c1) ?_
   by_cases c2:p.Kind=6
   ·rw [hmv false (by rw [hmr];simp [c2])];refine qT rfl (by simpa using c2) ?_;exact qR rfl ⟨rfl,rfl⟩
   refine qN rfl (by simpa using c2) ?_;refine qXi (g:=ePl) rfl (by omega) hq ?_
   by_cases c3:q.Kind=0
   ·rw [hmv false (by rw [hmr];simp [c1,c2,c3])];refine qT rfl (by simpa using c3) ?_;exact qR rfl ⟨rfl,rfl⟩
   refine qN rfl (by simpa using c3) ?_;rw [if_neg (by simp [c1,c2])]at hmr;cases hal:m.All with
   |true=>
    refine qT rfl rfl ?_
    by_cases c4:p.Kind=0
    ·rw [hmv false (by rw [hmr];simp [hal,c4])];refine qT rfl (by simpa using c4) ?_;exact qR rfl ⟨rfl,rfl⟩
    rw [if_neg (by simp [c4]),if_neg c3]at hmr;refine qN rfl (by simpa using c4) ?_
    by_cases c5:m.Scale=-1
    ·rw [if_pos c5]at hmr;refine qT rfl (by simpa using c5) ?_
     by_cases c6:m.Reading=0
     ·rw [hmv true (by rw [hmr];simp [c6])];refine qN rfl (by simpa using c6) ?_;refine qN rfl (by simpa using c5) ?_;exact qR rfl ⟨rfl,rfl⟩
     rw [hmv false (by rw [hmr];simp [c6])];refine qT rfl (by simpa using c6) ?_;exact qR rfl ⟨rfl,rfl⟩
    rw [if_neg c5]at hmr;refine qN rfl (by simpa using c5) ?_;refine qT rfl (by simpa using c5) ?_;have b:=b1 m.Scale;cases c7:idx m.Scale e.Scales with
    |false=>
     rw [c7]at b;rw [hmv false (by rw [hmr];simp [c7])];refine qK rfl b rfl ?_;refine qT rfl rfl ?_;exact qR rfl ⟨rfl,rfl⟩
    |true=>
    rw [c7]at b;refine qK rfl b rfl ?_;refine qN rfl rfl ?_;cases c8:btw m.Reading 0 1099511627776 with
    |false=>
     rw [c8]at b4;rw [hmv false (by rw [hmr];simp [c8])];refine qK rfl b4 rfl ?_;refine qT rfl rfl ?_;exact qR rfl ⟨rfl,rfl⟩
    |true=>
    rw [c8]at b4;rw [hmv true (by rw [hmr];simp [c7,c8])];refine qK rfl b4 rfl ?_;refine qN rfl rfl ?_;exact qR rfl ⟨rfl,rfl⟩
   |false=>
    refine qN rfl rfl ?_;rw [if_neg (by simp [hal]),if_neg c3]at hmr
    by_cases c5:m.Scale=-1
    ·rw [if_pos c5]at hmr;refine qT rfl (by simpa using c5) ?_
     by_cases c6:m.Reading=0
     ·rw [hmv true (by rw [hmr];simp [c6])];refine qN rfl (by simpa using c6) ?_;refine qN rfl (by simpa using c5) ?_;exact qR rfl ⟨rfl,rfl⟩
     rw [hmv false (by rw [hmr];simp [c6])];refine qT rfl (by simpa using c6) ?_;exact qR rfl ⟨rfl,rfl⟩
    rw [if_neg c5]at hmr;refine qN rfl (by simpa using c5) ?_;refine qT rfl (by simpa using c5) ?_;have b:=b1 m.Scale;cases c7:idx m.Scale e.Scales with
    |false=>
     rw [c7]at b;rw [hmv false (by rw [hmr];simp [c7])];refine qK rfl b rfl ?_;refine qT rfl rfl ?_;exact qR rfl ⟨rfl,rfl⟩
    |true=>
    rw [c7]at b;refine qK rfl b rfl ?_;refine qN rfl rfl ?_;cases c8:btw m.Reading 0 1099511627776 with
    |false=>
     rw [c8]at b4;rw [hmv false (by rw [hmr];simp [c8])];refine qK rfl b4 rfl ?_;refine qT rfl rfl ?_;exact qR rfl ⟨rfl,rfl⟩
    |true=>
    rw [c8]at b4;rw [hmv true (by rw [hmr];simp [c7,c8])];refine qK rfl b4 rfl ?_;refine qN rfl rfl ?_;exact qR rfl ⟨rfl,rfl⟩
  have hj2:j<e.Moves.length:=by omega
  have hy:=List.getElem?_eq_getElem hj2;generalize e.Moves[j]=u at hy;have hlu:dayB e (j+1)=u.Day:=by show(match e.Moves[j]? with|some m=>m.Day|none=>0)=_;rw [hy]
  rw [hlu];rw [hlu]at hl;have em:imax (isub .i64 (((j+1:Nat):Int)) 1) 0=(j:Int):=by
   rw [a0c (by omega) (by omega)];unfold imax;split<;>omega
  refine qT rfl (decide_eq_true (by omega)) ?_;refine qXi (g:=eMo) rfl (by show 0<=imax (isub .i64 ((j+1:Nat):Int) 1) 0;rw [em];exact Int.natCast_nonneg _) (by show e.Moves[Int.toNat (imax (isub .i64 ((j+1:Nat):Int) 1) 0)]?=some u;rw [em,Int.toNat_natCast];exact hy) ?_;refine qE rfl (by kernel_rfl) (by kernel_rfl) ?_
  by_cases c0:m.Day<u.Day
  ·have hv:mvE e u.Day m=17:=by unfold mvE;rw [if_pos (.inl c0)]
   rw [hv];refine qT rfl (decide_eq_true c0) ?_;exact qR rfl ⟨rfl,rfl⟩
  refine qN rfl (decide_eq_false c0) ?_;have nl:¬(m.Day<u.Day∨100000<m.Day):=by omega
  clear hm hy em hlu;cases f1:idx m.From e.Places.length with
  |false=>
   have hv:mvE e u.Day m=1:=by unfold mvE;rw [if_neg nl];simp [movR,f1]
   rw [hv];have b:=b2 m.From;rw [f1]at b;refine qK rfl b rfl ?_;refine qT rfl rfl ?_;exact qR rfl ⟨rfl,rfl⟩
  |true=>
  have b:=b2 m.From;rw [f1]at b;refine qK rfl b rfl ?_;refine qN rfl rfl ?_;cases f2:idx m.To e.Places.length with
  |false=>
   have hv:mvE e u.Day m=1:=by unfold mvE;rw [if_neg nl];simp [movR,f2]
   rw [hv];have b:=b2 m.To;rw [f2]at b;refine qK rfl b rfl ?_;refine qT rfl rfl ?_;exact qR rfl ⟨rfl,rfl⟩
  |true=>
  have b:=b2 m.To;rw [f2]at b;refine qK rfl b rfl ?_;refine qN rfl rfl ?_
  by_cases f3:m.From=m.To
  ·have hv:mvE e u.Day m=1:=by unfold mvE;rw [if_neg nl];simp [movR,f3]
   rw [hv];refine qT rfl (by simpa using f3) ?_;exact qR rfl ⟨rfl,rfl⟩
  refine qN rfl (by simpa using f3) ?_;have f1':=a3w.1 f1;have f2':=a3w.1 f2;have hp:=List.getElem?_eq_getElem (show m.From.toNat<e.Places.length by omega);have hq:=List.getElem?_eq_getElem (show m.To.toNat<e.Places.length by omega);generalize e.Places[m.From.toNat]=p at hp;generalize e.Places[m.To.toNat]=q at hq;have kp:=a6i hp;have kq:=a6i hq;have hmr:movR e m=if p.Kind=5∨p.Kind=6 then false else if p.Kind=0/\m.All=true then false else if q.Kind=0 then false else if m.Scale=-1 then decide (m.Reading=0)else idx m.Scale e.Scales&&btw m.Reading 0 1099511627776:=by
   unfold movR;rw [f1,f2,kp,kq,if_neg (by simp [f3])]
  have hmv:∀b,movR e m=b->mvE e u.Day m=if b=false then 1 else 0:=fun b hb=>by unfold mvE;rw [if_neg nl,hb]
  have g1:0<=m.From:=f1'.1;have g2:0<=m.To:=f2'.1;clear f1' f2' f1 f2;refine qXi (g:=ePl) rfl (by omega) hp ?_
  by_cases c1:p.Kind=5
  ·rw [hmv false (by rw [hmr];simp [c1])];refine qT rfl (by simpa using c1) ?_;exact qR rfl ⟨rfl,rfl⟩
  refine qN rfl (by simpa using c1) ?_
  by_cases c2:p.Kind=6
  ·rw [hmv false (by rw [hmr];simp [c2])];refine qT rfl (by simpa using c2) ?_;exact qR rfl ⟨rfl,rfl⟩
  refine qN rfl (by simpa using c2) ?_;refine qXi (g:=ePl) rfl (by omega) hq ?_
  by_cases c3:q.Kind=0
  ·rw [hmv false (by rw [hmr];simp [c1,c2,c3])];refine qT rfl (by simpa using c3) ?_;exact qR rfl ⟨rfl,rfl⟩
  refine qN rfl (by simpa using c3) ?_;rw [if_neg (by simp [c1,c2])]at hmr;cases hal:m.All with
  |true=>
   refine qT rfl rfl ?_
   by_cases c4:p.Kind=0
   ·rw [hmv false (by rw [hmr];simp [hal,c4])];refine qT rfl (by simpa using c4) ?_;exact qR rfl ⟨rfl,rfl⟩
   rw [if_neg (by simp [c4]),if_neg c3]at hmr;refine qN rfl (by simpa using c4) ?_
   by_cases c5:m.Scale=-1
   ·rw [if_pos c5]at hmr;refine qT rfl (by simpa using c5) ?_
    by_cases c6:m.Reading=0
    ·rw [hmv true (by rw [hmr];simp [c6])];refine qN rfl (by simpa using c6) ?_;refine qN rfl (by simpa using c5) ?_;exact qR rfl ⟨rfl,rfl⟩
    rw [hmv false (by rw [hmr];simp [c6])];refine qT rfl (by simpa using c6) ?_;exact qR rfl ⟨rfl,rfl⟩
   rw [if_neg c5]at hmr;refine qN rfl (by simpa using c5) ?_;refine qT rfl (by simpa using c5) ?_;have b:=b1 m.Scale;cases c7:idx m.Scale e.Scales with
   |false=>
    rw [c7]at b;rw [hmv false (by rw [hmr];simp [c7])];refine qK rfl b rfl ?_;refine qT rfl rfl ?_;exact qR rfl ⟨rfl,rfl⟩
   |true=>
   rw [c7]at b;refine qK rfl b rfl ?_;refine qN rfl rfl ?_;cases c8:btw m.Reading 0 1099511627776 with
   |false=>
    rw [c8]at b4;rw [hmv false (by rw [hmr];simp [c8])];refine qK rfl b4 rfl ?_;refine qT rfl rfl ?_;exact qR rfl ⟨rfl,rfl⟩
   |true=>
   rw [c8]at b4;rw [hmv true (by rw [hmr];simp [c7,c8])];refine qK rfl b4 rfl ?_;refine qN rfl rfl ?_;exact qR rfl ⟨rfl,rfl⟩
  |false=>
   refine qN rfl rfl ?_;rw [if_neg (by simp [hal]),if_neg c3]at hmr
   by_cases c5:m.Scale=-1
   ·rw [if_pos c5]at hmr;refine qT rfl (by simpa using c5) ?_
    by_cases c6:m.Reading=0
    ·rw [hmv true (by rw [hmr];simp [c6])];refine qN rfl (by simpa using c6) ?_;refine qN rfl (by simpa using c5) ?_;exact qR rfl ⟨rfl,rfl⟩
    rw [hmv false (by rw [hmr];simp [c6])];refine qT rfl (by simpa using c6) ?_;exact qR rfl ⟨rfl,rfl⟩
   rw [if_neg c5]at hmr;refine qN rfl (by simpa using c5) ?_;refine qT rfl (by simpa using c5) ?_;have b:=b1 m.Scale;cases c7:idx m.Scale e.Scales with
   |false=>
    rw [c7]at b;rw [hmv false (by rw [hmr];simp [c7])];refine qK rfl b rfl ?_;refine qT rfl rfl ?_;exact qR rfl ⟨rfl,rfl⟩
   |true=>
   rw [c7]at b;refine qK rfl b rfl ?_;refine qN rfl rfl ?_;cases c8:btw m.Reading 0 1099511627776 with
   |false=>
    rw [c8]at b4;rw [hmv false (by rw [hmr];simp [c8])];refine qK rfl b4 rfl ?_;refine qT rfl rfl ?_;exact qR rfl ⟨rfl,rfl⟩
   |true=>
   rw [c8]at b4;rw [hmv true (by rw [hmr];simp [c7,c8])];refine qK rfl b4 rfl ?_;refine qN rfl rfl ?_;exact qR rfl ⟨rfl,rfl⟩
set_option linter.unusedVariables false
set_option maxHeartbeats 4000000
set_option maxRecDepth 100000
theorem c2g(e:Evi):EvF tt 92 [.v (eEv e)] (I (a1t e)):=by
 refine evF (eIn Tryz.func92 rfl rfl ?_);refine qK rfl (e2e e) rfl ?_;cases h1:b9e e with
 |true=>
  have:a1t e=6:=by unfold a1t;rw [if_pos h1]
  rw [this];refine qT rfl rfl ?_;exact qR rfl ⟨rfl,rfl⟩
 |false=>
  refine qN rfl rfl ?_
  by_cases hn:e.Materials<1∨e.Households<0∨e.Scales<0
  ·have:a1t e=1:=by
    unfold a1t;rw [if_neg (by simp [h1]),if_pos (by rcases hn with h|h|h<;>simp [h])]
   rw [this];refine qC rfl (fun h=> ?_) (fun h=> ?_);exact qR rfl ⟨rfl,rfl⟩;refine qC rfl (fun h=> ?_) (fun h=> ?_);exact qR rfl ⟨rfl,rfl⟩;refine qT rfl (decide_eq_true (by first|omega|(simp;done)|(simp;omega))) ?_;exact qR rfl ⟨rfl,rfl⟩;all_goals (exfalso;omega)
  simp only [not_or,Int.not_lt]at hn;have hN:Nums e:=by
   simp only [b9e,Bool.or_eq_false_iff,decide_eq_false_iff_not]at h1;exact⟨by omega,by omega,by omega,by omega,by omega,by omega,by omega,by omega⟩
  refine qN rfl (decide_eq_false (by omega)) ?_;refine qN rfl (decide_eq_false (by omega)) ?_;refine qN rfl (decide_eq_false (by omega)) ?_;have hfl:a1t e=if e.Places.all (plcR e)=false then 1 else if chkM e 0 e.Moves≠0 then chkM e 0 e.Moves else if a7u e=true then 0 else 1:=by
   unfold a1t;rw [if_neg (by simp [h1])]
   by_cases hp:e.Places.all (plcR e)=false
   ·rw [if_pos (by simp [hp]),if_pos hp]
   rw [if_neg (by simp only [not_or];exact⟨by omega,by omega,by omega,hp⟩),if_neg hp]
  rw [hfl];refine qF e.Places.length (fun z _=> [(3,I z)]) (fun _ _=> []) (fun k(_:Unit)=>e.Places.all (plcR e)=(e.Places.drop k).all (plcR e)) () rfl rfl rfl ?_;intro k _ hk hJ ih;have hJ:e.Places.all (plcR e)=(e.Places.drop k).all (plcR e):=hJ;have hpl:=hN.plc;refine qXl (g:=ePl) (l:=e.Places) rfl rfl rfl hk (fun a ha hd hlt=> ?_) (fun hd hk=> ?_)
  ·rw [hd,List.all_cons]at hJ;have b:=d7l hN a;cases hp:plcR e a with
   |false=>
    rw [hp,Bool.false_and]at hJ;rw [if_pos hJ];rw [hp]at b;clear ih;refine qK rfl (b) rfl ?_;refine qE rfl (by kernel_rfl) (by kernel_rfl) ?_;refine qT rfl rfl ?_;exact qR rfl ⟨rfl,rfl⟩
   |true=>
    rw [hp,Bool.true_and]at hJ;rw [hp]at b;have g:=ih _ () (a0a (by omega)) hlt hJ;clear ih;refine qK rfl (b) rfl ?_;refine qE rfl (by kernel_rfl) (by kernel_rfl) ?_;refine qN rfl rfl ?_;exact qB g (by kernel_rfl)
  rw [hd,List.all_nil]at hJ;clear ih;rw [if_neg (by simp [hJ])];have hmv:=hN.mov;refine qF e.Moves.length (fun z _=> [(4,I z)]) (fun _ _=> []) (fun k(_:Unit)=>chkM e 0 e.Moves=chkM e (dayB e k) (e.Moves.drop k)/\0<=dayB e k) () rfl rfl ⟨rfl,Int.le_refl _⟩ ?_;rintro k _ hk ⟨hJ2,hday⟩ ih
  by_cases hlt:k<e.Moves.length
  ·have ha:=List.getElem?_eq_getElem hlt;have hd:=a1p ha;generalize e.Moves[k]=a at ha hd;rw [hd,c8r]at hJ2;have b:=e2c hN ha hday;have hdn:dayB e (k+1)=a.Day:=by show(match e.Moves[k]? with|some m=>m.Day|none=>0)=_;rw [ha]
   refine qT rfl (decide_eq_true (by rw [List.length_map];omega)) ?_;refine qK rfl b rfl ?_
   by_cases h0:mvE e (dayB e k) a=0
   ·rw [if_pos h0]at hJ2;have hda:0<=a.Day:=by
     unfold mvE at h0;split at h0
     ·cases h0
     omega
    have g:=ih _ () (a0a (by omega)) hlt ⟨by rw [hdn];exact hJ2,by rw [hdn];exact hda⟩;clear ih;rw [h0];refine qN rfl rfl ?_;exact qB g (by kernel_rfl)
   rw [if_neg h0]at hJ2;rw [if_pos (by rw [hJ2];exact h0),hJ2];clear ih;refine qT rfl (bne_iff_ne.2 h0) ?_;exact qR rfl ⟨rfl,rfl⟩
  have hd:e.Moves.drop k= []:=List.drop_eq_nil_of_le (by omega);rw [hd]at hJ2;have hJ2:chkM e 0 e.Moves=0:=hJ2;rw [if_neg (by simp [hJ2])];clear ih;have b:=e2k hN;refine qN rfl (decide_eq_false (by rw [List.length_map];omega)) ?_;cases hs:a7u e with
  |true=>
   rw [hs]at b;refine qK rfl (b) rfl ?_;refine qN rfl rfl ?_;exact qR rfl ⟨rfl,rfl⟩
  |false=>
   rw [hs]at b;refine qK rfl (b) rfl ?_;refine qT rfl rfl ?_;exact qR rfl ⟨rfl,rfl⟩
set_option linter.unusedVariables false
set_option maxHeartbeats 4000000
set_option maxRecDepth 100000
theorem b7i{l:List Trm}{x:List Frac}{k j n:Nat}(hs:∀t∈l,SmF k t.2)(hX:PtOk x j)(hl:l.length<=n)(hn:n<=10000)(hb:1+n*(k+j+1)+k+j<3000000)(hj:j<8388608):
 EvF tt 214 [L (l.map eTm),L (fs x)] (.tup [.v (eF (if valB l x=true then toF (valT l (x.map toQ))else zeroF)),B (valB l x)]):=by
 have h1:EvF tt 100 [L (l.map eTm),I ((x.length:Nat):Int)] (B (rtT x.length (-1) l)):=a2w (by omega) hs (by omega) (by omega);have hxl:=hX.len;rw [show((x.length:Nat):Int)=(((fs x).length:Nat):Int) by rw [List.length_map]]at h1;refine evF (eIn Tryz.func214 rfl rfl ?_);unfold valB;rw [show((x.length:Nat):Int)=(((fs x).length:Nat):Int) by rw [List.length_map]];cases hr:rtT (((fs x).length:Nat):Int) (-1) l with
 |false=>
  rw [hr]at h1;refine qK rfl (h1) rfl ?_;refine qT rfl rfl ?_;exact qR rfl ⟨rfl,rfl⟩
 |true=>
  rw [hr]at h1;have h2:=b6a hX.dig hj (by omega);cases ha:x.all a0f with
  |false=>
   rw [ha]at h2;refine qK rfl (h1) rfl ?_;refine qN rfl rfl ?_;refine qK rfl (h2) rfl ?_;refine qT rfl rfl ?_;exact qR rfl ⟨rfl,rfl⟩
  |true=>
   rw [ha]at h2;obtain⟨e1,e2⟩:=b5d hX.dig ha;generalize x.map toQ=xs at e1 e2;subst e1;have e3:(xs.map toF).map toQ=xs:=by rw [List.map_map,show toQ∘toF=id from funext a7s,List.map_id]
   rw [List.length_map,List.length_map]at hr;have hv:=d4x hr;rw [b2a]at*;have h0:EvF tt 55 [I 0] (.v (eF (toF 0))):=a3b (x:=0) (by decide) (by decide);refine qK rfl h1 rfl ?_;refine qN rfl rfl ?_;refine qK rfl h2 rfl ?_;refine qN rfl rfl ?_;refine qK rfl h0 rfl ?_;show Tt _ _ _ fun r' H'=>r'= .tup [.v (eF (toF (valT l xs))),B true]/\H'= []
   refine qF l.length (fun z _=> [(7,I z)]) (fun _ q=> [(0,boxF q)]) (fun i q=>valT l xs=q+valT (l.drop i) xs/\SmF (1+i*(k+j+1)) q) 0 rfl rfl ⟨by show _=0+_;grind,smF_0.mono (by omega)⟩ ?_;rintro i q hi ⟨hq,hqs⟩ ih;have hq:valT l xs=q+valT (l.drop i) xs:=hq;have hqs:SmF (1+i*(k+j+1)) q:=hqs;refine qXl rfl rfl rfl hi (fun t ht hd hlt=> ?_) (fun hd hi=> ?_)
   ·obtain⟨v1,v2⟩:=hv t (List.mem_of_getElem? ht);have hxl:t.1.toNat<xs.length:=by omega
    have hat:=List.getElem?_eq_getElem hxl;generalize xs[t.1.toNat]=x at hat;have b1:=Nat.mul_le_mul_right (k+j+1) (show i<=n by omega);have s1:=hs t (List.mem_of_getElem? ht);have s2:=e2 x (List.mem_of_getElem? hat);have hm:=rfmul_e s1 s2 (by omega);have ha:=rfadd_e hqs (s1.mul s2) (by omega);have g:=ih _ (q+t.2*x) (a0a (by omega)) hlt ⟨by
     rw [hq,hd];show q+(t.2*xs.getD t.1.toNat 0+valT (l.drop (i+1)) xs)=q+t.2*x+valT (l.drop (i+1)) xs;rw [List.getD_eq_getElem?_getD,hat];show q+(t.2*x+valT (l.drop (i+1)) xs)=q+t.2*x+valT (l.drop (i+1)) xs
     grind,(hqs.add (s1.mul s2)).mono (by rw [Nat.add_mul];omega)⟩
    clear ih;refine qXi (g:=eTm) rfl (Int.natCast_nonneg _) (by rw [Int.toNat_natCast];exact ht) ?_;refine qXi (g:=fun r:Rat=>eF (toF r)) rfl v1 hat ?_;refine qK rfl hm rfl ?_;refine qE rfl (by kernel_rfl) (by kernel_rfl) ?_;refine qK rfl ha rfl ?_;exact qB g (by kernel_rfl)
   rw [hd]at hq;have hq:valT l xs=q:=by rw [hq];show q+0=q;grind
   rw [hq];exact qR rfl ⟨rfl,rfl⟩
theorem d5b{s:Sy}{xs:List Rat}{r:Rw}(hR:sysR s=true)(hr:r∈s.Rows)(hm:(xs.length:Int)=s.N):rtT xs.length (-1) r.Terms=true:=by
 unfold sysR at hR;simp only [Bool.and_eq_true]at hR;have h:=List.all_eq_true.1 hR.2 r hr;unfold rowR at h;simp only [Bool.and_eq_true]at h;rw [hm];exact h.1
theorem e2h{r:Rw}{xs:List Rat}{k j n:Nat}(hs:∀t∈r.Terms,SmF k t.2)(hv:SmF k r.Value)(hx:∀x∈xs,SmF j x)(hxl:xs.length<=10000)(hl:r.Terms.length<=n)(hn:n<=10000)(hb:1+n*(k+j+1)+k+j<3000000)(hj:j<4000000)(hj1:1<=j)(hR:rtT xs.length (-1) r.Terms=true)(hk:r.Kind=0∨r.Kind=1∨r.Kind=2):
 EvF tt 267 [.v (eRw r),L (qs xs)] (B (a8e xs r)):=by
 have hX:PtOk (xs.map toF) j:=⟨by rw [List.length_map];exact hxl,fun f hf=>by obtain⟨v,hv,rfl⟩:=List.mem_map.1 hf;exact a4a (hx v hv)⟩
 have h1:=b7i hs hX hl hn hb (by omega);have e3:(xs.map toF).map toQ=xs:=by rw [List.map_map,show toQ∘toF=id from funext a7s,List.map_id]
 have hall:(xs.map toF).all a0f=true:=by rw [List.all_eq_true];intro f hf;obtain⟨v,_,rfl⟩:=List.mem_map.1 hf;exact a2u v
 have hB:valB r.Terms (xs.map toF)=true:=by unfold valB;rw [List.length_map,hR,hall];rfl
 rw [hB,if_pos rfl,e3,b2a]at h1;have h2:=rfcmp_e (a4g hs hx hl hj1) hv (by omega);have hc:=a0q (valT r.Terms xs) r.Value;obtain⟨T,K,V⟩:=r;simp only at*;unfold a8e;simp only;generalize valT T xs=v at*;refine evF (eIn Tryz.func267 rfl rfl ?_);rcases hc with⟨h,e⟩|⟨h,e⟩|⟨h,e⟩
 ·rw [e]at h2;have ea:decide (V<=v)=false:=decide_eq_false (by grind);have eb:decide (v<=V)=true:=decide_eq_true (by grind);rw [ea,eb];rcases hk with rfl|rfl|rfl
  ·refine qK rfl h1 rfl ?_;refine qK rfl h2 rfl ?_;refine qT rfl rfl ?_;refine qN rfl rfl ?_;refine qN rfl rfl ?_;refine qT rfl rfl ?_;exact qR rfl ⟨rfl,rfl⟩
  ·refine qK rfl h1 rfl ?_;refine qK rfl h2 rfl ?_;refine qT rfl rfl ?_;refine qN rfl rfl ?_;refine qN rfl rfl ?_;refine qT rfl rfl ?_;exact qR rfl ⟨rfl,rfl⟩
  refine qK rfl h1 rfl ?_;refine qK rfl h2 rfl ?_;refine qT rfl rfl ?_;refine qN rfl rfl ?_;refine qN rfl rfl ?_;refine qT rfl rfl ?_;exact qR rfl ⟨rfl,rfl⟩
 ·rw [e]at h2;have ea:decide (V<=v)=true:=decide_eq_true (by grind);have eb:decide (v<=V)=true:=decide_eq_true (by grind);rw [ea,eb];rcases hk with rfl|rfl|rfl
  ·refine qK rfl h1 rfl ?_;refine qK rfl h2 rfl ?_;refine qT rfl rfl ?_;refine qT rfl rfl ?_;exact qR rfl ⟨rfl,rfl⟩
  ·refine qK rfl h1 rfl ?_;refine qK rfl h2 rfl ?_;refine qT rfl rfl ?_;refine qT rfl rfl ?_;exact qR rfl ⟨rfl,rfl⟩
  refine qK rfl h1 rfl ?_;refine qK rfl h2 rfl ?_;refine qT rfl rfl ?_;refine qT rfl rfl ?_;exact qR rfl ⟨rfl,rfl⟩
 rw [e]at h2;have ea:decide (V<=v)=true:=decide_eq_true (by grind);have eb:decide (v<=V)=false:=decide_eq_false (by grind);rw [ea,eb];rcases hk with rfl|rfl|rfl
 ·refine qK rfl h1 rfl ?_;refine qK rfl h2 rfl ?_;refine qT rfl rfl ?_;refine qN rfl rfl ?_;refine qT rfl rfl ?_;refine qT rfl rfl ?_;exact qR rfl ⟨rfl,rfl⟩
 ·refine qK rfl h1 rfl ?_;refine qK rfl h2 rfl ?_;refine qT rfl rfl ?_;refine qN rfl rfl ?_;refine qT rfl rfl ?_;refine qN rfl rfl ?_;refine qN rfl rfl ?_;exact qR rfl ⟨rfl,rfl⟩
 refine qK rfl h1 rfl ?_;refine qK rfl h2 rfl ?_;refine qT rfl rfl ?_;refine qN rfl rfl ?_;refine qT rfl rfl ?_;refine qN rfl rfl ?_;refine qN rfl rfl ?_;exact qR rfl ⟨rfl,rfl⟩
set_option linter.unusedVariables false
set_option maxHeartbeats 4000000
set_option maxRecDepth 100000
theorem e7a{s:Sy}{r:Rw}(hR:sysR s=true)(hr:r∈s.Rows):r.Kind=0∨r.Kind=1∨r.Kind=2:=by
 unfold sysR at hR;simp only [Bool.and_eq_true]at hR;have h:=List.all_eq_true.1 hR.2 r hr;unfold rowR at h;simp only [Bool.and_eq_true]at h;have:=a2q.1 h.2;omega
theorem d8j{s:Sy}{x:List Frac}{k j n:Nat}(hS:SyOk s k)(hX:PtOk x j)(ht:∀r∈s.Rows,r.Terms.length<=n)(hn:n<=10000)(hb:1+n*(k+j+1)+k+j<3000000)(hj:j<4000000)(hk:k<900000)(hj1:1<=j):
 EvF tt 215 [.v (eSy s),L (fs x)] (B (solB s x)):=by
 have h1:=a9g hS (by omega);have h2:=b6a hX.dig (by omega) (by have:=hX.len;omega);have hxl:=hX.len;have hsl:=hS.len;refine evF (eIn Tryz.func215 rfl rfl ?_);refine qK rfl h1 rfl ?_;unfold solB;cases hr:sysR s with
 |false=>
  refine qT rfl rfl ?_;exact qR rfl ⟨rfl,rfl⟩
 |true=>
  by_cases hl:(x.length:Int)=s.N
  ·rw [decide_eq_true hl];refine qN rfl rfl ?_;refine qN rfl (by rw [List.length_map];simp [hl]) ?_;cases ha:x.all a0f with
   |false=>
    rw [ha]at h2;refine qK rfl (h2) rfl ?_;refine qT rfl rfl ?_;exact qR rfl ⟨rfl,rfl⟩
   |true=>
    rw [ha]at h2;obtain⟨e1,e2⟩:=b5d hX.dig ha;generalize x.map toQ=xs at e1 e2;subst e1;rw [b2a]at*;rw [List.length_map]at hl hxl;have hql:(qs xs).length=xs.length:=List.length_map ..;refine qK rfl h2 rfl ?_;refine qN rfl rfl ?_;show Tt _ _ _ fun r' H'=>r'=B (xs.all (fun v=>decide (0<=v))&&s.Rows.all (a8e xs))/\H'= []
    refine qF xs.length (fun z _=> [(5,I z)]) (fun _ _=> []) (fun i(_:Unit)=>xs.all (fun v=>decide (0<=v))=(xs.drop i).all (fun v=>decide (0<=v))) () rfl rfl rfl ?_;rintro i ⟨⟩ hi hq ih;refine qXl rfl rfl rfl hi (fun v hv hd hlt=> ?_) (fun hd hi=> ?_)
    ·rw [hd,List.all_cons]at hq;have hsg:=rfsign_e (e2 v (List.mem_of_getElem? hv)) (by omega);have hc:=a0q v 0;rw [<-a5x]at hc;refine qK rfl hsg rfl ?_
     by_cases h0:v<0
     ·have:xs.all (fun v=>decide (0<=v))=false:=by rw [hq];simp;intro h;exfalso;grind
      rw [this];refine qT rfl (decide_eq_true (by grind)) ?_;exact qR rfl ⟨rfl,rfl⟩
     refine qN rfl (decide_eq_false (by grind)) ?_;exact qB (ih _ () (a0a (by omega)) hlt (by rw [hq,decide_eq_true (show(0:Rat)<=v by grind),Bool.true_and])) (by kernel_rfl)
    have hq:xs.all (fun v=>decide (0<=v))=true:=by rw [hq,hd];rfl
    rw [hq,Bool.true_and];clear ih;refine qF s.Rows.length (fun z _=> [(6,I z)]) (fun _ _=> []) (fun i(_:Unit)=>s.Rows.all (a8e xs)=(s.Rows.drop i).all (a8e xs)) () rfl rfl rfl ?_;rintro i ⟨⟩ hi hq ih;refine qXl rfl rfl rfl hi (fun r hrr hd hlt=> ?_) (fun hd hi=> ?_)
    ·rw [hd,List.all_cons]at hq;have hm:=List.mem_of_getElem? hrr;obtain⟨t1,t2,t3⟩:=hS.terms r hm;have hrow:=e2h t2 t3 e2 hxl (ht r hm) hn hb hj hj1 (d5b hr hm hl) (e7a hr hm);have g:=fun h:a8e xs r=true=>ih _ () (a0a (by omega)) hlt (by rw [hq,h,Bool.true_and]);clear ih;cases hh:a8e xs r with
     |false=>
      rw [hh]at hrow hq;rw [hq];refine qK rfl (hrow) rfl ?_;refine qT rfl rfl ?_;exact qR rfl ⟨rfl,rfl⟩
     |true=>
      rw [hh]at hrow;have g:=g hh;refine qK rfl (hrow) rfl ?_;refine qN rfl rfl ?_;exact qB g (by kernel_rfl)
    have hq:s.Rows.all (a8e xs)=true:=by rw [hq,hd];rfl
    rw [hq];exact qR rfl ⟨rfl,rfl⟩
  rw [decide_eq_false hl];refine qN rfl rfl ?_;refine qT rfl (by rw [List.length_map];simp [hl]) ?_;exact qR rfl ⟨rfl,rfl⟩
theorem c8q{l:List Trm}{c:Rat}{k j:Nat}(hs:∀t∈l,SmF k t.2)(hc:SmF j c)(hl:l.length<=10000)(hb:k+j<4000000):EvF tt 218 [L (l.map eTm),.v (eF (toF c))] (L ((if timB l c=true then timT l c else []).map eTm)):=by
 have h1:EvF tt 100 [L (l.map eTm),I 1500] (B (rtT 1500 (-1) l)):=a2w hl hs (by omega) (by omega);have h2:=a2p hc (by omega);have h3:=b3w (r:=c);refine evF (eIn Tryz.func218 rfl rfl ?_);refine qK rfl h1 rfl ?_;unfold timB;cases hr:rtT 1500 (-1) l with
 |false=>
  refine qT rfl rfl ?_;exact qR rfl ⟨rfl,rfl⟩
 |true=>
  refine qN rfl rfl ?_;refine qK rfl h2 rfl ?_;refine qN rfl rfl ?_
  by_cases h0:c=0
  ·rw [decide_eq_false (by simp [h0])];refine qT rfl (by show(sg c.num==0)=true;rw [h3,h0];rfl) ?_;exact qR rfl ⟨rfl,rfl⟩
  rw [decide_eq_true h0];refine qN rfl (by show(sg c.num==0)=false;rw [h3];exact decide_eq_false h0) ?_;show Tt _ _ _ fun r' H'=>r'=L ((timT l c).map eTm)/\H'= []
  refine qF l.length (fun z _=> [(6,I z)]) (fun _ o=> [(0,.row 131 5 o)]) (fun i o=>o=(timT (l.take i) c).map eTm) [] rfl rfl rfl ?_;rintro i o hi rfl ih;refine qXl rfl rfl rfl hi (fun t ht hd hlt=> ?_) (fun hd hi=> ?_)
  ·have hm:=rfmul_e (hs t (List.mem_of_getElem? ht)) hc hb;have g:=ih _ ((timT (l.take (i+1)) c).map eTm) (a0a (by omega)) hlt rfl;clear ih;refine qK rfl hm rfl ?_;refine qE rfl (by kernel_rfl) (by kernel_rfl) ?_;refine qXi (g:=eTm) rfl (Int.natCast_nonneg _) (by rw [Int.toNat_natCast];exact ht) ?_;refine qAz 72 ((timT (l.take (i+1)) c).map eTm) rfl rfl (by rw [a1h ht];unfold timT;rw [List.map_append,List.map_append];rfl) (by show szOk 5 _=true;rfl) (by simp [timT];omega) ?_;refine qE rfl (by kernel_rfl) (by kernel_rfl) ?_;exact qB g (by kernel_rfl)
  rw [hi,List.take_length];exact qR rfl ⟨rfl,rfl⟩
theorem e8t{l:List Trm}{k:Nat}(hs:∀t∈l,SmF k t.2)(hl:l.length<=10000)(hb:k<3000000):EvF tt 157 [L (l.map eTm)] (L ((if timB l (-1)=true then timT l (-1)else []).map eTm)):=by
 have h0:EvF tt 55 [I (-1)] (.v (eF (toF (-1)))):=a3b (x:=-1) (by decide) (by decide);have h1:=c8q hs (c:=-1) (j:=4) (a3r (x:=-1) (by decide)) hl (by omega);refine evF (eIn Tryz.func157 rfl rfl ?_);refine qK rfl (h0) rfl ?_;refine qK rfl (h1) rfl ?_;exact qR rfl ⟨rfl,rfl⟩
theorem c3f{a b c:Rat}{j k:Nat}(ha:SmF j a)(hb:SmF k b)(hc:SmF k c)(hk:j+2*k<3000000):EvF tt 169 [.v (eF (toF a)),.v (eF (toF b)),.v (eF (toF c))] (.v (eF (toF (a+b*c)))):=by
 have h1:=rfmul_e hb hc (by omega);have h2:=rfadd_e ha (hb.mul hc) (by omega);refine evF (eIn Tryz.func169 rfl rfl ?_);refine qK rfl (h1) rfl ?_;refine qK rfl (h2) rfl ?_;exact qR rfl ⟨rfl,rfl⟩
def b3h(l:List Trm)(v:Int):Rat:=((l.find? fun t=>t.1==v).map (·.2)).getD 0
theorem c2i{l:List Trm}{v:Int}(hl:l.length<=10000):EvF tt 102 [L (l.map eTm),I v] (.v (eF (toF (b3h l v)))):=by
 have h0:EvF tt 55 [I 0] (.v (eF (toF 0))):=a3b (x:=0) (by decide) (by decide);refine evF (eIn Tryz.func102 rfl rfl ?_);refine qF l.length (fun z _=> [(5,I z)]) (fun _ _=> []) (fun j(_:Unit)=>b3h l v=b3h (l.drop j) v) () rfl rfl rfl ?_;rintro i _ hi hq ih;have hq:b3h l v=b3h (l.drop i) v:=hq;refine qXl rfl rfl rfl hi (fun t ht hd hlt=> ?_) (fun hd hi=> ?_)
 ·rw [hd]at hq;have e:b3h (t::l.drop (i+1)) v=if t.1=v then t.2 else b3h (l.drop (i+1)) v:=by
   unfold b3h
   by_cases h:t.1=v
   ·rw [List.find?_cons_of_pos (by simpa using h),if_pos h];rfl
   rw [List.find?_cons_of_neg (by simpa using h),if_neg h]
  rw [e]at hq
  by_cases h:t.1=v
  ·clear ih;rw [if_pos h]at hq;rw [hq];refine qT rfl (by simpa using h) ?_;refine qXi (g:=eTm) rfl (Int.natCast_nonneg _) (by rw [Int.toNat_natCast];exact ht) ?_;exact qR rfl ⟨rfl,rfl⟩
  rw [if_neg h]at hq;have g:=ih _ () (a0a (by omega)) hlt hq;clear ih;refine qN rfl (by simpa using h) ?_;exact qB g (by kernel_rfl)
 clear ih;rw [hd]at hq;rw [hq,show b3h [] v=0 from rfl];refine qK rfl (h0) rfl ?_;exact qR rfl ⟨rfl,rfl⟩
end Dp
end Go.Proofs.YtjegnogjkddnbaaGreatDoor
