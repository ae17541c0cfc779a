/- Several texts in one, for FormStraight.card: what the theorem leans on. -/
import Derived.Laws.CopyRow
import Derived.Shelf.Spec.SlicesGrow
import Derived.Test.YthaegflpecbfgaaGreatDoorRows
import Derived.KernelRfl
import Derived.Test.YthaegflpecbfgaaGreatDoorPs4
set_option maxHeartbeats 1000000
set_option maxRecDepth 1000000
set_option linter.unusedVariables false
set_option linter.unusedSimpArgs false
namespace Go.Proofs.YthaegflpecbfgaaGreatDoor.Rt
open Go Go.RowKit
set_option linter.unusedVariables false
set_option linter.unusedSimpArgs false
def wsl(len:Nat)(a b:Int):Option Unit:=if 0<=a/\a<=b/\b<=(len:Int)/\a<(len:Int)then some ()else none
def cpy{α:Type}(xs:List α)(lo:Nat)(ys:List α):List α:=xs.take lo++ys++xs.drop (lo+ys.length)
section
variable{P:Program}{Q:Exit->Act->World->Prop}{n d:Nat}{env:Env}{w w0:World}{opr:Array Oper}{rest:List Oper}{ty:TypeId}{pos:String}{es:Array Edge}{g:Option (Nat×Bool)}{F F0:Frz}{X:List Nat}{O:List OE}
theorem d7a{α:Type}{r:Rp α}{x y:Operand}{dT sT el e:TypeId}{m c p lo sl sc dl dc:Nat}{a da sa:Option Addr}{us cs:List Value}{xs ys:List α}(hu:P.underlying dT=some (.slice el))(hS:SizeIs P el r.k)(hg:isOn opr env g=true)(hn:Nat.blt d n=true)(h:HS F0 w0 X F O w)
 (hx:opv env x=some (.slice da dl dc)) (hy:opv env y=some (.slice sa sl sc)) (hp:O[p]?=some (.row e r.k a m c us)) (hl:RowN r F m us xs) (hd:0<Nat.min sl dl->∃b,a=some ⟨b,0,none⟩/\da=some ⟨b,lo*r.k,none⟩) (hfit:lo+dl<=m)
 (hs:0<Nat.min sl dl->∃b o,sa=some ⟨b,o,none⟩/\∀(j:Nat)v,cs[j]?=some v->w.cell? ⟨b,o+j,none⟩=some v) (hcl:cs.length=Nat.min sl dl*r.k) (hys:ys.length=Nat.min sl dl) (hR:RowR r F cs ys)
 (k:∀w' us',HS F0 w0 X F (O.set p (.row e r.k a m c us')) w'->RowN r F m us' (cpy xs lo ys)->RW P opr Q rest n ((d,.int .i64 (Nat.min sl dl:Nat))::env) w'):
 RW P opr Q (⟨some d,.call ⟨.builtin .copy, #[x,y], #[dT,sT]⟩,ty,pos,es,g⟩::rest) n env w:=by
 have hmin:Nat.min sl dl<=dl:=Nat.min_le_right ..
 rcases Nat.eq_zero_or_pos (Nat.min sl dl)with h0|hpos
 ·have hy0:ys= []:=List.length_eq_zero_iff.1 (by omega)
  subst hy0
  have hcp:cpy xs lo ([]:List α)=xs:=by unfold cpy;simp
  have hset:O.set p (.row e r.k a m c us)=O:=by
   obtain⟨hlt,hget⟩:=List.getElem?_eq_some_iff.1 hp
   rw [<-hget];exact List.set_getElem_self ..
  refine b4m (w':=w) rfl (by simpa using hn) hg (v:= .int .i64 (Nat.min sl dl:Nat)) (fun a' ha=> ?_) (k w us (by rw [hset];exact h) (by rw [hcp];exact hl))
  have e1:∀a:Addr,(loadCells a 0).run P w= .ok #[] w:=fun a=>run_loadCells_list (P:=P) w a [] (fun j v hj=>by simp at hj)
  have h0':min sl dl=0:=h0
  cases sa<;>cases da<;>simp [execOp,resolve,invoke,builtin,ha.op hx,ha.op hy,Builtin.copy_,underlying,hu,Builtin.lenOf,Builtin.firstCells,hS w,h0,h0',e1,storeCells,goInt]
 ·obtain⟨b,rfl,rfl⟩:=hd hpos
  obtain⟨b2,o2,rfl,hsrc⟩:=hs hpos
  have hm:0<m:=by omega
  obtain⟨b',cur,ha',hb',hblk,hcur,⟨hxl,hbound⟩,hst⟩:=OE.access (h.get hp) (e:=e) (k:=r.k) (a:=some ⟨b,0,none⟩) (m:=m) (c:=c) (xs:=us) (base:=0) rfl hm
  cases ha'
  have hle:lo*r.k+cs.length<=us.length:=by
   rw [hxl,hcl,<-Nat.add_mul]
   exact Nat.mul_le_mul_right _ (by omega)
  have h1:=hR.one
  have hrun:=run_storeCells_at P b (lo*r.k) e cs 0 cur w hb' (by omega) h1
  have hok:=hst (lo*r.k) cs hle
  have hload:=run_loadCells_list (P:=P) w ⟨b2,o2,none⟩ cs (fun j v hj=>by rw [a7n];exact hsrc j v hj)
  rw [hcl]at hload
  simp only [Nat.zero_add]at hok
  simp only [Nat.add_zero]at hrun
  have hnew:RowN r F m (us.take (lo*r.k)++cs++us.drop (lo*r.k+cs.length)) (cpy xs lo ys):=by
   obtain⟨hl1,hl2⟩:=hl
   refine⟨?_,?_⟩
   ·unfold cpy
    simp only [List.length_append,List.length_take,List.length_drop]
    omega
   ·unfold cpy
    have e1:lo*r.k+cs.length=(lo+ys.length)*r.k:=by rw [hcl,hys,Nat.add_mul]
    rw [e1]
    exact RowR.append (hl2.drop _) (RowR.append hR (hl2.take lo))
  refine b4m (w':=w.setRow b (cur.toList.take (lo*r.k)++cs++cur.toList.drop (lo*r.k+cs.length)).toArray) rfl (by simpa using hn) hg (v:= .int .i64 (Nat.min sl dl:Nat)) (fun a' ha=> ?_) (k _ _ (h.upd hp (by rw [hblk];exact b4v w b _) hok (fun b1 hb1=> .inl hb1)) hnew)
  have hload':(loadCells ⟨b2,o2,none⟩ (min sl dl*r.k)).run P w= .ok cs.toArray w:=hload
  simp [execOp,resolve,invoke,builtin,ha.op hx,ha.op hy,Builtin.copy_,underlying,hu,Builtin.lenOf,Builtin.firstCells,hS w,hload,hload',hrun,goInt]
end
section
variable{P:Program}(T:Tbl P)
def e1t(e:AE T.ty)(H:List (AO T.ty)):Op->Option (QV T.ty)
 | .slice t x lo hi none=>match opA e x,T.und t with
   |some (.row i),some (.slice el)=>match T.size el,H[i]? with
    |some q,some (.row _ q' c xs)=>match Nat.beq q q',Nat.beq q' (T.rp c).k,bndA e 0 lo,bndA e xs.length hi with
     |true,true,some a,some b=>some ⟨Unit,wsl xs.length a b,fun _=> .rw i a.toNat b.toNat⟩
     |_,_,_,_=>none
    |_,_=>none
   |_,_=>none
 |_=>none
def evSw(n:Nat)(s:St T.ty):Option (EV T.ty):=match s with
 |⟨.ops all (o::l),k,e,H⟩=>match a9b all e o.guard,o.dst with
  |true,some d=>match Nat.blt d n,e1t T e H o.op with
   |true,some q=>some ⟨q.α,q.x,fun v=>⟨.ops all l,k,(d,q.v v)::e,H⟩⟩
   |_,_=>none
  |_,_=>none
 |⟨.mix all (.tk i p) ks el,k,e,H⟩=>match all[i]?,c6i ks H with
  |some o,true=>match a9b all e o.guard,o.dst with
   |true,some d=>match Nat.blt d n,e1t T e H o.op with
    |true,some q=>some ⟨q.α,q.x,fun v=>⟨.mix all p ks el,k,(d,q.v v)::e,H⟩⟩
    |_,_=>none
   |_,_=>none
  |_,_=>none
 |_=>none
structure CV(ty:Nat->Type)where
 α:Type
 xs:List α
 lo:Nat
 ys:List α
 nx:List α->St ty
def evCp(n:Nat)(s:St T.ty):Option (CV T.ty):=match s with
 |⟨.ops all (o::l),k,e,H⟩=>match a9b all e o.guard,o.dst,o.op with
  |true,some d,.call ⟨.builtin .copy,args,ts⟩=>match Nat.blt d n,args.toList,ts.toList with
   |true,[x,y],[dT,_]=>match T.und dT with
    |some (.slice el)=>match T.size el,opA e x,opA e y with
     |some q,some (.row i),some (.sl c ys)=>match H[i]? with
      |some (.row e2 q' c' xs)=>match d0r c' c xs,Nat.beq q (T.rp c).k,Nat.beq q' (T.rp c).k with
       |some xs',true,true=>some ⟨T.ty c,xs',0,ys.take xs'.length,fun v=>⟨.ops all l,k,(d,.int .i64 (Nat.min ys.length xs'.length:Nat))::d5p i e,(d1m i H).set i (.row e2 q c v)⟩⟩
       |_,_,_=>none
      |_=>none
     |some q,some (.rw i lo hi),some (.rw i2 lo2 hi2)=>match Nat.beq i2 i,H[i]? with
      |true,some (.row e2 q' c xs)=>match Nat.beq q (T.rp c).k,Nat.beq q' (T.rp c).k with
       |true,true=>some ⟨T.ty c,xs,lo,(xs.drop lo2).take (Nat.min (hi2-lo2) (hi-lo)),fun v=>⟨.ops all l,k,(d,.int .i64 (Nat.min (hi2-lo2) (hi-lo):Nat))::d5p i e,(d1m i H).set i (.row e2 q c v)⟩⟩
       |_,_=>none
      |_,_=>none
     |_,_,_=>none
    |_=>none
   |_,_,_=>none
  |_,_,_=>none
 |_=>none
end
section
variable{P:Program}{T:Tbl P}{n:Nat}{F0:Frz}{w0:World}{X:List Nat}{ρ:Type}{Q:Exit->Act->World->Prop}{Kz:Snap}
theorem d2v{R:List OE}{F:Frz}{e:AE T.ty}{m:Env}{H:List (AO T.ty)}{K:Snap}{W:World->Prop}(hE:ConcE T.rp R F e m)(hH:RelH T.rp K R F H R)(hR:c5s R)(hC:∀(i:Nat)e q a m n xs,R[i]?=some (OE.row e q a m n xs)->m<=n){o:Oper}{q:QV T.ty}(h:e1t T e H o.op=some q)(v:q.α)(hv:q.x=some v):∃u,Conc T.rp R F (q.v v) u/\c4j P W m o u:=by
 obtain⟨dst,op,type,pos,after,guard⟩:=o
 dsimp only at h
 unfold e1t at h
 split at h
 ·rename_i t x lo hi
  split at h
  ·rename_i i el hx hu
   split at h
   ·rename_i q0 el' q' c xs hS hi'
    split at h
    ·rename_i a b hk hk2 ha0 hb0
     cases h
     dsimp only at hv
     unfold wsl at hv
     split at hv
     ·rename_i hc
      obtain⟨c1,c2,c3,c4⟩:=hc
      obtain⟨p,rfl⟩:=Int.eq_ofNat_of_zero_le c1
      obtain⟨z,rfl⟩:=Int.eq_ofNat_of_zero_le (show 0<=b by omega)
      have hk:=Nat.eq_of_beq_eq_true hk
      obtain⟨u,h1,e2,q2,a2,m2,n2,us,g1,g2⟩:=a0v hE hx
      subst g2
      obtain⟨en,k1,a3,m3,n3,us3,rfl,k2⟩:=hH.2 i _ hi'
      rw [g1]at k1;cases k1
      have hml:=k2.1
      obtain⟨bb,rfl⟩:=hR i _ _ _ _ _ _ g1 (by omega)
      have hcap:=hC i _ _ _ _ _ _ g1
      have hS:=T.sizeOk hS
      subst hk
      have hne:¬n2=p:=by omega
      have h1':p<=z:=by omega
      have hq:z<=n2:=by omega
      have f1:∀(w:World)(c:BoundsCode)(y:Nat),z<=y->(Instr.sliceBound (.int .i64 (z:Int)) y c).run P w= .ok z w:=fun w c y hy=>by simp [Instr.sliceBound,asIntOf,hy]
      have f2:∀(w:World)(c:BoundsCode)(y:Nat),p<=y->(Instr.sliceBound (.int .i64 (p:Int)) y c).run P w= .ok p w:=fun w c y hy=>by simp [Instr.sliceBound,asIntOf,hy]
      have hu:=T.undOk hu
      have hadd:∀d:Nat,(⟨bb,0,none⟩:Addr).add d=⟨bb,d,none⟩:=fun d=>by rw [a7n,Nat.zero_add]
      refine⟨.slice (some ⟨bb,p*q0,none⟩) (z-p) (n2-p),⟨el',q0,bb,m2,n2,us,g1,by simp;omega,by simp;omega,by simp;omega,by simp⟩,fun w _ _ _ ha=> ?_⟩
      rcases c0h hE ha0 with⟨rfl,hp0⟩|⟨xl,rfl,h5⟩<;>rcases c0h hE hb0 with⟨rfl,hz0⟩|⟨xh,rfl,h6⟩
      ·obtain rfl:p=0:=by omega
       obtain rfl:z=m2:=by omega
       simp [execOp,ha.op h1,Instr.sliceAt,Instr.slice,Instr.sliceBounds,underlying,hu,f1,f2,h1',hq,hne,hadd,hS w]
      ·obtain rfl:p=0:=by omega
       simp [execOp,ha.op h1,ha.op h6,Instr.sliceAt,Instr.slice,Instr.sliceBounds,underlying,hu,f1,f2,h1',hq,hne,hadd,hS w]
      ·obtain rfl:z=m2:=by omega
       simp [execOp,ha.op h1,ha.op h5,Instr.sliceAt,Instr.slice,Instr.sliceBounds,underlying,hu,f1,f2,h1',hq,hne,hadd,hS w]
      ·simp [execOp,ha.op h1,ha.op h5,ha.op h6,Instr.sliceAt,Instr.slice,Instr.sliceBounds,underlying,hu,f1,f2,h1',hq,hne,hadd,hS w]
     ·cases hv
    ·cases h
   ·cases h
  ·cases h
 ·cases h
theorem d8v{R:List OE}{F:Frz}{w:World}(h:HS F0 w0 X F R w):∀(i:Nat)e q a m n xs,R[i]?=some (OE.row e q a m n xs)->m<=n:=by
 intro i e q a m n xs hi
 have:=h.own _ (List.mem_of_getElem? hi)
 rcases this.2 with⟨h1,h2⟩|⟨g,cap,cur,h1,h2,h3,h4,h5,h6⟩
 ·omega
 ·cases h1;exact h4
theorem gSw{r:ρ}{α:Type}{x:Option α}{g:α->Option ρ}{nx:α->St T.ty}{s:St T.ty}(h:evSw T n (rn T n s)=some ⟨α,x,nx⟩)(k:∀v,G T Q n F0 w0 X Kz r (g v) (nx v)):G T Q n F0 w0 X Kz r (x.bind g) s:=fun hm=>by
 obtain⟨v,hv,hm⟩:=bind_some hm
 refine a7k ?_
 have k:=k v hm
 revert h
 generalize rn T n s=s2
 intro h
 unfold evSw at h
 split at h
 ·rename_i all o l its e H
  split at h
  ·rename_i d hg hd
   split at h
   ·rename_i q' hn hq
    cases h
    intro R F m w h1 h2 h3 hX
    obtain⟨u,hu,hr⟩:=d2v (P:=P) (W:=CH F0 w0 X F R) h1 h2 h3.rows (d8v h3) hq v hv
    exact a6t hd (by simpa using hn) (a3g h1 hg) (fun a ha=>hr w ⟨F,Frz.refl F,h3⟩ n a ha) (k R F ((d,u)::m) w (h1.put hu) h2 h3 hX)
   ·cases h
  ·cases h
 ·rename_i all i p ks el its e H
  split at h
  ·rename_i o hi hk
   split at h
   ·rename_i d hg hd
    split at h
    ·rename_i q' hn hq
     cases h
     intro R F m w h1 h2 h3 hX hF listed hp
     have hp:=d6d hp
     obtain⟨u,hu,hr⟩:=d2v (P:=P) (W:=SK Kz ks) h1 h2 h3.rows (d8v h3) hq v hv
     exact c2v i hi (a8g hp.1).1 (a8g hp.1).2.1 (a8g hp.1).2.2 hd hn (a3g h1 hg) (e1o hk h2 h3) (fun w' hw' a ha=>hr w' hw' n a ha) (k R F ((d,u)::m) w (h1.put hu) h2 h3 hX hF _ hp.2)
    ·cases h
   ·cases h
  ·cases h
 ·cases h
theorem e6k{s:St T.ty}{q:CV T.ty}(h:evCp T n s=some q)(k:Sm T Q n F0 w0 X Kz (q.nx (cpy q.xs q.lo q.ys))):Sm T Q n F0 w0 X Kz s:=by
 unfold evCp at h
 split at h
 ·rename_i all o l its e H
  split at h
  ·rename_i d args ts hg hd ho
   split at h
   ·rename_i x y dT sT hn hargs hts
    split at h
    ·rename_i el hu
     obtain⟨dst,op,type,pos,after,guard⟩:=o
     dsimp only at hg hd ho
     subst hd;subst ho
     obtain⟨args⟩:=args
     obtain⟨ts⟩:=ts
     simp only at hargs hts
     subst hargs;subst hts
     split at h
     ·rename_i q0 i c ys hS hx hy
      split at h
      ·rename_i e2 q' c' xs hi
       split at h
       ·rename_i xs' hcast hk1 hk2
        cases h
        dsimp only at k
        obtain⟨e1,e3⟩:=b9s hcast
        subst e1
        have e3:xs'=xs:=e3
        subst e3
        have hk1:=Nat.eq_of_beq_eq_true hk1
        have hk2:=Nat.eq_of_beq_eq_true hk2
        subst hk2
        have hS:=T.sizeOk hS
        subst hk1
        intro R F mm w h1 h2 h3 hX
        obtain⟨ux,g1,e4,q4,a4,m4,n4,us,g2,rfl⟩:=a0v h1 hx
        obtain⟨uy,y1,sa,sl,sc,rfl,y2⟩:=a0v h1 hy
        obtain⟨en,k1,a2,m2,n2,us2,rfl,k2⟩:=h2.2 i _ hi
        rw [g2]at k1;cases k1
        have hml:=k2.1
        have hsl:=y2.1
        have hcs:0<Nat.min sl m4->∃b o l,sa=some ⟨b,o,none⟩/\FC F b o l/\RowR (T.rp c') F l ys:=by
         intro hpos
         have:Nat.min sl m4<=sl:=Nat.min_le_left ..
         rcases y2.2.2.2 with h0|h0
         ·subst h0;simp at hsl;omega
         ·exact h0
        have hlt:=(List.getElem?_eq_some_iff.1 g2).1
        have fin:∀w' us',HS F0 w0 X F (R.set i (.row e2 (T.rp c').k a4 m4 n4 us')) w'->RowN (T.rp c') F m4 us' (cpy xs' 0 (ys.take xs'.length))->RW P all (kq P Kz Q its) l n ((d,.int .i64 (Nat.min sl m4:Nat))::mm) w':=by
         intro w' us' hS' hR'
         have hT:TurnR i R F (R.set i (.row e2 (T.rp c').k a4 m4 n4 us')) F:=by
          refine⟨Frz.refl F,fun j2 b2 t2 cs2 hj=>⟨cs2,?_⟩,fun j2 e5 q2 a2 m2 n2 ys hj=> ?_,fun j2 e5 q2 a2 m2 n2 ys hne hj=> ?_⟩
          ·rw [List.getElem?_set,if_neg (fun e=>by subst e;rw [g2]at hj;cases hj)];exact hj
          ·rw [List.getElem?_set]
           by_cases hij:i=j2
           ·subst hij;rw [g2]at hj;cases hj
            rw [if_pos rfl,if_pos hlt];exact⟨us',rfl⟩
           ·rw [if_neg hij];exact⟨ys,hj⟩
          ·rw [List.getElem?_set,if_neg (fun e=>hne e.symm)];exact hj
         have k3:=k _ F _ w' ((h1.subR hT).put (t:=d) (x:= .int .i64 (Nat.min ys.length xs'.length:Nat)) (v:= .int .i64 (Nat.min sl m4:Nat)) (by show Value.int _ _=Value.int _ _;rw [hsl,hml])) ((h2.subR hT).set i ⟨_,_,_,us',rfl,hR'⟩) hS' ⟨fun j2 b2 hb=> ?_,hX.2⟩
         ·exact k3
         ·obtain⟨t2,cs2,h5⟩:=hX.1 j2 b2 hb
          obtain⟨cs3,h6⟩:=hT.box j2 b2 t2 cs2 h5
          exact⟨t2,cs3,h6⟩
        rcases Nat.eq_zero_or_pos (Nat.min sl m4)with h0|hpos
        ·refine d7a (r:=T.rp c') (lo:=0) (cs:= []) (ys:=ys.take xs'.length) (T.undOk hu) hS (a3g h1 hg) hn h3 g1 y1 g2 k2 (fun h=>by omega) (by omega) (fun h=>by omega) (by rw [h0];simp) (by rw [List.length_take,hsl,hml];show Nat.min m4 sl=_;exact Nat.min_comm ..) ?_ fin
         have:ys.take xs'.length= []:=List.length_eq_zero_iff.1 (by rw [List.length_take,hsl,hml];exact(Nat.min_comm m4 sl).trans h0)
         rw [this];rfl
        ·obtain⟨b,o,lv,rfl,hfc,hrr⟩:=hcs hpos
         have hlen:=hrr.len
         have hmle:Nat.min sl m4<=sl:=Nat.min_le_left ..
         have hmle2:Nat.min sl m4<=m4:=Nat.min_le_right ..
         obtain⟨bb,rfl⟩:=h3.rows i _ _ _ _ _ _ g2 (by omega)
         have htk:ys.take xs'.length=ys.take (Nat.min sl m4):=by
          rw [hml]
          apply List.ext_getElem?
          intro j
          rw [List.getElem?_take,List.getElem?_take]
          by_cases h5:j<m4
          ·by_cases h6:j<sl
           ·rw [if_pos h5,if_pos (by show j<min sl m4;omega)]
           ·rw [if_pos h5,List.getElem?_eq_none (by omega)];split<;>rfl
          ·rw [if_neg h5,if_neg (by show¬j<min sl m4;omega)]
         refine d7a (r:=T.rp c') (lo:=0) (cs:=lv.take (Nat.min sl m4*(T.rp c').k)) (ys:=ys.take xs'.length) (T.undOk hu) hS (a3g h1 hg) hn h3 g1 y1 g2 k2 (fun _=>⟨bb,rfl,by rw [Nat.zero_mul]⟩) (by omega) (fun _=>⟨b,o,rfl,fun j v hj=> ?_⟩) ?_ ?_ ?_ fin
         ·rw [List.getElem?_take]at hj
          split at hj
          ·exact hfc.cell h3.sat hj
          ·cases hj
         ·rw [List.length_take,hlen,hsl]
          exact Nat.min_eq_left (Nat.mul_le_mul_right _ hmle)
         ·rw [List.length_take,hsl,hml];show Nat.min m4 sl=_;exact Nat.min_comm ..
         ·rw [htk];exact hrr.take _
       ·cases h
      ·cases h
     ·rename_i q0 i lo hi i2 lo2 hi2 hS hx hy
      split at h
      ·rename_i e2 q' c xs hb hi'
       split at h
       ·rename_i hk1 hk2
        cases h
        dsimp only at k
        have hb:=Nat.eq_of_beq_eq_true hb
        subst hb
        have hk1:=Nat.eq_of_beq_eq_true hk1
        have hk2:=Nat.eq_of_beq_eq_true hk2
        subst hk2
        have hS:=T.sizeOk hS
        subst hk1
        intro R F mm w h1 h2 h3 hX
        obtain⟨ux,g1,e4,q4,b4,m4,n4,us,g2,p1,p2,p3,rfl⟩:=a0v h1 hx
        obtain⟨uy,y1,e5,q5,b5,m5,n5,us5,g5,r1,r2,r3,rfl⟩:=a0v h1 hy
        rw [g2]at g5;cases g5
        obtain⟨en,k1,a2,m2,n2,us2,rfl,k2⟩:=h2.2 i2 _ hi'
        rw [g2]at k1;cases k1
        have hml:=k2.1
        have hlt:=(List.getElem?_eq_some_iff.1 g2).1
        have hmle:Nat.min (hi2-lo2) (hi-lo)<=hi2-lo2:=Nat.min_le_left ..
        have hul:=k2.2.len
        have hcell:=World.ownsRow.cells (h3.own _ (List.mem_of_getElem? g2)) (g:=b4) rfl
        refine d7a (r:=T.rp c) (lo:=lo) (cs:=(us.drop (lo2*(T.rp c).k)).take (Nat.min (hi2-lo2) (hi-lo)*(T.rp c).k)) (ys:=(xs.drop lo2).take (Nat.min (hi2-lo2) (hi-lo))) (T.undOk hu) hS (a3g h1 hg) hn h3 g1 y1 g2 k2 (fun _=>⟨b4,rfl,rfl⟩) (by omega) (fun _=>⟨b4,lo2*(T.rp c).k,rfl,fun j v hj=> ?_⟩) ?_ ?_ ((k2.2.drop lo2).take _) fun w' us' hS' hR'=> ?_
        ·rw [List.getElem?_take]at hj
         split at hj
         ·rw [List.getElem?_drop]at hj
          have:=hcell _ v hj
          rw [a7n]at this
          simpa using this
         ·cases hj
        ·rw [List.length_take,List.length_drop,hul,hml,<-Nat.sub_mul]
         exact Nat.min_eq_left (Nat.mul_le_mul_right _ (by omega))
        ·rw [List.length_take,List.length_drop,hml]
         exact Nat.min_eq_left (by omega)
        ·have hT:TurnR i2 R F (R.set i2 (.row e2 (T.rp c).k (some ⟨b4,0,none⟩) m4 n4 us')) F:=by
          refine⟨Frz.refl F,fun j2 b2 t2 cs2 hj=>⟨cs2,?_⟩,fun j2 e5 q2 a2 m2 n2 ys hj=> ?_,fun j2 e5 q2 a2 m2 n2 ys hne hj=> ?_⟩
          ·rw [List.getElem?_set,if_neg (fun e=>by subst e;rw [g2]at hj;cases hj)];exact hj
          ·rw [List.getElem?_set]
           by_cases hij:i2=j2
           ·subst hij;rw [g2]at hj;cases hj
            rw [if_pos rfl,if_pos hlt];exact⟨us',rfl⟩
           ·rw [if_neg hij];exact⟨ys,hj⟩
          ·rw [List.getElem?_set,if_neg (fun e=>hne e.symm)];exact hj
         have k3:=k _ F _ w' ((h1.subR hT).put (t:=d) (x:= .int .i64 (Nat.min (hi2-lo2) (hi-lo):Nat)) (v:= .int .i64 (Nat.min (hi2-lo2) (hi-lo):Nat)) rfl) ((h2.subR hT).set i2 ⟨_,_,_,us',rfl,hR'⟩) hS' ⟨fun j2 b2 hb=> ?_,hX.2⟩
         ·exact k3
         ·obtain⟨t2,cs2,h5⟩:=hX.1 j2 b2 hb
          obtain⟨cs3,h6⟩:=hT.box j2 b2 t2 cs2 h5
          exact⟨t2,cs3,h6⟩
       ·cases h
      ·cases h
     ·cases h
    ·cases h
   ·cases h
  ·cases h
 ·cases h
theorem gCp{r:ρ}{α:Type}{xs ys:List α}{lo:Nat}{m:Option ρ}{nx:List α->St T.ty}{s:St T.ty}(h:evCp T n (rn T n s)=some ⟨α,xs,lo,ys,nx⟩)(k:G T Q n F0 w0 X Kz r m (nx (cpy xs lo ys))):G T Q n F0 w0 X Kz r m s:=fun hm=>a7k (e6k h (k hm))
end
end Go.Proofs.YthaegflpecbfgaaGreatDoor.Rt
namespace Go.Proofs.YthaegflpecbfgaaGreatDoor.M
open Go Go.RowKit Rt
set_option maxRecDepth 1000000
set_option maxHeartbeats 40000000
theorem b0q(n:Nat)(rx1:reader):FnL Wt 188 149 [.sl 7 rx1.l,.int .i64 rx1.at_,.int .i64 rx1.e] [.bx 0 0] (a3f n rx1) (fun r=> [.sl 7 r.1.l,.int .i64 r.1.at_,.int .i64 r.1.e]) (fun r=> .agg [.int .i64 r.2.Kind,.str r.2.Text,.int .i64 r.2.N,.int .i64 r.2.Pos]):=by
 refine b0p (n:=31) Tryz.func188 rfl rfl rfl (fun _ _=>by kernel_rfl) fun F0 w0 b r=> ?_
 unfold a3f
 refine gG rfl (by kernel_rfl) ?_
 refine gD rfl (fun _=> ?_) (fun _=> ?_)
 ·
  refine gB ?_
  refine gT ?_
  exact gRL rfl rfl rfl rfl rfl
 ·
  refine gB ?_
  refine gC rfl (fun _=> ?_) (fun _=> ?_)
  ·
   exact gRL rfl rfl rfl rfl rfl
  ·
   refine gHs [(3,(pL [0,2,4,6,8,10,12,14,16,18,21] .nil))] rfl (by kernel_rfl) rfl rfl fun Ky=> ?_
   refine gV rfl fun ex1=> ?_
   refine gHe rfl ?_
   exact gRL rfl rfl rfl rfl rfl
theorem a5u(n:Nat)(rx1:reader)(ex1:Int):FnL Wt 136 149 [.sl 7 rx1.l,.int .i64 rx1.at_,.int .i64 rx1.e] [.bx 0 0,.int .i64 ex1] (a2a n rx1 ex1) (fun r=> [.sl 7 r.l,.int .i64 r.at_,.int .i64 r.e]) (fun r=> .tup []):=by
 refine b0p (n:=13) Tryz.func136 rfl rfl rfl (fun _ _=>by kernel_rfl) fun F0 w0 b r=> ?_
 unfold a2a
 refine gC rfl (fun _=> ?_) (fun _=> ?_)
 ·
  exact gRL rfl rfl rfl rfl rfl
 ·
  exact gRL rfl rfl rfl rfl rfl
theorem b2n(n:Nat)(rx1:reader)(s2:Bs):FnL Wt 135 149 [.sl 7 rx1.l,.int .i64 rx1.at_,.int .i64 rx1.e] [.bx 0 0,.str s2] (a5a n rx1 s2) (fun r=> [.sl 7 r.1.l,.int .i64 r.1.at_,.int .i64 r.1.e]) (fun r=> .ob r.2):=by
 refine b0p (n:=22) Tryz.func135 rfl rfl rfl (fun _ _=>by kernel_rfl) fun F0 w0 b r=> ?_
 unfold a5a
 refine gN (b0q _ _) rfl rfl rfl rfl rfl fun v1=> ?_
 refine gJ 9 (fun v2=> [.v 21 (.ob v2)]) rfl (fun _=>rfl) (fun J1 hJ1=> ?_) (fun v2=> ?_)
 ·
  refine gD rfl (fun _=> ?_) (fun _=> ?_)
  ·
   refine gA ?_
   refine gD rfl (fun _=> ?_) (fun _=> ?_)
   ·
    refine gB ?_
    exact gX hJ1 rfl (by kernel_rfl)
   ·
    refine gB ?_
    exact gX hJ1 rfl (by kernel_rfl)
  ·
   exact gX hJ1 rfl (by kernel_rfl)
 exact gRL rfl rfl rfl rfl rfl
theorem b0r(n:Nat)(rx1:reader)(s2:Bs):FnL Wt 137 149 [.sl 7 rx1.l,.int .i64 rx1.at_,.int .i64 rx1.e] [.bx 0 0,.str s2] (a2p n rx1 s2) (fun r=> [.sl 7 r.1.l,.int .i64 r.1.at_,.int .i64 r.1.e]) (fun r=> .ob r.2):=by
 refine b0p (n:=18) Tryz.func137 rfl rfl rfl (fun _ _=>by kernel_rfl) fun F0 w0 b r=> ?_
 unfold a2p
 refine gN (b2n _ _ _) rfl rfl rfl rfl rfl fun v1=> ?_
 refine gD rfl (fun _=> ?_) (fun _=> ?_)
 ·
  refine gB ?_
  exact gRL rfl rfl rfl rfl rfl
 ·
  refine gB ?_
  exact gRL rfl rfl rfl rfl rfl
theorem a3t(n:Nat)(rx1:reader)(l1:(List Bs)):FnL Wt 132 149 [.sl 7 rx1.l,.int .i64 rx1.at_,.int .i64 rx1.e] [.bx 0 0,.sl 1 l1] (a0q n rx1 l1) (fun r=> [.sl 7 r.l,.int .i64 r.at_,.int .i64 r.e]) (fun r=> .tup []):=by
 refine b0p (n:=19) Tryz.func132 rfl rfl rfl (fun _ _=>by kernel_rfl) fun F0 w0 b r=> ?_
 unfold a0q
 refine a2r ((fun k0 m(s:Int×(List Token)×Int×Int)=>tariff_reader_need_L1 n l1 k0 m s.1 s.2.1 s.2.2.1 s.2.2.2) _) (fun(s:Int×(List Token)×Int×Int)=> [.b 0 [.sl 7 s.2.1,.int .i64 s.2.2.1,.int .i64 s.2.2.2],.v 8 (.int .i64 s.1)]) (fun _=>rfl) (_,_,_,_) rfl rfl (fun _=>rfl) rfl fun K1 m1 hK1 z1=> ?_
 obtain⟨i1,f1,f2,f3⟩:=z1;dsimp only
 refine gC rfl (fun _=> ?_) (fun _=> ?_)
 ·
  refine gV rfl fun ex1=> ?_
  refine gN (b0r _ _ _) rfl rfl rfl rfl rfl fun v1=> ?_
  refine gC rfl (fun _=> ?_) (fun _=> ?_)
  ·
   refine gN (a5u _ _ _) rfl rfl rfl rfl rfl fun v2=> ?_
   exact gE hK1 (_,_,_,_) rfl (by kernel_rfl)
  ·
   exact gE hK1 (_,_,_,_) rfl (by kernel_rfl)
 ·
  exact gRL rfl rfl rfl rfl rfl
theorem b1m(n:Nat)(rx1:reader)(kind1:Int):FnL Wt 133 149 [.sl 7 rx1.l,.int .i64 rx1.at_,.int .i64 rx1.e] [.bx 0 0,.int .i64 kind1] (a3z n rx1 kind1) (fun r=> [.sl 7 r.1.l,.int .i64 r.1.at_,.int .i64 r.1.e]) (fun r=> .agg [.int .i64 r.2.Kind,.str r.2.Text,.int .i64 r.2.N,.int .i64 r.2.Pos]):=by
 refine b0p (n:=23) Tryz.func133 rfl rfl rfl (fun _ _=>by kernel_rfl) fun F0 w0 b r=> ?_
 unfold a3z
 refine gN (b0q _ _) rfl rfl rfl rfl rfl fun v1=> ?_
 refine gC rfl (fun _=> ?_) (fun _=> ?_)
 ·
  refine gN (a5u _ _ _) rfl rfl rfl rfl rfl fun v2=> ?_
  exact gRL rfl rfl rfl rfl rfl
 ·
  exact gRL rfl rfl rfl rfl rfl
theorem b6v(n:Nat)(rx1:reader):FnL Wt 134 149 [.sl 7 rx1.l,.int .i64 rx1.at_,.int .i64 rx1.e] [.bx 0 0] (tariff_reader_expr n rx1) (fun r=> [.sl 7 r.1.l,.int .i64 r.1.at_,.int .i64 r.1.e]) (fun r=> .agg [.int .i64 r.2.Op,.int .i64 r.2.N,.str r.2.Name,.sl 0 r.2.Args]):=⟨fun _ _=>by kernel_rfl,fun r hm w F hs hg b ws us hbx hfb hc hu=>by
 obtain⟨_,_,rfl,⟨_,_,_,rfl,hs0⟩,⟨_,_,rfl,rfl,⟨_,_,rfl,rfl,rfl⟩⟩⟩:=hc
 obtain⟨_,_,rfl,⟨bb,tt,cc,hbb,rfl⟩,rfl⟩:=hu
 simp only [List.getElem?_cons_zero,Option.some.injEq,OE.box.injEq]at hbb
 obtain⟨rfl,rfl,rfl⟩:=hbb
 exact(b5j n rx1 r hm hs hs0 hbx hfb).mono fun e w'⟨v,F',cs',O',e1,e2,e3⟩=>by
  obtain⟨al_0,nl_0,cl_0,a0_3,n0_3,c0_3,rfl,rfl,rfl,g0,g1⟩:=e3
  exact⟨_,F',_,e1,e2,⟨_,_,rfl,⟨_,_,_,rfl,g0⟩,⟨_,_,rfl,rfl,⟨_,_,rfl,rfl,rfl⟩⟩⟩,⟨_,rfl,⟨_,_,rfl,rfl,⟨_,_,rfl,rfl,⟨_,_,rfl,rfl,⟨_,_,rfl,⟨_,_,_,rfl,g1⟩,rfl⟩⟩⟩⟩⟩⟩⟩
theorem c4x(n:Nat)(s1:Bs):FnC Wt 70 [.str s1] (b5p n s1) (fun r=> .tup [.agg [.str r.1.Name,.int .i64 r.1.Fee.Op,.int .i64 r.1.Fee.N,.str r.1.Fee.Name,.sl 0 r.1.Fee.Args,.int .i64 r.1.Cap],.int .i64 r.2.1,.int .i64 r.2.2]):=by
 refine a0z (n:=110) Tryz.func70 rfl rfl rfl (fun _ _=>by kernel_rfl) fun F0 w0 r=> ?_
 unfold b5p
 refine gK (c9l _ _) rfl rfl rfl fun v1=> ?_
 refine gC rfl (fun _=> ?_) (fun _=> ?_)
 ·
  exact gR rfl rfl rfl
 ·
  refine gN (a3t _ _ _) rfl rfl rfl rfl rfl fun v2=> ?_
  refine gN (b1m _ _ _) rfl rfl rfl rfl rfl fun v3=> ?_
  refine gN (a3t _ _ _) rfl rfl rfl rfl rfl fun v4=> ?_
  refine gN (b6v _ _) rfl rfl rfl rfl rfl fun v5=> ?_
  obtain⟨v5,⟨v5a,v5b,v5c,v5d⟩⟩:=v5
  refine gN (b2n _ _ _) rfl rfl rfl rfl rfl fun v6=> ?_
  refine gJ 5 (fun j1=> [.v 45 (.ob j1.1),.b 10 [.int .i64 j1.2]]) rfl (fun _=>rfl) (fun J1 hJ1=> ?_) (fun j1=> ?_)
  ·
   refine gD rfl (fun _=> ?_) (fun _=> ?_)
   ·
    refine gA ?_
    refine gN (b7j _ _ _ _) rfl rfl rfl rfl rfl fun v16=> ?_
    exact gX hJ1 rfl (by kernel_rfl)
   ·
    exact gX hJ1 rfl (by kernel_rfl)
  obtain⟨v7,_⟩:=j1;dsimp only
  refine gM (fun j2=> [.b 8 [.sl 7 j2.1,.int .i64 j2.2.1,.int .i64 j2.2.2]]) rfl (fun _=>rfl) (fun J2 hJ2=> ?_) (fun j2=> ?_)
  ·
   refine gD rfl (fun _=> ?_) (fun _=> ?_)
   ·
    refine gA ?_
    refine gN (a5u _ _ _) rfl rfl rfl rfl rfl fun v15=> ?_
    exact gX hJ2 rfl (by kernel_rfl)
   ·
    exact gX hJ2 rfl (by kernel_rfl)
  obtain⟨f2,f3,f4⟩:=j2;dsimp only
  refine gN (a3t _ _ _) rfl rfl rfl rfl rfl fun v8=> ?_
  refine gN (b0r _ _ _) rfl rfl rfl rfl rfl fun v9=> ?_
  refine gM (fun j3=> [.b 8 [.sl 7 j3.2.1,.int .i64 j3.2.2.1,.int .i64 j3.2.2.2],.bs 9 5 (.int .i64 j3.1)]) rfl (fun _=>rfl) (fun J3 hJ3=> ?_) (fun j3=> ?_)
  ·
   refine gD rfl (fun _=> ?_) (fun _=> ?_)
   ·
    refine gA ?_
    refine gN (a3t _ _ _) rfl rfl rfl rfl rfl fun v12=> ?_
    refine gA ?_
    refine gN (b1m _ _ _) rfl rfl rfl rfl rfl fun v13=> ?_
    refine gA ?_
    refine gN (a3t _ _ _) rfl rfl rfl rfl rfl fun v14=> ?_
    exact gX hJ3 rfl (by kernel_rfl)
   ·
    exact gX hJ3 rfl (by kernel_rfl)
  obtain⟨f5,f6,f7,f8⟩:=j3;dsimp only
  refine gN (a3t _ _ _) rfl rfl rfl rfl rfl fun v10=> ?_
  refine gM (fun j4=> [.b 8 [.sl 7 j4.1,.int .i64 j4.2.1,.int .i64 j4.2.2]]) rfl (fun _=>rfl) (fun J4 hJ4=> ?_) (fun j4=> ?_)
  ·
   refine gD rfl (fun _=> ?_) (fun _=> ?_)
   ·
    refine gA ?_
    refine gN (a5u _ _ _) rfl rfl rfl rfl rfl fun v11=> ?_
    exact gX hJ4 rfl (by kernel_rfl)
   ·
    exact gX hJ4 rfl (by kernel_rfl)
  obtain⟨_,f10,f11⟩:=j4;dsimp only
  refine gC rfl (fun _=> ?_) (fun _=> ?_)
  ·
   exact gR rfl rfl rfl
  ·
   refine gC rfl (fun _=> ?_) (fun _=> ?_)
   ·
    refine gHs [(23,(pL [0,2,4,6,8,10,12,14,16,18,20,22,24,27,29,31] .nil)),(24,(pL [0,2,4,6,8,10,12,15,17,19] .nil))] rfl (by kernel_rfl) rfl rfl fun Ky=> ?_
    refine gV rfl fun ex1=> ?_
    refine gHe rfl ?_
    exact gR rfl rfl rfl
   ·
    refine gHs [(23,(pL [0,2,4,6,8,10,12,14,16,18,20,22,24,27,29,31] .nil)),(24,(pL [0,2,4,6,8,10,12,15,17,19] .nil))] rfl (by kernel_rfl) rfl rfl fun Ky=> ?_
    refine gHe rfl ?_
    exact gR rfl rfl rfl
end Go.Proofs.YthaegflpecbfgaaGreatDoor.M
namespace Go.Proofs.YthaegflpecbfgaaGreatDoor.Rt
open Go
def Ev{α:Type}(f:Nat->Option α)(r:α):Prop:=∃N,∀n,N<=n->f n=some r
section
variable{α β:Type}
theorem Ev.pure(a:α):Ev (fun _=>some a) a:=⟨0,fun _ _=>rfl⟩
theorem Ev.all{f:Nat->Option α}{r:α}(h:∀n,f n=some r):Ev f r:=⟨0,fun n _=>h n⟩
theorem Ev.bind{x:Nat->Option α}{f:Nat->α->Option β}{a:α}{b:β}(hx:Ev x a)(hf:Ev (fun n=>f n a) b):Ev (fun n=>(x n).bind (f n)) b:=by
 obtain⟨N,hN⟩:=hx
 obtain⟨M,hM⟩:=hf
 refine⟨max N M,fun n hn=> ?_⟩
 show(x n).bind (f n)=some b
 rw [hN n (by omega)]
 exact hM n (by omega)
theorem Ev.step{x:Option α}{f:Nat->α->Option β}{a:α}{b:β}(hx:x=some a)(hf:Ev (fun n=>f n a) b):Ev (fun n=>x.bind (f n)) b:=by
 subst hx;exact hf
theorem Ev.then{x:Nat->Option α}{b:α}{c:Bool}{y:Nat->Option α}(hc:c=true)(h:Ev x b):Ev (fun n=>bif c then x n else y n) b:=by subst hc;exact h
theorem Ev.else{x:Nat->Option α}{b:α}{c:Bool}{y:Nat->Option α}(hc:c=false)(h:Ev y b):Ev (fun n=>bif c then x n else y n) b:=by subst hc;exact h
theorem Ev.from{f g:Nat->Option α}{r:α}(N:Nat)(h:∀n,N<=n->f n=g n)(hg:Ev g r):Ev f r:=by
 obtain⟨M,hM⟩:=hg
 exact⟨max N M,fun n hn=>by rw [h n (by omega)];exact hM n (by omega)⟩
theorem Ev.eq{f:Nat->Option α}{r s:α}(h:Ev f r)(e:r=s):Ev f s:=e▸h
theorem Ev.uniq{f:Nat->Option α}{r s:α}(h:Ev f r)(k:Ev f s):r=s:=by
 obtain⟨N,hN⟩:=h
 obtain⟨M,hM⟩:=k
 have h1:=hN (max N M) (by omega)
 rw [hM (max N M) (by omega)]at h1
 exact(Option.some.inj h1).symm
end
theorem e3b(x:Int):IntKind.i64.wrap x=if x %18446744073709551616≥9223372036854775808 then x %18446744073709551616-18446744073709551616 else x %18446744073709551616:=by
 simp [IntKind.wrap,IntKind.bits,IntKind.signed]
theorem a5f{x:Int}(h1:-9223372036854775808<=x)(h2:x<=9223372036854775807):IntKind.i64.wrap x=x:=by
 rw [e3b];split<;>omega
theorem b5e(x:Int):IntKind.u64.wrap x=x %18446744073709551616:=by
 simp [IntKind.wrap,IntKind.bits,IntKind.signed]
theorem a1s{x y:Int}(h1:-9223372036854775808<=x+y)(h2:x+y<=9223372036854775807):iadd .i64 x y=x+y:=a5f h1 h2
theorem a1c{x y:Int}(h1:-9223372036854775808<=x-y)(h2:x-y<=9223372036854775807):isub .i64 x y=x-y:=a5f h1 h2
theorem a6w{x y:Int}(h1:-9223372036854775808<=x*y)(h2:x*y<=9223372036854775807):imul .i64 x y=x*y:=a5f h1 h2
theorem c7v(k:IntKind)(x:Int)(m:Nat)(hk:k.bits=64)(hm:m<64):(BitVec.ofInt k.bits x&&&BitVec.ofInt k.bits ((2^m-1:Nat):Int)).toNat=(x %18446744073709551616).toNat %2^m:=by
 rw [BitVec.toNat_and,BitVec.toNat_ofInt,BitVec.toNat_ofInt,hk]
 have h2:(((2^m-1:Nat):Int) %((2^64:Nat):Int)).toNat=2^m-1:=by
  have:2^m<2^64:=Nat.pow_lt_pow_right (by omega) hm
  rw [<-Int.natCast_emod,Int.toNat_natCast,Nat.mod_eq_of_lt (by omega)]
 rw [h2,Nat.and_two_pow_sub_one_eq_mod]
 rfl
theorem b5w(x:Int):iand .i64 x 1048575=x %1048576:=by
 have h:=c7v .i64 x 20 rfl (by omega)
 have e:((2^20-1:Nat):Int)=1048575:=by decide
 rw [e]at h
 unfold iand
 rw [h,a5f (by omega) (by omega)]
 omega
theorem d4v{x:Int}(h0:0<=x)(h1:x<18446744073709551616):iand .u64 x 1048575=x %1048576:=by
 have h:=c7v .u64 x 20 rfl (by omega)
 have e:((2^20-1:Nat):Int)=1048575:=by decide
 rw [e]at h
 unfold iand
 rw [h,b5e]
 omega
theorem e0v(x:Int):iand .i64 x 1=x %2:=by
 have h:=c7v .i64 x 1 rfl (by omega)
 have e:((2^1-1:Nat):Int)=1:=by decide
 rw [e]at h
 unfold iand
 rw [h,a5f (by omega) (by omega)]
 omega
theorem c4d(x:Int):shr .i64 x 20=some (x/1048576):=by
 unfold shr
 rw [if_neg (by omega),Int.fdiv_eq_ediv_of_nonneg _ (by decide)]
 rfl
theorem e6c(x:Int):shr .u64 x 20=some (x/1048576):=by
 unfold shr
 rw [if_neg (by omega),Int.fdiv_eq_ediv_of_nonneg _ (by decide)]
 rfl
theorem c3q{x:Int}(h0:-8796093022208<=x)(h1:x<8796093022208):shl .i64 x 20=some (x*1048576):=by
 unfold shl
 rw [if_neg (by omega),show(2:Int)^(min (20:Int).toNat IntKind.i64.bits)=1048576 from by decide,a5f (by omega) (by omega)]
theorem c3j{x y:Int}(h0:0<=x)(h1:x<8796093022208)(h2:0<=y)(h3:y<1048576):ior .i64 (x*1048576) y=x*1048576+y:=by
 obtain⟨p,rfl⟩:=Int.eq_ofNat_of_zero_le h0
 obtain⟨q,rfl⟩:=Int.eq_ofNat_of_zero_le h2
 unfold ior
 rw [BitVec.toNat_or,BitVec.toNat_ofInt,BitVec.toNat_ofInt,show IntKind.i64.bits=64 from rfl]
 have e1:(((p:Int)*1048576) %((2^64:Nat):Int)).toNat=2^20*p:=by omega
 have e2:((q:Int) %((2^64:Nat):Int)).toNat=q:=by omega
 rw [e1,e2,<-Nat.two_pow_add_eq_or_of_lt (by omega),a5f (by omega) (by omega)]
 omega
theorem c2h{x y:Int}(h0:0<=x)(h1:x<=9223372036854775807)(h2:0<y):quo .i64 x y=some (x/y):=by
 unfold quo
 have h3:=Int.ediv_nonneg h0 (Int.le_of_lt h2)
 have h4:=Int.ediv_le_self y h0
 rw [if_neg (by omega),Int.tdiv_eq_ediv_of_nonneg h0,a5f (by omega) (by omega)]
theorem c3k{x y:Int}(h0:0<=x)(h2:0<y):rem x y=some (x %y):=by
 unfold rem
 rw [if_neg (by omega),Int.tmod_eq_emod_of_nonneg h0]
section
variable{α:Type}
theorem b1z(l:List α)(i:Nat):ix l (i:Int)=l[i]?:=by simp [ix]
theorem a5s(p:List α)(x:α)(s:List α){i:Int}(hi:i=p.length):ix (p++x::s) i=some x:=by
 subst hi;rw [b1z];simp
theorem a9c(p:List α)(x y:α)(s:List α){i:Int}(hi:i=p.length):lset (p++x::s) i y=some (p++y::s):=by
 subst hi
 unfold lset
 rw [if_pos ⟨by omega,by simp;omega⟩]
 simp
theorem c3y{b:Nat}{z:α}{n:Nat}(h:n*b<=140737488355328):mks b z (n:Int)=some (List.replicate n z):=by
 unfold mks;rw [if_pos ⟨by omega,by simpa using h⟩];simp
theorem b8y{b:Nat}{l m:List α}(h:(l.length+m.length)*b<=140737488355328):app b l m=some (l++m):=by unfold app;rw [if_pos h]
theorem d3g{l:List α}{p q:Nat}(h:p<=q)(h2:q<=l.length):lsl l (p:Int) (q:Int)=some ((l.take q).drop p):=by
 unfold lsl;rw [if_pos ⟨by omega,by omega,by omega⟩];simp
end
end Go.Proofs.YthaegflpecbfgaaGreatDoor.Rt
namespace Go.Proofs.YthaegflpecbfgaaGreatDoor.M
open Go Go.RowKit Go.Shelf Rt
set_option linter.unusedVariables false
def growA_ren:Go.Shelf.Ren:=⟨fun|4=>219|n=>n,fun|22=>57|25=>62|n=>n,fun n=>n⟩
theorem growA:Lays8.n4 Tryz.prog growA_ren:={
 mixed:=by kernel_rfl
 f4:=⟨Tryz.f219.name,by kernel_rfl,Tryz.func219.trans (congrArg some (by kernel_rfl))⟩
 t0:=by kernel_rfl
 a0:=fun _=>by kernel_rfl
 z0:=fun _=>by kernel_rfl
 v0:=fun _=>by kernel_rfl
 t3:=by kernel_rfl
 a3:=fun _=>by kernel_rfl
 z3:=fun _=>by kernel_rfl
 v3:=fun _=>by kernel_rfl
 t4:=by kernel_rfl
 a4:=fun _=>by kernel_rfl
 z4:=fun _=>by kernel_rfl
 v4:=fun _=>by kernel_rfl
 t9:=by kernel_rfl
 a9:=fun _=>by kernel_rfl
 z9:=fun _=>by kernel_rfl
 v9:=fun _=>by kernel_rfl
 t20:=by kernel_rfl
 a20:=fun _=>by kernel_rfl
 z20:=fun _=>by kernel_rfl
 v20:=fun _=>by kernel_rfl
 t22:=by kernel_rfl
 a22:=fun _=>by kernel_rfl
 z22:=fun _=>by kernel_rfl
 v22:=fun _=>by kernel_rfl}
def growB_ren:Go.Shelf.Ren:=⟨fun|4=>197|n=>n,fun|22=>32|25=>57|n=>n,fun n=>n⟩
theorem growB:Lays8.n4 Tryz.prog growB_ren:={
 mixed:=by kernel_rfl
 f4:=⟨Tryz.f197.name,by kernel_rfl,Tryz.func197.trans (congrArg some (by kernel_rfl))⟩
 t0:=by kernel_rfl
 a0:=fun _=>by kernel_rfl
 z0:=fun _=>by kernel_rfl
 v0:=fun _=>by kernel_rfl
 t3:=by kernel_rfl
 a3:=fun _=>by kernel_rfl
 z3:=fun _=>by kernel_rfl
 v3:=fun _=>by kernel_rfl
 t4:=by kernel_rfl
 a4:=fun _=>by kernel_rfl
 z4:=fun _=>by kernel_rfl
 v4:=fun _=>by kernel_rfl
 t9:=by kernel_rfl
 a9:=fun _=>by kernel_rfl
 z9:=fun _=>by kernel_rfl
 v9:=fun _=>by kernel_rfl
 t20:=by kernel_rfl
 a20:=fun _=>by kernel_rfl
 z20:=fun _=>by kernel_rfl
 v20:=fun _=>by kernel_rfl
 t22:=by kernel_rfl
 a22:=fun _=>by kernel_rfl
 z22:=fun _=>by kernel_rfl
 v22:=fun _=>by kernel_rfl}
theorem e3o{ρ:Ren}(L:Lays8.n4 Tryz.prog ρ)(hE:Ent Tryz.prog (ρ.f 4)){α:Type}{c q:Nat}(x:List α)(k:Int)(r:List α)(hm:b4g 0 x k=some r){i0:TypeInfo}{z:Value}(hi:Tryz.prog.info? (ρ.t 25)=some i0)(hz:i0.zero=some z)(hs:i0.size=q)(hq:0<q)(hq2:q<=16)(hb:i0.bytes<=128)(hzc:z.cells.size=q)
 {w:World} {F:Frz} (hF:Sat F w) {rp:Rp α} (hrp:rp.k=q):Calls Tryz.prog (ρ.f 4) #[.slice none 0 0,.int .i64 k] w fun e w'=>∃v F' a m n xs,e= .returned v/\HS F w [] F' [.row (ρ.t 25) q a m n xs] w'/\RowN rp F' m xs r/\v= .slice a m n:=by
 unfold b4g at hm
 split at hm
 ·split at hm
  ·rename_i h0
   cases hm
   obtain⟨p,rfl⟩:=Int.eq_ofNat_of_zero_le h0.1
   rcases Nat.eq_zero_or_pos p with rfl|hp
   ·refine(Any8.slices_Grow_room L none 0 0 0 w (Nat.le_refl _) (by decide) (by decide) (Nat.le_refl _)).mono ?_
    rintro e w' ⟨rfl,rfl⟩
    exact⟨_,F,none,0,0,[],rfl,(HS.init hF).nilRow _ _,⟨rfl,rfl⟩,rfl⟩
   ·have hp1:p<=1000000:=by omega
    have hmul:(0+p)*i0.bytes<=140737488355328:=by
     have:=Nat.mul_le_mul hp1 hb
     rw [Nat.zero_add];omega
    refine(Any8.slices_Grow_grow L i0 z hi hz (by omega) none 0 0 p [] w (Nat.le_refl _) (by omega) hmul (by omega) (by simp) (fun _=>rfl) (fun a ha=>by cases ha)).mono ?_
    rintro e w' ⟨rfl,rfl⟩
    have hG:=grownCap_ge w (0+p) 0 (ρ.t 25)
    have hG2:=grownCap_le_maxLen w (0+p) 0 (ρ.t 25) (by unfold maxLen;omega)
    refine⟨_,F,some ⟨w.heap.size,0,none⟩,0,_,[],rfl,?_,⟨rfl,rfl⟩,rfl⟩
    refine((HS.init hF).drew).add (e':= .row (ρ.t 25) q (some ⟨w.heap.size,0,none⟩) 0 _ []) (World.grownBy_alloc _ _ none) ?_ (by intro b hb;simp only [OE.blk,Value.ownBlock,Option.some.injEq]at hb;subst hb;exact Nat.le_refl _)
    refine⟨by simp,.inr ⟨w.heap.size,_,_,rfl,Nat.zero_le _,heap_alloc_new _ _,Nat.zero_le _,hG2,?_,by simp⟩⟩
    simp only [Array.size_append,List.size_toArray,List.length_nil,size_zeroCells,hzc,Nat.zero_add,Nat.sub_zero]at hG⊢
    rw [<-Nat.add_mul,Nat.add_sub_cancel' hG]
  ·cases hm
 ·cases hm
theorem e9a{t el:TypeId}{q b:Nat}(h:Wt.app t=some (el,q,b)):AppIs Tryz.prog t el q b:=Wt.appOk h
def b1o(_n:Nat)(x1:Int)(y1:Int):Option (Int×Int):=
 (shr .u64 x1 32).bind fun q1=>
 (shr .u64 y1 32).bind fun q2=>
 (shr .u64 (imul .u64 (iand .u64 x1 4294967295) (iand .u64 y1 4294967295)) 32).bind fun q3=>
 (shr .u64 (iadd .u64 (imul .u64 q1 (iand .u64 y1 4294967295)) q3) 32).bind fun q4=>
 (shr .u64 (iadd .u64 (iand .u64 (iadd .u64 (imul .u64 q1 (iand .u64 y1 4294967295)) q3) 4294967295) (imul .u64 (iand .u64 x1 4294967295) q2)) 32).bind fun q5=>
 some (iadd .u64 (iadd .u64 (imul .u64 q1 q2) q4) q5,imul .u64 x1 y1)
theorem c0p(n:Nat)(x1:Int)(y1:Int):FnC Wt 139 [.int .u64 x1,.int .u64 y1] (b1o n x1 y1) (fun r=> .tup [.int .u64 r.1,.int .u64 r.2]):=by
 refine a0z (n:=51) Tryz.func139 rfl rfl rfl (fun _ _=>by kernel_rfl) fun F0 w0 r=> ?_
 unfold b1o
 refine gV rfl fun q1=> ?_
 refine gV rfl fun q2=> ?_
 refine gV rfl fun q3=> ?_
 refine gV rfl fun q4=> ?_
 refine gV rfl fun q5=> ?_
 exact gR rfl rfl rfl
def a9i(n:Nat)(x1:Int)(y1:Int):Option (Int×Int):=(b1o n x1 y1).bind fun v1=>some (v1.1,v1.2)
theorem c2w(n:Nat)(x1:Int)(y1:Int):FnC Wt 71 [.int .u64 x1,.int .u64 y1] (a9i n x1 y1) (fun r=> .tup [.int .u64 r.1,.int .u64 r.2]):=by
 refine a0z (n:=30) Tryz.func71 rfl rfl rfl (fun _ _=>by kernel_rfl) fun F0 w0 r=> ?_
 unfold a9i
 refine gK (c0p _ _ _) rfl rfl rfl fun v1=> ?_
 exact gR rfl rfl rfl
def c9b(kont:List Frac->Option (List Frac)):Nat->List Frac->Int->Option (List Frac)
 |0,_,_=>none
 |m+1,row,j=>
  bif decide (j<(row.length:Int))then
   (wsl row.length j row.length).bind fun _=>
   (wsl row.length 0 j).bind fun _=>
   c9b kont m (cpy row j.toNat ((row.drop 0).take (Nat.min (j.toNat-0) (row.length-j.toNat)))) (iadd .i64 j (Nat.min (j.toNat-0) (row.length-j.toNat):Nat))
  else
   kont row
def repM(x:List Frac)(k:Int):Option (List Frac):=
 bif decide (k<0)then none else
 (a9i 0 (IntKind.u64.wrap (x.length:Int)) (IntKind.u64.wrap k)).bind fun v=>
 (bif decide (0<v.1)then some true else some (decide (9223372036854775807<v.2))).bind fun b=>
 bif b then none else
 (mks 64 (⟨⟨0,[]⟩,⟨0,[]⟩⟩:Frac) (IntKind.i64.wrap v.2)).bind fun row=>
 c9b some 1001 (cpy row 0 (x.take row.length)) (Nat.min x.length row.length:Nat)
theorem d6u(x:List Frac)(k:Int):FnO Wt 37 [.sl 3 x,.int .i64 k] (repM x k) 44 4 3 (fun r=>r):=by
 refine b7a (n:=48) Tryz.func37 rfl rfl rfl (fun _ _=>by kernel_rfl) fun F0 w0 r=> ?_
 unfold repM
 refine gC rfl (fun _=> ?_) (fun _=> ?_)
 ·exact gNo
 refine gK (c2w _ _ _) rfl rfl rfl fun v=> ?_
 refine gD rfl (fun _=> ?_) (fun _=> ?_)
 ·refine gB ?_
  refine gT ?_
  exact gNo
 ·refine gB ?_
  refine gC rfl (fun _=> ?_) (fun _=> ?_)
  ·exact gNo
  ·refine gMk wzOk rfl fun row=> ?_
   refine gCp rfl ?_
   refine a2r ((fun k0 m(s:List Frac×Int)=>c9b k0 m s.1 s.2) _) (fun s=> [.r 7 3 s.1,.v 8 (.int .i64 s.2)]) (fun _=>rfl) (_,_) rfl rfl (fun _=>rfl) rfl fun K1 m1 hK1 z1=> ?_
   obtain⟨row2,j⟩:=z1;dsimp only
   refine gC rfl (fun _=> ?_) (fun _=> ?_)
   ·refine gHs [(9,pL [0,2,4,6,8,10,12,15,17,19] .nil)] rfl (by kernel_rfl) rfl rfl fun Ky=> ?_
    refine gSw rfl fun _=> ?_
    refine gSw rfl fun _=> ?_
    refine gCp rfl ?_
    refine gHe rfl ?_
    exact gE hK1 (_,_) rfl rfl
   ·exact gRO rfl
theorem mul_one:∀k:Nat,k<1001->a9i 0 (IntKind.u64.wrap 1) (IntKind.u64.wrap k)=some (0,(k:Int))/\IntKind.i64.wrap (k:Int)=k:=by
 have h:((List.range 1001).all fun k=>decide (a9i 0 (IntKind.u64.wrap 1) (IntKind.u64.wrap (k:Int))=some (0,(k:Int)))&&decide (IntKind.i64.wrap (k:Int)=k))=true:=by kernel_rfl
 intro k hk
 have:=List.all_eq_true.1 h k (List.mem_range.2 hk)
 simpa using this
theorem e9z(a z:Frac)(k:Nat)(hk:k<=1000):∀(m j:Nat),1<=j->j<=k->k-j<m->c9b some m (List.replicate j a++List.replicate (k-j) z) (j:Int)=some (List.replicate k a)
 |0,j,_,_,h=>by omega
 |m+1,j,h1,h2,h3=>by
  have hlen:(List.replicate j a++List.replicate (k-j) z).length=k:=by simp;omega
  unfold c9b
  rw [hlen]
  by_cases hj:j<k
  ·have w1:wsl k (j:Int) (k:Int)=some ():=by unfold wsl;rw [if_pos ⟨by omega,by omega,by omega,by omega⟩]
   have w2:wsl k 0 (j:Int)=some ():=by unfold wsl;rw [if_pos ⟨by omega,by omega,by omega,by omega⟩]
   have hmin:Nat.min j (k-j)<=j:=Nat.min_le_left ..
   have hmin2:Nat.min j (k-j)<=k-j:=Nat.min_le_right ..
   have hpos:1<=Nat.min j (k-j):=by show 1<=min j (k-j);omega
   have hc:cpy (List.replicate j a++List.replicate (k-j) z) j (((List.replicate j a++List.replicate (k-j) z).drop 0).take (Nat.min j (k-j)))=List.replicate (j+Nat.min j (k-j)) a++List.replicate (k-(j+Nat.min j (k-j))) z:=by
    generalize Nat.min j (k-j)=q at hmin hmin2 hpos
    have e1:(List.replicate j a++List.replicate (k-j) z).take j=List.replicate j a:=List.take_left' (by simp)
    have e2:(List.replicate j a++List.replicate (k-j) z).take q=List.replicate q a:=by
     rw [List.take_append_of_le_length (by rw [List.length_replicate];exact hmin),List.take_replicate,Nat.min_eq_left hmin]
    have e4:(List.replicate j a++List.replicate (k-j) z).drop j=List.replicate (k-j) z:=List.drop_left' (by simp)
    unfold cpy
    rw [List.drop_zero,e1,e2,List.length_replicate,<-List.drop_drop,e4,List.drop_replicate,List.replicate_append_replicate,Nat.sub_sub]
   rw [decide_eq_true (by omega),cond_true,w1,Option.bind_some,w2,Option.bind_some,Int.toNat_natCast,Nat.sub_zero,hc]
   have hadd:iadd .i64 (j:Int) ((Nat.min j (k-j):Nat):Int)=((j+Nat.min j (k-j):Nat):Int):=by rw [a1s (by omega) (by omega)];omega
   rw [hadd]
   exact e9z a z k hk m (j+Nat.min j (k-j)) (by omega) (by omega) (by omega)
  ·obtain rfl:j=k:=by omega
   rw [decide_eq_false (by omega),cond_false,Nat.sub_self];simp
theorem f0r{n:Nat}{x:List Frac}{k:Int}{r:List Frac}(h:a2z n x k=some r):repM x k=some r:=by
 unfold a2z at h
 split at h
 ·rename_i a
  split at h
  ·rename_i h0
   cases h
   obtain⟨p,rfl⟩:=Int.eq_ofNat_of_zero_le h0.1
   have hp:p<=1000:=by omega
   obtain⟨m1,m2⟩:=mul_one p (by omega)
   unfold repM
   rw [decide_eq_false (by omega),cond_false,show(([a]:List Frac).length:Int)=1 from rfl,m1,Option.bind_some]
   have d:decide ((9223372036854775807:Int)<(p:Int))=false:=decide_eq_false (by omega)
   have e1:mks 64 (⟨⟨0,[]⟩,⟨0,[]⟩⟩:Frac) (p:Int)=some (List.replicate p ⟨⟨0,[]⟩,⟨0,[]⟩⟩):=by
    unfold mks;rw [if_pos ⟨by omega,by omega⟩];simp
   show(some (decide ((9223372036854775807:Int)<(p:Int)))).bind _=_
   rw [d,Option.bind_some,cond_false,m2,e1,Option.bind_some,Int.toNat_natCast,List.length_replicate]
   rcases Nat.eq_zero_or_pos p with rfl|hpos
   ·rfl
   ·have hc:cpy (List.replicate p (⟨⟨0,[]⟩,⟨0,[]⟩⟩:Frac)) 0 (([a]:List Frac).take p)=List.replicate 1 a++List.replicate (p-1) ⟨⟨0,[]⟩,⟨0,[]⟩⟩:=by
     unfold cpy
     rw [List.take_of_length_le (show [a].length<=p from hpos),List.take_zero,List.drop_replicate];rfl
    have hm:Nat.min [a].length p=1:=Nat.min_eq_left hpos
    rw [hc,hm]
    exact e9z a _ p hp 1001 1 (by omega) hpos (by omega)
  ·cases h
 ·cases h
theorem b5t(n:Nat)(x:List Frac)(k:Int):FnO Wt 37 [.sl 3 x,.int .i64 k] (a2z n x k) 44 4 3 (fun r=>r):=⟨(d6u x k).1,fun r hm=>(d6u x k).2 r (f0r hm)⟩
theorem b1h(n:Nat)(x:List Frac)(k:Int):FnC Wt 37 [.sl 3 x,.int .i64 k] (a2z n x k) (fun r=> .sl 3 r):=⟨(d6u x k).1,fun r hm w F hs hg us hu=>((b5t n x k).2 r hm w F hs hg us hu).mono fun e w'⟨v,F',a,m,nn,xs,e1,e2,e3,e4⟩=>by
 obtain⟨F2,h1,h2,h3⟩:=frzO e2 e3
 exact⟨v,F2,e1,h2,a,m,nn,e4,h3⟩⟩
theorem c2o(n:Nat)(x:List Affine)(k:Int):FnO Wt 219 [.val (.slice none 0 0),.int .i64 k] (b3m n x k) 62 5 5 (fun r=>r):=⟨fun _ _=>by kernel_rfl,fun r hm w F hs hg us hu=>by
 obtain⟨_,_,rfl,rfl,_,_,rfl,rfl,rfl⟩:=hu
 obtain⟨i0,z,hi,hz,h1,h2,h3⟩:=(e9a (show Wt.app 57=some (62,5,88)from rfl)).info
 exact e3o growA (fun _ _=>by kernel_rfl) (c:=5) x k r hm hi hz h1 (by decide) (by decide) (by omega) (by rw [h3]) hs (rp:=rp_Affine) rfl⟩
theorem c4a(n:Nat)(x:List (List Affine))(k:Int):FnO Wt 197 [.val (.slice none 0 0),.int .i64 k] (b3y n x k) 57 1 4 (fun r=>r):=⟨fun _ _=>by kernel_rfl,fun r hm w F hs hg us hu=>by
 obtain⟨_,_,rfl,rfl,_,_,rfl,rfl,rfl⟩:=hu
 obtain⟨i0,z,hi,hz,h1,h2,h3⟩:=(e9a (show Wt.app 32=some (57,1,24)from rfl)).info
 exact e3o growB (fun _ _=>by kernel_rfl) (c:=4) x k r hm hi hz h1 (by decide) (by decide) (by omega) (by rw [h3]) hs (rp:=Rp.sl rp_Affine) rfl⟩
end Go.Proofs.YthaegflpecbfgaaGreatDoor.M
namespace Go.Proofs.YthaegflpecbfgaaGreatDoor.M
open Go Go.RowKit Rt
set_option maxRecDepth 1000000
set_option maxHeartbeats 40000000
theorem a8x(n:Nat)(mx1:maker)(c1:Frac):FnL Wt 74 77 [.sl 1 mx1.names,.sl 2 mx1.facts.Lifts,.int .i64 mx1.facts.Persons,.int .i64 mx1.facts.Flats,.ob mx1.full] [.bx 0 0,.agg [.int .i64 c1.P.Sign,.sl 2 c1.P.Digits,.int .i64 c1.Q.Sign,.sl 2 c1.Q.Digits]] (a1d n mx1 c1) (fun r=> [.sl 1 r.1.names,.sl 2 r.1.facts.Lifts,.int .i64 r.1.facts.Persons,.int .i64 r.1.facts.Flats,.ob r.1.full]) (fun r=> .agg [.sl 4 r.2.Pieces]):=by
 refine b0p (n:=18) Tryz.func74 rfl rfl rfl (fun _ _=>by kernel_rfl) fun F0 w0 b r=> ?_
 unfold a1d
 refine gHs [(1,(pL [0,6,8,10,12,14,3,5,17,19,21,23,25,27] .nil))] rfl (by kernel_rfl) rfl rfl fun Ky=> ?_
 refine gK (a5y _ _) rfl rfl rfl fun v1=> ?_
 refine gK (b1h _ _ _) rfl rfl rfl fun v2=> ?_
 refine gZ rfl ?_
 refine gHe rfl ?_
 exact gRL rfl rfl rfl rfl rfl
theorem a5t(n:Nat)(mx1:maker)(x1:Expr):FnL Wt 75 77 [.sl 1 mx1.names,.sl 2 mx1.facts.Lifts,.int .i64 mx1.facts.Persons,.int .i64 mx1.facts.Flats,.ob mx1.full] [.bx 0 0,.agg [.int .i64 x1.Op,.int .i64 x1.N,.str x1.Name,.sl 0 x1.Args]] (a2o n mx1 x1) (fun r=> [.sl 1 r.1.names,.sl 2 r.1.facts.Lifts,.int .i64 r.1.facts.Persons,.int .i64 r.1.facts.Flats,.ob r.1.full]) (fun r=> .agg [.int .i64 r.2.P.Sign,.sl 2 r.2.P.Digits,.int .i64 r.2.Q.Sign,.sl 2 r.2.Q.Digits]):=by
 refine b0p (n:=32) Tryz.func75 rfl rfl rfl (fun _ _=>by kernel_rfl) fun F0 w0 b r=> ?_
 unfold a2o;cases x1
 refine gHs [(1,(pL [4,6,8,10,12,1,3,15,17] .nil)),(2,(pL [0,2,4,6,8,10,12,14,16,18,20] (.two 11 15 (pL [24,26,28,31,33,35] .nil) (pL [23,25,26,28,33,35] .nil))))] rfl (by kernel_rfl) rfl rfl fun Ky=> ?_
 refine gK (a5y _ _) rfl rfl rfl fun v1=> ?_
 refine gK (b1h _ _ _) rfl rfl rfl fun v2=> ?_
 refine gA ?_
 refine gHe rfl ?_
 refine gHs [(1,(pL [4,6,8,10,12,1,3,15,17] .nil)),(2,(pL [0,2,4,6,8,10,12,14,16,18,20] (.two 11 15 (pL [24,26,28,31,33,35] .nil) (pL [23,25,26,28,33,35] .nil))))] rfl (by kernel_rfl) rfl rfl fun Ky=> ?_
 refine gH2 rfl ?_ ?_
 all_goals
  refine gK (b3k _ _ _ _ _) rfl rfl rfl fun v3=> ?_
  refine gB ?_
  refine gHe rfl ?_
  exact gRL rfl rfl rfl rfl rfl
theorem b6u(n:Nat)(mx1:maker)(x1:Expr):FnL Wt 77 77 [.sl 1 mx1.names,.sl 2 mx1.facts.Lifts,.int .i64 mx1.facts.Persons,.int .i64 mx1.facts.Flats,.ob mx1.full] [.bx 0 0,.agg [.int .i64 x1.Op,.int .i64 x1.N,.str x1.Name,.sl 0 x1.Args]] (a5i n mx1 x1) (fun r=> [.sl 1 r.1.names,.sl 2 r.1.facts.Lifts,.int .i64 r.1.facts.Persons,.int .i64 r.1.facts.Flats,.ob r.1.full]) (fun r=> .ob r.2):=by
 refine b0p (n:=18) Tryz.func77 rfl rfl rfl (fun _ _=>by kernel_rfl) fun F0 w0 b r=> ?_
 unfold a5i;cases x1
 refine gN (a5t _ _ _) rfl rfl rfl rfl rfl fun v1=> ?_
 refine gK (b7t _ _) rfl rfl rfl fun v2=> ?_
 exact gRL rfl rfl rfl rfl rfl
theorem b1q(n:Nat)(mx1:maker)(x1:Expr):FnL Wt 73 77 [.sl 1 mx1.names,.sl 2 mx1.facts.Lifts,.int .i64 mx1.facts.Persons,.int .i64 mx1.facts.Flats,.ob mx1.full] [.bx 0 0,.agg [.int .i64 x1.Op,.int .i64 x1.N,.str x1.Name,.sl 0 x1.Args]] (a4a n mx1 x1) (fun r=> [.sl 1 r.1.names,.sl 2 r.1.facts.Lifts,.int .i64 r.1.facts.Persons,.int .i64 r.1.facts.Flats,.ob r.1.full]) (fun r=> .int .i64 r.2):=by
 refine b0p (n:=17) Tryz.func73 rfl rfl rfl (fun _ _=>by kernel_rfl) fun F0 w0 b r=> ?_
 unfold a4a
 refine gG rfl (by kernel_rfl) ?_
 refine gQ (c6k _ _ _) rfl rfl rfl (fun _=>rfl) fun v1=> ?_
 exact gRL rfl rfl rfl rfl rfl
theorem b5r(n:Nat)(ax1:Affine)(f1:(Int->Frac->Option Frac)):FnH Wt 194 [.agg [.int .i64 ax1.Const.P.Sign,.sl 2 ax1.Const.P.Digits,.int .i64 ax1.Const.Q.Sign,.sl 2 ax1.Const.Q.Digits,.sl 3 ax1.Coefs]] ⟨Int×Frac,Frac,fun q=> [.int .i64 q.1,.agg [.int .i64 q.2.P.Sign,.sl 2 q.2.P.Digits,.int .i64 q.2.Q.Sign,.sl 2 q.2.Q.Digits]],fun q=>f1 q.1 q.2,fun r=> .agg [.int .i64 r.P.Sign,.sl 2 r.P.Digits,.int .i64 r.Q.Sign,.sl 2 r.Q.Digits]⟩ (a7o n ax1 f1) (fun r=> .agg [.int .i64 r.Const.P.Sign,.sl 2 r.Const.P.Digits,.int .i64 r.Const.Q.Sign,.sl 2 r.Const.Q.Digits,.sl 3 r.Coefs]):=by
 refine b2v (n:=32) Tryz.func194 rfl rfl rfl (fun _ _=>by kernel_rfl) fun F0 w0 r u=> ?_
 unfold a7o
 refine gKv (T:=Wt) (Φ:=⟨Int×Frac,Frac,fun q=> [.int .i64 q.1,.agg [.int .i64 q.2.P.Sign,.sl 2 q.2.P.Digits,.int .i64 q.2.Q.Sign,.sl 2 q.2.Q.Digits]],fun q=>f1 q.1 q.2,fun r=> .agg [.int .i64 r.P.Sign,.sl 2 r.P.Digits,.int .i64 r.Q.Sign,.sl 2 r.Q.Digits]⟩) (u:=u) ((-1),ax1.Const) rfl rfl rfl fun v1=> ?_
 refine a2r ((fun k0 m(s:Int×List Frac)=>minmax_affine_L1 n ax1 f1 k0 m s.1 s.2) _) (fun(s:Int×List Frac)=> [.br 5 4 3 s.2,.v 16 (.int .i64 s.1)]) (fun _=>rfl) (_,_) rfl rfl (fun _=>rfl) rfl fun K1 m1 hK1 z1=> ?_
 obtain⟨i1,l1⟩:=z1;dsimp only
 refine gC rfl (fun _=> ?_) (fun _=> ?_)
 ·
  refine gV rfl fun ex1=> ?_
  refine gHs [(5,(pL [0,4,6,8] (.two 1 5 (pL [11,13,15,17,19] .nil) (pL [] (.two 1 6 (pL [13,15,17,19] .nil) (pL [3,15,17,19] .nil))))))] rfl (by kernel_rfl) rfl rfl fun Ky=> ?_
  refine gH2 rfl ?_ ?_
  all_goals
   refine gKv (T:=Wt) (Φ:=⟨Int×Frac,Frac,fun q=> [.int .i64 q.1,.agg [.int .i64 q.2.P.Sign,.sl 2 q.2.P.Digits,.int .i64 q.2.Q.Sign,.sl 2 q.2.Q.Digits]],fun q=>f1 q.1 q.2,fun r=> .agg [.int .i64 r.P.Sign,.sl 2 r.P.Digits,.int .i64 r.Q.Sign,.sl 2 r.Q.Digits]⟩) (u:=u) (i1,ex1) rfl rfl rfl fun v2=> ?_
   try refine gH2 rfl ?_ ?_
   all_goals
    refine gP rfl fun l3=> ?_
    refine gHe rfl ?_
    exact gE hK1 (_,_) rfl (by kernel_rfl)
 ·
  exact gR rfl rfl rfl
theorem c1m(n:Nat)(p1:Int)(x1:Frac)(cap1:Frac):FnC Wt 195 [.int .i64 p1,.agg [.int .i64 x1.P.Sign,.sl 2 x1.P.Digits,.int .i64 x1.Q.Sign,.sl 2 x1.Q.Digits],.fb [.int .i64 cap1.P.Sign,.sl 2 cap1.P.Digits,.int .i64 cap1.Q.Sign,.sl 2 cap1.Q.Digits] 0] (a5q n p1 x1 cap1) (fun r=> .agg [.int .i64 r.P.Sign,.sl 2 r.P.Digits,.int .i64 r.Q.Sign,.sl 2 r.Q.Digits]):=by
 refine a0z (n:=15) Tryz.func195 rfl rfl rfl (fun _ _=>by kernel_rfl) fun F0 w0 r=> ?_
 unfold a5q
 refine gK (c0s _ _ _) rfl rfl rfl fun v1=> ?_
 exact gR rfl rfl rfl
theorem b7g(n:Nat)(ax1:Affine)(byx1:Frac):FnC Wt 142 [.agg [.int .i64 ax1.Const.P.Sign,.sl 2 ax1.Const.P.Digits,.int .i64 ax1.Const.Q.Sign,.sl 2 ax1.Const.Q.Digits,.sl 3 ax1.Coefs],.agg [.int .i64 byx1.P.Sign,.sl 2 byx1.P.Digits,.int .i64 byx1.Q.Sign,.sl 2 byx1.Q.Digits]] (a6d n ax1 byx1) (fun r=> .agg [.int .i64 r.Const.P.Sign,.sl 2 r.Const.P.Digits,.int .i64 r.Const.Q.Sign,.sl 2 r.Const.Q.Digits,.sl 3 r.Coefs]):=by
 refine a0z (n:=8) Tryz.func142 rfl rfl rfl (fun _ _=>by kernel_rfl) fun F0 w0 r=> ?_
 unfold a6d
 refine gFc rfl rfl ?_
 refine gKh (b5r n _ (fun(q0:Int)(q1:Frac)=>a5q n q0 q1 byx1)) rfl rfl rfl (fvA rfl rfl (fun q=>c1m n q.1 q.2 byx1) default) fun v1=> ?_
 exact gR rfl rfl rfl
theorem c4w(n:Nat)(i1:Int)(x1:Frac)(cap1:Affine):FnC Wt 220 [.int .i64 i1,.agg [.int .i64 x1.P.Sign,.sl 2 x1.P.Digits,.int .i64 x1.Q.Sign,.sl 2 x1.Q.Digits],.fb [.int .i64 cap1.Const.P.Sign,.sl 2 cap1.Const.P.Digits,.int .i64 cap1.Const.Q.Sign,.sl 2 cap1.Const.Q.Digits,.sl 3 cap1.Coefs] 0] (a7f n i1 x1 cap1) (fun r=> .agg [.int .i64 r.P.Sign,.sl 2 r.P.Digits,.int .i64 r.Q.Sign,.sl 2 r.Q.Digits]):=by
 refine a0z (n:=25) Tryz.func220 rfl rfl rfl (fun _ _=>by kernel_rfl) fun F0 w0 r=> ?_
 unfold a7f
 refine gM (fun j1=> [.b 6 [.int .i64 j1.1,.sl 2 j1.2.1,.int .i64 j1.2.2.1,.sl 2 j1.2.2.2]]) rfl (fun _=>rfl) (fun J1 hJ1=> ?_) (fun j1=> ?_)
 ·
  refine gD rfl (fun _=> ?_) (fun _=> ?_)
  ·
   refine gA ?_
   refine gV rfl fun ex1=> ?_
   exact gX hJ1 rfl (by kernel_rfl)
  ·
   exact gX hJ1 rfl (by kernel_rfl)
 obtain⟨f1,f2,f3,f4⟩:=j1;dsimp only
 refine gK (b6f _ _ _) rfl rfl rfl fun v1=> ?_
 exact gR rfl rfl rfl
theorem c9s(n:Nat)(ax1:Affine)(b1:Affine):FnC Wt 199 [.agg [.int .i64 ax1.Const.P.Sign,.sl 2 ax1.Const.P.Digits,.int .i64 ax1.Const.Q.Sign,.sl 2 ax1.Const.Q.Digits,.sl 3 ax1.Coefs],.agg [.int .i64 b1.Const.P.Sign,.sl 2 b1.Const.P.Digits,.int .i64 b1.Const.Q.Sign,.sl 2 b1.Const.Q.Digits,.sl 3 b1.Coefs]] (b1a n ax1 b1) (fun r=> .agg [.int .i64 r.Const.P.Sign,.sl 2 r.Const.P.Digits,.int .i64 r.Const.Q.Sign,.sl 2 r.Const.Q.Digits,.sl 3 r.Coefs]):=by
 refine a0z (n:=8) Tryz.func199 rfl rfl rfl (fun _ _=>by kernel_rfl) fun F0 w0 r=> ?_
 unfold b1a
 refine gFc rfl rfl ?_
 refine gKh (b5r n _ (fun(q0:Int)(q1:Frac)=>a7f n q0 q1 b1)) rfl rfl rfl (fvA rfl rfl (fun q=>c4w n q.1 q.2 b1) default) fun v1=> ?_
 exact gR rfl rfl rfl
theorem a7t(n:Nat)(f1:Form):FnC Wt 145 [.agg [.sl 4 f1.Pieces]] (a4g n f1) (fun r=> .int .i64 r):=by
 refine a0z (n:=19) Tryz.func145 rfl rfl rfl (fun _ _=>by kernel_rfl) fun F0 w0 r=> ?_
 unfold a4g
 refine a2r ((fun k0 m(s:Int×Int)=>minmax_size_L1 n f1 k0 m s.1 s.2) _) (fun(s:Int×Int)=> [.v 3 (.int .i64 s.1),.v 9 (.int .i64 s.2)]) (fun _=>rfl) (_,_) rfl rfl (fun _=>rfl) rfl fun K1 m1 hK1 z1=> ?_
 obtain⟨nx1,i1⟩:=z1;dsimp only
 refine gC rfl (fun _=> ?_) (fun _=> ?_)
 ·
  refine gV rfl fun ex1=> ?_
  exact gE hK1 (_,_) rfl (by kernel_rfl)
 ·
  exact gR rfl rfl rfl
theorem a6f(n:Nat)(mx1:maker)(nx1:Int):FnL Wt 146 77 [.sl 1 mx1.names,.sl 2 mx1.facts.Lifts,.int .i64 mx1.facts.Persons,.int .i64 mx1.facts.Flats,.ob mx1.full] [.bx 0 0,.int .i64 nx1] (a2l n mx1 nx1) (fun r=> [.sl 1 r.1.names,.sl 2 r.1.facts.Lifts,.int .i64 r.1.facts.Persons,.int .i64 r.1.facts.Flats,.ob r.1.full]) (fun r=> .ob r.2):=by
 refine b0p (n:=21) Tryz.func146 rfl rfl rfl (fun _ _=>by kernel_rfl) fun F0 w0 b r=> ?_
 unfold a2l
 refine gJ 3 (fun v1=> [.v 13 (.ob v1)]) rfl (fun _=>rfl) (fun J1 hJ1=> ?_) (fun v1=> ?_)
 ·
  refine gD rfl (fun _=> ?_) (fun _=> ?_)
  ·
   exact gX hJ1 rfl (by kernel_rfl)
  ·
   exact gX hJ1 rfl (by kernel_rfl)
 exact gRL rfl rfl rfl rfl rfl
theorem b1p(n:Nat)(f1:Form)(byx1:Frac):FnC Wt 79 [.agg [.sl 4 f1.Pieces],.agg [.int .i64 byx1.P.Sign,.sl 2 byx1.P.Digits,.int .i64 byx1.Q.Sign,.sl 2 byx1.Q.Digits]] (a5m n f1 byx1) (fun r=> .agg [.sl 4 r.Pieces]):=by
 refine a0z (n:=39) Tryz.func79 rfl rfl rfl (fun _ _=>by kernel_rfl) fun F0 w0 r=> ?_
 unfold a5m
 refine a2r ((fun k0 m(s:Int×List (List Affine)×(List (List Affine))×Int×(List Int)×Int×(List Int))=>minmax_scaled_L1 n f1 k0 m s.1 s.2.1 s.2.2.1 s.2.2.2.1 s.2.2.2.2.1 s.2.2.2.2.2.1 s.2.2.2.2.2.2) _) (fun(s:Int×List (List Affine)×(List (List Affine))×Int×(List Int)×Int×(List Int))=> [.b 3 [.int .i64 s.2.2.2.1,.sl 2 s.2.2.2.2.1,.int .i64 s.2.2.2.2.2.1,.sl 2 s.2.2.2.2.2.2],.b 4 [.sl 4 s.2.2.1],.br 5 0 4 s.2.1,.v 14 (.int .i64 s.1)]) (fun _=>rfl) (_,_,_,_,_,_,_) rfl rfl (fun _=>rfl) rfl fun K1 m1 hK1 z1=> ?_
 obtain⟨i1,l1,f2,f3,f4,f5,f6⟩:=z1;dsimp only
 refine gC rfl (fun _=> ?_) (fun _=> ?_)
 ·
  refine gV rfl fun ex1=> ?_
  refine a2r ((fun k0 m(s:Int×List Affine)=>minmax_scaled_L2 n f3 f4 f5 f6 ex1 k0 m s.1 s.2) _) (fun(s:Int×List Affine)=> [.r 8 5 s.2,.v 20 (.int .i64 s.1)]) (fun _=>rfl) (_,_) rfl rfl (fun _=>rfl) rfl fun K2 m2 hK2 z2=> ?_
  obtain⟨i2,l3⟩:=z2;dsimp only
  refine gC rfl (fun _=> ?_) (fun _=> ?_)
  ·
   refine gV rfl fun ex2=> ?_
   refine gK (b7g _ _ _) rfl rfl rfl fun v1=> ?_
   refine gP rfl fun l6=> ?_
   exact gE hK2 (_,_) rfl (by kernel_rfl)
  ·
   refine gZ rfl ?_
   refine gP rfl fun l5=> ?_
   exact gE hK1 (_,_,_,_,_,_,_) rfl (by kernel_rfl)
 ·
  exact gR rfl rfl rfl
theorem a8d(n:Nat)(s1:(List Affine)):FnO Wt 196 [.sl 5 s1] (a1a n s1) 62 5 5 (fun r=>r):=⟨fun _ _=>by kernel_rfl,fun r hm w F hs hg us hu=>by
 obtain⟨_,_,rfl,⟨_,_,_,rfl,hs0⟩,rfl⟩:=hu
 exact(a7u n s1 r hm hs hs0).mono fun e w'⟨v,F',O',e1,e2,⟨a,m,n,xs,e3,e4,e5⟩⟩=>⟨v,F',a,m,n,xs,e1,e4▸e2,e5,e3⟩⟩
theorem a8y(n:Nat)(mx1:maker)(f1:Form):FnL Wt 143 77 [.sl 1 mx1.names,.sl 2 mx1.facts.Lifts,.int .i64 mx1.facts.Persons,.int .i64 mx1.facts.Flats,.ob mx1.full] [.bx 0 0,.agg [.sl 4 f1.Pieces]] (a2c n mx1 f1) (fun r=> [.sl 1 r.1.names,.sl 2 r.1.facts.Lifts,.int .i64 r.1.facts.Persons,.int .i64 r.1.facts.Flats,.ob r.1.full]) (fun r=> .agg [.sl 4 r.2.Pieces]):=by
 refine b0p (n:=62) Tryz.func143 rfl rfl rfl (fun _ _=>by kernel_rfl) fun F0 w0 b r=> ?_
 unfold a2c
 refine gFr 5 rfl ?_
 refine a2r ((fun k0 m(s:(List (List Affine))×Int×(List (List Affine))×(List (List Affine))×(List Bs)×(List Int)×Int×Int×Bool)=>minmax_maker_opposite_L1 n f1 k0 m s.1 s.2.1 s.2.2.1 s.2.2.2.1 s.2.2.2.2.1 s.2.2.2.2.2.1 s.2.2.2.2.2.2.1 s.2.2.2.2.2.2.2.1 s.2.2.2.2.2.2.2.2) _) (fun(s:(List (List Affine))×Int×(List (List Affine))×(List (List Affine))×(List Bs)×(List Int)×Int×Int×Bool)=> [.b 0 [.sl 1 s.2.2.2.2.1,.sl 2 s.2.2.2.2.2.1,.int .i64 s.2.2.2.2.2.2.1,.int .i64 s.2.2.2.2.2.2.2.1,.ob s.2.2.2.2.2.2.2.2],.b 3 [.sl 4 s.2.2.2.1],.b 4 [.sl 4 s.2.2.1],.v 5 (.sl 4 s.1),.v 17 (.int .i64 s.2.1)]) (fun _=>rfl) (_,_,_,_,_,_,_,_,_) rfl rfl (fun _=>rfl) rfl fun K1 m1 hK1 z1=> ?_
 obtain⟨choices1,i1,f2,f3,f4,f5,f6,f7,f8⟩:=z1;dsimp only
 refine gC rfl (fun _=> ?_) (fun _=> ?_)
 ·
  refine gV rfl fun ex1=> ?_
  refine gN (a6f _ _ _) rfl rfl rfl rfl rfl fun v1=> ?_
  refine gC rfl (fun _=> ?_) (fun _=> ?_)
  ·
   exact gRL rfl rfl rfl rfl rfl
  ·
   refine a2r ((fun k0 m(s:Int×List (List Affine)×(List (List Affine))×(List (List Affine))×(List Bs)×(List Int)×Int×Int×Bool)=>minmax_maker_opposite_L2 n choices1 ex1 k0 m s.1 s.2.1 s.2.2.1 s.2.2.2.1 s.2.2.2.2.1 s.2.2.2.2.2.1 s.2.2.2.2.2.2.1 s.2.2.2.2.2.2.2.1 s.2.2.2.2.2.2.2.2) _) (fun(s:Int×List (List Affine)×(List (List Affine))×(List (List Affine))×(List Bs)×(List Int)×Int×Int×Bool)=> [.b 0 [.sl 1 s.2.2.2.2.1,.sl 2 s.2.2.2.2.2.1,.int .i64 s.2.2.2.2.2.2.1,.int .i64 s.2.2.2.2.2.2.2.1,.ob s.2.2.2.2.2.2.2.2],.b 3 [.sl 4 s.2.2.2.1],.b 4 [.sl 4 s.2.2.1],.r 8 4 s.2.1,.v 36 (.int .i64 s.1)]) (fun _=>rfl) (_,_,_,_,_,_,_,_,_) rfl rfl (fun _=>rfl) rfl fun K2 m2 hK2 z2=> ?_
   obtain⟨i2,l1,f15,f16,f17,f18,f19,f20,f21⟩:=z2;dsimp only
   refine gC rfl (fun _=> ?_) (fun _=> ?_)
   ·
    refine gV rfl fun ex2=> ?_
    refine a2r ((fun k0 m(s:Int×List (List Affine))=>minmax_maker_opposite_L3 n ex1 ex2 k0 m s.1 s.2) _) (fun(s:Int×List (List Affine))=> [.r 8 4 s.2,.v 42 (.int .i64 s.1)]) (fun _=>rfl) (_,_) rfl rfl (fun _=>rfl) rfl fun K3 m3 hK3 z3=> ?_
    obtain⟨i3,l3⟩:=z3;dsimp only
    refine gC rfl (fun _=> ?_) (fun _=> ?_)
    ·
     refine gV rfl fun ex3=> ?_
     refine gHs [(14,(pL [0,2,6,5,9,11,13,15,17,19,21] .nil))] rfl (by kernel_rfl) rfl rfl fun Ky=> ?_
     refine gO (a8d _ _) rfl rfl rfl fun v2=> ?_
     refine gK (a5y _ _) rfl rfl rfl fun v3=> ?_
     refine gK (b7g _ _ _) rfl rfl rfl fun v4=> ?_
     refine gP rfl fun l5=> ?_
     refine gZ rfl ?_
     refine gP rfl fun l6=> ?_
     refine gHe rfl ?_
     exact gE hK3 (_,_) rfl (by kernel_rfl)
    ·
     exact gE hK2 (_,_,_,_,_,_,_,_,_) rfl (by kernel_rfl)
   ·
    refine gFr 5 rfl ?_
    exact gE hK1 (_,_,_,_,_,_,_,_,_) rfl (by kernel_rfl)
 ·
  exact gRL rfl rfl rfl rfl rfl
theorem a7r(n:Nat)(ax1:Form)(b1:Form)(piece1:((List Affine)->(List Affine)->Option (List Affine))):FnH Wt 148 [.agg [.sl 4 ax1.Pieces],.agg [.sl 4 b1.Pieces]] ⟨(List Affine)×(List Affine),(List Affine),fun q=> [.sl 5 q.1,.sl 5 q.2],fun q=>piece1 q.1 q.2,fun r=> .sl 5 r⟩ (a4k n ax1 b1 piece1) (fun r=> .agg [.sl 4 r.Pieces]):=by
 refine b2v (n:=38) Tryz.func148 rfl rfl rfl (fun _ _=>by kernel_rfl) fun F0 w0 r u=> ?_
 unfold a4k
 refine a2r ((fun k0 m(s:Int×List (List Affine)×(List (List Affine))×(List (List Affine)))=>minmax_join_L1 n ax1 piece1 k0 m s.1 s.2.1 s.2.2.1 s.2.2.2) _) (fun(s:Int×List (List Affine)×(List (List Affine))×(List (List Affine)))=> [.b 4 [.sl 4 s.2.2.2],.b 6 [.sl 4 s.2.2.1],.br 7 0 4 s.2.1,.v 15 (.int .i64 s.1)]) (fun _=>rfl) (_,_,_,_) rfl rfl (fun _=>rfl) rfl fun K1 m1 hK1 z1=> ?_
 obtain⟨i1,l1,f1,f2⟩:=z1;dsimp only
 refine gC rfl (fun _=> ?_) (fun _=> ?_)
 ·
  refine gV rfl fun ex1=> ?_
  refine a2r ((fun k0 m(s:Int×List (List Affine))=>minmax_join_L2 n piece1 f2 ex1 k0 m s.1 s.2) _) (fun(s:Int×List (List Affine))=> [.br 7 0 4 s.2,.v 22 (.int .i64 s.1)]) (fun _=>rfl) (_,_) rfl rfl (fun _=>rfl) rfl fun K2 m2 hK2 z2=> ?_
  obtain⟨i2,l3⟩:=z2;dsimp only
  refine gC rfl (fun _=> ?_) (fun _=> ?_)
  ·
   refine gV rfl fun ex2=> ?_
   refine gHs [(8,(pL [0,4,6,8] (.two 1 5 (pL [11,13,15,17,19] .nil) (pL [] (.two 1 6 (pL [13,15,17,19] .nil) (pL [3,15,17,19] .nil))))))] rfl (by kernel_rfl) rfl rfl fun Ky=> ?_
   refine gH2 rfl ?_ ?_
   all_goals
    refine gKv (T:=Wt) (Φ:=⟨(List Affine)×(List Affine),(List Affine),fun q=> [.sl 5 q.1,.sl 5 q.2],fun q=>piece1 q.1 q.2,fun r=> .sl 5 r⟩) (u:=u) (ex1,ex2) rfl rfl rfl fun v1=> ?_
    try refine gH2 rfl ?_ ?_
    all_goals
     refine gP rfl fun l5=> ?_
     refine gHe rfl ?_
     exact gE hK2 (_,_) rfl (by kernel_rfl)
  ·
   exact gE hK1 (_,_,_,_) rfl (by kernel_rfl)
 ·
  exact gR rfl rfl rfl
theorem b4f(n:Nat)(x1:(List Affine))(y1:(List Affine)):FnO Wt 150 [.sl 5 x1,.sl 5 y1] (a4u n x1 y1) 62 5 5 (fun r=>r):=by
 refine b7a (n:=31) Tryz.func150 rfl rfl rfl (fun _ _=>by kernel_rfl) fun F0 w0 r=> ?_
 unfold a4u
 refine a2r ((fun k0 m(s:Int×List Affine)=>minmax_sums_L1 n x1 y1 k0 m s.1 s.2) _) (fun(s:Int×List Affine)=> [.r 5 5 s.2,.v 12 (.int .i64 s.1)]) (fun _=>rfl) (_,_) rfl rfl (fun _=>rfl) rfl fun K1 m1 hK1 z1=> ?_
 obtain⟨i1,l1⟩:=z1;dsimp only
 refine gC rfl (fun _=> ?_) (fun _=> ?_)
 ·
  refine gV rfl fun ex1=> ?_
  refine a2r ((fun k0 m(s:Int×List Affine)=>minmax_sums_L2 n y1 ex1 k0 m s.1 s.2) _) (fun(s:Int×List Affine)=> [.r 5 5 s.2,.v 18 (.int .i64 s.1)]) (fun _=>rfl) (_,_) rfl rfl (fun _=>rfl) rfl fun K2 m2 hK2 z2=> ?_
  obtain⟨i2,l3⟩:=z2;dsimp only
  refine gC rfl (fun _=> ?_) (fun _=> ?_)
  ·
   refine gV rfl fun ex2=> ?_
   refine gK (c9s _ _ _) rfl rfl rfl fun v1=> ?_
   refine gP rfl fun l5=> ?_
   exact gE hK2 (_,_) rfl (by kernel_rfl)
  ·
   exact gE hK1 (_,_) rfl (by kernel_rfl)
 ·
  exact gRO rfl
theorem a7x(n:Nat)(slices1:(List (List Affine))):FnO Wt 198 [.sl 4 slices1] (a1o n slices1) 62 5 5 (fun r=>r):=by
 refine b7a (n:=36) Tryz.func198 rfl rfl rfl (fun _ _=>by kernel_rfl) fun F0 w0 r=> ?_
 unfold a1o
 refine a2r ((fun k0 m(s:Int×Int)=>slices_Concat_api_Affine_api_Affine_L1 n slices1 k0 m s.1 s.2) _) (fun(s:Int×Int)=> [.v 3 (.int .i64 s.1),.v 11 (.int .i64 s.2)]) (fun _=>rfl) (_,_) rfl rfl (fun _=>rfl) rfl fun K1 m1 hK1 z1=> ?_
 obtain⟨size1,i1⟩:=z1;dsimp only
 refine gC rfl (fun _=> ?_) (fun _=> ?_)
 ·
  refine gV rfl fun ex2=> ?_
  refine gC rfl (fun _=> ?_) (fun _=> ?_)
  ·
   exact gNo
  ·
   exact gE hK1 (_,_) rfl (by kernel_rfl)
 ·
  refine gO (c2o _ _ _) rfl rfl rfl fun v1=> ?_
  refine a2r ((fun k0 m(s:Int×List Affine)=>slices_Concat_api_Affine_api_Affine_L2 n slices1 k0 m s.1 s.2) _) (fun(s:Int×List Affine)=> [.r 6 5 s.2,.v 27 (.int .i64 s.1)]) (fun _=>rfl) (_,_) rfl rfl (fun _=>rfl) rfl fun K2 m2 hK2 z2=> ?_
  obtain⟨i2,l1⟩:=z2;dsimp only
  refine gC rfl (fun _=> ?_) (fun _=> ?_)
  ·
   refine gV rfl fun ex1=> ?_
   refine gP rfl fun l3=> ?_
   exact gE hK2 (_,_) rfl (by kernel_rfl)
  ·
   exact gRO rfl
theorem b4h(n:Nat)(x1:(List Affine))(y1:(List Affine)):FnO Wt 149 [.sl 5 x1,.sl 5 y1] (a4w n x1 y1) 62 5 5 (fun r=>r):=by
 refine b7a (n:=9) Tryz.func149 rfl rfl rfl (fun _ _=>by kernel_rfl) fun F0 w0 r=> ?_
 unfold a4w
 refine gO (a7x _ _) rfl rfl rfl fun v1=> ?_
 exact gRO rfl
theorem a2u(n:Nat)(slices1:(List (List (List Affine)))):FnO Wt 147 [.sl 9 slices1] (a0h n slices1) 57 1 4 (fun r=>r):=by
 refine b7a (n:=36) Tryz.func147 rfl rfl rfl (fun _ _=>by kernel_rfl) fun F0 w0 r=> ?_
 unfold a0h
 refine a2r ((fun k0 m(s:Int×Int)=>slices_Concat_LLapi_Affine_api_Affine_L1 n slices1 k0 m s.1 s.2) _) (fun(s:Int×Int)=> [.v 3 (.int .i64 s.1),.v 11 (.int .i64 s.2)]) (fun _=>rfl) (_,_) rfl rfl (fun _=>rfl) rfl fun K1 m1 hK1 z1=> ?_
 obtain⟨size1,i1⟩:=z1;dsimp only
 refine gC rfl (fun _=> ?_) (fun _=> ?_)
 ·
  refine gV rfl fun ex2=> ?_
  refine gC rfl (fun _=> ?_) (fun _=> ?_)
  ·
   exact gNo
  ·
   exact gE hK1 (_,_) rfl (by kernel_rfl)
 ·
  refine gO (c4a _ _ _) rfl rfl rfl fun v1=> ?_
  refine a2r ((fun k0 m(s:Int×List (List Affine))=>slices_Concat_LLapi_Affine_api_Affine_L2 n slices1 k0 m s.1 s.2) _) (fun(s:Int×List (List Affine))=> [.r 6 4 s.2,.v 27 (.int .i64 s.1)]) (fun _=>rfl) (_,_) rfl rfl (fun _=>rfl) rfl fun K2 m2 hK2 z2=> ?_
  obtain⟨i2,l1⟩:=z2;dsimp only
  refine gC rfl (fun _=> ?_) (fun _=> ?_)
  ·
   refine gV rfl fun ex1=> ?_
   refine gP rfl fun l3=> ?_
   exact gE hK2 (_,_) rfl (by kernel_rfl)
  ·
   exact gRO rfl
theorem a6z(n:Nat)(s1:(List Affine))(f1:(Affine->Option Bool)):FnH Wt 164 [.sl 5 s1] ⟨Affine,Bool,fun q=> [.agg [.int .i64 q.Const.P.Sign,.sl 2 q.Const.P.Digits,.int .i64 q.Const.Q.Sign,.sl 2 q.Const.Q.Digits,.sl 3 q.Coefs]],fun q=>f1 q,fun r=> .ob r⟩ (a2y n s1 f1) (fun r=> .int .i64 r):=by
 refine b2v (n:=19) Tryz.func164 rfl rfl rfl (fun _ _=>by kernel_rfl) fun F0 w0 r u=> ?_
 unfold a2y
 refine a2r ((fun k0 m(s:Int)=>a2n n s1 f1 k0 m s) _) (fun(s:Int)=> [.v 8 (.int .i64 s)]) (fun _=>rfl) _ rfl rfl (fun _=>rfl) rfl fun K1 m1 hK1 i1=> ?_
 refine gC rfl (fun _=> ?_) (fun _=> ?_)
 ·
  refine gV rfl fun ex1=> ?_
  refine gKv (T:=Wt) (Φ:=⟨Affine,Bool,fun q=> [.agg [.int .i64 q.Const.P.Sign,.sl 2 q.Const.P.Digits,.int .i64 q.Const.Q.Sign,.sl 2 q.Const.Q.Digits,.sl 3 q.Coefs]],fun q=>f1 q,fun r=> .ob r⟩) (u:=u) ex1 rfl rfl rfl fun v1=> ?_
  refine gC rfl (fun _=> ?_) (fun _=> ?_)
  ·
   exact gR rfl rfl rfl
  ·
   exact gE hK1 _ rfl (by kernel_rfl)
 ·
  exact gR rfl rfl rfl
theorem a6e(n:Nat)(s1:(List Affine))(f1:(Affine->Option Bool)):FnH Wt 98 [.sl 5 s1] ⟨Affine,Bool,fun q=> [.agg [.int .i64 q.Const.P.Sign,.sl 2 q.Const.P.Digits,.int .i64 q.Const.Q.Sign,.sl 2 q.Const.Q.Digits,.sl 3 q.Coefs]],fun q=>f1 q,fun r=> .ob r⟩ (a2m n s1 f1) (fun r=> .ob r):=by
 refine b2v (n:=9) Tryz.func98 rfl rfl rfl (fun _ _=>by kernel_rfl) fun F0 w0 r u=> ?_
 unfold a2m
 refine gKh (FnH.up (a6z n _ f1)) rfl rfl rfl b6k fun v1=> ?_
 exact gR rfl rfl rfl
theorem a6l(n:Nat)(s1:(List (List Affine)))(f1:((List Affine)->Option Bool)):FnH Wt 165 [.sl 4 s1] ⟨(List Affine),Bool,fun q=> [.sl 5 q],fun q=>f1 q,fun r=> .ob r⟩ (a2q n s1 f1) (fun r=> .int .i64 r):=by
 refine b2v (n:=19) Tryz.func165 rfl rfl rfl (fun _ _=>by kernel_rfl) fun F0 w0 r u=> ?_
 unfold a2q
 refine a2r ((fun k0 m(s:Int)=>a2h n s1 f1 k0 m s) _) (fun(s:Int)=> [.v 8 (.int .i64 s)]) (fun _=>rfl) _ rfl rfl (fun _=>rfl) rfl fun K1 m1 hK1 i1=> ?_
 refine gC rfl (fun _=> ?_) (fun _=> ?_)
 ·
  refine gV rfl fun ex1=> ?_
  refine gKv (T:=Wt) (Φ:=⟨(List Affine),Bool,fun q=> [.sl 5 q],fun q=>f1 q,fun r=> .ob r⟩) (u:=u) ex1 rfl rfl rfl fun v1=> ?_
  refine gC rfl (fun _=> ?_) (fun _=> ?_)
  ·
   exact gR rfl rfl rfl
  ·
   exact gE hK1 _ rfl (by kernel_rfl)
 ·
  exact gR rfl rfl rfl
theorem a5v(n:Nat)(s1:(List (List Affine)))(f1:((List Affine)->Option Bool)):FnH Wt 99 [.sl 4 s1] ⟨(List Affine),Bool,fun q=> [.sl 5 q],fun q=>f1 q,fun r=> .ob r⟩ (a2i n s1 f1) (fun r=> .ob r):=by
 refine b2v (n:=9) Tryz.func99 rfl rfl rfl (fun _ _=>by kernel_rfl) fun F0 w0 r u=> ?_
 unfold a2i
 refine gKh (FnH.up (a6l n _ f1)) rfl rfl rfl b6k fun v1=> ?_
 exact gR rfl rfl rfl
end Go.Proofs.YthaegflpecbfgaaGreatDoor.M
namespace Go.Proofs.YthaegflpecbfgaaGreatDoor.M
open Go Go.RowKit Rt
set_option linter.unusedVariables false
set_option maxRecDepth 1000000
set_option maxHeartbeats 8000000
theorem b4k(n:Nat)(x:Frac):FnC Wt 95 [.agg [.int .i64 x.P.Sign,.sl 2 x.P.Digits,.int .i64 x.Q.Sign,.sl 2 x.Q.Digits]] (a7y n x) (fun r=> .ob r):=by
 refine a0z (n:=6) Tryz.func95 rfl rfl rfl (fun _ _=>by kernel_rfl) fun F0 w0 r=> ?_
 unfold a7y
 refine gK (a2e _ _) rfl rfl rfl fun v1=> ?_
 exact gR rfl rfl rfl
theorem c1t(n:Nat)(a:Affine)(k:Int):FnC Wt 96 [.agg [.int .i64 a.Const.P.Sign,.sl 2 a.Const.P.Digits,.int .i64 a.Const.Q.Sign,.sl 2 a.Const.Q.Digits,.sl 3 a.Coefs],.fb [.val (.func (.func 95) #[] #[])] 0,.fb [.int .i64 k] 0] (a9x n a k) (fun r=> .ob r):=by
 refine a0z (n:=22) Tryz.func96 rfl rfl rfl (fun _ _=>by kernel_rfl) fun F0 w0 r=> ?_
 unfold a9x
 refine gK (b4k _ _) rfl rfl rfl fun v1=> ?_
 refine gJ 6 (fun v2=> [.v 15 (.ob v2)]) rfl (fun _=>rfl) (fun J1 hJ1=> ?_) (fun v2=> ?_)
 ·refine gD rfl (fun _=> ?_) (fun _=> ?_)
  ·exact gX hJ1 rfl rfl
  ·exact gX hJ1 rfl rfl
 refine gJ 5 (fun v3=> [.v 21 (.ob v3)]) rfl (fun _=>rfl) (fun J2 hJ2=> ?_) (fun v3=> ?_)
 ·refine gD rfl (fun _=> ?_) (fun _=> ?_)
  ·exact gX hJ2 rfl rfl
  ·refine gA ?_
   refine gKh (a2t n _ (a7y n)) rfl rfl rfl (fvA rfl rfl (fun q=>b4k n q) default) fun v4=> ?_
   exact gX hJ2 rfl rfl
 exact gR rfl rfl rfl
theorem c1l(n:Nat)(l:List Affine)(k:Int):FnC Wt 97 [.sl 5 l,.fb [.clo 96 [.fb [.val (.func (.func 95) #[] #[])] 0,.fb [.int .i64 k] 0]] 0] (a9z n l k) (fun r=> .ob r):=by
 refine a0z (n:=12) Tryz.func97 rfl rfl rfl (fun _ _=>by kernel_rfl) fun F0 w0 r=> ?_
 unfold a9z
 refine gJ 4 (fun v1=> [.v 11 (.ob v1)]) rfl (fun _=>rfl) (fun J1 hJ1=> ?_) (fun v1=> ?_)
 ·refine gD rfl (fun _=> ?_) (fun _=> ?_)
  ·exact gX hJ1 rfl rfl
  ·refine gA ?_
   refine gKh (a6e n _ (fun a=>a9x n a k)) rfl rfl rfl (fvA rfl rfl (fun q=>c1t n q k) default) fun v4=> ?_
   exact gX hJ1 rfl rfl
 exact gR rfl rfl rfl
theorem c5c(n:Nat)(f:Form)(k:Int):FnC Wt 46 [.agg [.sl 4 f.Pieces],.int .i64 k] (b5l n f k) (fun r=> .ob r):=by
 refine a0z (n:=21) Tryz.func46 rfl rfl rfl (fun _ _=>by kernel_rfl) fun F0 w0 r=> ?_
 unfold b5l
 refine gFz 2 rfl rfl ?_
 refine gFz 1 rfl rfl ?_
 refine gFz 3 rfl rfl ?_
 refine gJ 6 (fun v1=> [.v 20 (.ob v1)]) rfl (fun _=>rfl) (fun J1 hJ1=> ?_) (fun v1=> ?_)
 ·refine gD rfl (fun _=> ?_) (fun _=> ?_)
  ·refine gA ?_
   refine gKh (a5v n _ (fun l=>a9z n l k)) rfl rfl rfl (fvA rfl rfl (fun q=>c1l n q k) default) fun v4=> ?_
   exact gX hJ1 rfl rfl
  ·exact gX hJ1 rfl rfl
 exact gR rfl rfl rfl
def c9p(n:Nat)(mx1:maker):Option (List Frac):=(a3q n 0).bind fun v1=>(a2z n [v1] (mx1.names.length:Int)).bind fun v2=>some v2
theorem d1f(n:Nat)(mx1:maker)(c1:Frac):a1d n mx1 c1=(c9p n mx1).bind fun v2=>some (mx1,(⟨[[(⟨c1,v2⟩:Affine)]]⟩:Form)):=by
 unfold a1d c9p
 cases a3q n 0 with
 |none=>rfl
 |some v=>show(a2z n [v] _).bind _=((a2z n [v] _).bind _).bind _;cases a2z n [v] (mx1.names.length:Int)<;>rfl
theorem e0x(n:Nat)(m:maker)(c:Frac)(s:Bs):(a1d n m c).bind (fun v5=>(ix v5.2.Pieces 0).bind fun ex1=>(ix ex1 0).bind fun ex2=>(a0o n v5.1.names s).bind fun v6=>(a3q n 1).bind fun v7=>(ix ex2.Coefs v6).bind fun _=>(setw v5.2.Pieces v6 v7).bind fun p1=>some (v5.1,(⟨p1⟩:Form)))=
 (c9p n m).bind fun l=>(a0o n m.names s).bind fun v6=>(a3q n 1).bind fun v7=>(ix l v6).bind fun _=>(lset l v6 v7).bind fun l2=>some (m,(⟨[[(⟨c,l2⟩:Affine)]]⟩:Form)):=by
 rw [d1f,Option.bind_assoc]
 congr 1;funext l
 show(a0o n m.names s).bind _=_
 congr 1;funext v6
 congr 1;funext v7
 show(ix l v6).bind _=_
 congr 1;funext z
 show((lset l v6 v7).bind _).bind _=_
 rw [Option.bind_assoc];rfl
theorem e0q(n:Nat)(mx1:maker)(c1:Frac):FnLG Wt 74 77 [.sl 1 mx1.names,.sl 2 mx1.facts.Lifts,.int .i64 mx1.facts.Persons,.int .i64 mx1.facts.Flats,.ob mx1.full] [.bx 0 0,.agg [.int .i64 c1.P.Sign,.sl 2 c1.P.Digits,.int .i64 c1.Q.Sign,.sl 2 c1.Q.Digits]] (c9p n mx1)
 (fun _=> [.sl 1 mx1.names,.sl 2 mx1.facts.Lifts,.int .i64 mx1.facts.Persons,.int .i64 mx1.facts.Flats,.ob mx1.full])
 (fun r=> [.box 44 [.int .i64 c1.P.Sign,.sl 2 c1.P.Digits,.int .i64 c1.Q.Sign,.sl 2 c1.Q.Digits],.box 34 [.sb 7 4 1],.gone,.gone,.row 44 4 3 r,.box 62 [.int .i64 c1.P.Sign,.sl 2 c1.P.Digits,.int .i64 c1.Q.Sign,.sl 2 c1.Q.Digits,.row 5],.box 57 [.sb 6 5 1]]) (fun _=> .agg [.sb 7 4 1]):=by
 refine e6q (n:=18) Tryz.func74 rfl rfl rfl (fun _ _=>by kernel_rfl) fun F0 w0 b r=> ?_
 unfold c9p
 refine gHs [(1,(pL [0,6,8,10,12,14,3,5,17,18,21,23,24,27] .nil))] rfl (by kernel_rfl) rfl rfl fun Ky=> ?_
 refine gK (a5y _ _) rfl rfl rfl fun v1=> ?_
 refine gO (b5t _ _ _) rfl rfl rfl fun v2=> ?_
 refine gBs rfl ?_
 refine gBs rfl ?_
 refine gHe rfl ?_
 exact gRLG rfl
theorem FnO.c{P:Program}{T:Tbl P}{f:FuncId}{ρ:Type}{us:List (AV T.ty)}{m:Option ρ}{el q c:Nat}{res:ρ->List (T.ty c)}(h:FnO T f us m el q c res):FnC T f us m (fun r=> .sl c (res r)):=⟨h.1,fun r hm w F hs hg us hu=>(h.2 r hm w F hs hg us hu).mono fun e w'⟨v,F',a,m,nn,xs,e1,e2,e3,e4⟩=>by
 obtain⟨F2,h1,h2,h3⟩:=frzO e2 e3
 exact⟨v,F2,e1,h2,a,m,nn,e4,h3⟩⟩
end Go.Proofs.YthaegflpecbfgaaGreatDoor.M
namespace Go.Proofs.YthaegflpecbfgaaGreatDoor.M
open Go Go.RowKit Rt
set_option maxRecDepth 1000000
set_option maxHeartbeats 40000000
theorem a9l(n:Nat)(mx1:maker)(f1:Form)(byx1:Frac):FnL Wt 80 77 [.sl 1 mx1.names,.sl 2 mx1.facts.Lifts,.int .i64 mx1.facts.Persons,.int .i64 mx1.facts.Flats,.ob mx1.full] [.bx 0 0,.agg [.sl 4 f1.Pieces],.agg [.int .i64 byx1.P.Sign,.sl 2 byx1.P.Digits,.int .i64 byx1.Q.Sign,.sl 2 byx1.Q.Digits]] (a3r n mx1 f1 byx1) (fun r=> [.sl 1 r.1.names,.sl 2 r.1.facts.Lifts,.int .i64 r.1.facts.Persons,.int .i64 r.1.facts.Flats,.ob r.1.full]) (fun r=> .agg [.sl 4 r.2.Pieces]):=by
 refine b0p (n:=25) Tryz.func80 rfl rfl rfl (fun _ _=>by kernel_rfl) fun F0 w0 b r=> ?_
 unfold a3r
 refine gK (b7t _ _) rfl rfl rfl fun v1=> ?_
 refine gC rfl (fun _=> ?_) (fun _=> ?_)
 ·
  refine gN (a8x _ _ _) rfl rfl rfl rfl rfl fun v2=> ?_
  exact gRL rfl rfl rfl rfl rfl
 ·
  refine gC rfl (fun _=> ?_) (fun _=> ?_)
  ·
   refine gK (b1p _ _ _) rfl rfl rfl fun v3=> ?_
   exact gRL rfl rfl rfl rfl rfl
  ·
   refine gHs [(6,(pL [0,2,6,5,9,11,13] .nil))] rfl (by kernel_rfl) rfl rfl fun Ky=> ?_
   refine gN (a8y _ _ _) rfl rfl rfl rfl rfl fun v4=> ?_
   refine gK (d4s _ _) rfl rfl rfl fun v5=> ?_
   refine gK (b1p _ _ _) rfl rfl rfl fun v6=> ?_
   refine gHe rfl ?_
   exact gRL rfl rfl rfl rfl rfl
theorem b7x(n:Nat)(mx1:maker)(op1:Int)(ax1:Form)(b1:Form):FnL Wt 81 77 [.sl 1 mx1.names,.sl 2 mx1.facts.Lifts,.int .i64 mx1.facts.Persons,.int .i64 mx1.facts.Flats,.ob mx1.full] [.bx 0 0,.int .i64 op1,.agg [.sl 4 ax1.Pieces],.agg [.sl 4 b1.Pieces]] (a5w n mx1 op1 ax1 b1) (fun r=> [.sl 1 r.1.names,.sl 2 r.1.facts.Lifts,.int .i64 r.1.facts.Persons,.int .i64 r.1.facts.Flats,.ob r.1.full]) (fun r=> .agg [.sl 4 r.2.Pieces]):=by
 refine b0p (n:=66) Tryz.func81 rfl rfl rfl (fun _ _=>by kernel_rfl) fun F0 w0 b r=> ?_
 unfold a5w
 refine gM (fun j1=> [.b 0 [.sl 1 j1.2.1,.sl 2 j1.2.2.1,.int .i64 j1.2.2.2.1,.int .i64 j1.2.2.2.2.1,.ob j1.2.2.2.2.2],.b 7 [.sl 4 j1.1]]) rfl (fun _=>rfl) (fun J1 hJ1=> ?_) (fun j1=> ?_)
 ·
  refine gD rfl (fun _=> ?_) (fun _=> ?_)
  ·
   refine gA ?_
   refine gN (a8y _ _ _) rfl rfl rfl rfl rfl fun v19=> ?_
   exact gX hJ1 rfl (by kernel_rfl)
  ·
   exact gX hJ1 rfl (by kernel_rfl)
 obtain⟨f1,f2,f3,f4,f5,f6⟩:=j1;dsimp only
 refine gG rfl (by kernel_rfl) ?_
 refine gQ (a7t _ _) rfl rfl rfl (fun _=>rfl) fun v1=> ?_
 refine gQ (a7t _ _) rfl rfl rfl (fun _=>rfl) fun v2=> ?_
 refine gC rfl (fun _=> ?_) (fun _=> ?_)
 ·
  refine gG rfl (by kernel_rfl) ?_
  refine gQ (a7t _ _) rfl rfl rfl (fun _=>rfl) fun v3=> ?_
  refine gQ (a7t _ _) rfl rfl rfl (fun _=>rfl) fun v4=> ?_
  refine gN (a6f _ _ _) rfl rfl rfl rfl rfl fun v5=> ?_
  refine gC rfl (fun _=> ?_) (fun _=> ?_)
  ·
   exact gRL rfl rfl rfl rfl rfl
  ·
   refine gC rfl (fun _=> ?_) (fun _=> ?_)
   ·
    refine gO (a2u _ _) rfl rfl rfl fun v6=> ?_
    exact gRL rfl rfl rfl rfl rfl
   ·
    refine gC rfl (fun _=> ?_) (fun _=> ?_)
    ·
     refine gKh (a7r n _ _ (a4w n)) rfl rfl rfl (fvA rfl rfl (fun q=>FnO.c (b4h n q.1 q.2)) default) fun v7=> ?_
     exact gRL rfl rfl rfl rfl rfl
    ·
     refine gKh (a7r n _ _ (a4u n)) rfl rfl rfl (fvA rfl rfl (fun q=>FnO.c (b4f n q.1 q.2)) default) fun v8=> ?_
     exact gRL rfl rfl rfl rfl rfl
 ·
  refine gC rfl (fun _=> ?_) (fun _=> ?_)
  ·
   refine gG rfl (by kernel_rfl) ?_
   refine gQ (a7t _ _) rfl rfl rfl (fun _=>rfl) fun v9=> ?_
   refine gQ (a7t _ _) rfl rfl rfl (fun _=>rfl) fun v10=> ?_
   refine gN (a6f _ _ _) rfl rfl rfl rfl rfl fun v11=> ?_
   refine gC rfl (fun _=> ?_) (fun _=> ?_)
   ·
    exact gRL rfl rfl rfl rfl rfl
   ·
    refine gC rfl (fun _=> ?_) (fun _=> ?_)
    ·
     refine gO (a2u _ _) rfl rfl rfl fun v12=> ?_
     exact gRL rfl rfl rfl rfl rfl
    ·
     refine gC rfl (fun _=> ?_) (fun _=> ?_)
     ·
      refine gKh (a7r n _ _ (a4w n)) rfl rfl rfl (fvA rfl rfl (fun q=>FnO.c (b4h n q.1 q.2)) default) fun v13=> ?_
      exact gRL rfl rfl rfl rfl rfl
     ·
      refine gKh (a7r n _ _ (a4u n)) rfl rfl rfl (fvA rfl rfl (fun q=>FnO.c (b4f n q.1 q.2)) default) fun v14=> ?_
      exact gRL rfl rfl rfl rfl rfl
  ·
   refine gN (a6f _ _ _) rfl rfl rfl rfl rfl fun v15=> ?_
   refine gC rfl (fun _=> ?_) (fun _=> ?_)
   ·
    exact gRL rfl rfl rfl rfl rfl
   ·
    refine gC rfl (fun _=> ?_) (fun _=> ?_)
    ·
     refine gO (a2u _ _) rfl rfl rfl fun v16=> ?_
     exact gRL rfl rfl rfl rfl rfl
    ·
     refine gC rfl (fun _=> ?_) (fun _=> ?_)
     ·
      refine gKh (a7r n _ _ (a4w n)) rfl rfl rfl (fvA rfl rfl (fun q=>FnO.c (b4h n q.1 q.2)) default) fun v17=> ?_
      exact gRL rfl rfl rfl rfl rfl
     ·
      refine gKh (a7r n _ _ (a4u n)) rfl rfl rfl (fvA rfl rfl (fun q=>FnO.c (b4f n q.1 q.2)) default) fun v18=> ?_
      exact gRL rfl rfl rfl rfl rfl
theorem b7z(n:Nat):∀(mx1:maker)(x1:Expr),FnL Wt 39 77 [.sl 1 mx1.names,.sl 2 mx1.facts.Lifts,.int .i64 mx1.facts.Persons,.int .i64 mx1.facts.Flats,.ob mx1.full] [.bx 0 0,.agg [.int .i64 x1.Op,.int .i64 x1.N,.str x1.Name,.sl 0 x1.Args]] (minmax_maker_made n mx1 x1) (fun r=> [.sl 1 r.1.names,.sl 2 r.1.facts.Lifts,.int .i64 r.1.facts.Persons,.int .i64 r.1.facts.Flats,.ob r.1.full]) (fun r=> .agg [.sl 4 r.2.Pieces]):=by
 induction n with
 |zero=>exact fun _ _=>d2z (fun _ _=>by kernel_rfl)
 |succ n ih=>
  intro mx1 x1
  refine b0p (n:=140) Tryz.func39 rfl rfl rfl (fun _ _=>by kernel_rfl) fun F0 w0 b r=> ?_
  rw [minmax_maker_made_s]
  refine gC rfl (fun _=> ?_) (fun _=> ?_)
  ·
   exact gRL rfl rfl rfl rfl rfl
  ·
   refine gN (b1q _ _ _) rfl rfl rfl rfl rfl fun v1=> ?_
   refine gC rfl (fun _=> ?_) (fun _=> ?_)
   ·
    refine gN (a5t _ _ _) rfl rfl rfl rfl rfl fun v2=> ?_
    refine gN (a8x _ _ _) rfl rfl rfl rfl rfl fun v3=> ?_
    exact gRL rfl rfl rfl rfl rfl
   ·
    refine gC rfl (fun _=> ?_) (fun _=> ?_)
    ·
     refine gK (a5y _ _) rfl rfl rfl fun v4=> ?_
     refine gEq (e0x _ _ _ _) ?_
     refine gLGc (e0q _ _ _) rfl rfl rfl rfl rfl fun l=> ?_
     refine gHs [(8,(pL [0,2,4,6,8,10,12,14,16,18,20,22,24,27,29,31,33] .nil)),(15,(pL [0,2,4,6,8,10,12,14,16,19,21,23] .nil)),(16,(pL [0,2,4,6,8,12,11,15,17] .nil)),(19,(pL [0,2,4,6,8,10,14,16,18,20,22,13,25,27,29] .nil)),(20,(pL [0,2,4,6,8,10,14,16,18,20,22,13,25,27,29] .nil)),(22,(pL [0,2,4,6,8,10,12,14,16,19,21,23] .nil))] rfl (by kernel_rfl) rfl rfl fun Ky=> ?_
     refine gK (a4n _ _ _) rfl rfl rfl fun v6=> ?_
     refine gK (a5y _ _) rfl rfl rfl fun v7=> ?_
     refine gV rfl fun z=> ?_
     refine gW rfl rfl fun l2=> ?_
     refine gHe rfl ?_
     refine gFi 7 rfl ?_
     refine gFs 8 5 5 1 rfl rfl ?_
     refine gFs 9 4 1 1 rfl rfl ?_
     exact gRL rfl rfl rfl rfl rfl
    ·
     refine gC rfl (fun _=> ?_) (fun _=> ?_)
     ·
      refine gV rfl fun ex4=> ?_
      refine gN (b6u _ _ _) rfl rfl rfl rfl rfl fun v8=> ?_
      refine gC rfl (fun _=> ?_) (fun _=> ?_)
      ·
       refine gV rfl fun ex5=> ?_
       refine gN (ih _ _) rfl rfl rfl rfl rfl fun v9=> ?_
       exact gRL rfl rfl rfl rfl rfl
      ·
       refine gV rfl fun ex6=> ?_
       refine gN (ih _ _) rfl rfl rfl rfl rfl fun v10=> ?_
       exact gRL rfl rfl rfl rfl rfl
     ·
      refine gC rfl (fun _=> ?_) (fun _=> ?_)
      ·
       refine gV rfl fun ex7=> ?_
       refine gK (d9h _ _ _) rfl rfl rfl fun v11=> ?_
       refine gHs [(8,(pL [0,2,4,6,8,10,12,14,16,18,20,22,24,27,29,31,33] .nil)),(15,(pL [0,2,4,6,8,10,12,14,16,19,21,23] .nil)),(16,(pL [0,2,4,6,8,12,11,15,17] .nil)),(19,(pL [0,2,4,6,8,10,14,16,18,20,22,13,25,27,29] .nil)),(20,(pL [0,2,4,6,8,10,14,16,18,20,22,13,25,27,29] .nil)),(22,(pL [0,2,4,6,8,10,12,14,16,19,21,23] .nil))] rfl (by kernel_rfl) rfl rfl fun Ky=> ?_
       refine gV rfl fun ex8=> ?_
       refine gN (ih _ _) rfl rfl rfl rfl rfl fun v12=> ?_
       refine gK (b1p _ _ _) rfl rfl rfl fun v13=> ?_
       refine gHe rfl ?_
       exact gRL rfl rfl rfl rfl rfl
      ·
       refine gC rfl (fun _=> ?_) (fun _=> ?_)
       ·
        refine gV rfl fun ex9=> ?_
        refine gN (b1q _ _ _) rfl rfl rfl rfl rfl fun v14=> ?_
        refine gC rfl (fun _=> ?_) (fun _=> ?_)
        ·
         refine gHs [(8,(pL [0,2,4,6,8,10,12,14,16,18,20,22,24,27,29,31,33] .nil)),(15,(pL [0,2,4,6,8,10,12,14,16,19,21,23] .nil)),(16,(pL [0,2,4,6,8,12,11,15,17] .nil)),(19,(pL [0,2,4,6,8,10,14,16,18,20,22,13,25,27,29] .nil)),(20,(pL [0,2,4,6,8,10,14,16,18,20,22,13,25,27,29] .nil)),(22,(pL [0,2,4,6,8,10,12,14,16,19,21,23] .nil))] rfl (by kernel_rfl) rfl rfl fun Ky=> ?_
         refine gV rfl fun ex10=> ?_
         refine gV rfl fun ex11=> ?_
         refine gN (ih _ _) rfl rfl rfl rfl rfl fun v15=> ?_
         refine gN (a5t _ _ _) rfl rfl rfl rfl rfl fun v16=> ?_
         refine gN (a9l _ _ _ _) rfl rfl rfl rfl rfl fun v17=> ?_
         refine gHe rfl ?_
         exact gRL rfl rfl rfl rfl rfl
        ·
         refine gHs [(8,(pL [0,2,4,6,8,10,12,14,16,18,20,22,24,27,29,31,33] .nil)),(15,(pL [0,2,4,6,8,10,12,14,16,19,21,23] .nil)),(16,(pL [0,2,4,6,8,12,11,15,17] .nil)),(19,(pL [0,2,4,6,8,10,14,16,18,20,22,13,25,27,29] .nil)),(20,(pL [0,2,4,6,8,10,14,16,18,20,22,13,25,27,29] .nil)),(22,(pL [0,2,4,6,8,10,12,14,16,19,21,23] .nil))] rfl (by kernel_rfl) rfl rfl fun Ky=> ?_
         refine gV rfl fun ex12=> ?_
         refine gV rfl fun ex13=> ?_
         refine gN (ih _ _) rfl rfl rfl rfl rfl fun v18=> ?_
         refine gN (a5t _ _ _) rfl rfl rfl rfl rfl fun v19=> ?_
         refine gN (a9l _ _ _ _) rfl rfl rfl rfl rfl fun v20=> ?_
         refine gHe rfl ?_
         exact gRL rfl rfl rfl rfl rfl
       ·
        refine gV rfl fun ex14=> ?_
        refine gN (ih _ _) rfl rfl rfl rfl rfl fun v21=> ?_
        refine gHs [(8,(pL [0,2,4,6,8,10,12,14,16,18,20,22,24,27,29,31,33] .nil)),(15,(pL [0,2,4,6,8,10,12,14,16,19,21,23] .nil)),(16,(pL [0,2,4,6,8,12,11,15,17] .nil)),(19,(pL [0,2,4,6,8,10,14,16,18,20,22,13,25,27,29] .nil)),(20,(pL [0,2,4,6,8,10,14,16,18,20,22,13,25,27,29] .nil)),(22,(pL [0,2,4,6,8,10,12,14,16,19,21,23] .nil))] rfl (by kernel_rfl) rfl rfl fun Ky=> ?_
        refine gV rfl fun ex15=> ?_
        refine gN (ih _ _) rfl rfl rfl rfl rfl fun v22=> ?_
        refine gN (b7x _ _ _ _ _) rfl rfl rfl rfl rfl fun v23=> ?_
        refine gHe rfl ?_
        exact gRL rfl rfl rfl rfl rfl
theorem c4q(n:Nat)(t1:Tariff)(names1:(List Bs))(f1:Facts):FnC Wt 11 [.agg [.str t1.Name,.int .i64 t1.Fee.Op,.int .i64 t1.Fee.N,.str t1.Fee.Name,.sl 0 t1.Fee.Args,.int .i64 t1.Cap],.sl 1 names1,.agg [.sl 2 f1.Lifts,.int .i64 f1.Persons,.int .i64 f1.Flats]] (a6p n t1 names1 f1) (fun r=> .tup [.agg [.sl 4 r.1.Pieces],.int .i64 r.2]):=by
 refine a0z (n:=52) Tryz.func11 rfl rfl rfl (fun _ _=>by kernel_rfl) fun F0 w0 r=> ?_
 unfold a6p
 refine gK (b6x _ _ _) rfl rfl rfl fun v1=> ?_
 refine gC rfl (fun _=> ?_) (fun _=> ?_)
 ·
  exact gR rfl rfl rfl
 ·
  refine gA ?_
  refine gHs [(6,(pL [0,2,4,10,12] (.two 3 12 (pL [] (.two 4 12 (pL [] (.two 7 12 (pL [] (.two 8 12 (pL [18,20,22,25,27,29] .nil) (pL [17,19,20,22,27,29] .nil))) (pL [15,17,19,20,22,27,29] .nil))) (pL [9,15,17,19,20,22,27,29] .nil))) (pL [7,9,15,17,19,20,22,27,29] .nil))))] rfl (by kernel_rfl) rfl rfl fun Ky=> ?_
  refine gH2 rfl ?_ ?_
  all_goals
   refine gK (a5y _ _) rfl rfl rfl fun v3=> ?_
   refine gA ?_
   try refine gH2 rfl ?_ ?_
   all_goals
    try refine gH2 rfl ?_ ?_
    all_goals
     refine gK (b1h _ _ _) rfl rfl rfl fun v4=> ?_
     refine gA ?_
     try refine gH2 rfl ?_ ?_
     all_goals
      refine gK (b3k _ _ _ _ _) rfl rfl rfl fun v5=> ?_
      refine gB ?_
      refine gHe rfl ?_
      refine gC rfl (fun _=> ?_) (fun _=> ?_)
      ·
       exact gR rfl rfl rfl
      ·
       refine gN (b7z _ _ _) rfl rfl rfl rfl rfl fun v2=> ?_
       refine gC rfl (fun _=> ?_) (fun _=> ?_)
       ·
        exact gR rfl rfl rfl
       ·
        exact gR rfl rfl rfl
theorem c2m(n:Nat)(ax1:Affine)(weights1:(List Frac)):FnC Wt 47 [.agg [.int .i64 ax1.Const.P.Sign,.sl 2 ax1.Const.P.Digits,.int .i64 ax1.Const.Q.Sign,.sl 2 ax1.Const.Q.Digits,.sl 3 ax1.Coefs],.sl 3 weights1] (b9g n ax1 weights1) (fun r=> .agg [.int .i64 r.P.Sign,.sl 2 r.P.Digits,.int .i64 r.Q.Sign,.sl 2 r.Q.Digits]):=by
 refine a0z (n:=37) Tryz.func47 rfl rfl rfl (fun _ _=>by kernel_rfl) fun F0 w0 r=> ?_
 unfold b9g
 refine a2r ((fun k0 m(s:Int×Int×(List Int)×Int×(List Int))=>b5f n ax1 weights1 k0 m s.1 s.2.1 s.2.2.1 s.2.2.2.1 s.2.2.2.2) _) (fun(s:Int×Int×(List Int)×Int×(List Int))=> [.b 5 [.int .i64 s.2.1,.sl 2 s.2.2.1,.int .i64 s.2.2.2.1,.sl 2 s.2.2.2.2],.v 15 (.int .i64 s.1)]) (fun _=>rfl) (_,_,_,_,_) rfl rfl (fun _=>rfl) rfl fun K1 m1 hK1 z1=> ?_
 obtain⟨i1,f1,f2,f3,f4⟩:=z1;dsimp only
 refine gC rfl (fun _=> ?_) (fun _=> ?_)
 ·
  refine gV rfl fun ex1=> ?_
  refine gA ?_
  refine gHs [(5,(pL [0,2,4,6,8] (.two 5 9 (pL [12,14,16,19,21,23] .nil) (pL [11,13,14,16,21,23] .nil))))] rfl (by kernel_rfl) rfl rfl fun Ky=> ?_
  refine gV rfl fun ex2=> ?_
  refine gA ?_
  refine gH2 rfl ?_ ?_
  all_goals
   refine gK (c0s _ _ _) rfl rfl rfl fun v2=> ?_
   refine gB ?_
   refine gHe rfl ?_
   refine gK (b6f _ _ _) rfl rfl rfl fun v1=> ?_
   exact gE hK1 (_,_,_,_,_) rfl (by kernel_rfl)
 ·
  exact gR rfl rfl rfl
theorem c6f(n:Nat)(x1:Frac):FnC Wt 43 [.agg [.int .i64 x1.P.Sign,.sl 2 x1.P.Digits,.int .i64 x1.Q.Sign,.sl 2 x1.Q.Digits]] (b4i n x1) (fun r=> .ob r):=by
 refine a0z (n:=6) Tryz.func43 rfl rfl rfl (fun _ _=>by kernel_rfl) fun F0 w0 r=> ?_
 unfold b4i
 refine gK (a2e _ _) rfl rfl rfl fun v1=> ?_
 exact gR rfl rfl rfl
theorem d1v(n:Nat)(f1:Form)(weights1:(List Frac)):FnC Wt 13 [.agg [.sl 4 f1.Pieces],.sl 3 weights1] (b2x n f1 weights1) (fun r=> .tup [.agg [.int .i64 r.1.P.Sign,.sl 2 r.1.P.Digits,.int .i64 r.1.Q.Sign,.sl 2 r.1.Q.Digits],.ob r.2]):=by
 refine a0z (n:=64) Tryz.func13 rfl rfl rfl (fun _ _=>by kernel_rfl) fun F0 w0 r=> ?_
 unfold b2x
 refine gKh (a2t n _ (b4i n)) rfl rfl rfl (fvA rfl rfl (fun q=>c6f n q) default) fun v1=> ?_
 refine gJ 6 (fun v2=> [.v 22 (.ob v2)]) rfl (fun _=>rfl) (fun J1 hJ1=> ?_) (fun v2=> ?_)
 ·
  refine gD rfl (fun _=> ?_) (fun _=> ?_)
  ·
   exact gX hJ1 rfl (by kernel_rfl)
  ·
   refine gA ?_
   refine gK (c5c _ _ _) rfl rfl rfl fun v8=> ?_
   exact gX hJ1 rfl (by kernel_rfl)
 refine gC rfl (fun _=> ?_) (fun _=> ?_)
 ·
  exact gR rfl rfl rfl
 ·
  refine a2r ((fun k0 m(s:Int×Int×(List Int)×Int×(List Int)×Int×(List Int)×Int×(List Int))=>b2e n f1 weights1 k0 m s.1 s.2.1 s.2.2.1 s.2.2.2.1 s.2.2.2.2.1 s.2.2.2.2.2.1 s.2.2.2.2.2.2.1 s.2.2.2.2.2.2.2.1 s.2.2.2.2.2.2.2.2) _) (fun(s:Int×Int×(List Int)×Int×(List Int)×Int×(List Int)×Int×(List Int))=> [.b 4 [.int .i64 s.2.2.2.2.2.1,.sl 2 s.2.2.2.2.2.2.1,.int .i64 s.2.2.2.2.2.2.2.1,.sl 2 s.2.2.2.2.2.2.2.2],.b 7 [.int .i64 s.2.1,.sl 2 s.2.2.1,.int .i64 s.2.2.2.1,.sl 2 s.2.2.2.2.1],.v 27 (.int .i64 s.1)]) (fun _=>rfl) (_,_,_,_,_,_,_,_,_) rfl rfl (fun _=>rfl) rfl fun K2 m2 hK2 z2=> ?_
  obtain⟨i1,f2,f3,f4,f5,f6,f7,f8,f9⟩:=z2;dsimp only
  refine gC rfl (fun _=> ?_) (fun _=> ?_)
  ·
   refine gV rfl fun ex1=> ?_
   refine gV rfl fun ex2=> ?_
   refine gK (c2m _ _ _) rfl rfl rfl fun v3=> ?_
   refine gV rfl fun l1=> ?_
   refine a2r ((fun k0 m(s:Int×Int×(List Int)×Int×(List Int))=>b4s n weights1 l1 k0 m s.1 s.2.1 s.2.2.1 s.2.2.2.1 s.2.2.2.2) _) (fun(s:Int×Int×(List Int)×Int×(List Int))=> [.b 10 [.int .i64 s.2.1,.sl 2 s.2.2.1,.int .i64 s.2.2.2.1,.sl 2 s.2.2.2.2],.v 40 (.int .i64 s.1)]) (fun _=>rfl) (_,_,_,_,_) rfl rfl (fun _=>rfl) rfl fun K3 m3 hK3 z3=> ?_
   obtain⟨i2,f18,f19,f20,f21⟩:=z3;dsimp only
   refine gC rfl (fun _=> ?_) (fun _=> ?_)
   ·
    refine gV rfl fun ex3=> ?_
    refine gHs [(12,(pL [2,4] (.two 0 3 (pL [7,9,11,12,14,17] .nil) (pL [1,9,11,12,14,17] .nil))))] rfl (by kernel_rfl) rfl rfl fun Ky=> ?_
    refine gH2 rfl ?_ ?_
    all_goals
     refine gK (c2m _ _ _) rfl rfl rfl fun v6=> ?_
     refine gK (c5z _ _ _) rfl rfl rfl fun v7=> ?_
     refine gHe rfl ?_
     exact gE hK3 (_,_,_,_,_) rfl (by kernel_rfl)
   ·
    refine gJ 5 (fun v4=> [.v 60 (.ob v4)]) rfl (fun _=>rfl) (fun J4 hJ4=> ?_) (fun v4=> ?_)
    ·
     refine gD rfl (fun _=> ?_) (fun _=> ?_)
     ·
      exact gX hJ4 rfl (by kernel_rfl)
     ·
      refine gA ?_
      refine gK (b2s _ _ _) rfl rfl rfl fun v5=> ?_
      exact gX hJ4 rfl (by kernel_rfl)
    refine gC rfl (fun _=> ?_) (fun _=> ?_)
    ·
     exact gE hK2 (_,_,_,_,_,_,_,_,_) rfl (by kernel_rfl)
    ·
     exact gE hK2 (_,_,_,_,_,_,_,_,_) rfl (by kernel_rfl)
  ·
   exact gR rfl rfl rfl
end Go.Proofs.YthaegflpecbfgaaGreatDoor.M
namespace Go.Proofs.YthaegflpecbfgaaGreatDoor.M
open Go Go.RowKit Rt
set_option maxRecDepth 1000000
set_option maxHeartbeats 40000000
theorem b7c(n:Nat)(c1:Int):FnC Wt 200 [.int .u8 c1] (a8n n c1) (fun r=> .ob r):=by
 refine a0z (n:=17) Tryz.func200 rfl rfl rfl (fun _ _=>by kernel_rfl) fun F0 w0 r=> ?_
 unfold a8n
 refine gJ 3 (fun v1=> [.v 8 (.ob v1)]) rfl (fun _=>rfl) (fun J1 hJ1=> ?_) (fun v1=> ?_)
 ·
  refine gD rfl (fun _=> ?_) (fun _=> ?_)
  ·
   exact gX hJ1 rfl (by kernel_rfl)
  ·
   exact gX hJ1 rfl (by kernel_rfl)
 refine gJ 7 (fun v2=> [.v 16 (.ob v2)]) rfl (fun _=>rfl) (fun J2 hJ2=> ?_) (fun v2=> ?_)
 ·
  refine gD rfl (fun _=> ?_) (fun _=> ?_)
  ·
   exact gX hJ2 rfl (by kernel_rfl)
  ·
   refine gA ?_
   refine gD rfl (fun _=> ?_) (fun _=> ?_)
   ·
    refine gB ?_
    exact gX hJ2 rfl (by kernel_rfl)
   ·
    refine gB ?_
    exact gX hJ2 rfl (by kernel_rfl)
 exact gR rfl rfl rfl
theorem c7j(n:Nat)(c1:Int):FnC Wt 201 [.int .u8 c1] (b1t n c1) (fun r=> .ob r):=by
 refine a0z (n:=9) Tryz.func201 rfl rfl rfl (fun _ _=>by kernel_rfl) fun F0 w0 r=> ?_
 unfold b1t
 refine gJ 3 (fun v1=> [.v 8 (.ob v1)]) rfl (fun _=>rfl) (fun J1 hJ1=> ?_) (fun v1=> ?_)
 ·
  refine gD rfl (fun _=> ?_) (fun _=> ?_)
  ·
   exact gX hJ1 rfl (by kernel_rfl)
  ·
   exact gX hJ1 rfl (by kernel_rfl)
 exact gR rfl rfl rfl
theorem b4x(n:Nat)(s1:Bs):FnC Wt 151 [.str s1] (a6s n s1) (fun r=> .ob r):=by
 refine a0z (n:=42) Tryz.func151 rfl rfl rfl (fun _ _=>by kernel_rfl) fun F0 w0 r=> ?_
 unfold a6s
 refine gJ 4 (fun v1=> [.v 11 (.ob v1)]) rfl (fun _=>rfl) (fun J1 hJ1=> ?_) (fun v1=> ?_)
 ·
  refine gD rfl (fun _=> ?_) (fun _=> ?_)
  ·
   exact gX hJ1 rfl (by kernel_rfl)
  ·
   exact gX hJ1 rfl (by kernel_rfl)
 refine gJ 5 (fun v2=> [.v 17 (.ob v2)]) rfl (fun _=>rfl) (fun J2 hJ2=> ?_) (fun v2=> ?_)
 ·
  refine gD rfl (fun _=> ?_) (fun _=> ?_)
  ·
   exact gX hJ2 rfl (by kernel_rfl)
  ·
   refine gA ?_
   refine gV rfl fun c4=> ?_
   refine gA ?_
   refine gK (b7c _ _) rfl rfl rfl fun v7=> ?_
   exact gX hJ2 rfl (by kernel_rfl)
 refine gC rfl (fun _=> ?_) (fun _=> ?_)
 ·
  exact gR rfl rfl rfl
 ·
  refine a2r ((fun k0 m(s:Int)=>ref06_Name_L1 n s1 k0 m s) _) (fun(s:Int)=> [.v 3 (.int .i64 s)]) (fun _=>rfl) _ rfl rfl (fun _=>rfl) rfl fun K3 m3 hK3 i1=> ?_
  refine gC rfl (fun _=> ?_) (fun _=> ?_)
  ·
   refine gV rfl fun c1=> ?_
   refine gK (b7c _ _) rfl rfl rfl fun v3=> ?_
   refine gJ 6 (fun v4=> [.v 35 (.ob v4)]) rfl (fun _=>rfl) (fun J4 hJ4=> ?_) (fun v4=> ?_)
   ·
    refine gD rfl (fun _=> ?_) (fun _=> ?_)
    ·
     refine gA ?_
     refine gV rfl fun c3=> ?_
     refine gA ?_
     refine gK (c7j _ _) rfl rfl rfl fun v6=> ?_
     exact gX hJ4 rfl (by kernel_rfl)
    ·
     exact gX hJ4 rfl (by kernel_rfl)
   refine gJ 5 (fun v5=> [.v 41 (.ob v5)]) rfl (fun _=>rfl) (fun J5 hJ5=> ?_) (fun v5=> ?_)
   ·
    refine gD rfl (fun _=> ?_) (fun _=> ?_)
    ·
     refine gA ?_
     refine gV rfl fun c2=> ?_
     exact gX hJ5 rfl (by kernel_rfl)
    ·
     exact gX hJ5 rfl (by kernel_rfl)
   refine gC rfl (fun _=> ?_) (fun _=> ?_)
   ·
    exact gR rfl rfl rfl
   ·
    exact gE hK3 _ rfl (by kernel_rfl)
  ·
   exact gR rfl rfl rfl
end Go.Proofs.YthaegflpecbfgaaGreatDoor.M
namespace Go.Proofs.YthaegflpecbfgaaGreatDoor.M
open Go Go.RowKit Rt
set_option maxRecDepth 1000000
set_option maxHeartbeats 40000000
theorem c7i(n:Nat)(op1:Int):FnC Wt 214 [.int .i64 op1] (a8h n op1) (fun r=> .int .i64 r):=by
 refine a0z (n:=15) Tryz.func214 rfl rfl rfl (fun _ _=>by kernel_rfl) fun F0 w0 r=> ?_
 unfold a8h
 refine gJ 3 (fun v1=> [.v 8 (.ob v1)]) rfl (fun _=>rfl) (fun J1 hJ1=> ?_) (fun v1=> ?_)
 ·
  refine gD rfl (fun _=> ?_) (fun _=> ?_)
  ·
   exact gX hJ1 rfl (by kernel_rfl)
  ·
   exact gX hJ1 rfl (by kernel_rfl)
 refine gC rfl (fun _=> ?_) (fun _=> ?_)
 ·
  exact gR rfl rfl rfl
 ·
  refine gC rfl (fun _=> ?_) (fun _=> ?_)
  ·
   exact gR rfl rfl rfl
  ·
   refine gC rfl (fun _=> ?_) (fun _=> ?_)
   ·
    exact gR rfl rfl rfl
   ·
    refine gC rfl (fun _=> ?_) (fun _=> ?_)
    ·
     exact gR rfl rfl rfl
    ·
     exact gR rfl rfl rfl
theorem c4v(n:Nat):∀(x1:Expr),FnC Wt 182 [.agg [.int .i64 x1.Op,.int .i64 x1.N,.str x1.Name,.sl 0 x1.Args]] (ref35_shaped n x1) (fun r=> .ob r):=by
 induction n with
 |zero=>exact fun _=>b4a (fun _ _=>by kernel_rfl)
 |succ n ih=>
  intro x1
  refine a0z (n:=75) Tryz.func182 rfl rfl rfl (fun _ _=>by kernel_rfl) fun F0 w0 r=> ?_
  rw [ref35_shaped_s]
  refine gG rfl (by kernel_rfl) ?_
  refine gQ (c7i _ _) rfl rfl rfl (fun _=>rfl) fun v1=> ?_
  refine gD rfl (fun _=> ?_) (fun _=> ?_)
  ·
   refine gB ?_
   refine gT ?_
   exact gR rfl rfl rfl
  ·
   refine gA ?_
   refine gD rfl (fun _=> ?_) (fun _=> ?_)
   ·
    refine gB ?_
    refine gB ?_
    refine gC rfl (fun _=> ?_) (fun _=> ?_)
    ·
     exact gR rfl rfl rfl
    ·
     refine gJ 4 (fun v3=> [.v 29 (.ob v3)]) rfl (fun _=>rfl) (fun J1 hJ1=> ?_) (fun v3=> ?_)
     ·
      refine gD rfl (fun _=> ?_) (fun _=> ?_)
      ·
       exact gX hJ1 rfl (by kernel_rfl)
      ·
       exact gX hJ1 rfl (by kernel_rfl)
     refine gJ 5 (fun v4=> [.v 36 (.ob v4)]) rfl (fun _=>rfl) (fun J2 hJ2=> ?_) (fun v4=> ?_)
     ·
      refine gD rfl (fun _=> ?_) (fun _=> ?_)
      ·
       refine gA ?_
       refine gK (b4x _ _) rfl rfl rfl fun v11=> ?_
       exact gX hJ2 rfl (by kernel_rfl)
      ·
       exact gX hJ2 rfl (by kernel_rfl)
     refine gJ 8 (fun v5=> [.v 45 (.ob v5)]) rfl (fun _=>rfl) (fun J3 hJ3=> ?_) (fun v5=> ?_)
     ·
      refine gD rfl (fun _=> ?_) (fun _=> ?_)
      ·
       exact gX hJ3 rfl (by kernel_rfl)
      ·
       refine gA ?_
       refine gD rfl (fun _=> ?_) (fun _=> ?_)
       ·
        refine gB ?_
        exact gX hJ3 rfl (by kernel_rfl)
       ·
        refine gB ?_
        exact gX hJ3 rfl (by kernel_rfl)
     refine gJ 14 (fun v6=> [.v 60 (.ob v6)]) rfl (fun _=>rfl) (fun J4 hJ4=> ?_) (fun v6=> ?_)
     ·
      refine gD rfl (fun _=> ?_) (fun _=> ?_)
      ·
       exact gX hJ4 rfl (by kernel_rfl)
      ·
       refine gA ?_
       refine gD rfl (fun _=> ?_) (fun _=> ?_)
       ·
        refine gA ?_
        refine gD rfl (fun _=> ?_) (fun _=> ?_)
        ·
         refine gB ?_
         refine gB ?_
         exact gX hJ4 rfl (by kernel_rfl)
        ·
         refine gB ?_
         refine gB ?_
         exact gX hJ4 rfl (by kernel_rfl)
       ·
        refine gB ?_
        exact gX hJ4 rfl (by kernel_rfl)
     refine gC rfl (fun _=> ?_) (fun _=> ?_)
     ·
      exact gR rfl rfl rfl
     ·
      refine a2r ((fun k0 m(s:Int)=>ref35_shaped_L1 n (ref35_shaped n) x1 k0 m s) _) (fun(s:Int)=> [.v 4 (.int .i64 s)]) (fun _=>rfl) _ rfl rfl (fun _=>rfl) rfl fun K5 m5 hK5 i1=> ?_
      refine gC rfl (fun _=> ?_) (fun _=> ?_)
      ·
       refine gV rfl fun ex1=> ?_
       refine gK (ih _) rfl rfl rfl fun v7=> ?_
       refine gC rfl (fun _=> ?_) (fun _=> ?_)
       ·
        exact gR rfl rfl rfl
       ·
        exact gE hK5 _ rfl (by kernel_rfl)
      ·
       exact gR rfl rfl rfl
   ·
    refine gB ?_
    refine gB ?_
    refine gF ?_
    refine gJ 4 (fun v3=> [.v 29 (.ob v3)]) rfl (fun _=>rfl) (fun J6 hJ6=> ?_) (fun v3=> ?_)
    ·
     refine gD rfl (fun _=> ?_) (fun _=> ?_)
     ·
      exact gX hJ6 rfl (by kernel_rfl)
     ·
      exact gX hJ6 rfl (by kernel_rfl)
    refine gJ 5 (fun v4=> [.v 36 (.ob v4)]) rfl (fun _=>rfl) (fun J7 hJ7=> ?_) (fun v4=> ?_)
    ·
     refine gD rfl (fun _=> ?_) (fun _=> ?_)
     ·
      refine gA ?_
      refine gK (b4x _ _) rfl rfl rfl fun v11=> ?_
      exact gX hJ7 rfl (by kernel_rfl)
     ·
      exact gX hJ7 rfl (by kernel_rfl)
    refine gJ 8 (fun v5=> [.v 45 (.ob v5)]) rfl (fun _=>rfl) (fun J8 hJ8=> ?_) (fun v5=> ?_)
    ·
     refine gD rfl (fun _=> ?_) (fun _=> ?_)
     ·
      exact gX hJ8 rfl (by kernel_rfl)
     ·
      refine gA ?_
      refine gD rfl (fun _=> ?_) (fun _=> ?_)
      ·
       refine gB ?_
       exact gX hJ8 rfl (by kernel_rfl)
      ·
       refine gB ?_
       exact gX hJ8 rfl (by kernel_rfl)
    refine gJ 14 (fun v6=> [.v 60 (.ob v6)]) rfl (fun _=>rfl) (fun J9 hJ9=> ?_) (fun v6=> ?_)
    ·
     refine gD rfl (fun _=> ?_) (fun _=> ?_)
     ·
      exact gX hJ9 rfl (by kernel_rfl)
     ·
      refine gA ?_
      refine gD rfl (fun _=> ?_) (fun _=> ?_)
      ·
       refine gA ?_
       refine gD rfl (fun _=> ?_) (fun _=> ?_)
       ·
        refine gB ?_
        refine gB ?_
        exact gX hJ9 rfl (by kernel_rfl)
       ·
        refine gB ?_
        refine gB ?_
        exact gX hJ9 rfl (by kernel_rfl)
      ·
       refine gB ?_
       exact gX hJ9 rfl (by kernel_rfl)
    refine gC rfl (fun _=> ?_) (fun _=> ?_)
    ·
     exact gR rfl rfl rfl
    ·
     refine a2r ((fun k0 m(s:Int)=>ref35_shaped_L1 n (ref35_shaped n) x1 k0 m s) _) (fun(s:Int)=> [.v 4 (.int .i64 s)]) (fun _=>rfl) _ rfl rfl (fun _=>rfl) rfl fun K10 m10 hK10 i1=> ?_
     refine gC rfl (fun _=> ?_) (fun _=> ?_)
     ·
      refine gV rfl fun ex1=> ?_
      refine gK (ih _) rfl rfl rfl fun v7=> ?_
      refine gC rfl (fun _=> ?_) (fun _=> ?_)
      ·
       exact gR rfl rfl rfl
      ·
       exact gE hK10 _ rfl (by kernel_rfl)
     ·
      exact gR rfl rfl rfl
theorem c9a(n:Nat)(x1:Expr):FnC Wt 124 [.agg [.int .i64 x1.Op,.int .i64 x1.N,.str x1.Name,.sl 0 x1.Args]] (b0y n x1) (fun r=> .ob r):=by
 refine a0z (n:=9) Tryz.func124 rfl rfl rfl (fun _ _=>by kernel_rfl) fun F0 w0 r=> ?_
 unfold b0y
 refine gK (b7v _ _ _ _) rfl rfl rfl fun v1=> ?_
 refine gJ 3 (fun v2=> [.v 8 (.ob v2)]) rfl (fun _=>rfl) (fun J1 hJ1=> ?_) (fun v2=> ?_)
 ·
  refine gD rfl (fun _=> ?_) (fun _=> ?_)
  ·
   refine gA ?_
   refine gK (c4v _ _) rfl rfl rfl fun v3=> ?_
   exact gX hJ1 rfl (by kernel_rfl)
  ·
   exact gX hJ1 rfl (by kernel_rfl)
 exact gR rfl rfl rfl
theorem c7x(n:Nat)(l1:(List Bs)):FnC Wt 82 [.sl 1 l1] (a9t n l1) (fun r=> .ob r):=by
 refine a0z (n:=34) Tryz.func82 rfl rfl rfl (fun _ _=>by kernel_rfl) fun F0 w0 r=> ?_
 unfold a9t
 refine gC rfl (fun _=> ?_) (fun _=> ?_)
 ·
  exact gR rfl rfl rfl
 ·
  refine a2r ((fun k0 m(s:Int)=>ref35_Names_L1 n l1 k0 m s) _) (fun(s:Int)=> [.v 3 (.int .i64 s)]) (fun _=>rfl) _ rfl rfl (fun _=>rfl) rfl fun K1 m1 hK1 i1=> ?_
  refine gC rfl (fun _=> ?_) (fun _=> ?_)
  ·
   refine gV rfl fun ex1=> ?_
   refine gK (b4x _ _) rfl rfl rfl fun v1=> ?_
   refine gC rfl (fun _=> ?_) (fun _=> ?_)
   ·
    exact gR rfl rfl rfl
   ·
    refine a2r ((fun k0 m(s:Int)=>ref35_Names_L2 n l1 i1 k0 m s) _) (fun(s:Int)=> [.v 4 (.int .i64 s)]) (fun _=>rfl) _ rfl rfl (fun _=>rfl) rfl fun K2 m2 hK2 k1=> ?_
    refine gC rfl (fun _=> ?_) (fun _=> ?_)
    ·
     refine gG rfl (by kernel_rfl) ?_
     refine gV rfl fun ex2=> ?_
     refine gV rfl fun ex3=> ?_
     refine gC rfl (fun _=> ?_) (fun _=> ?_)
     ·
      exact gR rfl rfl rfl
     ·
      exact gE hK2 _ rfl (by kernel_rfl)
    ·
     exact gE hK1 _ rfl (by kernel_rfl)
  ·
   exact gR rfl rfl rfl
theorem c5f(n:Nat)(l1:(List Bs))(name1:Bs):FnC Wt 88 [.sl 1 l1,.str name1] (a8u n l1 name1) (fun r=> .int .i64 r):=by
 refine a0z (n:=19) Tryz.func88 rfl rfl rfl (fun _ _=>by kernel_rfl) fun F0 w0 r=> ?_
 unfold a8u
 refine a2r ((fun k0 m(s:Int)=>ref35_Number_L1 n l1 name1 k0 m s) _) (fun(s:Int)=> [.v 5 (.int .i64 s)]) (fun _=>rfl) _ rfl rfl (fun _=>rfl) rfl fun K1 m1 hK1 i1=> ?_
 refine gC rfl (fun _=> ?_) (fun _=> ?_)
 ·
  refine gV rfl fun ex1=> ?_
  refine gC rfl (fun _=> ?_) (fun _=> ?_)
  ·
   exact gR rfl rfl rfl
  ·
   exact gE hK1 _ rfl (by kernel_rfl)
 ·
  exact gR rfl rfl rfl
theorem b0h(n:Nat)(ax1:Int)(b1:Int):FnC Wt 202 [.int .i64 ax1,.int .i64 b1] (a7i n ax1 b1) (fun r=> .int .i64 r):=by
 refine a0z (n:=11) Tryz.func202 rfl rfl rfl (fun _ _=>by kernel_rfl) fun F0 w0 r=> ?_
 unfold a7i
 refine gJ 3 (fun v1=> [.v 10 (.ob v1)]) rfl (fun _=>rfl) (fun J1 hJ1=> ?_) (fun v1=> ?_)
 ·
  refine gD rfl (fun _=> ?_) (fun _=> ?_)
  ·
   exact gX hJ1 rfl (by kernel_rfl)
  ·
   exact gX hJ1 rfl (by kernel_rfl)
 refine gC rfl (fun _=> ?_) (fun _=> ?_)
 ·
  exact gR rfl rfl rfl
 ·
  exact gR rfl rfl rfl
theorem c3a(n:Nat)(op1:Int)(l1:(List Int)):FnC Wt 152 [.int .i64 op1,.sl 2 l1] (a3n n op1 l1) (fun r=> .tup [.int .i64 r.1,.ob r.2]):=by
 refine a0z (n:=98) Tryz.func152 rfl rfl rfl (fun _ _=>by kernel_rfl) fun F0 w0 r=> ?_
 unfold a3n
 refine gC rfl (fun _=> ?_) (fun _=> ?_)
 ·
  refine gG rfl (by kernel_rfl) ?_
  refine gV rfl fun ex1=> ?_
  exact gR rfl rfl rfl
 ·
  refine gD rfl (fun _=> ?_) (fun _=> ?_)
  ·
   refine gB ?_
   refine gT ?_
   refine gG rfl (by kernel_rfl) ?_
   refine gV rfl fun ex2=> ?_
   refine gD rfl (fun _=> ?_) (fun _=> ?_)
   ·
    refine gA ?_
    refine gV rfl fun ex3=> ?_
    refine gB ?_
    exact gR rfl rfl rfl
   ·
    refine gB ?_
    exact gR rfl rfl rfl
  ·
   refine gB ?_
   refine gC rfl (fun _=> ?_) (fun _=> ?_)
   ·
    refine gG rfl (by kernel_rfl) ?_
    refine gV rfl fun ex2=> ?_
    refine gD rfl (fun _=> ?_) (fun _=> ?_)
    ·
     refine gA ?_
     refine gV rfl fun ex3=> ?_
     refine gB ?_
     exact gR rfl rfl rfl
    ·
     refine gB ?_
     exact gR rfl rfl rfl
   ·
    refine gD rfl (fun _=> ?_) (fun _=> ?_)
    ·
     refine gB ?_
     refine gT ?_
     refine gG rfl (by kernel_rfl) ?_
     refine gV rfl fun ex4=> ?_
     refine gD rfl (fun _=> ?_) (fun _=> ?_)
     ·
      refine gA ?_
      refine gV rfl fun ex5=> ?_
      refine gB ?_
      exact gR rfl rfl rfl
     ·
      refine gB ?_
      exact gR rfl rfl rfl
    ·
     refine gB ?_
     refine gC rfl (fun _=> ?_) (fun _=> ?_)
     ·
      refine gG rfl (by kernel_rfl) ?_
      refine gV rfl fun ex4=> ?_
      refine gD rfl (fun _=> ?_) (fun _=> ?_)
      ·
       refine gA ?_
       refine gV rfl fun ex5=> ?_
       refine gB ?_
       exact gR rfl rfl rfl
      ·
       refine gB ?_
       exact gR rfl rfl rfl
     ·
      refine gC rfl (fun _=> ?_) (fun _=> ?_)
      ·
       refine gG rfl (by kernel_rfl) ?_
       refine gV rfl fun ex6=> ?_
       refine gV rfl fun ex7=> ?_
       refine gQ (b0h _ _ _) rfl rfl rfl (fun _=>rfl) fun v5=> ?_
       refine gV rfl fun ex8=> ?_
       refine gD rfl (fun _=> ?_) (fun _=> ?_)
       ·
        refine gA ?_
        refine gV rfl fun ex10=> ?_
        refine gB ?_
        refine gD rfl (fun _=> ?_) (fun _=> ?_)
        ·
         refine gA ?_
         refine gV rfl fun ex9=> ?_
         refine gB ?_
         exact gR rfl rfl rfl
        ·
         refine gB ?_
         exact gR rfl rfl rfl
       ·
        refine gB ?_
        refine gFb ?_
        refine gB ?_
        exact gR rfl rfl rfl
      ·
       refine gV rfl fun ex11=> ?_
       refine gJ 5 (fun v8=> [.v 74 (.ob v8)]) rfl (fun _=>rfl) (fun J1 hJ1=> ?_) (fun v8=> ?_)
       ·
        refine gD rfl (fun _=> ?_) (fun _=> ?_)
        ·
         refine gA ?_
         refine gV rfl fun ex16=> ?_
         exact gX hJ1 rfl (by kernel_rfl)
        ·
         exact gX hJ1 rfl (by kernel_rfl)
       refine gD rfl (fun _=> ?_) (fun _=> ?_)
       ·
        refine gA ?_
        refine gD rfl (fun _=> ?_) (fun _=> ?_)
        ·
         refine gA ?_
         refine gV rfl fun ex14=> ?_
         refine gA ?_
         refine gD rfl (fun _=> ?_) (fun _=> ?_)
         ·
          refine gB ?_
          refine gB ?_
          refine gB ?_
          refine gG rfl (by kernel_rfl) ?_
          refine gV rfl fun ex12=> ?_
          refine gV rfl fun ex13=> ?_
          refine gQ (b0h _ _ _) rfl rfl rfl (fun _=>rfl) fun v9=> ?_
          exact gR rfl rfl rfl
         ·
          refine gA ?_
          refine gV rfl fun ex15=> ?_
          refine gB ?_
          refine gB ?_
          refine gB ?_
          refine gG rfl (by kernel_rfl) ?_
          refine gV rfl fun ex12=> ?_
          refine gV rfl fun ex13=> ?_
          refine gQ (b0h _ _ _) rfl rfl rfl (fun _=>rfl) fun v9=> ?_
          exact gR rfl rfl rfl
        ·
         refine gB ?_
         refine gB ?_
         refine gG rfl (by kernel_rfl) ?_
         refine gV rfl fun ex12=> ?_
         refine gV rfl fun ex13=> ?_
         refine gQ (b0h _ _ _) rfl rfl rfl (fun _=>rfl) fun v9=> ?_
         exact gR rfl rfl rfl
       ·
        refine gB ?_
        refine gG rfl (by kernel_rfl) ?_
        refine gV rfl fun ex12=> ?_
        refine gV rfl fun ex13=> ?_
        refine gQ (b0h _ _ _) rfl rfl rfl (fun _=>rfl) fun v9=> ?_
        exact gR rfl rfl rfl
theorem c7z(n:Nat):∀(x1:Expr)(names1:(List Bs)),FnC Wt 84 [.agg [.int .i64 x1.Op,.int .i64 x1.N,.str x1.Name,.sl 0 x1.Args],.sl 1 names1] (ref35_typed n x1 names1) (fun r=> .tup [.int .i64 r.1,.int .i64 r.2]):=by
 induction n with
 |zero=>exact fun _ _=>b4a (fun _ _=>by kernel_rfl)
 |succ n ih=>
  intro x1 names1
  refine a0z (n:=91) Tryz.func84 rfl rfl rfl (fun _ _=>by kernel_rfl) fun F0 w0 r=> ?_
  rw [ref35_typed_s]
  refine a2r ((fun k0 m(s:Int×List Int)=>ref35_typed_L1 n (ref35_typed n) x1 names1 k0 m s.1 s.2) _) (fun(s:Int×List Int)=> [.r 6 2 s.2,.v 7 (.int .i64 s.1)]) (fun _=>rfl) (_,_) rfl rfl (fun _=>rfl) rfl fun K1 m1 hK1 z1=> ?_
  obtain⟨i1,l1⟩:=z1;dsimp only
  refine gC rfl (fun _=> ?_) (fun _=> ?_)
  ·
   refine gV rfl fun ex4=> ?_
   refine gK (ih _ _) rfl rfl rfl fun v7=> ?_
   refine gC rfl (fun _=> ?_) (fun _=> ?_)
   ·
    exact gR rfl rfl rfl
   ·
    refine gP rfl fun l3=> ?_
    exact gE hK1 (_,_) rfl (by kernel_rfl)
  ·
   refine gJ 4 (fun v1=> [.v 44 (.ob v1)]) rfl (fun _=>rfl) (fun J2 hJ2=> ?_) (fun v1=> ?_)
   ·
    refine gD rfl (fun _=> ?_) (fun _=> ?_)
    ·
     exact gX hJ2 rfl (by kernel_rfl)
    ·
     exact gX hJ2 rfl (by kernel_rfl)
   refine gJ 6 (fun v2=> [.v 51 (.ob v2)]) rfl (fun _=>rfl) (fun J3 hJ3=> ?_) (fun v2=> ?_)
   ·
    refine gD rfl (fun _=> ?_) (fun _=> ?_)
    ·
     refine gA ?_
     refine gK (c5f _ _ _) rfl rfl rfl fun v6=> ?_
     exact gX hJ3 rfl (by kernel_rfl)
    ·
     exact gX hJ3 rfl (by kernel_rfl)
   refine gC rfl (fun _=> ?_) (fun _=> ?_)
   ·
    exact gR rfl rfl rfl
   ·
    refine gC rfl (fun _=> ?_) (fun _=> ?_)
    ·
     exact gR rfl rfl rfl
    ·
     refine gC rfl (fun _=> ?_) (fun _=> ?_)
     ·
      exact gR rfl rfl rfl
     ·
      refine gC rfl (fun _=> ?_) (fun _=> ?_)
      ·
       refine gV rfl fun ex1=> ?_
       refine gJ 7 (fun v3=> [.v 74 (.ob v3)]) rfl (fun _=>rfl) (fun J4 hJ4=> ?_) (fun v3=> ?_)
       ·
        refine gD rfl (fun _=> ?_) (fun _=> ?_)
        ·
         refine gA ?_
         refine gV rfl fun ex3=> ?_
         exact gX hJ4 rfl (by kernel_rfl)
        ·
         exact gX hJ4 rfl (by kernel_rfl)
       refine gC rfl (fun _=> ?_) (fun _=> ?_)
       ·
        exact gR rfl rfl rfl
       ·
        refine gV rfl fun ex2=> ?_
        refine gC rfl (fun _=> ?_) (fun _=> ?_)
        ·
         exact gR rfl rfl rfl
        ·
         refine gK (c3a _ _ _) rfl rfl rfl fun v4=> ?_
         refine gC rfl (fun _=> ?_) (fun _=> ?_)
         ·
          exact gR rfl rfl rfl
         ·
          exact gR rfl rfl rfl
      ·
       refine gK (c3a _ _ _) rfl rfl rfl fun v5=> ?_
       refine gC rfl (fun _=> ?_) (fun _=> ?_)
       ·
        exact gR rfl rfl rfl
       ·
        exact gR rfl rfl rfl
theorem c8e(n:Nat)(x1:Expr)(names1:(List Bs)):FnC Wt 64 [.agg [.int .i64 x1.Op,.int .i64 x1.N,.str x1.Name,.sl 0 x1.Args],.sl 1 names1] (b3a n x1 names1) (fun r=> .tup [.int .i64 r.1,.int .i64 r.2]):=by
 refine a0z (n:=22) Tryz.func64 rfl rfl rfl (fun _ _=>by kernel_rfl) fun F0 w0 r=> ?_
 unfold b3a
 refine gK (c7x _ _) rfl rfl rfl fun v1=> ?_
 refine gC rfl (fun _=> ?_) (fun _=> ?_)
 ·
  exact gR rfl rfl rfl
 ·
  refine gK (c9a _ _) rfl rfl rfl fun v2=> ?_
  refine gC rfl (fun _=> ?_) (fun _=> ?_)
  ·
   exact gR rfl rfl rfl
  ·
   refine gK (c7z _ _ _) rfl rfl rfl fun v3=> ?_
   exact gR rfl rfl rfl
end Go.Proofs.YthaegflpecbfgaaGreatDoor.M
namespace Go.Proofs.YthaegflpecbfgaaGreatDoor.M
open Go Go.RowKit Rt
set_option maxRecDepth 1000000
set_option maxHeartbeats 40000000
theorem d0z(n:Nat)(t1:Tariff)(names1:(List Bs))(f1:Facts)(weights1:(List Frac)):FnC Wt 9 [.agg [.str t1.Name,.int .i64 t1.Fee.Op,.int .i64 t1.Fee.N,.str t1.Fee.Name,.sl 0 t1.Fee.Args,.int .i64 t1.Cap],.sl 1 names1,.agg [.sl 2 f1.Lifts,.int .i64 f1.Persons,.int .i64 f1.Flats],.sl 3 weights1] (b5h n t1 names1 f1 weights1) (fun r=> .ob r):=by
 refine a0z (n:=19) Tryz.func9 rfl rfl rfl (fun _ _=>by kernel_rfl) fun F0 w0 r=> ?_
 unfold b5h
 refine gK (d0q _ _ _ _ _) rfl rfl rfl fun v1=> ?_
 refine gJ 4 (fun v2=> [.v 18 (.ob v2)]) rfl (fun _=>rfl) (fun J1 hJ1=> ?_) (fun v2=> ?_)
 ·
  refine gD rfl (fun _=> ?_) (fun _=> ?_)
  ·
   refine gA ?_
   refine gK (b7v _ _ _ _) rfl rfl rfl fun v3=> ?_
   exact gX hJ1 rfl (by kernel_rfl)
  ·
   exact gX hJ1 rfl (by kernel_rfl)
 exact gR rfl rfl rfl
end Go.Proofs.YthaegflpecbfgaaGreatDoor.M
namespace Go.Proofs.YthaegflpecbfgaaGreatDoor.M
open Go Go.RowKit Rt
set_option maxRecDepth 1000000
set_option maxHeartbeats 40000000
theorem c0x(n:Nat)(l1:(List Int)):FnO Wt 25 [.sl 2 l1] (a8q n l1) 44 4 3 (fun r=>r):=by
 refine b7a (n:=21) Tryz.func25 rfl rfl rfl (fun _ _=>by kernel_rfl) fun F0 w0 r=> ?_
 unfold a8q
 refine a2r ((fun k0 m(s:Int×List Frac)=>law37_ints_L1 n l1 k0 m s.1 s.2) _) (fun(s:Int×List Frac)=> [.r 3 3 s.2,.v 4 (.int .i64 s.1)]) (fun _=>rfl) (_,_) rfl rfl (fun _=>rfl) rfl fun K1 m1 hK1 z1=> ?_
 obtain⟨i1,l2⟩:=z1;dsimp only
 refine gC rfl (fun _=> ?_) (fun _=> ?_)
 ·
  refine gV rfl fun ex1=> ?_
  refine gK (b3q _ _) rfl rfl rfl fun v1=> ?_
  refine gP rfl fun l4=> ?_
  exact gE hK1 (_,_) rfl (by kernel_rfl)
 ·
  exact gRO rfl
theorem d5m(n:Nat)(s1:Bs):FnC Wt 33 [.str s1] (b4e n s1) (fun r=> .tup [.agg [.sl 4 r.1.Pieces],.int .i64 r.2]):=by
 refine a0z (n:=31) Tryz.func33 rfl rfl rfl (fun _ _=>by kernel_rfl) fun F0 w0 r=> ?_
 unfold b4e
 refine gV rfl fun t1=> ?_
 refine gV rfl fun t2=> ?_
 refine gK (c4x _ _) rfl rfl rfl fun v1=> ?_
 refine gC rfl (fun _=> ?_) (fun _=> ?_)
 ·
  exact gR rfl rfl rfl
 ·
  refine gK (c4q _ _ _ _) rfl rfl rfl fun v2=> ?_
  exact gR rfl rfl rfl
theorem d4u(n:Nat)(f1:Form)(want1:(List (List Int))):FnC Wt 34 [.agg [.sl 4 f1.Pieces],.sl 6 want1] (b9p n f1 want1) (fun r=> .ob r):=by
 refine a0z (n:=69) Tryz.func34 rfl rfl rfl (fun _ _=>by kernel_rfl) fun F0 w0 r=> ?_
 unfold b9p
 refine gC rfl (fun _=> ?_) (fun _=> ?_)
 ·
  exact gR rfl rfl rfl
 ·
  refine a2r ((fun k0 m(s:Int×(List (List Affine)))=>b8a n want1 k0 m s.1 s.2) _) (fun(s:Int×(List (List Affine)))=> [.b 2 [.sl 4 s.2],.v 5 (.int .i64 s.1)]) (fun _=>rfl) (_,_) rfl rfl (fun _=>rfl) rfl fun K1 m1 hK1 z1=> ?_
  obtain⟨i1,f2⟩:=z1;dsimp only
  refine gC rfl (fun _=> ?_) (fun _=> ?_)
  ·
   refine gV rfl fun ex1=> ?_
   refine gC rfl (fun _=> ?_) (fun _=> ?_)
   ·
    exact gR rfl rfl rfl
   ·
    refine gV rfl fun ex2=> ?_
    refine gV rfl fun ex3=> ?_
    refine gP rfl fun l1=> ?_
    refine gV rfl fun ex4=> ?_
    refine gC rfl (fun _=> ?_) (fun _=> ?_)
    ·
     exact gR rfl rfl rfl
    ·
     refine a2r ((fun k0 m(s:Int)=>b7o n want1 i1 l1 k0 m s) _) (fun(s:Int)=> [.v 8 (.int .i64 s)]) (fun _=>rfl) _ rfl rfl (fun _=>rfl) rfl fun K2 m2 hK2 k1=> ?_
     refine gC rfl (fun _=> ?_) (fun _=> ?_)
     ·
      refine gHs [(15,(pL [0,2,4,6,8,10,12,14,16,18,20,23,25,27] .nil))] rfl (by kernel_rfl) rfl rfl fun Ky=> ?_
      refine gV rfl fun ex5=> ?_
      refine gV rfl fun ex6=> ?_
      refine gV rfl fun ex7=> ?_
      refine gK (b3q _ _) rfl rfl rfl fun v1=> ?_
      refine gK (b2l _ _ _) rfl rfl rfl fun v2=> ?_
      refine gHe rfl ?_
      refine gC rfl (fun _=> ?_) (fun _=> ?_)
      ·
       exact gR rfl rfl rfl
      ·
       exact gE hK2 _ rfl (by kernel_rfl)
     ·
      exact gE hK1 (_,_) rfl (by kernel_rfl)
  ·
   exact gR rfl rfl rfl
theorem b2k(n:Nat)(s1:Bs)(r:(Form×Int))(hm:b4e n s1=some r){w:World}{F:Frz}(hs:Sat F w)(hg0:FX F 0 [.int .u8 40,.int .u8 41,.int .u8 44,.int .u8 59,.int .u8 58,.int .u8 61,.int .u8 60,.int .u8 43,.int .u8 45,.int .u8 42,.int .u8 47,.int .u8 123,.int .u8 125]):
 Calls Tryz.prog 33 #[vs s1] w fun e w'=>∃v F' O',e= .returned v/\HS F w [] F' O' w'/\(∃(a0_0:Option Addr)(n0_0:Nat)(c0_0:Nat),v= .tuple #[.agg #[.slice a0_0 n0_0 c0_0],.int .i64 r.2]/\O'= []/\SlR (Rp.sl rp_Affine) F' a0_0 n0_0 c0_0 r.1.Pieces):=
 (d5m n s1).2 r hm w F hs hg0 _ ⟨_,_,rfl,rfl,rfl⟩|>.mono fun e w'⟨v,F',e1,e2,e3⟩=>by
  obtain⟨_,rfl,⟨_,_,rfl,⟨_,rfl,⟨_,_,rfl,⟨_,_,_,rfl,g0⟩,rfl⟩⟩,⟨_,_,rfl,rfl,rfl⟩⟩⟩:=e3
  exact⟨_,F',[],e1,e2,⟨_,_,_,rfl,rfl,g0⟩⟩
theorem a4m(n:Nat)(f1:Form)(weights1:(List Frac))(r:(Frac×Bool))(hm:b2x n f1 weights1=some r){w:World}{F:Frz}(hs:Sat F w)(hg0:FX F 0 [.int .u8 40,.int .u8 41,.int .u8 44,.int .u8 59,.int .u8 58,.int .u8 61,.int .u8 60,.int .u8 43,.int .u8 45,.int .u8 42,.int .u8 47,.int .u8 123,.int .u8 125]){as1:Option Addr}{ns1:Nat}{cs1:Nat}{as2:Option Addr}{ns2:Nat}{cs2:Nat}(hs1:SlR (Rp.sl rp_Affine) F as1 ns1 cs1 f1.Pieces)(hs2:SlR rp_Frac F as2 ns2 cs2 weights1):
 Calls Tryz.prog 13 #[.agg #[.slice as1 ns1 cs1],.slice as2 ns2 cs2] w fun e w'=>∃v F' O',e= .returned v/\HS F w [] F' O' w'/\(∃(a0_1:Option Addr)(n0_1:Nat)(c0_1:Nat)(a0_3:Option Addr)(n0_3:Nat)(c0_3:Nat),v= .tuple #[.agg #[.int .i64 r.1.P.Sign,.slice a0_1 n0_1 c0_1,.int .i64 r.1.Q.Sign,.slice a0_3 n0_3 c0_3],.bool r.2]/\O'= []/\SlR (Rp.int .i64) F' a0_1 n0_1 c0_1 r.1.P.Digits/\SlR (Rp.int .i64) F' a0_3 n0_3 c0_3 r.1.Q.Digits):=
 (d1v n f1 weights1).2 r hm w F hs hg0 _ ⟨_,_,rfl,⟨_,rfl,⟨_,_,rfl,⟨_,_,_,rfl,hs1⟩,rfl⟩⟩,⟨_,_,rfl,⟨_,_,_,rfl,hs2⟩,rfl⟩⟩|>.mono fun e w'⟨v,F',e1,e2,e3⟩=>by
  obtain⟨_,rfl,⟨_,_,rfl,⟨_,rfl,⟨_,_,rfl,rfl,⟨_,_,rfl,⟨_,_,_,rfl,g0⟩,⟨_,_,rfl,rfl,⟨_,_,rfl,⟨_,_,_,rfl,g1⟩,rfl⟩⟩⟩⟩⟩,⟨_,_,rfl,rfl,rfl⟩⟩⟩:=e3
  exact⟨_,F',[],e1,e2,⟨_,_,_,_,_,_,rfl,rfl,g0,g1⟩⟩
theorem c1i(n:Nat)(f1:Form)(want1:(List (List Int)))(r:Bool)(hm:b9p n f1 want1=some r){w:World}{F:Frz}(hs:Sat F w)(hg0:FX F 0 [.int .u8 40,.int .u8 41,.int .u8 44,.int .u8 59,.int .u8 58,.int .u8 61,.int .u8 60,.int .u8 43,.int .u8 45,.int .u8 42,.int .u8 47,.int .u8 123,.int .u8 125]){as1:Option Addr}{ns1:Nat}{cs1:Nat}{as2:Option Addr}{ns2:Nat}{cs2:Nat}(hs1:SlR (Rp.sl rp_Affine) F as1 ns1 cs1 f1.Pieces)(hs2:SlR (Rp.sl (Rp.int .i64)) F as2 ns2 cs2 want1):
 Calls Tryz.prog 34 #[.agg #[.slice as1 ns1 cs1],.slice as2 ns2 cs2] w fun e w'=>∃v F' O',e= .returned v/\HS F w [] F' O' w'/\(v= .bool r/\O'= []):=
 (d4u n f1 want1).2 r hm w F hs hg0 _ ⟨_,_,rfl,⟨_,rfl,⟨_,_,rfl,⟨_,_,_,rfl,hs1⟩,rfl⟩⟩,⟨_,_,rfl,⟨_,_,_,rfl,hs2⟩,rfl⟩⟩|>.mono fun e w'⟨v,F',e1,e2,e3⟩=>by
  obtain rfl:=e3
  exact⟨_,F',[],e1,e2,⟨rfl,rfl⟩⟩
theorem b9m(n:Nat)(nx1:Int)(r:Frac)(hm:a6a n nx1=some r){w:World}{F:Frz}(hs:Sat F w)(hg0:FX F 0 [.int .u8 40,.int .u8 41,.int .u8 44,.int .u8 59,.int .u8 58,.int .u8 61,.int .u8 60,.int .u8 43,.int .u8 45,.int .u8 42,.int .u8 47,.int .u8 123,.int .u8 125]):
 Calls Tryz.prog 26 #[.int .i64 nx1] w fun e w'=>∃v F' O',e= .returned v/\HS F w [] F' O' w'/\(∃(a0_1:Option Addr)(n0_1:Nat)(c0_1:Nat)(a0_3:Option Addr)(n0_3:Nat)(c0_3:Nat),v= .agg #[.int .i64 r.P.Sign,.slice a0_1 n0_1 c0_1,.int .i64 r.Q.Sign,.slice a0_3 n0_3 c0_3]/\O'= []/\SlR (Rp.int .i64) F' a0_1 n0_1 c0_1 r.P.Digits/\SlR (Rp.int .i64) F' a0_3 n0_3 c0_3 r.Q.Digits):=
 (b3q n nx1).2 r hm w F hs hg0 _ ⟨_,_,rfl,rfl,rfl⟩|>.mono fun e w'⟨v,F',e1,e2,e3⟩=>by
  obtain⟨_,rfl,⟨_,_,rfl,rfl,⟨_,_,rfl,⟨_,_,_,rfl,g0⟩,⟨_,_,rfl,rfl,⟨_,_,rfl,⟨_,_,_,rfl,g1⟩,rfl⟩⟩⟩⟩⟩:=e3
  exact⟨_,F',[],e1,e2,⟨_,_,_,_,_,_,rfl,rfl,g0,g1⟩⟩
theorem b7e(n:Nat)(ax1:Frac)(b1:Frac)(r:Bool)(hm:a6b n ax1 b1=some r){w:World}{F:Frz}(hs:Sat F w)(hg0:FX F 0 [.int .u8 40,.int .u8 41,.int .u8 44,.int .u8 59,.int .u8 58,.int .u8 61,.int .u8 60,.int .u8 43,.int .u8 45,.int .u8 42,.int .u8 47,.int .u8 123,.int .u8 125]){as1:Option Addr}{ns1:Nat}{cs1:Nat}{as2:Option Addr}{ns2:Nat}{cs2:Nat}{as3:Option Addr}{ns3:Nat}{cs3:Nat}{as4:Option Addr}{ns4:Nat}{cs4:Nat}(hs1:SlR (Rp.int .i64) F as1 ns1 cs1 ax1.P.Digits)(hs2:SlR (Rp.int .i64) F as2 ns2 cs2 ax1.Q.Digits)(hs3:SlR (Rp.int .i64) F as3 ns3 cs3 b1.P.Digits)(hs4:SlR (Rp.int .i64) F as4 ns4 cs4 b1.Q.Digits):
 Calls Tryz.prog 16 #[.agg #[.int .i64 ax1.P.Sign,.slice as1 ns1 cs1,.int .i64 ax1.Q.Sign,.slice as2 ns2 cs2],.agg #[.int .i64 b1.P.Sign,.slice as3 ns3 cs3,.int .i64 b1.Q.Sign,.slice as4 ns4 cs4]] w fun e w'=>∃v F' O',e= .returned v/\HS F w [] F' O' w'/\(v= .bool r/\O'= []):=
 (b2l n ax1 b1).2 r hm w F hs hg0 _ ⟨_,_,rfl,⟨_,rfl,⟨_,_,rfl,rfl,⟨_,_,rfl,⟨_,_,_,rfl,hs1⟩,⟨_,_,rfl,rfl,⟨_,_,rfl,⟨_,_,_,rfl,hs2⟩,rfl⟩⟩⟩⟩⟩,⟨_,_,rfl,⟨_,rfl,⟨_,_,rfl,rfl,⟨_,_,rfl,⟨_,_,_,rfl,hs3⟩,⟨_,_,rfl,rfl,⟨_,_,rfl,⟨_,_,_,rfl,hs4⟩,rfl⟩⟩⟩⟩⟩,rfl⟩⟩|>.mono fun e w'⟨v,F',e1,e2,e3⟩=>by
  obtain rfl:=e3
  exact⟨_,F',[],e1,e2,⟨rfl,rfl⟩⟩
theorem a6q(n:Nat)(l1:(List Int))(r:(List Frac))(hm:a8q n l1=some r){w:World}{F:Frz}(hs:Sat F w)(hg0:FX F 0 [.int .u8 40,.int .u8 41,.int .u8 44,.int .u8 59,.int .u8 58,.int .u8 61,.int .u8 60,.int .u8 43,.int .u8 45,.int .u8 42,.int .u8 47,.int .u8 123,.int .u8 125]){as1:Option Addr}{ns1:Nat}{cs1:Nat}(hs1:SlR (Rp.int .i64) F as1 ns1 cs1 l1):
 Calls Tryz.prog 25 #[.slice as1 ns1 cs1] w fun e w'=>∃v F' O',e= .returned v/\HS F w [] F' O' w'/\(∃(a0_0:Option Addr)(n0_0:Nat)(c0_0:Nat)(xs0_0:List Value),v= .slice a0_0 n0_0 c0_0/\O'= [.row 44 4 a0_0 n0_0 c0_0 xs0_0]/\RowN rp_Frac F' n0_0 xs0_0 r):=
 (c0x n l1).2 r hm w F hs hg0 _ ⟨_,_,rfl,⟨_,_,_,rfl,hs1⟩,rfl⟩|>.mono fun e w'⟨v,F',a,m,nn,xs,e1,e2,e3,e4⟩=>⟨v,F',_,e1,e2,a,m,nn,xs,e4,rfl,e3⟩
theorem c5a(n:Nat)(r:Bool)(hm:b3c n=some r){w:World}{F:Frz}(hs:Sat F w)(hg0:FX F 0 [.int .u8 40,.int .u8 41,.int .u8 44,.int .u8 59,.int .u8 58,.int .u8 61,.int .u8 60,.int .u8 43,.int .u8 45,.int .u8 42,.int .u8 47,.int .u8 123,.int .u8 125]):
 Calls Tryz.prog 8 #[] w fun e w'=>∃v F' O',e= .returned v/\HS F w [] F' O' w'/\(v= .bool r/\O'= []):=by
 unfold b3c at hm
 have h:=HS.init hs
 refine a2g 112 Tryz.func8 Y Y Y (a0f (a0a (a0c Y Y Y (a0e (a0d (a0f (a0a ?_)))))))
 obtain⟨v1,lg,hm⟩:=Yb hm
 refine a1r ent33 Y Y Y Y h (b2k _ _ _ lg h.sat hg0) ?_
 rintro _ om _ on jo lh ⟨h0,h1,g7,rfl,rfl,li⟩
 refine a0b Y Y Y (a1h Y Y Y Y (a1h Y Y Y Y (a3w ze34 Y Y Y lh ?_)))
 intro b1 oo lj
 refine a0w sz34 Y lj Y Y Y Y (i:=0) Y Y Y Y ?_
 intro op kh
 refine a0c Y Y Y (a0e (a0d (a0f (a0a ?_))))
 obtain⟨v2,lk,hm⟩:=Yb hm
 refine a1r ent33 Y Y Y Y kh (b2k _ _ _ lk kh.sat (hg0.mono jo)) ?_
 rintro _ oq _ os jp ll ⟨h2,h3,h4,rfl,rfl,i6⟩
 refine a0b Y Y Y (a1h Y Y Y Y (a1h Y Y Y Y (a3w ze34 Y Y Y ll ?_)))
 intro b2 ot lm
 refine a0w sz34 Y lm Y Y Y Y (i:=0) Y Y Y Y ?_
 intro ou ki
 refine a0c Y Y Y (a0e (a0d (a0f (a0a ?_))))
 obtain⟨v3,ln,hm⟩:=Yb hm
 refine a1r ent33 Y Y Y Y ki (b2k _ _ _ ln ki.sat ((hg0.mono jo).mono jp)) ?_
 rintro _ i7 _ ov hk lo ⟨h5,h6,h7,rfl,rfl,i0⟩
 refine a0b Y Y Y (a1h Y Y Y Y (a1h Y Y Y Y (a3w ze34 Y Y Y lo ?_)))
 intro b3 ow lp
 refine a0w sz34 Y lp Y Y Y Y (i:=0) Y Y Y Y ?_
 intro ox lq
 refine a0c Y Y Y (a0e (a0d ?_))
 obtain⟨⟨f1,f2,f3,f4,one1⟩,M,hm⟩:=Yb hm
 refine e0h (fun a w'=>∃(g8:Frz)(b4:Nat)(g9:Option Addr)(ga:Nat)(gb:Nat)(gc:Option Addr)(gd:Nat)(ge:Nat),Frz.le i7 g8/\HS F w [] g8 [.box b4 44 [.int .i64 f1,.slice g9 ga gb,.int .i64 f3,.slice gc gd ge],.box b3 34 [.slice h5 h6 h7],.box b2 34 [.slice h2 h3 h4],.box b1 34 [.slice h0 h1 g7]] w'/\(SlR (Rp.int .i64) g8 g9 ga gb f2)/\(SlR (Rp.int .i64) g8 gc gd ge f4)/\Has 112 a [(1,.pointer (some ⟨b1,0,none⟩)),(2,.int .i64 v1.2),(3,.pointer (some ⟨b2,0,none⟩)),(4,.int .i64 v2.2),(5,.pointer (some ⟨b3,0,none⟩)),(6,.int .i64 v3.2),(7,.pointer (some ⟨b4,0,none⟩)),(8,.bool one1)]) ?_ ?_
 ·rintro a m8 ⟨g8,b4,g9,ga,gb,gc,gd,ge,hd,kp,lr,ls,kq⟩
  refine a3a kq ?_
  obtain⟨⟨f5,f6,f7,f8,two1⟩,N,hm⟩:=Yb hm
  refine e0h (fun a w'=>∃(i8:Frz)(b5:Nat)(he:Option Addr)(hf:Nat)(hg:Nat)(hh:Option Addr)(hi:Nat)(hj:Nat),Frz.le g8 i8/\HS F w [] i8 [.box b5 44 [.int .i64 f5,.slice he hf hg,.int .i64 f7,.slice hh hi hj],.box b4 44 [.int .i64 f1,.slice g9 ga gb,.int .i64 f3,.slice gc gd ge],.box b3 34 [.slice h5 h6 h7],.box b2 34 [.slice h2 h3 h4],.box b1 34 [.slice h0 h1 g7]] w'/\(SlR (Rp.int .i64) i8 he hf hg f6)/\(SlR (Rp.int .i64) i8 hh hi hj f8)/\Has 112 a [(1,.pointer (some ⟨b1,0,none⟩)),(2,.int .i64 v1.2),(3,.pointer (some ⟨b2,0,none⟩)),(4,.int .i64 v2.2),(5,.pointer (some ⟨b3,0,none⟩)),(6,.int .i64 v3.2),(7,.pointer (some ⟨b4,0,none⟩)),(8,.bool one1),(9,.pointer (some ⟨b5,0,none⟩)),(10,.bool two1)]) ?_ ?_
  ·rintro a m9 ⟨i8,b5,he,hf,hg,hh,hi,hj,i9,iq,lt,lu,kr⟩
   refine a3a kr (a0f (a0a (a5r (v:= .agg #[.slice none 0 0]) Y Y Y (fun _=>by kernel_rfl) ?_)))
   obtain⟨v4,lv,hm⟩:=Yb hm
   refine a1r ent13 Y Y Y Y iq (a4m _ _ _ _ lv iq.sat (hg0.mono iq.le) (SlR.nil _ _) (SlR.nil _ _)) ?_
   rintro _ oy _ ma i1 ks ⟨ia,ib,ic,id,ie,ig,rfl,rfl,oz,p0⟩
   refine a0b Y Y Y (a1h Y Y Y Y (a1h Y Y Y Y (a3w ze44 Y Y Y ks ?_)))
   intro b6 mb kt
   refine a0w sz44 Y kt Y Y Y Y (i:=0) Y Y Y Y ?_
   intro mc jq
   refine a0c Y Y Y (a0e (a0d (a0f (a0a ?_))))
   have lw:=((((jo.trans jp).trans hk).trans hd).trans i9).trans i1
   obtain⟨v5,lx,hm⟩:=Yb hm
   refine a1r ent33 Y Y Y Y jq (b2k _ _ _ lx jq.sat (hg0.mono lw)) ?_
   rintro _ jr _ md ih ku ⟨hn,ho,hp,rfl,rfl,me⟩
   refine a0b Y Y Y (a1h Y Y Y Y (a1h Y Y Y Y (a3w ze34 Y Y Y ku ?_)))
   intro b7 mf kv
   refine a0w sz34 Y kv Y Y Y Y (i:=0) Y Y Y Y ?_
   intro gf ir
   refine a0c Y Y Y (a0e (a0d (a0f (a0f (a0a (a0b Y Y Y (a0x Y Y Y Y Y (a0b Y Y Y ?_))))))))
   obtain⟨v6,ii,hm⟩:=Yb hm
   refine a8i 3 (fun a w'=>gf=w'/\Has 112 a [(1,.pointer (some ⟨b1,0,none⟩)),(3,.pointer (some ⟨b2,0,none⟩)),(5,.pointer (some ⟨b3,0,none⟩)),(6,.int .i64 v3.2),(7,.pointer (some ⟨b4,0,none⟩)),(8,.bool one1),(9,.pointer (some ⟨b5,0,none⟩)),(10,.bool two1),(12,.bool v4.2),(14,.int .i64 v5.2),(55,.bool v6)]) ?_ ?_
   ·rintro a mg ⟨rfl,kw⟩
    refine a2k kw (a0b Y Y Y ?_)
    obtain⟨v7,ij,hm⟩:=Yb hm
    refine a8i 3 (fun a w'=>gf=w'/\Has 112 a [(1,.pointer (some ⟨b1,0,none⟩)),(3,.pointer (some ⟨b2,0,none⟩)),(5,.pointer (some ⟨b3,0,none⟩)),(7,.pointer (some ⟨b4,0,none⟩)),(8,.bool one1),(9,.pointer (some ⟨b5,0,none⟩)),(10,.bool two1),(12,.bool v4.2),(14,.int .i64 v5.2),(59,.bool v7)]) ?_ ?_
    ·rintro a mh ⟨rfl,kx⟩
     refine a2k kx (a0b Y Y Y ?_)
     obtain⟨v8,ik,hm⟩:=Yb hm
     refine a8i 3 (fun a w'=>gf=w'/\Has 112 a [(1,.pointer (some ⟨b1,0,none⟩)),(3,.pointer (some ⟨b2,0,none⟩)),(5,.pointer (some ⟨b3,0,none⟩)),(7,.pointer (some ⟨b4,0,none⟩)),(8,.bool one1),(9,.pointer (some ⟨b5,0,none⟩)),(10,.bool two1),(12,.bool v4.2),(63,.bool v8)]) ?_ ?_
     ·rintro a mi ⟨rfl,ky⟩
      refine a2k ky (a0b Y Y Y ?_)
      obtain⟨v9,il,hm⟩:=Yb hm
      refine a8i 3 (fun a w'=>gf=w'/\Has 112 a [(1,.pointer (some ⟨b1,0,none⟩)),(3,.pointer (some ⟨b2,0,none⟩)),(5,.pointer (some ⟨b3,0,none⟩)),(7,.pointer (some ⟨b4,0,none⟩)),(9,.pointer (some ⟨b5,0,none⟩)),(10,.bool two1),(12,.bool v4.2),(67,.bool v9)]) ?_ ?_
      ·rintro a mj ⟨rfl,kz⟩
       refine a2k kz (a0b Y Y Y ?_)
       obtain⟨v10,im,hm⟩:=Yb hm
       refine a8i 3 (fun a w'=>gf=w'/\Has 112 a [(1,.pointer (some ⟨b1,0,none⟩)),(3,.pointer (some ⟨b2,0,none⟩)),(5,.pointer (some ⟨b3,0,none⟩)),(7,.pointer (some ⟨b4,0,none⟩)),(9,.pointer (some ⟨b5,0,none⟩)),(12,.bool v4.2),(71,.bool v10)]) ?_ ?_
       ·rintro a mk ⟨rfl,l0⟩
        refine a2k l0 (a0b Y Y Y ?_)
        obtain⟨v11,io,hm⟩:=Yb hm
        refine a8i 2 (fun a w'=>gf=w'/\Has 112 a [(1,.pointer (some ⟨b1,0,none⟩)),(3,.pointer (some ⟨b2,0,none⟩)),(5,.pointer (some ⟨b3,0,none⟩)),(7,.pointer (some ⟨b4,0,none⟩)),(9,.pointer (some ⟨b5,0,none⟩)),(74,.bool v11)]) ?_ ?_
        ·rintro a ml ⟨rfl,l1⟩
         refine a2k l1 (a0b Y Y Y ?_)
         obtain⟨v12,ip,hm⟩:=Yb hm
         refine a8i 5 (fun a w'=>gf=w'/\Has 112 a [(1,.pointer (some ⟨b1,0,none⟩)),(3,.pointer (some ⟨b2,0,none⟩)),(5,.pointer (some ⟨b3,0,none⟩)),(7,.pointer (some ⟨b4,0,none⟩)),(9,.pointer (some ⟨b5,0,none⟩)),(80,.bool v12)]) ?_ ?_
         ·rintro a mm ⟨rfl,l2⟩
          refine a2k l2 (a0e (a0d ?_))
          rcases a0g hm with⟨it,hm⟩|⟨it,hm⟩
          ·refine a1j 80 rfl it ?_
           refine a1t Y (a0f (a0a (a0c Y Y Y (a0e (a0d (a3x (a0p (a9d Y Y ?_))))))))
           obtain rfl:=Yo hm
           exact⟨_,_,_,Y,ir.Yp [] Y Y,Y,Y⟩
          ·refine a1j 80 rfl it ?_
           refine a1f Y (a2v (a0d ?_))
           obtain⟨v13,H,hm⟩:=Yb hm
           refine e0h (fun a w'=>∃(js:Frz),Frz.le jr js/\HS F w [] js [.box b7 34 [.slice hn ho hp],.box b6 44 [.int .i64 v4.1.P.Sign,.slice ia ib ic,.int .i64 v4.1.Q.Sign,.slice id ie ig],.box b5 44 [.int .i64 f5,.slice he hf hg,.int .i64 f7,.slice hh hi hj],.box b4 44 [.int .i64 f1,.slice g9 ga gb,.int .i64 f3,.slice gc gd ge],.box b3 34 [.slice h5 h6 h7],.box b2 34 [.slice h2 h3 h4],.box b1 34 [.slice h0 h1 g7]] w'/\Has 112 a [(0,.bool v13)]) ?_ ?_
           ·rintro a mn ⟨js,p1,l3,kb⟩
            refine a3a kb (a3x (a9d Y Y ?_))
            obtain rfl:=Yo hm
            exact⟨_,_,_,Y,l3.Yp [] Y Y,Y,Y⟩
           ·clear hm
            refine a8a (SH jr [.box b7 34 [.slice hn ho hp],.box b6 44 [.int .i64 v4.1.P.Sign,.slice ia ib ic,.int .i64 v4.1.Q.Sign,.slice id ie ig],.box b5 44 [.int .i64 f5,.slice he hf hg,.int .i64 f7,.slice hh hi hj],.box b4 44 [.int .i64 f1,.slice g9 ga gb,.int .i64 f3,.slice gc gd ge],.box b3 34 [.slice h5 h6 h7],.box b2 34 [.slice h2 h3 h4],.box b1 34 [.slice h0 h1 g7]]) 32 Y (by kernel_rfl) ir ?_
            intro mo jt
            refine d_tk 0 Y (by kernel_rfl) Y Y Y Y (jt.Ys Yf [0,1,2,3,4,5,6] Y Y) (fun _ _ _ _ hq=>a6v ag34 sz34 Y Y hq Y (i:=6) Y Y Yn) (a1m 1 Y (by kernel_rfl) (a0k (e:=3) (cs:= [.int .i64 11,.int .i64 0,.int .i64 0]) (q:=1) Y Y jt Y (fun _=>by kernel_rfl) Y Y ?_))
            intro b8 mp ju
            refine a0y (ju.Ys Yf [1,2,3,4,5,6,7] Y Y) (a1m 2 Y (by kernel_rfl) ?_)
            obtain⟨ly,x,l4,hsx1⟩:=a1x ju (i:=0) Y ((show RowN (Rp.int .i64) jr 3 [.int .i64 11,.int .i64 0,.int .i64 0] [11,0,0]from⟨Y,⟨_,_,Y,Y,⟨_,_,Y,Y,⟨_,_,Y,Y,(Y:RowR (Rp.int .i64) _ [] [])⟩⟩⟩⟩))
            refine a0k (e:=28) (cs:= [.slice (some ⟨b8,0,none⟩) 3 3]) (q:=1) Y Y l4 Y (fun _=>by kernel_rfl) Y Y ?_
            intro b9 mq jv
            refine a0y (jv.Ys x [1,2,3,4,5,6,7] Y Y) (a1m 3 Y (by kernel_rfl) ?_)
            obtain⟨mr,g,iu,hsx2⟩:=a1x jv (i:=0) Y ((show RowN (Rp.sl (Rp.int .i64)) ly 1 [.slice (some ⟨b8,0,none⟩) 3 3] [[11,0,0]]from⟨Y,⟨_,_,Y,⟨(some ⟨b8,0,none⟩),3,3,Y,hsx1⟩,(Y:RowR (Rp.sl (Rp.int .i64)) _ [] [])⟩⟩))
            have lz:=((((((jp.trans hk).trans hd).trans i9).trans i1).trans ih).trans x).trans g
            obtain⟨v14,m0,H⟩:=Yb H
            refine a1r ent34 Y Y Y Y iu (c1i _ _ _ _ m0 iu.sat (hg0.mono iu.le) (li.mono lz) hsx2) ?_
            rintro _ jw _ ms s iv ⟨rfl,rfl⟩
            have S0:=iv.Ys ((x.trans g).trans s) [0,1,2,3,4,5,6] Y Y
            refine a0y S0 (d_tk 4 Y (by kernel_rfl) Y Y Y Y S0 (fun _ _ _ _ _=>a0b Y Y Y Yn) ?_)
            obtain⟨v15,gg,H⟩:=Yb H
            refine e1v (fuel':=19) (listed':= #[true,true,true,true,true,true,true,true,true,true,true,true,true,false,false,false,false,false,false,false,false,false,false,false,false,false,false,false,false,false,false,false]) (fun a w'=>∃(i2:Frz),Frz.le jw i2/\HS F w [] i2 [.box b7 34 [.slice hn ho hp],.box b6 44 [.int .i64 v4.1.P.Sign,.slice ia ib ic,.int .i64 v4.1.Q.Sign,.slice id ie ig],.box b5 44 [.int .i64 f5,.slice he hf hg,.int .i64 f7,.slice hh hi hj],.box b4 44 [.int .i64 f1,.slice g9 ga gb,.int .i64 f3,.slice gc gd ge],.box b3 34 [.slice h5 h6 h7],.box b2 34 [.slice h2 h3 h4],.box b1 34 [.slice h0 h1 g7]] w'/\Has 112 a [(5,.pointer (some ⟨b3,0,none⟩)),(7,.pointer (some ⟨b4,0,none⟩)),(9,.pointer (some ⟨b5,0,none⟩)),(93,.bool v15)]) ?_ (fun kj=> ?_)
            ·rintro a l5 ⟨i2,G,hr,kc⟩
             refine c2d kc ?_
             have S1:=hr.Ys (((x.trans g).trans s).trans G) [0,1,2,3,4,5,6] Y Y
             refine d_tk 13 Y (by kernel_rfl) Y Y Y Y S1 (fun _ _ _ _ _=>a0b Y Y Y Yn) ?_
             obtain⟨v16,gh,H⟩:=Yb H
             refine e1v (fuel':=11) (listed':= #[true,true,true,true,true,true,true,true,true,true,true,true,true,true,true,true,true,true,true,true,true,false,false,false,false,false,false,false,false,false,false,false]) (fun a w'=>l5=w'/\Has 112 a [(7,.pointer (some ⟨b4,0,none⟩)),(9,.pointer (some ⟨b5,0,none⟩)),(101,.bool v16)]) ?_ (fun kk=> ?_)
             ·rintro a mt ⟨rfl,kd⟩
              refine c2d kd (d_tk 21 Y (by kernel_rfl) Y Y Y Y S1 (fun _ _ _ _ _=>a0b Y Y Y Yn) ?_)
              obtain⟨v17,g3,H⟩:=Yb H
              refine e1v (fuel':=6) (listed':= #[true,true,true,true,true,true,true,true,true,true,true,true,true,true,true,true,true,true,true,true,true,true,true,true,true,true,false,false,false,false,false,false]) (fun a w'=>∃(i3:Frz),Frz.le i2 i3/\HS F w [] i3 [.box b7 34 [.slice hn ho hp],.box b6 44 [.int .i64 v4.1.P.Sign,.slice ia ib ic,.int .i64 v4.1.Q.Sign,.slice id ie ig],.box b5 44 [.int .i64 f5,.slice he hf hg,.int .i64 f7,.slice hh hi hj],.box b4 44 [.int .i64 f1,.slice g9 ga gb,.int .i64 f3,.slice gc gd ge],.box b3 34 [.slice h5 h6 h7],.box b2 34 [.slice h2 h3 h4],.box b1 34 [.slice h0 h1 g7]] w'/\Has 112 a [(9,.pointer (some ⟨b5,0,none⟩)),(106,.bool v17)]) ?_ (fun kl=> ?_)
              ·rintro a mu ⟨i3,R,g2,ke⟩
               refine c2d ke (d_tk 26 Y (by kernel_rfl) Y Y Y Y (g2.sh ((((x.trans g).trans s).trans G).trans R) [0,1,2,3,4,5,6] (by decide) Y) (fun _ _ _ _ _=>a0b Y Y Y Yn) ?_)
               obtain⟨v18,g4,H⟩:=Yb H
               refine e1v (fuel':=1) (listed':= #[true,true,true,true,true,true,true,true,true,true,true,true,true,true,true,true,true,true,true,true,true,true,true,true,true,true,true,true,true,true,true,false]) (fun a w'=>∃(iw:Frz),Frz.le i3 iw/\HS F w [] iw [.box b7 34 [.slice hn ho hp],.box b6 44 [.int .i64 v4.1.P.Sign,.slice ia ib ic,.int .i64 v4.1.Q.Sign,.slice id ie ig],.box b5 44 [.int .i64 f5,.slice he hf hg,.int .i64 f7,.slice hh hi hj],.box b4 44 [.int .i64 f1,.slice g9 ga gb,.int .i64 f3,.slice gc gd ge],.box b3 34 [.slice h5 h6 h7],.box b2 34 [.slice h2 h3 h4],.box b1 34 [.slice h0 h1 g7]] w'/\Has 112 a [(111,.bool v18)]) ?_ (fun km=> ?_)
               ·rintro a mv ⟨iw,jx,jy,kf⟩
                refine c2d kf (d_tk 31 Y (by kernel_rfl) Y Y Y Y (jy.sh (((((x.trans g).trans s).trans G).trans R).trans jx) [0,1,2,3,4,5,6] (by decide) Y) (fun _ _ _ _ _=>a0c Y Y Y Yn) (a8o (by kernel_rfl) (a0m (fun a ha=> ?_))))
                cases H
                exact⟨_,(((((x.trans g).trans s).trans G).trans R).trans jx),jy.Yp [0,1,2,3,4,5,6] Y Y,ha.cut (l:= [0]) Y⟩
               ·clear H
                rcases a0g g4 with⟨ix,g4⟩|⟨ix,g4⟩
                ·refine c6z 107 rfl ix ?_
                 refine d_tk 27 Y (by kernel_rfl) Y Y Y Y (g2.sh ((((x.trans g).trans s).trans G).trans R) [0,1,2,3,4,5,6] (by decide) Y) (fun _ _ _ _ hq=>a6v ag44 sz44 Y Y hq Y (i:=2) Y Y Yn) (a1m 28 Y (by kernel_rfl) ?_)
                 obtain⟨v19,m1,g4⟩:=Yb g4
                 refine a1r ent26 Y Y Y Y g2 (b9m _ _ _ m1 g2.sat (hg0.mono g2.le)) ?_
                 rintro _ mw _ mx ht i4 ⟨my,mz,o0,o2,o3,o4,rfl,rfl,l6,l7⟩
                 refine a0y (i4.sh (((((x.trans g).trans s).trans G).trans R).trans ht) [0,1,2,3,4,5,6] (by decide) Y) (a1m 29 Y (by kernel_rfl) ?_)
                 have kn:=((((((i1.trans ih).trans x).trans g).trans s).trans G).trans R).trans ht
                 obtain⟨v20,m2,g4⟩:=Yb g4
                 refine a1r ent16 Y Y Y Y i4 (b7e _ _ _ _ m2 i4.sat (hg0.mono i4.le) (lt.mono kn) (lu.mono kn) l6 l7) ?_
                 rintro _ o5 _ o6 iy iz ⟨rfl,rfl⟩
                 refine a0y (iz.sh ((((((x.trans g).trans s).trans G).trans R).trans ht).trans iy) [0,1,2,3,4,5,6] (by decide) Y) (d_tk 30 Y (by kernel_rfl) Y Y Y Y (iz.sh ((((((x.trans g).trans s).trans G).trans R).trans ht).trans iy) [0,1,2,3,4,5,6] (by decide) Y) (fun _ _ _ _ _=>a0n Y Y Y Y Yn) (c9k km (by kernel_rfl) (fun a ha=> ?_)))
                 cases g4
                 exact⟨_,(ht.trans iy),iz.Yp [0,1,2,3,4,5,6] Y Y,ha.cut (l:= [111]) Y⟩
                ·refine c6z 107 rfl ix ?_
                 refine d_of 27 Y (by kernel_rfl) Y Y Y (g2.sh ((((x.trans g).trans s).trans G).trans R) [0,1,2,3,4,5,6] (by decide) Y) (d_of 28 Y (by kernel_rfl) Y Y Y (g2.sh ((((x.trans g).trans s).trans G).trans R) [0,1,2,3,4,5,6] (by decide) Y) (d_of 29 Y (by kernel_rfl) Y Y Y (g2.sh ((((x.trans g).trans s).trans G).trans R) [0,1,2,3,4,5,6] (by decide) Y) (d_tk 30 Y (by kernel_rfl) Y Y Y Y (g2.sh ((((x.trans g).trans s).trans G).trans R) [0,1,2,3,4,5,6] (by decide) Y) (fun _ _ _ _ _=>a0j Y Y Y Y Yn) (c9k km (by kernel_rfl) (fun a ha=> ?_)))))
                 cases g4
                 exact⟨_,Yf,g2.Yp [0,1,2,3,4,5,6] Y Y,ha.cut (l:= [111]) Y⟩
              ·clear H
               rcases a0g g3 with⟨j0,g3⟩|⟨j0,g3⟩
               ·refine c6z 102 rfl j0 ?_
                refine d_tk 22 Y (by kernel_rfl) Y Y Y Y S1 (fun _ _ _ _ hq=>a6v ag44 sz44 Y Y hq Y (i:=3) Y Y Yn) (a1m 23 Y (by kernel_rfl) ?_)
                obtain⟨v21,m3,g3⟩:=Yb g3
                refine a1r ent26 Y Y Y Y hr (b9m _ _ _ m3 hr.sat (hg0.mono hr.le)) ?_
                rintro _ o7 _ o8 hu i5 ⟨o9,oa,ob,oc,od,oe,rfl,rfl,l8,l9⟩
                refine a0y (i5.sh ((((x.trans g).trans s).trans G).trans hu) [0,1,2,3,4,5,6] (by decide) Y) (a1m 24 Y (by kernel_rfl) ?_)
                have ko:=((((((i9.trans i1).trans ih).trans x).trans g).trans s).trans G).trans hu
                obtain⟨v22,la,g3⟩:=Yb g3
                refine a1r ent16 Y Y Y Y i5 (b7e _ _ _ _ la i5.sat (hg0.mono i5.le) (lr.mono ko) (ls.mono ko) l8 l9) ?_
                rintro _ of _ og j1 j2 ⟨rfl,rfl⟩
                refine a0y (j2.sh (((((x.trans g).trans s).trans G).trans hu).trans j1) [0,1,2,3,4,5,6] (by decide) Y) (d_tk 25 Y (by kernel_rfl) Y Y Y Y (j2.sh (((((x.trans g).trans s).trans G).trans hu).trans j1) [0,1,2,3,4,5,6] (by decide) Y) (fun _ _ _ _ _=>a0n Y Y Y Y Yn) (c9k kl (by kernel_rfl) (fun a ha=> ?_)))
                cases g3
                exact⟨_,(hu.trans j1),j2.Yp [0,1,2,3,4,5,6] Y Y,ha.cut (l:= [9,106]) Y⟩
               ·refine c6z 102 rfl j0 ?_
                refine d_of 22 Y (by kernel_rfl) Y Y Y S1 (d_of 23 Y (by kernel_rfl) Y Y Y S1 (d_of 24 Y (by kernel_rfl) Y Y Y S1 (d_tk 25 Y (by kernel_rfl) Y Y Y Y S1 (fun _ _ _ _ _=>a0j Y Y Y Y Yn) (c9k kl (by kernel_rfl) (fun a ha=> ?_)))))
                cases g3
                exact⟨_,Yf,hr.Yp [0,1,2,3,4,5,6] Y Y,ha.cut (l:= [9,106]) Y⟩
             ·clear H
              rcases a0g gh with⟨j3,gh⟩|⟨j3,gh⟩
              ·refine c6z 94 rfl j3 ?_
               refine d_tk 14 Y (by kernel_rfl) Y Y Y Y S1 (fun _ _ _ _ _=>a0i fa34_0 Y Y Y Yn) (d_tk 15 Y (by kernel_rfl) Y Y Y Y S1 (fun _ _ _ _ hq=>a1y ag32 Y Y hq Y (i:=4) Y Y Yn) ?_)
               obtain⟨ex1,m4,gh⟩:=Yb gh
               obtain⟨b10,o1,g7,m5,m6,kg⟩:=b3h (P:=Tryz.prog) (r:=(Rp.sl rp_Affine)) u32 sz57 ((((i0.mono hd).mono i9).mono i1).mono ih) m4
               obtain⟨oh,oi,oj,m7,lb⟩:=m6
               subst m7
               refine d2h 16 Y (by kernel_rfl) (by kernel_rfl) (by kernel_rfl) Y Y Y Y kg S1 (d_tk 17 Y (by kernel_rfl) Y Y Y Y S1 (fun _ _ _ hleq hq=>a6u (j:=0) ag57 Y Y hq (m5.mono (hleq)) Y Y Yn) (d_tk 18 Y (by kernel_rfl) Y Y Y Y S1 (fun _ _ _ _ _=>a6y lb.len u57 Y Y Y Yn) (d_tk 19 Y (by kernel_rfl) Y Y Y Y S1 (fun _ _ _ _ _=>a0x Y Y Y Y Y Yn) (d_tk 20 Y (by kernel_rfl) Y Y Y Y S1 (fun _ _ _ _ _=>a0n Y Y Y Y Yn) (c9k kk (by kernel_rfl) (fun a ha=> ?_))))))
               cases gh
               exact⟨Y,ha.cut (l:= [7,9,101]) Y⟩
              ·refine c6z 94 rfl j3 ?_
               refine d_of 14 Y (by kernel_rfl) Y Y Y S1 (d_of 15 Y (by kernel_rfl) Y Y Y S1 (d_of 16 Y (by kernel_rfl) Y Y Y S1 (d_of 17 Y (by kernel_rfl) Y Y Y S1 (d_of 18 Y (by kernel_rfl) Y Y Y S1 (d_of 19 Y (by kernel_rfl) Y Y Y S1 (d_tk 20 Y (by kernel_rfl) Y Y Y Y S1 (fun _ _ _ _ _=>a0j Y Y Y Y Yn) ?_))))))
               refine c9k kk (by kernel_rfl) (fun a ha=> ?_)
               cases gh
               exact⟨Y,ha.cut (l:= [7,9,101]) Y⟩
            ·clear H
             rcases a0g gg with⟨j4,gg⟩|⟨j4,gg⟩
             ·refine c6z 85 rfl j4 ?_
              refine d_tk 5 Y (by kernel_rfl) Y Y Y Y S0 (fun _ _ _ _ hq=>a6v ag34 sz34 Y Y hq Y (i:=5) Y Y Yn) ?_
              have hz:=iv
              have hl:=Frz.refl jw
              refine c8i [6,7,8,9] (by kernel_rfl) Y (a3s Y ?_ (a3s Y ?_ (a3s Y ?_ (a3s Y ?_ (steps_nil)))))
              all_goals repeat' first
               |(refine a0k (e:=3) (vl:= [(0,.int .i64 0),(1,.int .i64 1),(2,.int .i64 (-1))]) (cs:= [.int .i64 0,.int .i64 1,.int .i64 (-1)]) (q:=1) rfl rfl hz rfl (fun _=>by kernel_rfl) rfl rfl ?_;intro p6 wz hz;obtain⟨Fz,hF,hz,s6⟩:=a1x hz (i:=0) rfl (show RowN (Rp.int .i64) _ 3 [.int .i64 0,.int .i64 1,.int .i64 (-1)] [0,1,(-1)]from⟨rfl,⟨_,_,rfl,rfl,⟨_,_,rfl,rfl,⟨_,_,rfl,rfl,(rfl:RowR (Rp.int .i64) _ [] [])⟩⟩⟩⟩);replace hl:=hl.trans hF;(try replace s7:=s7.mono hF);(try replace s8:=s8.mono hF);(try replace s9:=s9.mono hF);refine a0y (hz.Ys (((x.trans g).trans s).trans hl) [0,1,2,3,4,5,6] Y Y) ?_)
               |(refine a0k (e:=3) (vl:= [(0,.int .i64 (-1)),(1,.int .i64 1),(2,.int .i64 0)]) (cs:= [.int .i64 (-1),.int .i64 1,.int .i64 0]) (q:=1) rfl rfl hz rfl (fun _=>by kernel_rfl) rfl rfl ?_;intro p7 wz hz;obtain⟨Fz,hF,hz,s7⟩:=a1x hz (i:=0) rfl (show RowN (Rp.int .i64) _ 3 [.int .i64 (-1),.int .i64 1,.int .i64 0] [(-1),1,0]from⟨rfl,⟨_,_,rfl,rfl,⟨_,_,rfl,rfl,⟨_,_,rfl,rfl,(rfl:RowR (Rp.int .i64) _ [] [])⟩⟩⟩⟩);replace hl:=hl.trans hF;(try replace s6:=s6.mono hF);(try replace s8:=s8.mono hF);(try replace s9:=s9.mono hF);refine a0y (hz.Ys (((x.trans g).trans s).trans hl) [0,1,2,3,4,5,6] Y Y) ?_)
               |(refine a0k (e:=3) (vl:= [(0,.int .i64 10),(1,.int .i64 0),(2,.int .i64 (-1))]) (cs:= [.int .i64 10,.int .i64 0,.int .i64 (-1)]) (q:=1) rfl rfl hz rfl (fun _=>by kernel_rfl) rfl rfl ?_;intro p8 wz hz;obtain⟨Fz,hF,hz,s8⟩:=a1x hz (i:=0) rfl (show RowN (Rp.int .i64) _ 3 [.int .i64 10,.int .i64 0,.int .i64 (-1)] [10,0,(-1)]from⟨rfl,⟨_,_,rfl,rfl,⟨_,_,rfl,rfl,⟨_,_,rfl,rfl,(rfl:RowR (Rp.int .i64) _ [] [])⟩⟩⟩⟩);replace hl:=hl.trans hF;(try replace s6:=s6.mono hF);(try replace s7:=s7.mono hF);(try replace s9:=s9.mono hF);refine a0y (hz.Ys (((x.trans g).trans s).trans hl) [0,1,2,3,4,5,6] Y Y) ?_)
               |(refine a0k (e:=3) (vl:= [(0,.int .i64 9),(1,.int .i64 0),(2,.int .i64 0)]) (cs:= [.int .i64 9,.int .i64 0,.int .i64 0]) (q:=1) rfl rfl hz rfl (fun _=>by kernel_rfl) rfl rfl ?_;intro p9 wz hz;obtain⟨Fz,hF,hz,s9⟩:=a1x hz (i:=0) rfl (show RowN (Rp.int .i64) _ 3 [.int .i64 9,.int .i64 0,.int .i64 0] [9,0,0]from⟨rfl,⟨_,_,rfl,rfl,⟨_,_,rfl,rfl,⟨_,_,rfl,rfl,(rfl:RowR (Rp.int .i64) _ [] [])⟩⟩⟩⟩);replace hl:=hl.trans hF;(try replace s6:=s6.mono hF);(try replace s7:=s7.mono hF);(try replace s8:=s8.mono hF);refine a0y (hz.Ys (((x.trans g).trans s).trans hl) [0,1,2,3,4,5,6] Y Y) ?_)
               |refine c8i [6,7,8] (by decide+kernel) rfl (a3s rfl ?_ (a3s rfl ?_ (a3s rfl ?_ (steps_nil))))
               |refine c8i [6,7,9] (by decide+kernel) rfl (a3s rfl ?_ (a3s rfl ?_ (a3s rfl ?_ (steps_nil))))
               |refine c8i [6,8,9] (by decide+kernel) rfl (a3s rfl ?_ (a3s rfl ?_ (a3s rfl ?_ (steps_nil))))
               |refine c8i [7,8,9] (by decide+kernel) rfl (a3s rfl ?_ (a3s rfl ?_ (a3s rfl ?_ (steps_nil))))
               |refine b6s 6 7 rfl rfl (by decide+kernel) ?_ ?_
               |refine b6s 6 8 rfl rfl (by decide+kernel) ?_ ?_
               |refine b6s 6 9 rfl rfl (by decide+kernel) ?_ ?_
               |refine b6s 7 8 rfl rfl (by decide+kernel) ?_ ?_
               |refine b6s 7 9 rfl rfl (by decide+kernel) ?_ ?_
               |refine b6s 8 9 rfl rfl (by decide+kernel) ?_ ?_
               |refine a1m 6 rfl (by decide+kernel) ?_
               |refine a1m 7 rfl (by decide+kernel) ?_
               |refine a1m 8 rfl (by decide+kernel) ?_
               |refine a1m 9 rfl (by decide+kernel) ?_
               |fail
              all_goals
               refine a1m 10 Y (by kernel_rfl) (a0k (e:=28) (cs:= [.slice (some ⟨p6,0,none⟩) 3 3,.slice (some ⟨p7,0,none⟩) 3 3,.slice (some ⟨p8,0,none⟩) 3 3,.slice (some ⟨p9,0,none⟩) 3 3]) (q:=1) Y Y hz Y (fun _=>by kernel_rfl) Y Y ?_)
               intro p10 wz hz
               obtain⟨Fz,hF,hz,s10⟩:=a1x hz (i:=0) Y (show RowN (Rp.sl (Rp.int .i64)) _ 4 [.slice (some ⟨p6,0,none⟩) 3 3,.slice (some ⟨p7,0,none⟩) 3 3,.slice (some ⟨p8,0,none⟩) 3 3,.slice (some ⟨p9,0,none⟩) 3 3] [[0,1,(-1)],[(-1),1,0],[10,0,(-1)],[9,0,0]]from⟨Y,⟨_,_,Y,⟨(some ⟨p6,0,none⟩),3,3,Y,s6⟩,⟨_,_,Y,⟨(some ⟨p7,0,none⟩),3,3,Y,s7⟩,⟨_,_,Y,⟨(some ⟨p8,0,none⟩),3,3,Y,s8⟩,⟨_,_,Y,⟨(some ⟨p9,0,none⟩),3,3,Y,s9⟩,(Y:RowR (Rp.sl (Rp.int .i64)) _ [] [])⟩⟩⟩⟩⟩)
               replace hl:=hl.trans hF
               refine a0y (hz.Ys (((x.trans g).trans s).trans hl) [0,1,2,3,4,5,6] Y Y) (a1m 11 Y (by kernel_rfl) ?_)
               obtain⟨v23,lc,gg⟩:=Yb gg
               refine a1r ent34 Y Y Y Y hz (c1i _ _ _ _ lc hz.sat (hg0.mono hz.le) (i6.mono ((((((hk.trans hd).trans i9).trans i1).trans ih).trans (((x.trans g).trans s).trans hl)))) s10) ?_
               rintro _ Fz _ wz hF hz ⟨rfl,rfl⟩
               replace hl:=hl.trans hF
               refine a0y (hz.Ys (((x.trans g).trans s).trans hl) [0,1,2,3,4,5,6] Y Y) (d_tk 12 Y (by kernel_rfl) Y Y Y Y (hz.Ys (((x.trans g).trans s).trans hl) [0,1,2,3,4,5,6] Y Y) (fun _ _ _ _ _=>a0n Y Y Y Y Yn) (c9k kj (by kernel_rfl) (fun a ha=> ?_)))
               cases gg
               exact⟨_,hl,hz.Yp [0,1,2,3,4,5,6] Y Y,ha.cut (l:= [5,7,9,93]) Y⟩
             ·refine c6z 85 rfl j4 ?_
              refine d_of 5 Y (by kernel_rfl) Y Y Y S0 (d_of 6 Y (by kernel_rfl) Y Y Y S0 (d_of 7 Y (by kernel_rfl) Y Y Y S0 (d_of 8 Y (by kernel_rfl) Y Y Y S0 (d_of 9 Y (by kernel_rfl) Y Y Y S0 (d_of 10 Y (by kernel_rfl) Y Y Y S0 (d_of 11 Y (by kernel_rfl) Y Y Y S0 ?_))))))
              refine d_tk 12 Y (by kernel_rfl) Y Y Y Y S0 (fun _ _ _ _ _=>a0j Y Y Y Y Yn) (c9k kj (by kernel_rfl) (fun a ha=> ?_))
              cases gg
              exact⟨_,Yf,iv.Yp [0,1,2,3,4,5,6] Y Y,ha.cut (l:= [5,7,9,93]) Y⟩
         ·clear hm
          rcases a0g ip with⟨j5,ip⟩|⟨j5,ip⟩
          ·refine a3o 75 rfl j5 ?_
           refine a1g Y (by decide) Y (a1g Y (by decide) Y (a1g Y (by decide) Y (a1g Y (by decide) Y (a0n Y Y Y Y (a0e (a0m (fun a ha=> ?_)))))))
           cases ip
           exact⟨Y,ha.cut (l:= [1,3,5,7,9,80]) Y⟩
          ·refine a3o 75 rfl j5 ?_
           refine a0i fa34_0 Y Y Y (a1y ag32 Y Y ir Y (i:=4) Y Y (a6y i0.len u32 Y Y Y (a0x Y Y Y Y Y (a0j Y Y Y Y (a0e (a0m (fun a ha=> ?_)))))))
           cases ip
           exact⟨Y,ha.cut (l:= [1,3,5,7,9,80]) Y⟩
        ·clear hm
         rcases a0g io with⟨j6,io⟩|⟨j6,io⟩
         ·refine a3o 72 rfl j6 ?_
          refine a1g Y (by decide) Y (a0n Y Y Y Y (a0e (a0m (fun a ha=> ?_))))
          cases io
          exact⟨Y,ha.cut (l:= [1,3,5,7,9,74]) Y⟩
         ·refine a3o 72 rfl j6 ?_
          refine a0b Y Y Y (a0j Y Y Y Y (a0e (a0m (fun a ha=> ?_))))
          cases io
          exact⟨Y,ha.cut (l:= [1,3,5,7,9,74]) Y⟩
       ·clear hm
        rcases a0g im with⟨j7,im⟩|⟨j7,im⟩
        ·refine a3o 68 rfl j7 ?_
         refine a1g Y (by decide) Y (a1g Y (by decide) Y (a0n Y Y Y Y (a0e (a0m (fun a ha=> ?_)))))
         cases im
         exact⟨Y,ha.cut (l:= [1,3,5,7,9,12,71]) Y⟩
        ·refine a3o 68 rfl j7 ?_
         refine a0b Y Y Y (c8c Y Y Y (a0j Y Y Y Y (a0e (a0m (fun a ha=> ?_)))))
         cases im
         exact⟨Y,ha.cut (l:= [1,3,5,7,9,12,71]) Y⟩
      ·clear hm
       rcases a0g il with⟨j8,il⟩|⟨j8,il⟩
       ·refine a3o 64 rfl j8 ?_
        refine a1g Y (by decide) Y (a1g Y (by decide) Y (a0n Y Y Y Y (a0e (a0m (fun a ha=> ?_)))))
        cases il
        exact⟨Y,ha.cut (l:= [1,3,5,7,9,10,12,67]) Y⟩
       ·refine a3o 64 rfl j8 ?_
        refine a0b Y Y Y (c8c Y Y Y (a0j Y Y Y Y (a0e (a0m (fun a ha=> ?_)))))
        cases il
        exact⟨Y,ha.cut (l:= [1,3,5,7,9,10,12,67]) Y⟩
     ·clear hm
      rcases a0g ik with⟨j9,ik⟩|⟨j9,ik⟩
      ·refine a3o 60 rfl j9 ?_
       refine a1g Y (by decide) Y (a1g Y (by decide) Y (a0n Y Y Y Y (a0e (a0m (fun a ha=> ?_)))))
       cases ik
       exact⟨Y,ha.cut (l:= [1,3,5,7,8,9,10,12,63]) Y⟩
      ·refine a3o 60 rfl j9 ?_
       refine a0b Y Y Y (a0x Y Y Y Y Y (a0j Y Y Y Y (a0e (a0m (fun a ha=> ?_)))))
       cases ik
       exact⟨Y,ha.cut (l:= [1,3,5,7,8,9,10,12,63]) Y⟩
    ·clear hm
     rcases a0g ij with⟨ja,ij⟩|⟨ja,ij⟩
     ·refine a3o 56 rfl ja ?_
      refine a1g Y (by decide) Y (a1g Y (by decide) Y (a0n Y Y Y Y (a0e (a0m (fun a ha=> ?_)))))
      cases ij
      exact⟨Y,ha.cut (l:= [1,3,5,7,8,9,10,12,14,59]) Y⟩
     ·refine a3o 56 rfl ja ?_
      refine a0b Y Y Y (a0x Y Y Y Y Y (a0j Y Y Y Y (a0e (a0m (fun a ha=> ?_)))))
      cases ij
      exact⟨Y,ha.cut (l:= [1,3,5,7,8,9,10,12,14,59]) Y⟩
   ·clear hm
    rcases a0g ii with⟨jb,ii⟩|⟨jb,ii⟩
    ·refine a3o 52 rfl jb ?_
     refine a1g Y (by decide) Y (a1g Y (by decide) Y (a0n Y Y Y Y (a0e (a0m (fun a ha=> ?_)))))
     cases ii
     exact⟨Y,ha.cut (l:= [1,3,5,6,7,8,9,10,12,14,55]) Y⟩
    ·refine a3o 52 rfl jb ?_
     refine a0b Y Y Y (a0x Y Y Y Y Y (a0j Y Y Y Y (a0e (a0m (fun a ha=> ?_)))))
     cases ii
     exact⟨Y,ha.cut (l:= [1,3,5,6,7,8,9,10,12,14,55]) Y⟩
  ·clear hm
   refine a8a (SH g8 [.box b4 44 [.int .i64 f1,.slice g9 ga gb,.int .i64 f3,.slice gc gd ge],.box b3 34 [.slice h5 h6 h7],.box b2 34 [.slice h2 h3 h4],.box b1 34 [.slice h0 h1 g7]]) 10 Y (by kernel_rfl) kp ?_
   intro ok jc
   refine d_tk 0 Y (by kernel_rfl) Y Y Y Y (jc.Ys Yf [0,1,2,3] Y Y) (fun _ _ _ _ hq=>a6v ag34 sz34 Y Y hq Y (i:=1) Y Y Yn) (b6s 1 7 Y Y (by kernel_rfl) ?_ ?_)
   ·refine a0k (e:=3) (cs:= [.int .i64 12,.int .i64 3]) (q:=1) rfl rfl jc rfl (fun _=>by kernel_rfl) rfl rfl ?_
    intro b16 ld h8
    refine a0y (h8.Ys Yf [1,2,3,4] Y Y) (b6s 2 7 Y Y (by kernel_rfl) ?_ ?_)
    ·obtain⟨jz,k,g5,hsx8⟩:=a1x h8 (i:=0) rfl ((show RowN (Rp.int .i64) g8 2 [.int .i64 12,.int .i64 3] [12,3]from⟨rfl,⟨_,_,rfl,rfl,⟨_,_,rfl,rfl,(rfl:RowR (Rp.int .i64) _ [] [])⟩⟩⟩))
     obtain⟨v24,hv,N⟩:=Yb N
     refine a1r ent25 Y Y Y Y g5 (a6q _ _ _ hv g5.sat (hg0.mono g5.le) hsx8) ?_
     rintro _ k0 _ k1 m V ⟨k2,k3,k4,xss16,rfl,rfl,h9⟩
     refine a0y (V.Ys (k.trans m) [1,2,3,4] Y Y) (b6s 3 7 Y Y (by kernel_rfl) ?_ ?_)
     ·obtain⟨jd,t,T,hsx9⟩:=a1x V (i:=0) rfl h9
      have hw:=((hd.trans k).trans m).trans t
      obtain⟨v25,gi,N⟩:=Yb N
      refine a1r ent13 Y Y Y Y T (a4m _ _ _ _ gi T.sat (hg0.mono T.le) (i0.mono hw) hsx9) ?_
      rintro _ je _ jf y K ⟨gj,gk,gl,gm,gn,go,rfl,rfl,gp,gq⟩
      have S2:=K.Ys (((k.trans m).trans t).trans y) [0,1,2,3] Y Y
      refine a0y S2 (d_tk 4 Y (by kernel_rfl) Y Y Y Y S2 (fun _ _ _ _ _=>a0b Y Y Y Yn) (d_tk 5 Y (by kernel_rfl) Y Y Y Y S2 (fun _ _ _ _ _=>a1h Y Y Y Y Yn) (d_tk 6 Y (by kernel_rfl) Y Y Y Y S2 (fun _ _ _ _ _=>a1h Y Y Y Y Yn) (a1m 7 Y (by kernel_rfl) (a3w ze44 Y Y Y K ?_)))))
      intro b17 jg Z
      refine a0y (Z.Ys (((k.trans m).trans t).trans y) [1,2,3,4] Y Y) (a1m 8 Y (by kernel_rfl) (a0w sz44 Y Z Y Y Y Y (i:=0) Y Y Y Y ?_))
      intro jh I
      refine a0y (I.Ys (((k.trans m).trans t).trans y) [1,2,3,4] Y Y) (d_tk 9 Y (by kernel_rfl) Y Y Y Y (I.Ys (((k.trans m).trans t).trans y) [1,2,3,4] Y Y) (fun _ _ _ _ _=>a0c Y Y Y Yn) (a8o (by kernel_rfl) (a0m (fun a ha=> ?_))))
      cases N
      exact⟨_,b17,gj,gk,gl,gm,gn,go,(((k.trans m).trans t).trans y),I.Yp [0,1,2,3,4] Y Y,gp,gq,ha.cut (l:= [1,2,3,4,5,6,7,8,9,10]) Y⟩
     ·refine a3w ze44 rfl rfl rfl V ?_
      intro b17 jf T
      refine a0y (T.Ys (k.trans m) [2,3,4,5] Y Y) (a1m 3 Y (by kernel_rfl) ?_)
      obtain⟨jd,t,K,hsx9⟩:=a1x T (i:=1) Y h9
      have hw:=((hd.trans k).trans m).trans t
      obtain⟨v25,gi,N⟩:=Yb N
      refine a1r ent13 Y Y Y Y K (a4m _ _ _ _ gi K.sat (hg0.mono K.le) (i0.mono hw) hsx9) ?_
      rintro _ je _ jg y Z ⟨gj,gk,gl,gm,gn,go,rfl,rfl,gp,gq⟩
      have S3:=Z.Ys (((k.trans m).trans t).trans y) [1,2,3,4] Y Y
      refine a0y S3 (d_tk 4 Y (by kernel_rfl) Y Y Y Y S3 (fun _ _ _ _ _=>a0b Y Y Y Yn) (d_tk 5 Y (by kernel_rfl) Y Y Y Y S3 (fun _ _ _ _ _=>a1h Y Y Y Y Yn) (d_tk 6 Y (by kernel_rfl) Y Y Y Y S3 (fun _ _ _ _ _=>a1h Y Y Y Y Yn) (a1m 8 Y (by kernel_rfl) (a0w sz44 Y Z Y Y Y Y (i:=0) Y Y Y Y ?_)))))
      intro jh I
      refine a0y (I.Ys (((k.trans m).trans t).trans y) [1,2,3,4] Y Y) (d_tk 9 Y (by kernel_rfl) Y Y Y Y (I.Ys (((k.trans m).trans t).trans y) [1,2,3,4] Y Y) (fun _ _ _ _ _=>a0c Y Y Y Yn) (a8o (by kernel_rfl) (a0m (fun a ha=> ?_))))
      cases N
      exact⟨_,b17,gj,gk,gl,gm,gn,go,(((k.trans m).trans t).trans y),I.Yp [0,1,2,3,4] Y Y,gp,gq,ha.cut (l:= [1,2,3,4,5,6,7,8,9,10]) Y⟩
    ·refine a3w ze44 rfl rfl rfl h8 ?_
     intro b17 k1 g5
     refine a0y (g5.Ys Yf [2,3,4,5] Y Y) (a1m 2 Y (by kernel_rfl) ?_)
     obtain⟨jz,k,V,hsx8⟩:=a1x g5 (i:=1) Y ((show RowN (Rp.int .i64) g8 2 [.int .i64 12,.int .i64 3] [12,3]from⟨Y,⟨_,_,Y,Y,⟨_,_,Y,Y,(Y:RowR (Rp.int .i64) _ [] [])⟩⟩⟩))
     obtain⟨v24,hv,N⟩:=Yb N
     refine a1r ent25 Y Y Y Y V (a6q _ _ _ hv V.sat (hg0.mono V.le) hsx8) ?_
     rintro _ k0 _ jf m T ⟨k2,k3,k4,xss16,rfl,rfl,h9⟩
     refine a0y (T.Ys (k.trans m) [2,3,4,5] Y Y) (a1m 3 Y (by kernel_rfl) ?_)
     obtain⟨jd,t,K,hsx9⟩:=a1x T (i:=0) Y h9
     have hw:=((hd.trans k).trans m).trans t
     obtain⟨v25,gi,N⟩:=Yb N
     refine a1r ent13 Y Y Y Y K (a4m _ _ _ _ gi K.sat (hg0.mono K.le) (i0.mono hw) hsx9) ?_
     rintro _ je _ jg y Z ⟨gj,gk,gl,gm,gn,go,rfl,rfl,gp,gq⟩
     have S4:=Z.Ys (((k.trans m).trans t).trans y) [1,2,3,4] Y Y
     refine a0y S4 (d_tk 4 Y (by kernel_rfl) Y Y Y Y S4 (fun _ _ _ _ _=>a0b Y Y Y Yn) (d_tk 5 Y (by kernel_rfl) Y Y Y Y S4 (fun _ _ _ _ _=>a1h Y Y Y Y Yn) (d_tk 6 Y (by kernel_rfl) Y Y Y Y S4 (fun _ _ _ _ _=>a1h Y Y Y Y Yn) (a1m 8 Y (by kernel_rfl) (a0w sz44 Y Z Y Y Y Y (i:=0) Y Y Y Y ?_)))))
     intro jh I
     refine a0y (I.Ys (((k.trans m).trans t).trans y) [1,2,3,4] Y Y) (d_tk 9 Y (by kernel_rfl) Y Y Y Y (I.Ys (((k.trans m).trans t).trans y) [1,2,3,4] Y Y) (fun _ _ _ _ _=>a0c Y Y Y Yn) (a8o (by kernel_rfl) (a0m (fun a ha=> ?_))))
     cases N
     exact⟨_,b17,gj,gk,gl,gm,gn,go,(((k.trans m).trans t).trans y),I.Yp [0,1,2,3,4] Y Y,gp,gq,ha.cut (l:= [1,2,3,4,5,6,7,8,9,10]) Y⟩
   ·refine a3w ze44 rfl rfl rfl jc ?_
    intro b16 ld h8
    refine a0y (h8.Ys Yf [1,2,3,4] Y Y) (a1m 1 Y (by kernel_rfl) (a0k (e:=3) (cs:= [.int .i64 12,.int .i64 3]) (q:=1) Y Y h8 Y (fun _=>by kernel_rfl) Y Y ?_))
    intro b17 k1 g5
    refine a0y (g5.Ys Yf [2,3,4,5] Y Y) (a1m 2 Y (by kernel_rfl) ?_)
    obtain⟨jz,k,V,hsx8⟩:=a1x g5 (i:=0) Y ((show RowN (Rp.int .i64) g8 2 [.int .i64 12,.int .i64 3] [12,3]from⟨Y,⟨_,_,Y,Y,⟨_,_,Y,Y,(Y:RowR (Rp.int .i64) _ [] [])⟩⟩⟩))
    obtain⟨v24,hv,N⟩:=Yb N
    refine a1r ent25 Y Y Y Y V (a6q _ _ _ hv V.sat (hg0.mono V.le) hsx8) ?_
    rintro _ k0 _ jf m T ⟨k2,k3,k4,xss16,rfl,rfl,h9⟩
    refine a0y (T.Ys (k.trans m) [2,3,4,5] Y Y) (a1m 3 Y (by kernel_rfl) ?_)
    obtain⟨jd,t,K,hsx9⟩:=a1x T (i:=0) Y h9
    have hw:=((hd.trans k).trans m).trans t
    obtain⟨v25,gi,N⟩:=Yb N
    refine a1r ent13 Y Y Y Y K (a4m _ _ _ _ gi K.sat (hg0.mono K.le) (i0.mono hw) hsx9) ?_
    rintro _ je _ jg y Z ⟨gj,gk,gl,gm,gn,go,rfl,rfl,gp,gq⟩
    have S5:=Z.Ys (((k.trans m).trans t).trans y) [1,2,3,4] Y Y
    refine a0y S5 (d_tk 4 Y (by kernel_rfl) Y Y Y Y S5 (fun _ _ _ _ _=>a0b Y Y Y Yn) (d_tk 5 Y (by kernel_rfl) Y Y Y Y S5 (fun _ _ _ _ _=>a1h Y Y Y Y Yn) (d_tk 6 Y (by kernel_rfl) Y Y Y Y S5 (fun _ _ _ _ _=>a1h Y Y Y Y Yn) (a1m 8 Y (by kernel_rfl) (a0w sz44 Y Z Y Y Y Y (i:=0) Y Y Y Y ?_)))))
    intro jh I
    refine a0y (I.Ys (((k.trans m).trans t).trans y) [1,2,3,4] Y Y) (d_tk 9 Y (by kernel_rfl) Y Y Y Y (I.Ys (((k.trans m).trans t).trans y) [1,2,3,4] Y Y) (fun _ _ _ _ _=>a0c Y Y Y Yn) (a8o (by kernel_rfl) (a0m (fun a ha=> ?_))))
    cases N
    exact⟨_,b16,gj,gk,gl,gm,gn,go,(((k.trans m).trans t).trans y),I.Yp [0,1,2,3,4] Y Y,gp,gq,ha.cut (l:= [1,2,3,4,5,6,7,8,9,10]) Y⟩
 ·clear hm
  refine a8a (SH i7 [.box b3 34 [.slice h5 h6 h7],.box b2 34 [.slice h2 h3 h4],.box b1 34 [.slice h0 h1 g7]]) 10 Y (by kernel_rfl) lq ?_
  intro ol ji
  refine d_tk 0 Y (by kernel_rfl) Y Y Y Y (ji.Ys Yf [0,1,2] Y Y) (fun _ _ _ _ hq=>a6v ag34 sz34 Y Y hq Y (i:=1) Y Y Yn) (b6s 1 7 Y Y (by kernel_rfl) ?_ ?_)
  ·refine a0k (e:=3) (cs:= [.int .i64 12,.int .i64 3]) (q:=1) rfl rfl ji rfl (fun _=>by kernel_rfl) rfl rfl ?_
   intro b18 lf hb
   refine a0y (hb.Ys Yf [1,2,3] Y Y) (b6s 2 7 Y Y (by kernel_rfl) ?_ ?_)
   ·obtain⟨k5,o,g6,hsx10⟩:=a1x hb (i:=0) rfl ((show RowN (Rp.int .i64) i7 2 [.int .i64 12,.int .i64 3] [12,3]from⟨rfl,⟨_,_,rfl,rfl,⟨_,_,rfl,rfl,(rfl:RowR (Rp.int .i64) _ [] [])⟩⟩⟩))
    obtain⟨v26,hx,M⟩:=Yb M
    refine a1r ent25 Y Y Y Y g6 (a6q _ _ _ hx g6.sat (hg0.mono g6.le) hsx10) ?_
    rintro _ k6 _ k7 p g0 ⟨k8,k9,ka,xss19,rfl,rfl,hc⟩
    refine a0y (g0.Ys (o.trans p) [1,2,3] Y Y) (b6s 3 7 Y Y (by kernel_rfl) ?_ ?_)
    ·obtain⟨jj,u,U,hsx11⟩:=a1x g0 (i:=0) rfl hc
     have hy:=((hk.trans o).trans p).trans u
     obtain⟨v27,gr,M⟩:=Yb M
     refine a1r ent13 Y Y Y Y U (a4m _ _ _ _ gr U.sat (hg0.mono U.le) (i6.mono hy) hsx11) ?_
     rintro _ jk _ jl z L ⟨gs,gt,gu,gv,gw,gx,rfl,rfl,gy,gz⟩
     have S6:=L.Ys (((o.trans p).trans u).trans z) [0,1,2] Y Y
     refine a0y S6 (d_tk 4 Y (by kernel_rfl) Y Y Y Y S6 (fun _ _ _ _ _=>a0b Y Y Y Yn) (d_tk 5 Y (by kernel_rfl) Y Y Y Y S6 (fun _ _ _ _ _=>a1h Y Y Y Y Yn) (d_tk 6 Y (by kernel_rfl) Y Y Y Y S6 (fun _ _ _ _ _=>a1h Y Y Y Y Yn) (a1m 7 Y (by kernel_rfl) (a3w ze44 Y Y Y L ?_)))))
     intro b19 jm g1
     refine a0y (g1.Ys (((o.trans p).trans u).trans z) [1,2,3] Y Y) (a1m 8 Y (by kernel_rfl) (a0w sz44 Y g1 Y Y Y Y (i:=0) Y Y Y Y ?_))
     intro jn J
     refine a0y (J.Ys (((o.trans p).trans u).trans z) [1,2,3] Y Y) (d_tk 9 Y (by kernel_rfl) Y Y Y Y (J.Ys (((o.trans p).trans u).trans z) [1,2,3] Y Y) (fun _ _ _ _ _=>a0c Y Y Y Yn) (a8o (by kernel_rfl) (a0m (fun a ha=> ?_))))
     cases M
     exact⟨_,b19,gs,gt,gu,gv,gw,gx,(((o.trans p).trans u).trans z),J.Yp [0,1,2,3] Y Y,gy,gz,ha.cut (l:= [1,2,3,4,5,6,7,8]) Y⟩
    ·refine a3w ze44 rfl rfl rfl g0 ?_
     intro b19 jl U
     refine a0y (U.Ys (o.trans p) [2,3,4] Y Y) (a1m 3 Y (by kernel_rfl) ?_)
     obtain⟨jj,u,L,hsx11⟩:=a1x U (i:=1) Y hc
     have hy:=((hk.trans o).trans p).trans u
     obtain⟨v27,gr,M⟩:=Yb M
     refine a1r ent13 Y Y Y Y L (a4m _ _ _ _ gr L.sat (hg0.mono L.le) (i6.mono hy) hsx11) ?_
     rintro _ jk _ jm z g1 ⟨gs,gt,gu,gv,gw,gx,rfl,rfl,gy,gz⟩
     have S7:=g1.Ys (((o.trans p).trans u).trans z) [1,2,3] Y Y
     refine a0y S7 (d_tk 4 Y (by kernel_rfl) Y Y Y Y S7 (fun _ _ _ _ _=>a0b Y Y Y Yn) (d_tk 5 Y (by kernel_rfl) Y Y Y Y S7 (fun _ _ _ _ _=>a1h Y Y Y Y Yn) (d_tk 6 Y (by kernel_rfl) Y Y Y Y S7 (fun _ _ _ _ _=>a1h Y Y Y Y Yn) (a1m 8 Y (by kernel_rfl) (a0w sz44 Y g1 Y Y Y Y (i:=0) Y Y Y Y ?_)))))
     intro jn J
     refine a0y (J.Ys (((o.trans p).trans u).trans z) [1,2,3] Y Y) (d_tk 9 Y (by kernel_rfl) Y Y Y Y (J.Ys (((o.trans p).trans u).trans z) [1,2,3] Y Y) (fun _ _ _ _ _=>a0c Y Y Y Yn) (a8o (by kernel_rfl) (a0m (fun a ha=> ?_))))
     cases M
     exact⟨_,b19,gs,gt,gu,gv,gw,gx,(((o.trans p).trans u).trans z),J.Yp [0,1,2,3] Y Y,gy,gz,ha.cut (l:= [1,2,3,4,5,6,7,8]) Y⟩
   ·refine a3w ze44 rfl rfl rfl hb ?_
    intro b19 k7 g6
    refine a0y (g6.Ys Yf [2,3,4] Y Y) (a1m 2 Y (by kernel_rfl) ?_)
    obtain⟨k5,o,g0,hsx10⟩:=a1x g6 (i:=1) Y ((show RowN (Rp.int .i64) i7 2 [.int .i64 12,.int .i64 3] [12,3]from⟨Y,⟨_,_,Y,Y,⟨_,_,Y,Y,(Y:RowR (Rp.int .i64) _ [] [])⟩⟩⟩))
    obtain⟨v26,hx,M⟩:=Yb M
    refine a1r ent25 Y Y Y Y g0 (a6q _ _ _ hx g0.sat (hg0.mono g0.le) hsx10) ?_
    rintro _ k6 _ jl p U ⟨k8,k9,ka,xss19,rfl,rfl,hc⟩
    refine a0y (U.Ys (o.trans p) [2,3,4] Y Y) (a1m 3 Y (by kernel_rfl) ?_)
    obtain⟨jj,u,L,hsx11⟩:=a1x U (i:=0) Y hc
    have hy:=((hk.trans o).trans p).trans u
    obtain⟨v27,gr,M⟩:=Yb M
    refine a1r ent13 Y Y Y Y L (a4m _ _ _ _ gr L.sat (hg0.mono L.le) (i6.mono hy) hsx11) ?_
    rintro _ jk _ jm z g1 ⟨gs,gt,gu,gv,gw,gx,rfl,rfl,gy,gz⟩
    have S8:=g1.Ys (((o.trans p).trans u).trans z) [1,2,3] Y Y
    refine a0y S8 (d_tk 4 Y (by kernel_rfl) Y Y Y Y S8 (fun _ _ _ _ _=>a0b Y Y Y Yn) (d_tk 5 Y (by kernel_rfl) Y Y Y Y S8 (fun _ _ _ _ _=>a1h Y Y Y Y Yn) (d_tk 6 Y (by kernel_rfl) Y Y Y Y S8 (fun _ _ _ _ _=>a1h Y Y Y Y Yn) (a1m 8 Y (by kernel_rfl) (a0w sz44 Y g1 Y Y Y Y (i:=0) Y Y Y Y ?_)))))
    intro jn J
    refine a0y (J.Ys (((o.trans p).trans u).trans z) [1,2,3] Y Y) (d_tk 9 Y (by kernel_rfl) Y Y Y Y (J.Ys (((o.trans p).trans u).trans z) [1,2,3] Y Y) (fun _ _ _ _ _=>a0c Y Y Y Yn) (a8o (by kernel_rfl) (a0m (fun a ha=> ?_))))
    cases M
    exact⟨_,b19,gs,gt,gu,gv,gw,gx,(((o.trans p).trans u).trans z),J.Yp [0,1,2,3] Y Y,gy,gz,ha.cut (l:= [1,2,3,4,5,6,7,8]) Y⟩
  ·refine a3w ze44 rfl rfl rfl ji ?_
   intro b18 lf hb
   refine a0y (hb.Ys Yf [1,2,3] Y Y) (a1m 1 Y (by kernel_rfl) (a0k (e:=3) (cs:= [.int .i64 12,.int .i64 3]) (q:=1) Y Y hb Y (fun _=>by kernel_rfl) Y Y ?_))
   intro b19 k7 g6
   refine a0y (g6.Ys Yf [2,3,4] Y Y) (a1m 2 Y (by kernel_rfl) ?_)
   obtain⟨k5,o,g0,hsx10⟩:=a1x g6 (i:=0) Y ((show RowN (Rp.int .i64) i7 2 [.int .i64 12,.int .i64 3] [12,3]from⟨Y,⟨_,_,Y,Y,⟨_,_,Y,Y,(Y:RowR (Rp.int .i64) _ [] [])⟩⟩⟩))
   obtain⟨v26,hx,M⟩:=Yb M
   refine a1r ent25 Y Y Y Y g0 (a6q _ _ _ hx g0.sat (hg0.mono g0.le) hsx10) ?_
   rintro _ k6 _ jl p U ⟨k8,k9,ka,xss19,rfl,rfl,hc⟩
   refine a0y (U.Ys (o.trans p) [2,3,4] Y Y) (a1m 3 Y (by kernel_rfl) ?_)
   obtain⟨jj,u,L,hsx11⟩:=a1x U (i:=0) Y hc
   have hy:=((hk.trans o).trans p).trans u
   obtain⟨v27,gr,M⟩:=Yb M
   refine a1r ent13 Y Y Y Y L (a4m _ _ _ _ gr L.sat (hg0.mono L.le) (i6.mono hy) hsx11) ?_
   rintro _ jk _ jm z g1 ⟨gs,gt,gu,gv,gw,gx,rfl,rfl,gy,gz⟩
   have S9:=g1.Ys (((o.trans p).trans u).trans z) [1,2,3] Y Y
   refine a0y S9 (d_tk 4 Y (by kernel_rfl) Y Y Y Y S9 (fun _ _ _ _ _=>a0b Y Y Y Yn) (d_tk 5 Y (by kernel_rfl) Y Y Y Y S9 (fun _ _ _ _ _=>a1h Y Y Y Y Yn) (d_tk 6 Y (by kernel_rfl) Y Y Y Y S9 (fun _ _ _ _ _=>a1h Y Y Y Y Yn) (a1m 8 Y (by kernel_rfl) (a0w sz44 Y g1 Y Y Y Y (i:=0) Y Y Y Y ?_)))))
   intro jn J
   refine a0y (J.Ys (((o.trans p).trans u).trans z) [1,2,3] Y Y) (d_tk 9 Y (by kernel_rfl) Y Y Y Y (J.Ys (((o.trans p).trans u).trans z) [1,2,3] Y Y) (fun _ _ _ _ _=>a0c Y Y Y Yn) (a8o (by kernel_rfl) (a0m (fun a ha=> ?_))))
   cases M
   exact⟨_,b18,gs,gt,gu,gv,gw,gx,(((o.trans p).trans u).trans z),J.Yp [0,1,2,3] Y Y,gy,gz,ha.cut (l:= [1,2,3,4,5,6,7,8]) Y⟩
theorem c8x(n:Nat):FnC Wt 8 [] (b3c n) (fun r=> .ob r):=⟨fun _ _=>by kernel_rfl,fun r hm w F hs hg us hu=>by
 obtain rfl:=hu
 exact(c5a n r hm hs (hg)).mono fun e w'⟨v,F',O',e1,e2,e3⟩=>by
  obtain⟨rfl,rfl⟩:=e3
  exact⟨_,F',e1,e2,rfl⟩⟩
end Go.Proofs.YthaegflpecbfgaaGreatDoor.M
namespace Go.Proofs.YthaegflpecbfgaaGreatDoor.M
open Go Go.RowKit Rt
set_option linter.unusedVariables false
def law37_curved_L1(n:Nat)(rec_law37_curved:Expr->(List Bs)->Option Bool)(x1:Expr)(names1:(List Bs))(kont1:Option Bool):Nat->Int->Option Bool
 |0,_=>none
 |mx1+1,i1=>
  bif decide (i1<(x1.Args.length:Int))then
   (ix x1.Args i1).bind fun ex1=>
   (b3a n ex1 names1).bind fun v1=>
   (bif x1.Op==9 then
    some true
   else
    some (x1.Op==10)).bind fun v2=>
   (bif v2 then
    some (v1.1==2)
   else
    some false).bind fun v3=>
   (bif v3 then
    some true
   else
    (ix x1.Args i1).bind fun ex2=>
    (rec_law37_curved ex2 names1).bind fun v5=>
    some v5).bind fun v4=>
   bif v4 then
    some true
   else
    law37_curved_L1 n rec_law37_curved x1 names1 kont1 mx1 (iadd .i64 i1 1)
  else
   kont1
theorem law37_curved_L1_s:type_of% @law37_curved_L1.eq_2:= @law37_curved_L1.eq_2
def law37_curved:Nat->Expr->(List Bs)->Option Bool
 |0,_,_=>none
 |n+1,x1,names1=>
  law37_curved_L1 n (law37_curved n) x1 names1 (
   some false) n 0
theorem b7d(n:Nat)(x1:Expr)(names1:(List Bs)):law37_curved (n+1) x1 names1=
 law37_curved_L1 n (law37_curved n) x1 names1 (
  some false) n 0:=rfl
def law37_FormStraight_L1(n:Nat)(t1:Tariff)(names1:(List Bs))(f1:Facts)(v3:(Form×Int))(v8:(List Frac))(v9:(Frac×Int))(kont1:Option Bool):Nat->Int->Option Bool
 |0,_=>none
 |mx1+1,i1=>
  bif decide (i1<(names1.length:Int))then
   (app 64 [] v8).bind fun l2=>
   (a6a n 1).bind fun v11=>
   (ix l2 i1).bind fun _=>
   (lset l2 i1 v11).bind fun l3=>
   (a4l n t1 names1 f1 l3).bind fun v12=>
   (b3d n v12.1 v9.1).bind fun v13=>
   (bif v12.2 !=0 then
    some true
   else
    (ix v3.1.Pieces 0).bind fun ex3=>
    (ix ex3 0).bind fun ex4=>
    (ix ex4.Coefs i1).bind fun ex5=>
    (a6b n v13.1 ex5).bind fun v15=>
    some (!v15)).bind fun v14=>
   bif v14 then
    some false
   else
    law37_FormStraight_L1 n t1 names1 f1 v3 v8 v9 kont1 mx1 (iadd .i64 i1 1)
  else
   kont1
theorem law37_FormStraight_L1_s:type_of% @law37_FormStraight_L1.eq_2:= @law37_FormStraight_L1.eq_2
def a5k(n:Nat)(t1:Tariff)(names1:(List Bs))(f1:Facts):Option Bool:=
 (b3c n).bind fun v1=>
 (b5h n t1 names1 f1 []).bind fun v2=>
 bif !v2 then
  some v1
 else
  (a6p n t1 names1 f1).bind fun v3=>
  (bif v3.2 !=0 then
   some (v3.2 !=6)
  else
   some false).bind fun v4=>
  (bif v4 then
   some true
  else
   (law37_curved n t1.Fee names1).bind fun v17=>
   some v17).bind fun v5=>
  bif v5 then
   some v1
  else
   (bif v3.2 !=0 then
    some true
   else
    some ((v3.1.Pieces.length:Int) !=1)).bind fun v6=>
   bif v6 then
    some false
   else
    (ix v3.1.Pieces 0).bind fun ex1=>
    (bif(ex1.length:Int) !=1 then
     some true
    else
     (ix v3.1.Pieces 0).bind fun ex8=>
     (ix ex8 0).bind fun ex9=>
     some ((ex9.Coefs.length:Int) !=(names1.length:Int))).bind fun v7=>
    bif v7 then
     some false
    else
     (mks 8 0 (names1.length:Int)).bind fun l1=>
     (a8q n l1).bind fun v8=>
     (a4l n t1 names1 f1 v8).bind fun v9=>
     (bif v9.2 !=0 then
      some true
     else
      (ix v3.1.Pieces 0).bind fun ex6=>
      (ix ex6 0).bind fun ex7=>
      (a6b n v9.1 ex7.Const).bind fun v16=>
      some (!v16)).bind fun v10=>
     bif v10 then
      some false
     else
      law37_FormStraight_L1 n t1 names1 f1 v3 v8 v9 (
       some v1) n 0
end Go.Proofs.YthaegflpecbfgaaGreatDoor.M
namespace Go.Proofs.YthaegflpecbfgaaGreatDoor.M
open Go Go.RowKit Rt
set_option maxRecDepth 1000000
set_option maxHeartbeats 40000000
theorem c4u(n:Nat):∀(x1:Expr)(names1:(List Bs)),FnC Wt 24 [.agg [.int .i64 x1.Op,.int .i64 x1.N,.str x1.Name,.sl 0 x1.Args],.sl 1 names1] (law37_curved n x1 names1) (fun r=> .ob r):=by
 induction n with
 |zero=>exact fun _ _=>b4a (fun _ _=>by kernel_rfl)
 |succ n ih=>
  intro x1 names1
  refine a0z (n:=46) Tryz.func24 rfl rfl rfl (fun _ _=>by kernel_rfl) fun F0 w0 r=> ?_
  rw [b7d]
  refine a2r ((fun k0 m(s:Int)=>law37_curved_L1 n (law37_curved n) x1 names1 k0 m s) _) (fun(s:Int)=> [.v 5 (.int .i64 s)]) (fun _=>rfl) _ rfl rfl (fun _=>rfl) rfl fun K1 m1 hK1 i1=> ?_
  refine gC rfl (fun _=> ?_) (fun _=> ?_)
  ·
   refine gV rfl fun ex1=> ?_
   refine gK (c8e _ _ _) rfl rfl rfl fun v1=> ?_
   refine gJ 4 (fun v2=> [.v 32 (.ob v2)]) rfl (fun _=>rfl) (fun J2 hJ2=> ?_) (fun v2=> ?_)
   ·
    refine gD rfl (fun _=> ?_) (fun _=> ?_)
    ·
     exact gX hJ2 rfl (by kernel_rfl)
    ·
     exact gX hJ2 rfl (by kernel_rfl)
   refine gJ 3 (fun v3=> [.v 36 (.ob v3)]) rfl (fun _=>rfl) (fun J3 hJ3=> ?_) (fun v3=> ?_)
   ·
    refine gD rfl (fun _=> ?_) (fun _=> ?_)
    ·
     exact gX hJ3 rfl (by kernel_rfl)
    ·
     exact gX hJ3 rfl (by kernel_rfl)
   refine gJ 8 (fun v4=> [.v 45 (.ob v4)]) rfl (fun _=>rfl) (fun J4 hJ4=> ?_) (fun v4=> ?_)
   ·
    refine gD rfl (fun _=> ?_) (fun _=> ?_)
    ·
     exact gX hJ4 rfl (by kernel_rfl)
    ·
     refine gA ?_
     refine gV rfl fun ex2=> ?_
     refine gA ?_
     refine gK (ih _ _) rfl rfl rfl fun v5=> ?_
     exact gX hJ4 rfl (by kernel_rfl)
   refine gC rfl (fun _=> ?_) (fun _=> ?_)
   ·
    exact gR rfl rfl rfl
   ·
    exact gE hK1 _ rfl (by kernel_rfl)
  ·
   exact gR rfl rfl rfl
theorem b6t(n:Nat)(t1:Tariff)(names1:(List Bs))(f1:Facts):FnC Wt 6 [.agg [.str t1.Name,.int .i64 t1.Fee.Op,.int .i64 t1.Fee.N,.str t1.Fee.Name,.sl 0 t1.Fee.Args,.int .i64 t1.Cap],.sl 1 names1,.agg [.sl 2 f1.Lifts,.int .i64 f1.Persons,.int .i64 f1.Flats]] (a5k n t1 names1 f1) (fun r=> .ob r):=by
 refine a0z (n:=144) Tryz.func6 rfl rfl rfl (fun _ _=>by kernel_rfl) fun F0 w0 r=> ?_
 unfold a5k
 refine gK (c8x _) rfl rfl rfl fun v1=> ?_
 refine gK (d0z _ _ _ _ _) rfl rfl rfl fun v2=> ?_
 refine gC rfl (fun _=> ?_) (fun _=> ?_)
 ·
  exact gR rfl rfl rfl
 ·
  refine gK (c4q _ _ _ _) rfl rfl rfl fun v3=> ?_
  refine gJ 3 (fun v4=> [.v 38 (.ob v4)]) rfl (fun _=>rfl) (fun J1 hJ1=> ?_) (fun v4=> ?_)
  ·
   refine gD rfl (fun _=> ?_) (fun _=> ?_)
   ·
    exact gX hJ1 rfl (by kernel_rfl)
   ·
    exact gX hJ1 rfl (by kernel_rfl)
  refine gJ 5 (fun v5=> [.v 44 (.ob v5)]) rfl (fun _=>rfl) (fun J2 hJ2=> ?_) (fun v5=> ?_)
  ·
   refine gD rfl (fun _=> ?_) (fun _=> ?_)
   ·
    exact gX hJ2 rfl (by kernel_rfl)
   ·
    refine gA ?_
    refine gK (c4u _ _ _) rfl rfl rfl fun v17=> ?_
    exact gX hJ2 rfl (by kernel_rfl)
  refine gC rfl (fun _=> ?_) (fun _=> ?_)
  ·
   exact gR rfl rfl rfl
  ·
   refine gJ 5 (fun v6=> [.v 53 (.ob v6)]) rfl (fun _=>rfl) (fun J3 hJ3=> ?_) (fun v6=> ?_)
   ·
    refine gD rfl (fun _=> ?_) (fun _=> ?_)
    ·
     exact gX hJ3 rfl (by kernel_rfl)
    ·
     exact gX hJ3 rfl (by kernel_rfl)
   refine gC rfl (fun _=> ?_) (fun _=> ?_)
   ·
    exact gR rfl rfl rfl
   ·
    refine gV rfl fun ex1=> ?_
    refine gJ 12 (fun v7=> [.v 72 (.ob v7)]) rfl (fun _=>rfl) (fun J4 hJ4=> ?_) (fun v7=> ?_)
    ·
     refine gD rfl (fun _=> ?_) (fun _=> ?_)
     ·
      exact gX hJ4 rfl (by kernel_rfl)
     ·
      refine gA ?_
      refine gV rfl fun ex8=> ?_
      refine gA ?_
      refine gV rfl fun ex9=> ?_
      exact gX hJ4 rfl (by kernel_rfl)
    refine gC rfl (fun _=> ?_) (fun _=> ?_)
    ·
     exact gR rfl rfl rfl
    ·
     refine gMk wzOk rfl fun l1=> ?_
     refine gO (c0x _ _) rfl rfl rfl fun v8=> ?_
     refine gK (b3k _ _ _ _ _) rfl rfl rfl fun v9=> ?_
     refine gG rfl (by kernel_rfl) ?_
     refine gD rfl (fun _=> ?_) (fun _=> ?_)
     ·
      refine gB ?_
      refine gT ?_
      exact gR rfl rfl rfl
     ·
      refine gA ?_
      refine gV rfl fun ex6=> ?_
      refine gA ?_
      refine gV rfl fun ex7=> ?_
      refine gA ?_
      refine gQ (b2l _ _ _) rfl rfl rfl (fun _=>rfl) fun v16=> ?_
      refine gB ?_
      refine gC rfl (fun _=> ?_) (fun _=> ?_)
      ·
       exact gR rfl rfl rfl
      ·
       refine a2r ((fun k0 m(s:Int)=>law37_FormStraight_L1 n t1 names1 f1 v3 v8 v9 k0 m s) _) (fun(s:Int)=> [.v 13 (.int .i64 s)]) (fun _=>rfl) _ rfl rfl (fun _=>rfl) rfl fun K5 m5 hK5 i1=> ?_
       refine gC rfl (fun _=> ?_) (fun _=> ?_)
       ·
        refine gP rfl fun l2=> ?_
        refine gK (b3q _ _) rfl rfl rfl fun v11=> ?_
        refine gV rfl fun _=> ?_
        refine gW rfl rfl fun l3=> ?_
        refine gK (b3k _ _ _ _ _) rfl rfl rfl fun v12=> ?_
        refine gK (d1g _ _ _) rfl rfl rfl fun v13=> ?_
        refine gG rfl (by kernel_rfl) ?_
        refine gD rfl (fun _=> ?_) (fun _=> ?_)
        ·
         refine gB ?_
         refine gT ?_
         exact gR rfl rfl rfl
        ·
         refine gA ?_
         refine gV rfl fun ex3=> ?_
         refine gA ?_
         refine gV rfl fun ex4=> ?_
         refine gA ?_
         refine gV rfl fun ex5=> ?_
         refine gA ?_
         refine gQ (b2l _ _ _) rfl rfl rfl (fun _=>rfl) fun v15=> ?_
         refine gB ?_
         refine gC rfl (fun _=> ?_) (fun _=> ?_)
         ·
          exact gR rfl rfl rfl
         ·
          exact gE hK5 _ rfl (by kernel_rfl)
       ·
        exact gR rfl rfl rfl
theorem law37_FormStraight_ok'(n:Nat)(t1:Tariff)(names1:(List Bs))(f1:Facts)(r:Bool)(hm:a5k n t1 names1 f1=some r){w:World}{F:Frz}(hs:Sat F w){as1:Option Addr}{ns1:Nat}{cs1:Nat}{as2:Option Addr}{ns2:Nat}{cs2:Nat}{as3:Option Addr}{ns3:Nat}{cs3:Nat}(hs1:SlR rp_Expr F as1 ns1 cs1 t1.Fee.Args)(hs2:SlR Rp.str F as2 ns2 cs2 names1)(hs3:SlR (Rp.int .i64) F as3 ns3 cs3 f1.Lifts)(hg0:FX F 0 [.int .u8 40,.int .u8 41,.int .u8 44,.int .u8 59,.int .u8 58,.int .u8 61,.int .u8 60,.int .u8 43,.int .u8 45,.int .u8 42,.int .u8 47,.int .u8 123,.int .u8 125]):
 Calls Tryz.prog 6 #[.agg #[vs t1.Name,.int .i64 t1.Fee.Op,.int .i64 t1.Fee.N,vs t1.Fee.Name,.slice as1 ns1 cs1,.int .i64 t1.Cap],.slice as2 ns2 cs2,.agg #[.slice as3 ns3 cs3,.int .i64 f1.Persons,.int .i64 f1.Flats]] w fun e w'=>∃v F' O',e= .returned v/\HS F w [] F' O' w'/\(v= .bool r/\O'= []):=
 (b6t n t1 names1 f1).2 r hm w F hs hg0 _ ⟨_,_,rfl,⟨_,rfl,⟨_,_,rfl,rfl,⟨_,_,rfl,rfl,⟨_,_,rfl,rfl,⟨_,_,rfl,rfl,⟨_,_,rfl,⟨_,_,_,rfl,hs1⟩,⟨_,_,rfl,rfl,rfl⟩⟩⟩⟩⟩⟩⟩,⟨_,_,rfl,⟨_,_,_,rfl,hs2⟩,⟨_,_,rfl,⟨_,rfl,⟨_,_,rfl,⟨_,_,_,rfl,hs3⟩,⟨_,_,rfl,rfl,⟨_,_,rfl,rfl,rfl⟩⟩⟩⟩,rfl⟩⟩⟩|>.mono fun e w'⟨v,F',e1,e2,e3⟩=>⟨v,F',[],e1,e2,e3,rfl⟩
end Go.Proofs.YthaegflpecbfgaaGreatDoor.M
namespace Go.Proofs.YthaegflpecbfgaaGreatDoor.Fm
open Go
abbrev RA:=Rat×List Rat
abbrev RFm:=List (List RA)
def dot:List Rat->List Rat->Rat
 |c::cs,w::ws=>c*w+dot cs ws
 |_,_=>0
def evA(w:List Rat)(a:RA):Rat:=a.1+dot a.2 w
def IsV(f:RFm)(w:List Rat)(v:Rat):Prop:=(∀p,p∈f->∃a,a∈p/\v<=evA w a)/\∃p,p∈f/\∀a,a∈p->evA w a<=v
theorem IsV.uniq{f:RFm}{w:List Rat}{u v:Rat}(h:IsV f w u)(k:IsV f w v):u=v:=by
 have go:∀{u v:Rat},IsV f w u->IsV f w v->u<=v:=by
  intro u v ⟨h1,_⟩ ⟨_,p,hp,h2⟩
  obtain⟨a,ha,h3⟩:=h1 p hp
  exact Rat.le_trans h3 (h2 a ha)
 exact Rat.le_antisymm (go h k) (go k h)
def cst(n:Nat)(c:Rat):RFm:= [[(c,List.replicate n 0)]]
def wgt(n k:Nat):RFm:= [[(0,(List.replicate n 0).set k 1)]]
def mulA(c:Rat)(a:RA):RA:=(a.1*c,a.2.map (·*c))
def addA(a b:RA):RA:=(a.1+b.1,List.zipWith (·+·) a.2 b.2)
def scl(c:Rat)(f:RFm):RFm:=f.map (·.map (mulA c))
def sz:RFm->Nat
 | []=>0
 |p::f=>p.length+sz f
def step(cs:RFm)(l:List RA):RFm:=cs.flatMap fun ch=>l.map fun a=>ch++ [mulA (-1) a]
def opp(f:RFm):RFm:=f.foldl step [[]]
def join(op:List RA->List RA->List RA)(f g:RFm):RFm:=f.flatMap fun x=>g.map fun y=>op x y
def sums(x y:List RA):List RA:=x.flatMap fun a=>y.map fun b=>addA a b
theorem dot_zero:∀(n:Nat)(w:List Rat),dot (List.replicate n 0) w=0
 |0,_=>rfl
 |n+1,[]=>rfl
 |n+1,x::w=>by
  show 0*x+dot (List.replicate n 0) w=0
  rw [dot_zero n w,Rat.zero_mul,Rat.add_zero]
theorem dot_unit:∀(n k:Nat)(w:List Rat)(x:Rat),w.length=n->w[k]?=some x->dot ((List.replicate n 0).set k 1) w=x
 |0,k,[],x,_,h=>by simp at h
 |n+1,0,y::w,x,_,h=>by
  simp only [List.getElem?_cons_zero,Option.some.injEq]at h
  subst h
  show 1*y+dot (List.replicate n 0) w=y
  rw [dot_zero,Rat.one_mul,Rat.add_zero]
 |n+1,k+1,y::w,x,hl,h=>by
  show 0*y+dot ((List.replicate n 0).set k 1) w=x
  rw [dot_unit n k w x (by simpa using hl) (by simpa using h),Rat.zero_mul,Rat.zero_add]
 |0,_,_::_,_,h,_=>by simp at h
 |_+1,_,[],_,h,_=>by simp at h
theorem d7o(c:Rat):∀(a w:List Rat),dot (a.map (·*c)) w=dot a w*c
 | [],_=>by simp [dot,Rat.zero_mul]
 |_::_,[]=>by simp [dot,Rat.zero_mul]
 |x::a,y::w=>by
  show x*c*y+dot (a.map (·*c)) w=(x*y+dot a w)*c
  rw [d7o c a w];grind
theorem dot_add:∀(a b w:List Rat),a.length=b.length->dot (List.zipWith (·+·) a b) w=dot a w+dot b w
 | [],[],_,_=>by simp [dot,Rat.zero_add]
 |x::a,y::b,[],_=>by simp [dot,Rat.zero_add]
 |x::a,y::b,z::w,h=>by
  show(x+y)*z+dot (List.zipWith (·+·) a b) w=(x*z+dot a w)+(y*z+dot b w)
  rw [dot_add a b w (by simpa using h)];grind
 | [],_::_,_,h=>by simp at h
 |_::_,[],_,h=>by simp at h
theorem d3d(w:List Rat)(c:Rat)(a:RA):evA w (mulA c a)=evA w a*c:=by
 unfold evA mulA
 dsimp only
 rw [d7o];grind
theorem e3u(w:List Rat){a b:RA}(h:a.2.length=b.2.length):evA w (addA a b)=evA w a+evA w b:=by
 unfold evA addA
 dsimp only
 rw [dot_add _ _ _ h];grind
theorem e4y(n:Nat)(c:Rat)(w:List Rat):IsV (cst n c) w c:=by
 have h:evA w (c,List.replicate n 0)=c:=by unfold evA;dsimp only;rw [dot_zero,Rat.add_zero]
 refine⟨fun p hp=> ?_,_,List.mem_singleton.2 rfl,fun a ha=> ?_⟩
 ·obtain rfl:=List.mem_singleton.1 hp
  exact⟨_,List.mem_singleton.2 rfl,by rw [h];exact Rat.le_refl⟩
 ·obtain rfl:=List.mem_singleton.1 ha
  rw [h];exact Rat.le_refl
theorem e7t{n k:Nat}{w:List Rat}{x:Rat}(hl:w.length=n)(hx:w[k]?=some x):IsV (wgt n k) w x:=by
 have h:evA w (0,(List.replicate n 0).set k 1)=x:=by unfold evA;dsimp only;rw [dot_unit n k w x hl hx,Rat.zero_add]
 refine⟨fun p hp=> ?_,_,List.mem_singleton.2 rfl,fun a ha=> ?_⟩
 ·obtain rfl:=List.mem_singleton.1 hp
  exact⟨_,List.mem_singleton.2 rfl,by rw [h];exact Rat.le_refl⟩
 ·obtain rfl:=List.mem_singleton.1 ha
  rw [h];exact Rat.le_refl
section
variable{f g:RFm}{w:List Rat}{u v:Rat}
theorem e5x(h:IsV f w u)(k:IsV g w v):IsV (f++g) w (if v<u then v else u):=by
 obtain⟨h1,p,hp,h2⟩:=h
 obtain⟨k1,q,hq,k2⟩:=k
 split
 ·rename_i hlt
  refine⟨fun r hr=> ?_,q,List.mem_append_right _ hq,k2⟩
  rcases List.mem_append.1 hr with hr|hr
  ·obtain⟨a,ha,h3⟩:=h1 r hr
   exact⟨a,ha,Rat.le_trans (Rat.le_of_lt hlt) h3⟩
  ·exact k1 r hr
 ·rename_i hlt
  refine⟨fun r hr=> ?_,p,List.mem_append_left _ hp,h2⟩
  rcases List.mem_append.1 hr with hr|hr
  ·exact h1 r hr
  ·obtain⟨a,ha,h3⟩:=k1 r hr
   exact⟨a,ha,Rat.le_trans (Rat.not_lt.1 hlt) h3⟩
theorem b2d{op:List RA->List RA->List RA}{r:List RA}:r∈join op f g↔∃x y,x∈f/\y∈g/\r=op x y:=by
 unfold join
 simp only [List.mem_flatMap,List.mem_map]
 constructor
 ·rintro⟨x,hx,y,hy,rfl⟩;exact⟨x,y,hx,hy,rfl⟩
 ·rintro⟨x,y,hx,hy,rfl⟩;exact⟨x,hx,y,hy,rfl⟩
theorem e4p(h:IsV f w u)(k:IsV g w v):IsV (join (·++·) f g) w (if u<v then v else u):=by
 obtain⟨h1,p,hp,h2⟩:=h
 obtain⟨k1,q,hq,k2⟩:=k
 constructor
 ·intro r hr
  obtain⟨x,y,hx,hy,rfl⟩:=b2d.1 hr
  split
  ·obtain⟨a,ha,h3⟩:=k1 y hy
   exact⟨a,List.mem_append_right _ ha,h3⟩
  ·obtain⟨a,ha,h3⟩:=h1 x hx
   exact⟨a,List.mem_append_left _ ha,h3⟩
 ·refine⟨p++q,b2d.2 ⟨p,q,hp,hq,rfl⟩,fun a ha=> ?_⟩
  rcases List.mem_append.1 ha with ha|ha
  ·have:=h2 a ha
   split
   ·rename_i hlt;exact Rat.le_trans this (Rat.le_of_lt hlt)
   ·exact this
  ·have:=k2 a ha
   split
   ·exact this
   ·rename_i hlt;exact Rat.le_trans this (Rat.not_lt.1 hlt)
theorem c1z{x y:List RA}{r:RA}:r∈sums x y↔∃a b,a∈x/\b∈y/\r=addA a b:=by
 unfold sums
 simp only [List.mem_flatMap,List.mem_map]
 constructor
 ·rintro⟨x,hx,y,hy,rfl⟩;exact⟨x,y,hx,hy,rfl⟩
 ·rintro⟨x,y,hx,hy,rfl⟩;exact⟨x,hx,y,hy,rfl⟩
def Wide(n:Nat)(f:RFm):Prop:=∀p,p∈f->∀a,a∈p->a.2.length=n
theorem d7s{n:Nat}(hf:Wide n f)(hg:Wide n g)(h:IsV f w u)(k:IsV g w v):IsV (join sums f g) w (u+v):=by
 obtain⟨h1,p,hp,h2⟩:=h
 obtain⟨k1,q,hq,k2⟩:=k
 constructor
 ·intro r hr
  obtain⟨x,y,hx,hy,rfl⟩:=b2d.1 hr
  obtain⟨a,ha,h3⟩:=h1 x hx
  obtain⟨b,hb,h4⟩:=k1 y hy
  refine⟨addA a b,c1z.2 ⟨a,b,ha,hb,rfl⟩,?_⟩
  rw [e3u w (by rw [hf x hx a ha,hg y hy b hb])]
  grind
 ·refine⟨sums p q,b2d.2 ⟨p,q,hp,hq,rfl⟩,fun r hr=> ?_⟩
  obtain⟨a,b,ha,hb,rfl⟩:=c1z.1 hr
  have h3:=h2 a ha
  have h4:=k2 b hb
  rw [e3u w (by rw [hf p hp a ha,hg q hq b hb])]
  grind
theorem d1n{c:Rat}(hc:0<c)(h:IsV f w u):IsV (scl c f) w (u*c):=by
 obtain⟨h1,p,hp,h2⟩:=h
 unfold scl
 constructor
 ·intro r hr
  obtain⟨x,hx,rfl⟩:=List.mem_map.1 hr
  obtain⟨a,ha,h3⟩:=h1 x hx
  refine⟨mulA c a,List.mem_map.2 ⟨a,ha,rfl⟩,?_⟩
  rw [d3d]
  exact Rat.mul_le_mul_of_nonneg_right h3 (Rat.le_of_lt hc)
 ·refine⟨_,List.mem_map.2 ⟨p,hp,rfl⟩,fun r hr=> ?_⟩
  obtain⟨a,ha,rfl⟩:=List.mem_map.1 hr
  rw [d3d]
  exact Rat.mul_le_mul_of_nonneg_right (h2 a ha) (Rat.le_of_lt hc)
inductive Ch:RFm->List RA->Prop
 |nil:Ch [] []
 |cons {l:List RA} {f:RFm} {a:RA} {d:List RA}:a∈l->Ch f d->Ch (l::f) (mulA (-1) a::d)
theorem d4k{r:List RA}:∀{f cs:RFm},r∈f.foldl step cs↔∃ch d,ch∈cs/\Ch f d/\r=ch++d
 | [],cs=>by
  constructor
  ·intro h;exact⟨r,[],h,Ch.nil,by simp⟩
  ·rintro⟨ch,d,h1,h2,rfl⟩;cases h2;simpa using h1
 |l::f,cs=>by
  rw [List.foldl_cons,d4k]
  constructor
  ·rintro⟨ch,d,h1,h2,rfl⟩
   unfold step at h1
   obtain⟨c0,h3,h4⟩:=List.mem_flatMap.1 h1
   obtain⟨a,ha,rfl⟩:=List.mem_map.1 h4
   exact⟨c0,mulA (-1) a::d,h3,Ch.cons ha h2,by simp⟩
  ·rintro⟨ch,d,h1,h2,rfl⟩
   cases h2 with
   | @cons _ _ a d ha h2=>
    refine⟨ch++ [mulA (-1) a],d,?_,h2,by simp⟩
    unfold step
    exact List.mem_flatMap.2 ⟨ch,h1,List.mem_map.2 ⟨a,ha,rfl⟩⟩
theorem c0q{r:List RA}:r∈opp f↔Ch f r:=by
 unfold opp
 rw [d4k]
 constructor
 ·rintro⟨ch,d,h1,h2,rfl⟩
  obtain rfl:=List.mem_singleton.1 h1
  simpa using h2
 ·intro h;exact⟨[],r,by simp,h,by simp⟩
theorem Ch.has{r p:List RA}(h:Ch f r)(hp:p∈f):∃a,a∈p/\mulA (-1) a∈r:=by
 induction h with
 |nil=>cases hp
 | @cons l f a d ha _ ih=>
  rcases List.mem_cons.1 hp with rfl|hp
  ·exact⟨a,ha,by simp⟩
  ·obtain⟨b,hb,h2⟩:=ih hp
   exact⟨b,hb,by simp [h2]⟩
theorem Ch.all{r:List RA}(h:Ch f r):∀x,x∈r->∃p a,p∈f/\a∈p/\x=mulA (-1) a:=by
 induction h with
 |nil=>intro x hx;cases hx
 | @cons l f a d ha _ ih=>
  intro x hx
  rcases List.mem_cons.1 hx with rfl|hx
  ·exact⟨l,a,by simp,ha,rfl⟩
  ·obtain⟨p,b,hp,hb,e⟩:=ih x hx
   exact⟨p,b,by simp [hp],hb,e⟩
theorem Ch.pick{P:RA->Prop}:∀{f:RFm},(∀p,p∈f->∃a,a∈p/\P a)->∃r,Ch f r/\∀x,x∈r->∃a,P a/\x=mulA (-1) a
 | [],_=>⟨[],Ch.nil,by simp⟩
 |l::f,h=>by
  obtain⟨a,ha,hP⟩:=h l (by simp)
  obtain⟨r,hr,h2⟩:=Ch.pick (f:=f) (fun p hp=>h p (by simp [hp]))
  refine⟨_,Ch.cons ha hr,fun x hx=> ?_⟩
  rcases List.mem_cons.1 hx with rfl|hx
  ·exact⟨a,hP,rfl⟩
  ·exact h2 x hx
theorem d5w(h:IsV f w u):IsV (opp f) w (-u):=by
 obtain⟨h1,p,hp,h2⟩:=h
 constructor
 ·intro r hr
  obtain⟨a,ha,h3⟩:=(c0q.1 hr).has hp
  refine⟨_,h3,?_⟩
  rw [d3d]
  have:=h2 a ha
  grind
 ·obtain⟨r,hr,h3⟩:=Ch.pick h1
  refine⟨r,c0q.2 hr,fun x hx=> ?_⟩
  obtain⟨a,ha,rfl⟩:=h3 x hx
  rw [d3d]
  grind
theorem e0p{n:Nat}{c:Rat}(h:Wide n f):Wide n (scl c f):=by
 intro p hp a ha
 unfold scl at hp
 obtain⟨x,hx,rfl⟩:=List.mem_map.1 hp
 obtain⟨b,hb,rfl⟩:=List.mem_map.1 ha
 show(b.2.map _).length=n
 rw [List.length_map];exact h x hx b hb
theorem sz_app:∀(f g:RFm),sz (f++g)=sz f+sz g
 | [],g=>by simp [sz]
 |p::f,g=>by show p.length+sz (f++g)=p.length+sz f+sz g;rw [sz_app f g];omega
theorem e4d(h:List RA->List RA)(k:Nat)(hk:∀x,(h x).length=x.length+k):∀g:RFm,sz (g.map h)=sz g+k*g.length
 | []=>by simp [sz]
 |p::g=>by
  show(h p).length+sz (g.map h)=p.length+sz g+k*(g.length+1)
  rw [e4d h k hk g,hk,Nat.mul_add,Nat.mul_one];omega
theorem d6g(h:List RA->List RA)(k:Nat)(hk:∀x,(h x).length=k*x.length):∀g:RFm,sz (g.map h)=k*sz g
 | []=>by simp [sz]
 |p::g=>by
  show(h p).length+sz (g.map h)=k*(p.length+sz g)
  rw [d6g h k hk g,hk,Nat.mul_add]
theorem c2r(op:List RA->List RA->List RA)(x:List RA)(f g:RFm):join op (x::f) g=g.map (op x)++join op f g:=rfl
theorem sz_both:∀f g:RFm,sz (join (·++·) f g)=sz f*g.length+sz g*f.length
 | [],g=>by show 0=0*g.length+sz g*0;omega
 |x::f,g=>by
  rw [c2r,sz_app,sz_both f g,e4d (x++·) x.length (fun y=>by rw [List.length_append];omega)]
  show sz g+x.length*g.length+(sz f*g.length+sz g*f.length)=(x.length+sz f)*g.length+sz g*(f.length+1)
  rw [Nat.add_mul,Nat.mul_add];omega
theorem sums_len:∀x y:List RA,(sums x y).length=x.length*y.length
 | [],y=>by simp [sums]
 |a::x,y=>by
  show(y.map (addA a)++sums x y).length=(x.length+1)*y.length
  rw [List.length_append,List.length_map,sums_len x y,Nat.add_mul];omega
theorem sz_sums:∀f g:RFm,sz (join sums f g)=sz f*sz g
 | [],g=>by show 0=0*sz g;omega
 |x::f,g=>by
  rw [c2r,sz_app,sz_sums f g,d6g (sums x) x.length (fun y=>sums_len x y)]
  show x.length*sz g+sz f*sz g=(x.length+sz f)*sz g
  rw [Nat.add_mul]
theorem c9m{c:Rat}:∀f:RFm,sz (scl c f)=sz f
 | []=>rfl
 |p::f=>by show(p.map _).length+sz (scl c f)=p.length+sz f;rw [c9m f,List.length_map]
theorem e7n{c:Rat}:(scl c f).length=f.length:=List.length_map ..
theorem d4c{op:List RA->List RA->List RA}:∀f g:RFm,(join op f g).length=f.length*g.length
 | [],g=>by simp [join]
 |x::f,g=>by rw [c2r,List.length_append,List.length_map,d4c f g,List.length_cons,Nat.add_mul];omega
theorem e4t{l:RFm}{k:Nat}(h:∀p,p∈l->p.length=k):sz l=l.length*k:=by
 induction l with
 |nil=>simp [sz]
 |cons p l ih=>
  show p.length+sz l=(l.length+1)*k
  rw [ih (fun q hq=>h q (by simp [hq])),h p (by simp),Nat.add_mul];omega
theorem Ch.len{r:List RA}(h:Ch f r):r.length=f.length:=by
 induction h with
 |nil=>rfl
 |cons _ _ ih=>simp [ih]
def prd:RFm->Nat
 | []=>1
 |p::f=>p.length*prd f
theorem d3a(cs:RFm)(l:List RA):(step cs l).length=cs.length*l.length:=by
 unfold step
 induction cs with
 |nil=>simp
 |cons c cs ih=>rw [List.flatMap_cons,List.length_append,List.length_map,ih,List.length_cons,Nat.add_mul];omega
theorem fold_len:∀(f cs:RFm),(f.foldl step cs).length=cs.length*prd f
 | [],cs=>by simp [prd]
 |l::f,cs=>by
  rw [List.foldl_cons,fold_len f,d3a]
  show cs.length*l.length*prd f=cs.length*(l.length*prd f)
  rw [Nat.mul_assoc]
theorem c6t(f:RFm):(opp f).length=prd f:=by unfold opp;rw [fold_len];simp
theorem e4c(f:RFm):sz (opp f)=prd f*f.length:=by rw [e4t (k:=f.length) (fun p hp=>(c0q.1 hp).len),c6t]
theorem d3l{n:Nat}(h:Wide n f):Wide n (opp f):=by
 intro p hp a ha
 obtain⟨q,b,hq,hb,rfl⟩:=(c0q.1 hp).all a ha
 show(b.2.map _).length=n
 rw [List.length_map];exact h q hq b hb
theorem e2q{n:Nat}(h:Wide n f)(k:Wide n g):Wide n (f++g):=by
 intro p hp
 rcases List.mem_append.1 hp with hp|hp
 ·exact h p hp
 ·exact k p hp
theorem d8o{n:Nat}(h:Wide n f)(k:Wide n g):Wide n (join (·++·) f g):=by
 intro p hp a ha
 obtain⟨x,y,hx,hy,rfl⟩:=b2d.1 hp
 rcases List.mem_append.1 ha with ha|ha
 ·exact h x hx a ha
 ·exact k y hy a ha
theorem e1d{n:Nat}{a b:RA}(h:a.2.length=n)(k:b.2.length=n):(addA a b).2.length=n:=by
 unfold addA;simp [h,k]
theorem d9u{n:Nat}(h:Wide n f)(k:Wide n g):Wide n (join sums f g):=by
 intro p hp a ha
 obtain⟨x,y,hx,hy,rfl⟩:=b2d.1 hp
 obtain⟨b,c,hb,hc,rfl⟩:=c1z.1 ha
 exact e1d (h x hx b hb) (k y hy c hc)
theorem e0s(n:Nat)(c:Rat):Wide n (cst n c):=by
 intro p hp a ha
 obtain rfl:=List.mem_singleton.1 hp
 obtain rfl:=List.mem_singleton.1 ha
 simp
theorem e0z(n k:Nat):Wide n (wgt n k):=by
 intro p hp a ha
 obtain rfl:=List.mem_singleton.1 hp
 obtain rfl:=List.mem_singleton.1 ha
 simp
end
end Go.Proofs.YthaegflpecbfgaaGreatDoor.Fm
namespace Go.Proofs.YthaegflpecbfgaaGreatDoor.Rt
open Go
theorem inc64{i:Nat}(h:i<4611686018427387904):iadd .i64 (i:Int) 1=((i+1:Nat):Int):=by rw [a1s (by omega) (by omega)];omega
theorem e5o{i:Nat}(h:i<4611686018427387904):isub .i64 ((i+1:Nat):Int) 1=(i:Int):=by rw [a1c (by omega) (by omega)];omega
theorem drop_cons{α:Type}{a:List α}{i:Nat}{x:α}{xs:List α}(h:a.drop i=x::xs):ix a (i:Int)=some x/\a.drop (i+1)=xs/\i<a.length:=by
 have h1:i<a.length:=by
  rcases Nat.lt_or_ge i a.length with h2|h2
  ·exact h2
  ·rw [List.drop_eq_nil_of_le h2]at h;cases h
 rw [List.drop_eq_getElem_cons h1]at h
 injection h with h2 h3
 exact⟨by rw [b1z,List.getElem?_eq_getElem h1,h2],h3,h1⟩
theorem drop_nil{α:Type}{a:List α}{i:Nat}(h:a.drop i= []):a.length<=i:=by simpa using h
theorem a1z{α:Type}{a:List α}{i:Nat}{x:α}{xs:List α}(h:a.drop i=x::xs):decide ((i:Int)<(a.length:Int))=true:=by
 have:=(drop_cons h).2.2
 exact decide_eq_true (by omega)
theorem a5z{α:Type}{a:List α}{i:Nat}(h:a.drop i= []):decide ((i:Int)<(a.length:Int))=false:=by
 have:=drop_nil h
 exact decide_eq_false (by omega)
section
variable{β:Type}{r:β}{c d:Bool}{y:Nat->Option Bool}{f:Nat->Bool->Option β}
theorem guard{V:Bool}{rest:Nat->Option Bool}(h:V=false->Ev rest true):Ev (fun n=>bif V then some true else rest n) true:=by
 cases V with
 |true=>exact Ev.then rfl (Ev.pure _)
 |false=>exact Ev.else rfl (h rfl)
theorem Ev.conv{α:Type}{x y:Nat->Option α}{s:α}(e:∀n,x n=y n)(h:Ev y s):Ev x s:=by
 obtain⟨N,hN⟩:=h
 exact⟨N,fun n hn=>by rw [e n];exact hN n hn⟩
end
theorem b0f{α:Type}{b:Nat}{l m:List α}(h:(l.length+m.length)*b<=140737488355328):app b l m=some (l++m):=b8y h
end Go.Proofs.YthaegflpecbfgaaGreatDoor.Rt
namespace Go.Proofs.YthaegflpecbfgaaGreatDoor.Rt
open Go
theorem Ev.suc{α:Type}{f g:Nat->Option α}{r:α}(e:∀n,f (n+1)=g n)(h:Ev g r):Ev f r:=by
 obtain⟨N,hN⟩:=h
 refine⟨N+1,fun n hn=> ?_⟩
 obtain⟨k,rfl⟩:∃k,n=k+1:=⟨n-1,by omega⟩
 rw [e];exact hN k (by omega)
def Tt{α:Type}(Q:α->Prop)(f:Nat->Option α):Prop:=∃r,Ev f r/\Q r
section
variable{α β:Type}{P:α->Prop}{Q:β->Prop}
theorem Tt.pure{r:β}(h:Q r):Tt Q (fun _=>some r):=⟨r,Ev.pure r,h⟩
theorem Tt.of{f:Nat->Option β}{r:β}(h:Ev f r)(hq:Q r):Tt Q f:=⟨r,h,hq⟩
theorem Tt.all{f:Nat->Option β}{r:β}(h:∀n,f n=some r)(hq:Q r):Tt Q f:=⟨r,Ev.all h,hq⟩
theorem Tt.bind{x:Nat->Option α}{g:Nat->α->Option β}(hx:Tt P x)(h:∀r,P r->Tt Q (fun n=>g n r)):Tt Q (fun n=>(x n).bind (g n)):=by
 obtain⟨r,h1,h2⟩:=hx
 obtain⟨s,h3,h4⟩:=h r h2
 exact⟨s,Ev.bind h1 h3,h4⟩
theorem Tt.evb{x:Nat->Option α}{a:α}{g:Nat->α->Option β}(hx:Ev x a)(h:Tt Q (fun n=>g n a)):Tt Q (fun n=>(x n).bind (g n)):=by
 obtain⟨s,h3,h4⟩:=h
 exact⟨s,Ev.bind hx h3,h4⟩
theorem Tt.step{x:Option α}{g:Nat->α->Option β}{a:α}(hx:x=some a)(h:Tt Q (fun n=>g n a)):Tt Q (fun n=>x.bind (g n)):=by
 subst hx;exact h
theorem Tt.bif{c:Bool}{x y:Nat->Option β}(h1:c=true->Tt Q x)(h2:c=false->Tt Q y):Tt Q (fun n=>bif c then x n else y n):=by
 cases c
 ·exact h2 rfl
 ·exact h1 rfl
theorem Tt.weak{P':α->Prop}{x:Nat->Option α}(hx:Tt P x)(h:∀r,P r->P' r):Tt P' x:=by
 obtain⟨r,h1,h2⟩:=hx
 exact⟨r,h1,h r h2⟩
theorem Tt.suc{f g:Nat->Option β}(e:∀n,f (n+1)=g n)(h:Tt Q g):Tt Q f:=by
 obtain⟨r,h1,h2⟩:=h
 exact⟨r,Ev.suc e h1,h2⟩
theorem Tt.cond{c d:Bool}{g:Nat->Bool->Option β}(h:∀b,Tt Q (fun n=>g n b))(k:Bool):Tt Q (fun n=>(bif c then some k else some d).bind (g n)):=by
 cases c<;>exact h _
end
end Go.Proofs.YthaegflpecbfgaaGreatDoor.Rt
namespace Go.Proofs.YthaegflpecbfgaaGreatDoor.Lx
abbrev Bs:=List UInt8
def isLetter(c:UInt8):Bool:=decide ((97<=c.toNat/\c.toNat<=122)∨(65<=c.toNat/\c.toNat<=90))
def b7u(c:UInt8):Bool:=decide (48<=c.toNat/\c.toNat<=57)
def b1j(c:UInt8):Bool:=decide ((97<=c.toNat/\c.toNat<=122)∨(65<=c.toNat/\c.toNat<=90)∨(48<=c.toNat/\c.toNat<=57)∨c.toNat=95)
def e6o(c:UInt8):Bool:=decide (32<=c.toNat/\c.toNat<=126)
def b8t(p:UInt8->Bool):Bs->Nat
 | []=>0
 |c::r=>bif p c then b8t p r+1 else 0
def name(l:Bs):Bool:= !l.isEmpty&&isLetter (l.headD 0)&&decide (l.length<=20)&&(b8t b1j l==l.length)
def dec(l:Bs):Nat:=l.foldl (fun n c=>10*n+(c.toNat-48)) 0
def maxNumber:Nat:=1099511627776
def e1c(l:Bs):Bool:= !l.isEmpty&&(b8t b7u l==l.length)&& !(l.headD 0==48&& !(l== [48]))&&decide (l.length<=13)
def number(l:Bs):Nat×Bool:=if e1c l/\dec l<=maxNumber then(dec l,true)else(0,false)
def qloop:Bs->Bs->Nat->Option (Bs×Nat)
 | [],_,_=>none
 |c::r,acc,n=>
  if e6o c=false then none
  else if c.toNat=34 then some (acc,n)
  else if c.toNat=92 then
   match r with
   | []=>none
   |d::r'=>if d.toNat=34∨d.toNat=92 then qloop r' (acc++ [d]) (n+2)else none
  else qloop r (acc++ [c]) (n+1)
def quoted(l:Bs):Bs×Nat:=
 match qloop (l.drop 1) [] 1 with
 |none=>([],0)
 |some (v,n)=>if v.length>400 then([],0)else(v,n+1)
end Go.Proofs.YthaegflpecbfgaaGreatDoor.Lx
namespace Go.Proofs.YthaegflpecbfgaaGreatDoor.Lx
open Rt M Go
theorem b9h{s r:Rt.Bs}{i:Nat}{c:UInt8}(h:s.drop i=c::r):sidx s (i:Int)=some (c.toNat:Int):=by
 have h1:s[i]?=some c:=by
  have:=congrArg (·[0]?) h
  simpa using this
 simp [sidx,h1]
theorem d2y{s r:Rt.Bs}{i:Nat}{c:UInt8}(h:s.drop i=c::r):i+r.length+1=s.length:=by
 have:=congrArg List.length h
 simp only [List.length_drop,List.length_cons]at this
 omega
theorem c3u{s r:Rt.Bs}{i:Nat}{c:UInt8}(h:s.drop i=c::r):s.drop (i+1)=r:=by
 rw [<-List.drop_drop,h,List.drop_one,List.tail_cons]
theorem drop_nil{s:Rt.Bs}{i:Nat}(h:s.drop i= [])(hi:i<=s.length):i=s.length:=by
 have:=congrArg List.length h
 simp only [List.length_drop,List.length_nil]at this
 omega
theorem a5f(x:Int)(h1:-9223372036854775808<=x)(h2:x<9223372036854775808):IntKind.i64.wrap x=x:=by
 simp [IntKind.wrap,IntKind.signed,IntKind.bits]
 split<;>omega
theorem e2r(a b:Nat)(h:a+b<9223372036854775808):iadd .i64 (a:Int) (b:Int)=((a+b:Nat):Int):=by
 rw [iadd,a5f _ (by omega) (by omega)];simp
theorem c9g(a:Nat)(h:a+1<9223372036854775808):iadd .i64 (a:Int) 1=((a+1:Nat):Int):=e2r a 1 h
theorem b8r{p:UInt8->Bool}(h:(List.range 256).all (fun k=>p (UInt8.ofNat k))=true)(c:UInt8):p c=true:=by
 have:=List.all_eq_true.mp h c.toNat (by simpa using c.toNat_lt)
 simpa using this
theorem letter_eq(n:Nat)(c:UInt8):a5g n (c.toNat:Int)=some (isLetter c):=
 of_decide_eq_true (b8r (p:=fun c=>decide (a5g 0 (c.toNat:Int)=some (isLetter c))) (by decide+kernel) c)
theorem e2h(n:Nat)(c:UInt8):a5p n (c.toNat:Int)=some (b1j c):=
 of_decide_eq_true (b8r (p:=fun c=>decide (a5p 0 (c.toNat:Int)=some (b1j c))) (by decide+kernel) c)
theorem c9u{p:UInt8->Bool}{f:Int->Option Bool}(hf:∀c:UInt8,f c.toNat=some (p c)){s:Rt.Bs}(hs:s.length<9223372036854775807){n:Nat}{kont:Int->Option Int}:
 ∀{r:Rt.Bs}{i m:Nat},s.drop i=r->i<=s.length->r.length<m->lexer_span_L1 n s f kont m (i:Int)=kont ((i+b8t p r:Nat):Int)
 | [],i,m+1,h,hi,_=>by
  have:=drop_nil h hi
  rw [lexer_span_L1_s]
  simp [this,b8t]
 |c::r,i,m+1,h,hi,hm=>by
  have h1:=d2y h
  rw [lexer_span_L1_s,b9h h,decide_eq_true (by omega)]
  simp only [cond_true,Option.bind_some,hf]
  cases hp:p c
  ·simp [b8t,hp]
  ·rw [cond_true,c9g _ (by omega),c9u hf hs (c3u h) (by omega) (by simp only [List.length_cons]at hm;omega)]
   simp only [b8t,hp,cond_true]
   congr 2;omega
theorem e8e{p:UInt8->Bool}{f:Int->Option Bool}(hf:∀c:UInt8,f c.toNat=some (p c)){s:Rt.Bs}(hs:s.length<9223372036854775807){n:Nat}(hn:s.length<n):
 a4z n s f=some ((b8t p s:Nat):Int):=by
 have:=c9u hf hs (n:=n) (kont:=fun nx2=>some nx2) (r:=s) (i:=0) (m:=n) (by simp) (by omega) hn
 simpa [a4z]using this
theorem headD_idx{s:Rt.Bs}(h:s≠ []):sidx s 0=some ((s.headD 0).toNat:Int):=by
 cases s with
 |nil=>exact absurd rfl h
 |cons c r=>exact b9h (i:=0) rfl
theorem name_eq{s:Rt.Bs}(hs:s.length<9223372036854775807){n:Nat}(hn:s.length<n):a4q n s=some (name s):=by
 cases hs0:s with
 |nil=>rfl
 |cons c r=>
  rw [<-hs0]
  have h0:s≠ []:=by rw [hs0];simp
  have h1:(s== [])=false:=by simp [hs0]
  simp only [a4q,h1,Bool.not_false,cond_true,headD_idx h0,Option.bind_some,letter_eq,e8e (e2h n) hs hn,name]
  have h2:s.isEmpty=false:=by simp [hs0]
  rw [h2]
  cases isLetter (s.headD 0)<;>by_cases h3:s.length<=20<;>simp [h3]
  ·rw [decide_eq_true (by omega)]
   simp only [cond_true,Option.some.injEq]
   rw [Bool.eq_iff_iff];simp;omega
  ·rw [decide_eq_false (by omega)];simp
end Go.Proofs.YthaegflpecbfgaaGreatDoor.Lx
namespace Go.Proofs.YthaegflpecbfgaaGreatDoor.Lx
open Rt M Go
def ints(l:Rt.Bs):List Int:=l.map fun c=>(c.toNat:Int)
def signs:List UInt8:= [40,41,44,59,58,61,60,43,45,42,47,123,125]
theorem c8n{c:UInt8}(h:isLetter c=true):b1j c=true:=by
 simp only [isLetter,b1j,decide_eq_true_eq]at*;omega
end Go.Proofs.YthaegflpecbfgaaGreatDoor.Lx
namespace Go.Proofs.YthaegflpecbfgaaGreatDoor.Ta
open Go Rt M
inductive Fit:M.Expr->Prop
 |mk {o n:Int} {s:Rt.Bs} {l:List M.Expr}:l.length<=1000000->(∀y,y∈l->Fit y)->Fit ⟨o,n,s,l⟩
theorem Fit.leaf(o n:Int)(s:Rt.Bs):Fit ⟨o,n,s,[]⟩:=Fit.mk (by simp) (by simp)
theorem Fit.one{x:M.Expr}(o n:Int)(s:Rt.Bs)(h:Fit x):Fit ⟨o,n,s,[x]⟩:=Fit.mk (by simp) (by simpa using h)
theorem Fit.two{x y:M.Expr}(o n:Int)(s:Rt.Bs)(h:Fit x)(h2:Fit y):Fit ⟨o,n,s,[x,y]⟩:=Fit.mk (by simp) (by simp [h,h2])
end Go.Proofs.YthaegflpecbfgaaGreatDoor.Ta
namespace Go.Proofs.YthaegflpecbfgaaGreatDoor.Ta
open Go Rt M
theorem left{k m:Nat}(h:k<m):∃j,m=j+1:=⟨m-1,by omega⟩
theorem pred{k m:Nat}(h:k+1<m):∃j,m=j+1/\k<j:=⟨m-1,by omega,by omega⟩
theorem c0b(s:Rt.Bs):Ev (fun n=>a4q n s) (Lx.name s):=by
 refine⟨21,fun n hn=> ?_⟩
 by_cases h:s.length<=20
 ·exact Lx.name_eq (by omega) (by omega)
 ·have h0:s≠ []:=by intro e;rw [e]at h;simp at h
  have h1:(s== [])=false:=by simpa using h0
  have h2:Lx.name s=false:=by unfold Lx.name;rw [decide_eq_false h];simp
  rw [h2]
  unfold a4q
  dsimp only
  rw [h1,Bool.not_false,cond_true,Lx.headD_idx h0,Option.bind_some,Lx.letter_eq,Option.bind_some,Option.bind_some]
  cases Lx.isLetter (s.headD 0)
  ·rfl
  ·rw [cond_true,decide_eq_false (show¬(s.length:Int)<=20 by omega)];rfl
theorem d1q(n:Nat)(l:List Rt.Bs)(s:Rt.Bs)(hl:l.length<4611686018427387904):∀(us:List Rt.Bs)(i m:Nat),l.drop i=us->us.length<m->
 slices_Index_string_string_L1 n l s (some (-1)) m (i:Int)=some (if s∈us then((i+us.idxOf s:Nat):Int)else-1)
 | [],i,m+1,hd,_=>by rw [slices_Index_string_string_L1_s,a5z hd];rfl
 |x::us,i,m+1,hd,hm=>by
  obtain⟨h1,h2,h3⟩:=drop_cons hd
  have ih:=d1q n l s hl us (i+1) m h2 (by simp only [List.length_cons]at hm;omega)
  rw [slices_Index_string_string_L1_s,a1z hd,cond_true,h1,Option.bind_some]
  by_cases h:s=x
  ·subst h
   rw [beq_self_eq_true,cond_true,if_pos (by simp)];simp
  ·have e:(s==x)=false:=by simpa using h
   rw [e,cond_false,inc64 (by omega),ih]
   by_cases h5:s∈us
   ·rw [if_pos h5,if_pos (List.mem_cons_of_mem _ h5),List.idxOf_cons,show(x==s)=false by simpa using fun h6=>h h6.symm]
    simp only [cond_false];congr 1;omega
   ·rw [if_neg h5,if_neg (by simp [h,h5])]
theorem b1d{l:List Rt.Bs}(s:Rt.Bs)(hl:l.length<4611686018427387904):Ev (fun n=>a0u n l s) (decide (s∈l)):=by
 refine⟨l.length+1,fun n hn=> ?_⟩
 unfold a0u a0o
 dsimp only
 have h:slices_Index_string_string_L1 n l s (some (-1)) n 0=_:=d1q n l s hl l 0 n rfl (by omega)
 rw [h,Option.bind_some]
 by_cases h5:s∈l
 ·rw [if_pos h5,decide_eq_true h5,decide_eq_true (by omega)]
 ·rw [if_neg h5,decide_eq_false h5];rfl
def b8w(l:List Rt.Bs):Nat->List Rt.Bs->Bool
 |_,[]=>decide ((l.length:Int)<=6)
 |i,s::us=>Lx.name s&&(!decide (s∈l.take i)&&b8w l (i+1) us)
def named(l:List Rt.Bs):Bool:=b8w l 0 l
theorem d9n(l:List Rt.Bs)(hl:l.length<4611686018427387904):∀(us:List Rt.Bs)(i:Nat),l.drop i=us->∃N,∀n m,N<=n->us.length<m->
 tariff_named_L1 n l (some (decide ((l.length:Int)<=6))) m (i:Int)=some (b8w l i us)
 | [],i,hd=>by
  refine⟨0,fun n m _ hm=> ?_⟩
  obtain⟨m,rfl⟩:=left hm
  rw [tariff_named_L1_s,a5z hd];rfl
 |s::us,i,hd=>by
  obtain⟨h1,h2,h3⟩:=drop_cons hd
  obtain⟨N,ih⟩:=d9n l hl us (i+1) h2
  obtain⟨N1,e1⟩:=c0b s
  obtain⟨N2,e2⟩:=b1d (l:=l.take i) s (by simp;omega)
  refine⟨max N (max N1 N2),fun n m hn hm=> ?_⟩
  obtain⟨m,rfl,hm2⟩:=pred (by simpa using hm)
  have e1:a4q n s=some (Lx.name s):=e1 n (by omega)
  have e2:a0u n (l.take i) s=some (decide (s∈l.take i)):=e2 n (by omega)
  rw [tariff_named_L1_s,a1z hd,cond_true,h1,Option.bind_some,e1,Option.bind_some]
  unfold b8w
  cases Lx.name s with
  |false=>rfl
  |true=>
   have e3:lsl l 0 (i:Int)=some (l.take i):=by
    have:=d3g (l:=l) (p:=0) (q:=i) (by omega) (by omega)
    simpa using this
   rw [Bool.not_true,cond_false,e3,Option.bind_some,e2,Option.bind_some,Option.bind_some,Bool.true_and]
   cases decide (s∈l.take i)with
   |true=>rfl
   |false=>rw [cond_false,inc64 (by omega),ih n m (by omega) hm2];rfl
theorem b9c{l:List Rt.Bs}(hl:l.length<4611686018427387904):Ev (fun n=>b0g n l) (named l):=by
 obtain⟨N,h⟩:=d9n l hl l 0 rfl
 exact⟨N+l.length+1,fun n hn=>h n n (by omega) (by omega)⟩
theorem d7v(x:M.Expr)(lv:Int)(hx:x.Args.length<=1000000):∀(us:List M.Expr)(i:Nat)(lf:Int),x.Args.drop i=us->(∀y,y∈us->∀lv lf:Int,Tt (fun _=>True) (fun n=>tariff_sized n y lv lf))->
 ∃N r,∀n m,N<=n->us.length<m->tariff_sized_L1 n (tariff_sized n) x lv (fun f2=>some (f2,true)) m (i:Int) lf=some r
 | [],i,lf,hd,_=>by
  refine⟨0,(lf,true),fun n m _ hm=> ?_⟩
  obtain⟨m,rfl⟩:=left hm
  rw [tariff_sized_L1_s,a5z hd];rfl
 |y::us,i,lf,hd,H=>by
  obtain⟨h1,h2,h3⟩:=drop_cons hd
  obtain⟨⟨l2,b⟩,⟨N1,e1⟩,_⟩:=H y (by simp) (isub .i64 lv 1) lf
  obtain⟨N,r,ih⟩:=d7v x lv hx us (i+1) l2 h2 (fun z hz=>H z (by simp [hz]))
  refine⟨max N N1,bif b then r else(l2,false),fun n m hn hm=> ?_⟩
  obtain⟨m,rfl,hm2⟩:=pred (by simpa using hm)
  have e1:tariff_sized n y (isub .i64 lv 1) lf=some (l2,b):=e1 n (by omega)
  rw [tariff_sized_L1_s,a1z hd,cond_true,h1,Option.bind_some,e1,Option.bind_some]
  dsimp only
  cases b with
  |false=>rfl
  |true=>rw [Bool.not_true,cond_false,inc64 (by omega),ih n m (by omega) hm2];rfl
theorem sized_t{x:M.Expr}(hx:Fit x):∀lv lf:Int,Tt (fun _=>True) (fun n=>tariff_sized n x lv lf):=by
 induction hx with
 | @mk o k s l hl _ ih=>
  intro lv lf
  refine Tt.suc (g:=fun n=>_) (fun n=>tariff_sized_s _ _ _ n) ?_
  refine Tt.cond (fun b=> ?_) true
  refine Tt.bif (fun _=>Tt.pure trivial) (fun _=> ?_)
  obtain⟨N,r,h⟩:=d7v ⟨o,k,s,l⟩ lv hl l 0 (isub .i64 lf 1) rfl ih
  exact⟨r,⟨N+l.length+1,fun n hn=>h n n (by omega) (by omega)⟩,trivial⟩
def b7s(o:Int):Int:=if o<=4 then 0 else if o=14 then 1 else if o=11 then 3 else 2
theorem d2l(n:Nat)(o:Int):a9s n o=some (b7s o):=by
 unfold a9s b7s
 by_cases h1:o<=4
 ·rw [decide_eq_true h1,if_pos h1];rfl
 ·rw [decide_eq_false h1,if_neg h1,cond_false]
  by_cases h2:o=14
  ·subst h2;rfl
  ·rw [show(o==14)=false by simpa using h2,if_neg h2,cond_false]
   by_cases h3:o=11
   ·subst h3;rfl
   ·rw [show(o==11)=false by simpa using h3,if_neg h3];rfl
inductive Shp:M.Expr->Prop
 |mk {o n:Int} {s:Rt.Bs} {l:List M.Expr}:0<=o->o<=16->(l.length:Int)=b7s o->(∀y,y∈l->Shp y)->Shp ⟨o,n,s,l⟩
theorem c2l(l:List M.Expr)(hl:l.length<=1000000)(f:Nat->M.Expr->Option Bool)(Q:M.Expr->Prop):∀(us:List M.Expr)(i:Nat),l.drop i=us->(∀y,y∈us->Tt (fun b=>b=false->Q y) (fun n=>f n y))->
 ∃N r,(r=-1/\(∀y,y∈us->Q y)∨0<=r)/\∀n m,N<=n->us.length<m->slices_IndexFunc_api_Expr_api_Expr_L1 n l (f n) (some (-1)) m (i:Int)=some r
 | [],i,hd,_=>by
  refine⟨0,-1,.inl ⟨rfl,by simp⟩,fun n m _ hm=> ?_⟩
  obtain⟨m,rfl⟩:=left hm
  rw [slices_IndexFunc_api_Expr_api_Expr_L1_s,a5z hd];rfl
 |y::us,i,hd,H=>by
  obtain⟨h1,h2,h3⟩:=drop_cons hd
  obtain⟨b,⟨N1,e1⟩,hb⟩:=H y (by simp)
  obtain⟨N,r,hr,ih⟩:=c2l l hl f Q us (i+1) h2 (fun z hz=>H z (by simp [hz]))
  cases b with
  |true=>
   refine⟨N1,(i:Int),.inr (by omega),fun n m hn hm=> ?_⟩
   obtain⟨m,rfl⟩:=left hm
   have e1:f n y=some true:=e1 n (by omega)
   rw [slices_IndexFunc_api_Expr_api_Expr_L1_s,a1z hd,cond_true,h1,Option.bind_some,e1];rfl
  |false=>
   refine⟨max N N1,r,hr.imp (fun h=>⟨h.1,by simpa using⟨hb rfl,h.2⟩⟩) id,fun n m hn hm=> ?_⟩
   obtain⟨m,rfl,hm2⟩:=pred (by simpa using hm)
   have e1:f n y=some false:=e1 n (by omega)
   rw [slices_IndexFunc_api_Expr_api_Expr_L1_s,a1z hd,cond_true,h1,Option.bind_some,e1,Option.bind_some,cond_false,inc64 (by omega)]
   exact ih n m (by omega) hm2
theorem c4y(l:List M.Expr)(hl:l.length<=1000000)(f:Nat->M.Expr->Option Bool)(Q:M.Expr->Prop)(H:∀y,y∈l->Tt (fun b=>b=false->Q y) (fun n=>f n y)):
 Tt (fun b=>b=false->∀y,y∈l->Q y) (fun n=>a0l n l (f n)):=by
 obtain⟨N,r,hr,ih⟩:=c2l l hl f Q l 0 rfl H
 refine⟨decide (0<=r),⟨N+l.length+1,fun n hn=> ?_⟩,fun hb=> ?_⟩
 ·unfold a0l a1i
  dsimp only
  have e:slices_IndexFunc_api_Expr_api_Expr_L1 n l (f n) (some (-1)) n 0=some r:=ih n n (by omega) (by omega)
  rw [e];rfl
 ·have:=of_decide_eq_false hb
  rcases hr with h|h
  ·exact h.2
  ·omega
theorem e2j{x:M.Expr}(hx:Fit x):Tt (fun b=>b=true->Shp x) (fun n=>tariff_shaped n x):=by
 induction hx with
 | @mk o k s l hl _ ih=>
  refine Tt.suc (fun n=>tariff_shaped_s _ n) ?_
  refine Tt.bind (P:=fun b=>b=false->0<=o/\o<=16) (Tt.bif (fun h=>Tt.pure fun h=>by cases h) (fun h=>Tt.pure fun h2=> ?_)) ?_
  ·have h1:=of_decide_eq_false h
   have h3:=of_decide_eq_false h2
   dsimp only at h1 h3
   omega
  intro b hb
  refine Tt.bind (P:=fun c=>c=false->(0<=o/\o<=16)/\(l.length:Int)=b7s o) (Tt.bif (fun h=>Tt.pure fun h=>by cases h) (fun h=> ?_)) ?_
  ·refine Tt.evb (Ev.all fun n=>d2l n _) (Tt.pure fun h2=>⟨hb h,by simpa using h2⟩)
  intro c hc
  refine Tt.bif (fun _=>Tt.pure fun h=>by cases h) (fun h=> ?_)
  obtain⟨⟨h1,h2⟩,h3⟩:=hc h
  refine Tt.bif (fun h0=> ?_) (fun h0=> ?_)
  ·have h0':o=0:=by simpa using h0
   subst h0'
   have hz:l= []:=by
    have:(l.length:Int)=0:=h3
    exact List.length_eq_zero_iff.1 (by omega)
   subst hz
   refine Tt.bind (P:=fun _=>True) (Tt.bif (fun _=>Tt.pure trivial) (fun _=>Tt.pure trivial)) fun _ _=> ?_
   refine Tt.bind (P:=fun _=>True) (Tt.bif (fun _=>Tt.pure trivial) (fun _=>Tt.pure trivial)) fun _ _=> ?_
   exact Tt.pure fun _=>Shp.mk h1 h2 h3 (by simp)
  refine Tt.bind (P:=fun b=>b=true->o=1∨o=4) (Tt.bif (fun h=>Tt.pure fun _=> .inl (by simpa using h)) (fun _=>Tt.pure fun h=> .inr (by simpa using h))) ?_
  intro b1 hb1
  refine Tt.bif (fun h4=> ?_) (fun h4=> ?_)
  ·have hz:l= []:=by
    have:(l.length:Int)=0:=by rw [h3];rcases hb1 h4 with rfl|rfl<;>rfl
    exact List.length_eq_zero_iff.1 (by omega)
   subst hz
   refine Tt.bind (P:=fun _=>True) (Tt.bif (fun _=> ?_) (fun _=>Tt.pure trivial)) fun _ _=> ?_
   ·exact Tt.evb (c0b _) (Tt.pure trivial)
   ·exact Tt.pure fun _=>Shp.mk h1 h2 h3 (by simp)
  refine Tt.bind (P:=fun _=>True) (Tt.bif (fun _=>Tt.pure trivial) (fun _=>Tt.pure trivial)) fun _ _=> ?_
  refine Tt.bind (P:=fun b=>b=true->∀y,y∈l->Shp y) (Tt.bif (fun _=> ?_) (fun _=>Tt.pure fun h=>by cases h)) ?_
  ·refine Tt.bind (c4y l hl tariff_shaped_1 Shp (fun y hy=> ?_)) ?_
   ·refine Tt.suc (fun n=>a7j n _) ?_
    refine Tt.bind (ih y hy) ?_
    intro b hb
    exact Tt.pure fun h=>hb (by simpa using h)
   ·intro b hb
    exact Tt.pure fun h=>hb (by simpa using h)
  ·intro b hb
   exact Tt.pure fun h=>Shp.mk h1 h2 h3 (hb h)
end Go.Proofs.YthaegflpecbfgaaGreatDoor.Ta
namespace Go.Proofs.YthaegflpecbfgaaGreatDoor.Tp
open Go Rt M Ta
mutual
def cnt:M.Expr->Nat
 |⟨_,_,_,l⟩=>cnts l+1
def cnts:List M.Expr->Nat
 | []=>0
 |x::l=>cnt x+cnts l
 end
mutual
def dep:M.Expr->Nat
 |⟨_,_,_,l⟩=>deps l+1
def deps:List M.Expr->Nat
 | []=>0
 |x::l=>max (dep x) (deps l)
 end
theorem e7e{a:Nat}(h:1<=a)(h2:a<=1000000):isub .i64 (a:Int) 1=((a-1:Nat):Int):=by rw [a1c (by omega) (by omega)];omega
def Siz(d c lv lf:Nat)(r:Int×Bool):Prop:=(r.2=true->d<=lv/\c<=lf/\r.1=((lf-c:Nat):Int))/\(d<=lv->c<=lf->r.2=true)
theorem d3e(x:M.Expr)(lv:Nat)(hv1:1<=lv)(hv:lv<=1000000)(hx:x.Args.length<=1000000):∀(us:List M.Expr)(i lf:Nat),lf<=1000000->x.Args.drop i=us->(∀y,y∈us->∀lv lf:Nat,lv<=1000000->lf<=1000000->Tt (Siz (dep y) (cnt y) lv lf) (fun n=>tariff_sized n y lv lf))->
 ∃N r,Siz (deps us) (cnts us) (lv-1) lf r/\∀n m,N<=n->us.length<m->tariff_sized_L1 n (tariff_sized n) x (lv:Int) (fun f2=>some (f2,true)) m (i:Int) (lf:Int)=some r
 | [],i,lf,hlf,hd,_=>by
  refine⟨0,(lf,true),⟨fun _=>⟨Nat.zero_le _,Nat.zero_le _,rfl⟩,fun _ _=>rfl⟩,fun n m _ hm=> ?_⟩
  obtain⟨m,rfl⟩:=left hm
  rw [tariff_sized_L1_s,a5z hd];rfl
 |y::us,i,lf,hlf,hd,H=>by
  obtain⟨h1,h2,h3⟩:=drop_cons hd
  obtain⟨⟨l2,b⟩,⟨N1,e1⟩,q1,q2⟩:=H y (by simp) (lv-1) lf (by omega) hlf
  rw [<-e7e hv1 hv]at e1
  have hcs:cnts (y::us)=cnt y+cnts us:=rfl
  have hds:deps (y::us)=max (dep y) (deps us):=rfl
  cases b with
  |false=>
   have h5:¬(dep y<=lv-1/\cnt y<=lf):=fun h=>by have:=q2 h.1 h.2;cases this
   refine⟨N1,(l2,false),⟨fun h=>(by cases h),fun h6 h7=>absurd ⟨by omega,by omega⟩ h5⟩,fun n m hn hm=> ?_⟩
   obtain⟨m,rfl⟩:=left hm
   have e1:tariff_sized n y (isub .i64 lv 1) lf=some (l2,false):=e1 n (by omega)
   rw [tariff_sized_L1_s,a1z hd,cond_true,h1,Option.bind_some,e1,Option.bind_some];rfl
  |true=>
   obtain⟨h5,h6,h7⟩:=q1 rfl
   dsimp only at h7
   subst h7
   obtain⟨N,r,⟨hr1,hr2⟩,ih⟩:=d3e x lv hv1 hv hx us (i+1) (lf-cnt y) (by omega) h2 (fun z hz=>H z (by simp [hz]))
   refine⟨max N N1,r,⟨fun h=> ?_,fun h8 h9=>hr2 (by omega) (by omega)⟩,fun n m hn hm=> ?_⟩
   ·obtain⟨g1,g2,g3⟩:=hr1 h
    exact⟨by omega,by omega,by rw [g3];congr 1;omega⟩
   ·obtain⟨m,rfl,hm2⟩:=pred (by simpa using hm)
    have e1:tariff_sized n y (isub .i64 lv 1) lf=some (((lf-cnt y:Nat):Int),true):=e1 n (by omega)
    rw [tariff_sized_L1_s,a1z hd,cond_true,h1,Option.bind_some,e1,Option.bind_some]
    dsimp only
    rw [Bool.not_true,cond_false,inc64 (by omega),ih n m (by omega) hm2]
theorem e7s{x:M.Expr}(hx:Fit x):∀lv lf:Nat,lv<=1000000->lf<=1000000->Tt (Siz (dep x) (cnt x) lv lf) (fun n=>tariff_sized n x lv lf):=by
 induction hx with
 | @mk o k s l hl _ ih=>
  intro lv lf hv hf
  have hd:dep ⟨o,k,s,l⟩=deps l+1:=rfl
  have hc:cnt ⟨o,k,s,l⟩=cnts l+1:=rfl
  refine Tt.suc (g:=fun n=>_) (fun n=>tariff_sized_s _ _ _ n) ?_
  have hsub:isub .i64 (lf:Int) 1=(lf:Int)-1:=a1c (by omega) (by omega)
  rw [hsub]
  refine Tt.bind (P:=fun b=>b=true↔(lv<1∨lf<1)) (Tt.bif (fun h=>Tt.pure (by have:=of_decide_eq_true h;simp only [true_iff];omega)) (fun h=>Tt.pure ?_)) ?_
  ·have:=of_decide_eq_false h
   rw [decide_eq_true_iff];omega
  intro b hb
  refine Tt.bif (fun h=>Tt.pure ⟨fun h=>(by cases h),fun h1 h2=> ?_⟩) (fun h=> ?_)
  ·have:=hb.1 h;omega
  have h3:¬(lv<1∨lf<1):=fun h4=>by have:=hb.2 h4;rw [this]at h;cases h
  have e:(lf:Int)-1=((lf-1:Nat):Int):=by omega
  rw [e]
  obtain⟨N,r,⟨hr1,hr2⟩,hh⟩:=d3e ⟨o,k,s,l⟩ lv (by omega) hv hl l 0 (lf-1) (by omega) rfl ih
  refine⟨r,⟨N+l.length+1,fun n hn=>hh n n (by omega) (by omega)⟩,fun h=> ?_,fun h4 h5=>hr2 (by omega) (by omega)⟩
  obtain⟨g1,g2,g3⟩:=hr1 h
  exact⟨by omega,by omega,by rw [g3];congr 1;omega⟩
def a8r(o n:Int)(s:Rt.Bs):Prop:=if o=0 then(0<=n/\n<=1099511627776)/\s= []else if o=1∨o=4 then n=0/\Lx.name s=true else n=0/\s= []
inductive Shx:M.Expr->Prop
 |mk {o n:Int} {s:Rt.Bs} {l:List M.Expr}:0<=o->o<=16->(l.length:Int)=b7s o->a8r o n s->(∀y,y∈l->Shx y)->Shx ⟨o,n,s,l⟩
theorem c1d(l:List M.Expr)(hl:l.length<=1000000)(f:Nat->M.Expr->Option Bool)(Q:M.Expr->Prop):∀(us:List M.Expr)(i:Nat),l.drop i=us->(∀y,y∈us->Tt (fun b=>b=false↔Q y) (fun n=>f n y))->
 ∃N r,(r=-1/\(∀y,y∈us->Q y)∨0<=r/\¬∀y,y∈us->Q y)/\∀n m,N<=n->us.length<m->slices_IndexFunc_api_Expr_api_Expr_L1 n l (f n) (some (-1)) m (i:Int)=some r
 | [],i,hd,_=>by
  refine⟨0,-1,.inl ⟨rfl,by simp⟩,fun n m _ hm=> ?_⟩
  obtain⟨m,rfl⟩:=left hm
  rw [slices_IndexFunc_api_Expr_api_Expr_L1_s,a5z hd];rfl
 |y::us,i,hd,H=>by
  obtain⟨h1,h2,h3⟩:=drop_cons hd
  obtain⟨b,⟨N1,e1⟩,hb⟩:=H y (by simp)
  obtain⟨N,r,hr,ih⟩:=c1d l hl f Q us (i+1) h2 (fun z hz=>H z (by simp [hz]))
  cases b with
  |true=>
   refine⟨N1,(i:Int),.inr ⟨by omega,fun h=> ?_⟩,fun n m hn hm=> ?_⟩
   ·have:=hb.2 (h y (by simp));cases this
   obtain⟨m,rfl⟩:=left hm
   have e1:f n y=some true:=e1 n (by omega)
   rw [slices_IndexFunc_api_Expr_api_Expr_L1_s,a1z hd,cond_true,h1,Option.bind_some,e1];rfl
  |false=>
   refine⟨max N N1,r,hr.imp (fun h=>⟨h.1,by simpa using⟨hb.1 rfl,h.2⟩⟩) (fun h=>⟨h.1,fun h5=>h.2 fun z hz=>h5 z (by simp [hz])⟩),fun n m hn hm=> ?_⟩
   obtain⟨m,rfl,hm2⟩:=pred (by simpa using hm)
   have e1:f n y=some false:=e1 n (by omega)
   rw [slices_IndexFunc_api_Expr_api_Expr_L1_s,a1z hd,cond_true,h1,Option.bind_some,e1,Option.bind_some,cond_false,inc64 (by omega)]
   exact ih n m (by omega) hm2
theorem c3l(l:List M.Expr)(hl:l.length<=1000000)(f:Nat->M.Expr->Option Bool)(Q:M.Expr->Prop)(H:∀y,y∈l->Tt (fun b=>b=false↔Q y) (fun n=>f n y)):
 Tt (fun b=>b=false↔∀y,y∈l->Q y) (fun n=>a0l n l (f n)):=by
 obtain⟨N,r,hr,ih⟩:=c1d l hl f Q l 0 rfl H
 refine⟨decide (0<=r),⟨N+l.length+1,fun n hn=> ?_⟩,?_⟩
 ·unfold a0l a1i
  dsimp only
  have e:slices_IndexFunc_api_Expr_api_Expr_L1 n l (f n) (some (-1)) n 0=some r:=ih n n (by omega) (by omega)
  rw [e];rfl
 ·show decide (0<=r)=false↔_
  rw [decide_eq_false_iff_not]
  rcases hr with h|h
  ·exact⟨fun _=>h.2,fun _=>by omega⟩
  ·exact⟨fun h5=>absurd h.1 h5,fun h5=>absurd h5 h.2⟩
theorem Shx.inv{o n:Int}{s:Rt.Bs}{l:List M.Expr}(h:Shx ⟨o,n,s,l⟩):0<=o/\o<=16/\(l.length:Int)=b7s o/\a8r o n s/\∀y,y∈l->Shx y:=by
 cases h with
 |mk h1 h2 h3 h4 h5=>exact⟨h1,h2,h3,h4,h5⟩
theorem e0u{x:M.Expr}(hx:Fit x):Tt (fun b=>b=true↔Shx x) (fun n=>tariff_shaped n x):=by
 induction hx with
 | @mk o k s l hl _ ih=>
  refine Tt.suc (fun n=>tariff_shaped_s _ n) ?_
  refine Tt.bind (P:=fun b=>b=false↔0<=o/\o<=16) (Tt.bif (fun h=>Tt.pure ?_) (fun h=>Tt.pure ?_)) ?_
  ·have h1:=of_decide_eq_true h
   dsimp only at h1
   exact⟨fun h=>(by cases h),fun h=>by omega⟩
  ·have h1:=of_decide_eq_false h
   dsimp only at h1
   rw [decide_eq_false_iff_not]
   dsimp only
   omega
  intro b hb
  refine Tt.bind (P:=fun c=>c=false↔(0<=o/\o<=16)/\(l.length:Int)=b7s o) (Tt.bif (fun h=>Tt.pure ?_) (fun h=> ?_)) ?_
  ·exact⟨fun h=>(by cases h),fun h5=>by have:=hb.2 h5.1;rw [this]at h;cases h⟩
  ·refine Tt.evb (Ev.all fun n=>d2l n _) (Tt.pure ?_)
   have:=hb.1 h
   simp only [bne_eq_false_iff_eq,this,true_and]
  intro c hc
  refine Tt.bif (fun h=>Tt.pure ⟨fun h=>(by cases h),fun h5=> ?_⟩) (fun h=> ?_)
  ·have h6:=h5.inv
   have:=hc.2 ⟨⟨h6.1,h6.2.1⟩,h6.2.2.1⟩
   rw [this]at h;cases h
  obtain⟨⟨h1,h2⟩,h3⟩:=hc.1 h
  have fin:∀{b:Bool},(b=true↔a8r o k s/\∀y,y∈l->Shx y)->(b=true↔Shx ⟨o,k,s,l⟩):=fun{b}hb=>hb.trans ⟨fun h=>Shx.mk h1 h2 h3 h.1 h.2,fun h=>⟨h.inv.2.2.2.1,h.inv.2.2.2.2⟩⟩
  refine Tt.bif (fun h0=> ?_) (fun h0=> ?_)
  ·have h0':o=0:=by simpa using h0
   subst h0'
   have hz:l= []:=by
    have:(l.length:Int)=0:=h3
    exact List.length_eq_zero_iff.1 (by omega)
   subst hz
   refine Tt.bind (P:=fun b=>b=true↔0<=k/\k<=1099511627776) (Tt.bif (fun h=>Tt.pure ?_) (fun h=>Tt.pure ?_)) fun b hb=> ?_
   ·have h5:=of_decide_eq_true h
    rw [decide_eq_true_iff]
    exact⟨fun h6=>⟨h5,h6⟩,fun h6=>h6.2⟩
   ·have h5:=of_decide_eq_false h
    exact⟨fun h6=>(by cases h6),fun h6=>absurd h6.1 h5⟩
   refine Tt.bind (P:=fun b=>b=true↔(0<=k/\k<=1099511627776)/\s= []) (Tt.bif (fun h=>Tt.pure ?_) (fun h=>Tt.pure ?_)) fun b hb2=> ?_
   ·have:=hb.1 h
    simp [this]
   ·exact⟨fun h6=>(by cases h6),fun h6=>by rw [hb.2 h6.1]at h;cases h⟩
   refine Tt.pure (fin ?_)
   rw [hb2]
   exact⟨fun h=>⟨h,by simp⟩,fun h=>h.1⟩
  have hn0:o≠0:=by simpa using h0
  refine Tt.bind (P:=fun b=>b=true↔o=1∨o=4) (Tt.bif (fun h=>Tt.pure ?_) (fun h=>Tt.pure ?_)) ?_
  ·have:o=1:=by simpa using h
   exact⟨fun _=> .inl this,fun _=>rfl⟩
  ·have:o≠1:=by simpa using h
   simp [this]
  intro b1 hb1
  refine Tt.bif (fun h4=> ?_) (fun h4=> ?_)
  ·have ho:=hb1.1 h4
   have hz:l= []:=by
    have:(l.length:Int)=0:=by rw [h3];rcases ho with rfl|rfl<;>rfl
    exact List.length_eq_zero_iff.1 (by omega)
   subst hz
   have hno:a8r o k s↔k=0/\Lx.name s=true:=by unfold a8r;rw [if_neg hn0,if_pos ho]
   refine Tt.bind (P:=fun b=>b=true↔k=0/\Lx.name s=true) (Tt.bif (fun h=> ?_) (fun h=>Tt.pure ?_)) fun b hb=> ?_
   ·have:k=0:=by simpa using h
    refine Tt.evb (c0b _) (Tt.pure ?_)
    simp [this]
   ·have:k≠0:=by simpa using h
    exact⟨fun h=>(by cases h),fun h=>absurd h.1 this⟩
   refine Tt.pure (fin ?_)
   rw [hb,hno]
   exact⟨fun h=>⟨h,by simp⟩,fun h=>h.1⟩
  have ho:¬(o=1∨o=4):=fun h5=>by rw [hb1.2 h5]at h4;cases h4
  have hno:a8r o k s↔k=0/\s= []:=by unfold a8r;rw [if_neg hn0,if_neg ho]
  refine Tt.bind (P:=fun b=>b=true↔k=0/\s= []) (Tt.bif (fun h=>Tt.pure ?_) (fun h=>Tt.pure ?_)) fun b hb=> ?_
  ·have:k=0:=by simpa using h
   simp [this]
  ·have:k≠0:=by simpa using h
   exact⟨fun h=>(by cases h),fun h=>absurd h.1 this⟩
  refine Tt.bind (P:=fun b=>b=true↔a8r o k s/\∀y,y∈l->Shx y) (Tt.bif (fun h=> ?_) (fun h=>Tt.pure ?_)) ?_
  ·refine Tt.bind (c3l l hl tariff_shaped_1 Shx (fun y hy=> ?_)) ?_
   ·refine Tt.suc (fun n=>a7j n _) ?_
    refine Tt.bind (ih y hy) ?_
    intro b hb
    refine Tt.pure ?_
    rw [<-hb];cases b<;>simp
   ·intro b2 hb2
    refine Tt.pure ?_
    rw [hno,<-hb,<-hb2,h]
    cases b2<;>simp
  ·exact⟨fun h5=>(by cases h5),fun h5=>by rw [hno,<-hb]at h5;rw [h5.1]at h;cases h⟩
  ·intro b hb
   exact Tt.pure (fin hb)
def Frm(x:M.Expr):Prop:=(dep x<=10/\cnt x<=100)/\Shx x
theorem e0f{x:M.Expr}(hx:Fit x):Tt (fun b=>b=true↔Frm x) (fun n=>a7a n x):=by
 unfold a7a
 refine Tt.bind (e7s hx 10 100 (by decide) (by decide)) fun r hr=> ?_
 have h5:r.2=true↔dep x<=10/\cnt x<=100:=⟨fun h=>⟨(hr.1 h).1,(hr.1 h).2.1⟩,fun h=>hr.2 h.1 h.2⟩
 refine Tt.bind (P:=fun b=>b=true↔Frm x) (Tt.bif (fun h=> ?_) (fun h=>Tt.pure ?_)) fun b hb=>Tt.pure hb
 ·refine Tt.bind (e0u hx) fun b hb=>Tt.pure ?_
  unfold Frm
  rw [hb,<-h5,h];simp
 ·exact⟨fun h6=>(by cases h6),fun h6=>by rw [h5.2 h6.1]at h;cases h⟩
def Wrt(t:Tariff):Prop:=Lx.name t.Name=true/\Frm t.Fee/\-1<=t.Cap/\t.Cap<=1099511627776
theorem d5h{t:Tariff}(hx:Fit t.Fee):Tt (fun b=>b=true↔Wrt t) (fun n=>a4v n t):=by
 unfold a4v
 refine Tt.evb (c0b _) ?_
 refine Tt.bind (P:=fun b=>b=true↔Lx.name t.Name=true/\Frm t.Fee) (Tt.bif (fun h=> ?_) (fun h=>Tt.pure ?_)) fun b hb=> ?_
 ·refine Tt.bind (e0f hx) fun b hb=>Tt.pure ?_
  rw [hb,h];simp
 ·exact⟨fun h6=>(by cases h6),fun h6=>by rw [h6.1]at h;cases h⟩
 refine Tt.bind (P:=fun b=>b=true↔(Lx.name t.Name=true/\Frm t.Fee)/\-1<=t.Cap) (Tt.bif (fun h=>Tt.pure ?_) (fun h=>Tt.pure ?_)) fun b hb=> ?_
 ·rw [decide_eq_true_iff,<-hb,h];simp
 ·exact⟨fun h6=>(by cases h6),fun h6=>by rw [hb.2 h6.1]at h;cases h⟩
 refine Tt.bind (P:=fun b=>b=true↔Wrt t) (Tt.bif (fun h=>Tt.pure ?_) (fun h=>Tt.pure ?_)) fun b hb=> ?_
 ·have:=hb.1 h
  rw [decide_eq_true_iff]
  exact⟨fun h5=>⟨this.1.1,this.1.2,this.2,h5⟩,fun h5=>h5.2.2.2⟩
 ·exact⟨fun h6=>(by cases h6),fun h6=>by rw [hb.2 ⟨⟨h6.1,h6.2.1⟩,h6.2.2.1⟩]at h;cases h⟩
 exact Tt.pure hb
end Go.Proofs.YthaegflpecbfgaaGreatDoor.Tp
