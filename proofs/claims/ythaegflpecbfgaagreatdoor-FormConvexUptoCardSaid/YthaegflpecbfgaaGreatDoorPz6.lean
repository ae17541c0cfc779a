/- Several texts in one, for FormConvex.card: what the theorem leans on. -/
import Derived.Test.YthaegflpecbfgaaGreatDoorRows
import Derived.KernelRfl
import Derived.Test.YthaegflpecbfgaaGreatDoorPz5
set_option maxHeartbeats 1000000
set_option maxRecDepth 1000000
namespace Go.Proofs.YthaegflpecbfgaaGreatDoor.M
open Go Go.RowKit Rt
set_option maxRecDepth 1000000
set_option maxHeartbeats 40000000
theorem c8j(n:Nat)(l1:(List Int)):FnO Wt 25 [.sl 2 l1] (b3a n l1) 44 4 3 (fun r=>r):=by
 refine b4y (n:=21) Tryz.func25 rfl rfl rfl (fun _ _=>by kernel_rfl) fun F0 w0 r=> ?_
 unfold b3a
 refine a3c ((fun k0 m(s:Int×List Frac)=>b3m n l1 k0 m s.1 s.2) _) (fun(s:Int×List Frac)=> [.r 3 3 s.2,.v 4 (.int .i64 s.1)]) (fun _=>rfl) (_,_) rfl rfl (fun _=>rfl) rfl fun K1 m1 hK1 z1=> ?_
 obtain⟨i1,l2⟩:=z1;dsimp only
 refine gC rfl (fun _=> ?_) (fun _=> ?_)
 ·
  refine gV rfl fun ex1=> ?_
  refine gK (b7c _ _) rfl rfl rfl fun v1=> ?_
  refine gP rfl fun l4=> ?_
  exact gE hK1 (_,_) rfl (by kernel_rfl)
 ·
  exact gRO rfl
theorem d2v(n:Nat)(s1:Bs):FnC Wt 33 [.str s1] (b3o n s1) (fun r=> .tup [.agg [.sl 4 r.1.Pieces],.int .i64 r.2]):=by
 refine a1i (n:=31) Tryz.func33 rfl rfl rfl (fun _ _=>by kernel_rfl) fun F0 w0 r=> ?_
 unfold b3o
 refine gV rfl fun t1=> ?_
 refine gV rfl fun t2=> ?_
 refine gK (c3u _ _) rfl rfl rfl fun v1=> ?_
 refine gC rfl (fun _=> ?_) (fun _=> ?_)
 ·
  exact gR rfl rfl rfl
 ·
  refine gK (d0a _ _ _ _) rfl rfl rfl fun v2=> ?_
  exact gR rfl rfl rfl
theorem d2x(n:Nat)(f1:Form)(want1:(List (List Int))):FnC Wt 34 [.agg [.sl 4 f1.Pieces],.sl 6 want1] (b8s n f1 want1) (fun r=> .ob r):=by
 refine a1i (n:=69) Tryz.func34 rfl rfl rfl (fun _ _=>by kernel_rfl) fun F0 w0 r=> ?_
 unfold b8s
 refine gC rfl (fun _=> ?_) (fun _=> ?_)
 ·
  exact gR rfl rfl rfl
 ·
  refine a3c ((fun k0 m(s:Int×(List (List Affine)))=>b7g n want1 k0 m s.1 s.2) _) (fun(s:Int×(List (List Affine)))=> [.b 2 [.sl 4 s.2],.v 5 (.int .i64 s.1)]) (fun _=>rfl) (_,_) rfl rfl (fun _=>rfl) rfl fun K1 m1 hK1 z1=> ?_
  obtain⟨i1,f2⟩:=z1;dsimp only
  refine gC rfl (fun _=> ?_) (fun _=> ?_)
  ·
   refine gV rfl fun ex1=> ?_
   refine gC rfl (fun _=> ?_) (fun _=> ?_)
   ·
    exact gR rfl rfl rfl
   ·
    refine gV rfl fun ex2=> ?_
    refine gV rfl fun ex3=> ?_
    refine gP rfl fun l1=> ?_
    refine gV rfl fun ex4=> ?_
    refine gC rfl (fun _=> ?_) (fun _=> ?_)
    ·
     exact gR rfl rfl rfl
    ·
     refine a3c ((fun k0 m(s:Int)=>b7n n want1 i1 l1 k0 m s) _) (fun(s:Int)=> [.v 8 (.int .i64 s)]) (fun _=>rfl) _ rfl rfl (fun _=>rfl) rfl fun K2 m2 hK2 k1=> ?_
     refine gC rfl (fun _=> ?_) (fun _=> ?_)
     ·
      refine gHs [(15,(pL [0,2,4,6,8,10,12,14,16,18,20,23,25,27] .nil))] rfl (by kernel_rfl) rfl rfl fun Ky=> ?_
      refine gV rfl fun ex5=> ?_
      refine gV rfl fun ex6=> ?_
      refine gV rfl fun ex7=> ?_
      refine gK (b7c _ _) rfl rfl rfl fun v1=> ?_
      refine gK (b2l _ _ _) rfl rfl rfl fun v2=> ?_
      refine gHe rfl ?_
      refine gC rfl (fun _=> ?_) (fun _=> ?_)
      ·
       exact gR rfl rfl rfl
      ·
       exact gE hK2 _ rfl (by kernel_rfl)
     ·
      exact gE hK1 (_,_) rfl (by kernel_rfl)
  ·
   exact gR rfl rfl rfl
theorem b2n(n:Nat)(s1:Bs)(r:(Form×Int))(hm:b3o n s1=some r){w:World}{F:Frz}(hs:Sat F w)(hg0:FX F 0 [.int .u8 40,.int .u8 41,.int .u8 44,.int .u8 59,.int .u8 58,.int .u8 61,.int .u8 60,.int .u8 43,.int .u8 45,.int .u8 42,.int .u8 47,.int .u8 123,.int .u8 125]):
 Calls Tryz.prog 33 #[vs s1] w fun e w'=>∃v F' O',e= .returned v/\HS F w [] F' O' w'/\(∃(a0_0:Option Addr)(n0_0:Nat)(c0_0:Nat),v= .tuple #[.agg #[.slice a0_0 n0_0 c0_0],.int .i64 r.2]/\O'= []/\SlR (Rp.sl rp_Affine) F' a0_0 n0_0 c0_0 r.1.Pieces):=
 (d2v n s1).2 r hm w F hs hg0 _ ⟨_,_,rfl,rfl,rfl⟩|>.mono fun e w'⟨v,F',e1,e2,e3⟩=>by
  obtain⟨_,rfl,⟨_,_,rfl,⟨_,rfl,⟨_,_,rfl,⟨_,_,_,rfl,g0⟩,rfl⟩⟩,⟨_,_,rfl,rfl,rfl⟩⟩⟩:=e3
  exact⟨_,F',[],e1,e2,⟨_,_,_,rfl,rfl,g0⟩⟩
theorem a4l(n:Nat)(f1:Form)(weights1:(List Frac))(r:(Frac×Bool))(hm:a6g n f1 weights1=some r){w:World}{F:Frz}(hs:Sat F w)(hg0:FX F 0 [.int .u8 40,.int .u8 41,.int .u8 44,.int .u8 59,.int .u8 58,.int .u8 61,.int .u8 60,.int .u8 43,.int .u8 45,.int .u8 42,.int .u8 47,.int .u8 123,.int .u8 125]){as1:Option Addr}{ns1:Nat}{cs1:Nat}{as2:Option Addr}{ns2:Nat}{cs2:Nat}(hs1:SlR (Rp.sl rp_Affine) F as1 ns1 cs1 f1.Pieces)(hs2:SlR rp_Frac F as2 ns2 cs2 weights1):
 Calls Tryz.prog 13 #[.agg #[.slice as1 ns1 cs1],.slice as2 ns2 cs2] w fun e w'=>∃v F' O',e= .returned v/\HS F w [] F' O' w'/\(∃(a0_1:Option Addr)(n0_1:Nat)(c0_1:Nat)(a0_3:Option Addr)(n0_3:Nat)(c0_3:Nat),v= .tuple #[.agg #[.int .i64 r.1.P.Sign,.slice a0_1 n0_1 c0_1,.int .i64 r.1.Q.Sign,.slice a0_3 n0_3 c0_3],.bool r.2]/\O'= []/\SlR (Rp.int .i64) F' a0_1 n0_1 c0_1 r.1.P.Digits/\SlR (Rp.int .i64) F' a0_3 n0_3 c0_3 r.1.Q.Digits):=
 (b1s n f1 weights1).2 r hm w F hs hg0 _ ⟨_,_,rfl,⟨_,rfl,⟨_,_,rfl,⟨_,_,_,rfl,hs1⟩,rfl⟩⟩,⟨_,_,rfl,⟨_,_,_,rfl,hs2⟩,rfl⟩⟩|>.mono fun e w'⟨v,F',e1,e2,e3⟩=>by
  obtain⟨_,rfl,⟨_,_,rfl,⟨_,rfl,⟨_,_,rfl,rfl,⟨_,_,rfl,⟨_,_,_,rfl,g0⟩,⟨_,_,rfl,rfl,⟨_,_,rfl,⟨_,_,_,rfl,g1⟩,rfl⟩⟩⟩⟩⟩,⟨_,_,rfl,rfl,rfl⟩⟩⟩:=e3
  exact⟨_,F',[],e1,e2,⟨_,_,_,_,_,_,rfl,rfl,g0,g1⟩⟩
theorem b9z(n:Nat)(f1:Form)(want1:(List (List Int)))(r:Bool)(hm:b8s n f1 want1=some r){w:World}{F:Frz}(hs:Sat F w)(hg0:FX F 0 [.int .u8 40,.int .u8 41,.int .u8 44,.int .u8 59,.int .u8 58,.int .u8 61,.int .u8 60,.int .u8 43,.int .u8 45,.int .u8 42,.int .u8 47,.int .u8 123,.int .u8 125]){as1:Option Addr}{ns1:Nat}{cs1:Nat}{as2:Option Addr}{ns2:Nat}{cs2:Nat}(hs1:SlR (Rp.sl rp_Affine) F as1 ns1 cs1 f1.Pieces)(hs2:SlR (Rp.sl (Rp.int .i64)) F as2 ns2 cs2 want1):
 Calls Tryz.prog 34 #[.agg #[.slice as1 ns1 cs1],.slice as2 ns2 cs2] w fun e w'=>∃v F' O',e= .returned v/\HS F w [] F' O' w'/\(v= .bool r/\O'= []):=
 (d2x n f1 want1).2 r hm w F hs hg0 _ ⟨_,_,rfl,⟨_,rfl,⟨_,_,rfl,⟨_,_,_,rfl,hs1⟩,rfl⟩⟩,⟨_,_,rfl,⟨_,_,_,rfl,hs2⟩,rfl⟩⟩|>.mono fun e w'⟨v,F',e1,e2,e3⟩=>by
  obtain rfl:=e3
  exact⟨_,F',[],e1,e2,⟨rfl,rfl⟩⟩
theorem b8f(n:Nat)(nx1:Int)(r:Frac)(hm:b1w n nx1=some r){w:World}{F:Frz}(hs:Sat F w)(hg0:FX F 0 [.int .u8 40,.int .u8 41,.int .u8 44,.int .u8 59,.int .u8 58,.int .u8 61,.int .u8 60,.int .u8 43,.int .u8 45,.int .u8 42,.int .u8 47,.int .u8 123,.int .u8 125]):
 Calls Tryz.prog 26 #[.int .i64 nx1] w fun e w'=>∃v F' O',e= .returned v/\HS F w [] F' O' w'/\(∃(a0_1:Option Addr)(n0_1:Nat)(c0_1:Nat)(a0_3:Option Addr)(n0_3:Nat)(c0_3:Nat),v= .agg #[.int .i64 r.P.Sign,.slice a0_1 n0_1 c0_1,.int .i64 r.Q.Sign,.slice a0_3 n0_3 c0_3]/\O'= []/\SlR (Rp.int .i64) F' a0_1 n0_1 c0_1 r.P.Digits/\SlR (Rp.int .i64) F' a0_3 n0_3 c0_3 r.Q.Digits):=
 (b7c n nx1).2 r hm w F hs hg0 _ ⟨_,_,rfl,rfl,rfl⟩|>.mono fun e w'⟨v,F',e1,e2,e3⟩=>by
  obtain⟨_,rfl,⟨_,_,rfl,rfl,⟨_,_,rfl,⟨_,_,_,rfl,g0⟩,⟨_,_,rfl,rfl,⟨_,_,rfl,⟨_,_,_,rfl,g1⟩,rfl⟩⟩⟩⟩⟩:=e3
  exact⟨_,F',[],e1,e2,⟨_,_,_,_,_,_,rfl,rfl,g0,g1⟩⟩
theorem b6r(n:Nat)(ax1:Frac)(b1:Frac)(r:Bool)(hm:a4s n ax1 b1=some r){w:World}{F:Frz}(hs:Sat F w)(hg0:FX F 0 [.int .u8 40,.int .u8 41,.int .u8 44,.int .u8 59,.int .u8 58,.int .u8 61,.int .u8 60,.int .u8 43,.int .u8 45,.int .u8 42,.int .u8 47,.int .u8 123,.int .u8 125]){as1:Option Addr}{ns1:Nat}{cs1:Nat}{as2:Option Addr}{ns2:Nat}{cs2:Nat}{as3:Option Addr}{ns3:Nat}{cs3:Nat}{as4:Option Addr}{ns4:Nat}{cs4:Nat}(hs1:SlR (Rp.int .i64) F as1 ns1 cs1 ax1.P.Digits)(hs2:SlR (Rp.int .i64) F as2 ns2 cs2 ax1.Q.Digits)(hs3:SlR (Rp.int .i64) F as3 ns3 cs3 b1.P.Digits)(hs4:SlR (Rp.int .i64) F as4 ns4 cs4 b1.Q.Digits):
 Calls Tryz.prog 16 #[.agg #[.int .i64 ax1.P.Sign,.slice as1 ns1 cs1,.int .i64 ax1.Q.Sign,.slice as2 ns2 cs2],.agg #[.int .i64 b1.P.Sign,.slice as3 ns3 cs3,.int .i64 b1.Q.Sign,.slice as4 ns4 cs4]] w fun e w'=>∃v F' O',e= .returned v/\HS F w [] F' O' w'/\(v= .bool r/\O'= []):=
 (b2l n ax1 b1).2 r hm w F hs hg0 _ ⟨_,_,rfl,⟨_,rfl,⟨_,_,rfl,rfl,⟨_,_,rfl,⟨_,_,_,rfl,hs1⟩,⟨_,_,rfl,rfl,⟨_,_,rfl,⟨_,_,_,rfl,hs2⟩,rfl⟩⟩⟩⟩⟩,⟨_,_,rfl,⟨_,rfl,⟨_,_,rfl,rfl,⟨_,_,rfl,⟨_,_,_,rfl,hs3⟩,⟨_,_,rfl,rfl,⟨_,_,rfl,⟨_,_,_,rfl,hs4⟩,rfl⟩⟩⟩⟩⟩,rfl⟩⟩|>.mono fun e w'⟨v,F',e1,e2,e3⟩=>by
  obtain rfl:=e3
  exact⟨_,F',[],e1,e2,⟨rfl,rfl⟩⟩
theorem a6w(n:Nat)(l1:(List Int))(r:(List Frac))(hm:b3a n l1=some r){w:World}{F:Frz}(hs:Sat F w)(hg0:FX F 0 [.int .u8 40,.int .u8 41,.int .u8 44,.int .u8 59,.int .u8 58,.int .u8 61,.int .u8 60,.int .u8 43,.int .u8 45,.int .u8 42,.int .u8 47,.int .u8 123,.int .u8 125]){as1:Option Addr}{ns1:Nat}{cs1:Nat}(hs1:SlR (Rp.int .i64) F as1 ns1 cs1 l1):
 Calls Tryz.prog 25 #[.slice as1 ns1 cs1] w fun e w'=>∃v F' O',e= .returned v/\HS F w [] F' O' w'/\(∃(a0_0:Option Addr)(n0_0:Nat)(c0_0:Nat)(xs0_0:List Value),v= .slice a0_0 n0_0 c0_0/\O'= [.row 44 4 a0_0 n0_0 c0_0 xs0_0]/\RowN rp_Frac F' n0_0 xs0_0 r):=
 (c8j n l1).2 r hm w F hs hg0 _ ⟨_,_,rfl,⟨_,_,_,rfl,hs1⟩,rfl⟩|>.mono fun e w'⟨v,F',a,m,nn,xs,e1,e2,e3,e4⟩=>⟨v,F',_,e1,e2,a,m,nn,xs,e4,rfl,e3⟩
theorem c4f(n:Nat)(r:Bool)(hm:b3h n=some r){w:World}{F:Frz}(hs:Sat F w)(hg0:FX F 0 [.int .u8 40,.int .u8 41,.int .u8 44,.int .u8 59,.int .u8 58,.int .u8 61,.int .u8 60,.int .u8 43,.int .u8 45,.int .u8 42,.int .u8 47,.int .u8 123,.int .u8 125]):
 Calls Tryz.prog 8 #[] w fun e w'=>∃v F' O',e= .returned v/\HS F w [] F' O' w'/\(v= .bool r/\O'= []):=by
 unfold b3h at hm
 have h:=HS.init hs
 refine a1v 112 Tryz.func8 Y Y Y (a0f (a0a (a0c Y Y Y (a0e (a0d (a0f (a0a ?_)))))))
 obtain⟨v1,lg,hm⟩:=Yb hm
 refine a1s ent33 Y Y Y Y h (b2n _ _ _ lg h.sat hg0) ?_
 rintro _ om _ on jo lh ⟨h0,h1,g7,rfl,rfl,li⟩
 refine a0b Y Y Y (a1a Y Y Y Y (a1a Y Y Y Y (a2y ze34 Y Y Y lh ?_)))
 intro b1 oo lj
 refine a0o sz34 Y lj Y Y Y Y (i:=0) Y Y Y Y ?_
 intro op kh
 refine a0c Y Y Y (a0e (a0d (a0f (a0a ?_))))
 obtain⟨v2,lk,hm⟩:=Yb hm
 refine a1s ent33 Y Y Y Y kh (b2n _ _ _ lk kh.sat (hg0.mono jo)) ?_
 rintro _ oq _ os jp ll ⟨h2,h3,h4,rfl,rfl,i6⟩
 refine a0b Y Y Y (a1a Y Y Y Y (a1a Y Y Y Y (a2y ze34 Y Y Y ll ?_)))
 intro b2 ot lm
 refine a0o sz34 Y lm Y Y Y Y (i:=0) Y Y Y Y ?_
 intro ou ki
 refine a0c Y Y Y (a0e (a0d (a0f (a0a ?_))))
 obtain⟨v3,ln,hm⟩:=Yb hm
 refine a1s ent33 Y Y Y Y ki (b2n _ _ _ ln ki.sat ((hg0.mono jo).mono jp)) ?_
 rintro _ i7 _ ov hk lo ⟨h5,h6,h7,rfl,rfl,i0⟩
 refine a0b Y Y Y (a1a Y Y Y Y (a1a Y Y Y Y (a2y ze34 Y Y Y lo ?_)))
 intro b3 ow lp
 refine a0o sz34 Y lp Y Y Y Y (i:=0) Y Y Y Y ?_
 intro ox lq
 refine a0c Y Y Y (a0e (a0d ?_))
 obtain⟨⟨f1,f2,f3,f4,one1⟩,M,hm⟩:=Yb hm
 refine d7l (fun a w'=>∃(g8:Frz)(b4:Nat)(g9:Option Addr)(ga:Nat)(gb:Nat)(gc:Option Addr)(gd:Nat)(ge:Nat),Frz.le i7 g8/\HS F w [] g8 [.box b4 44 [.int .i64 f1,.slice g9 ga gb,.int .i64 f3,.slice gc gd ge],.box b3 34 [.slice h5 h6 h7],.box b2 34 [.slice h2 h3 h4],.box b1 34 [.slice h0 h1 g7]] w'/\(SlR (Rp.int .i64) g8 g9 ga gb f2)/\(SlR (Rp.int .i64) g8 gc gd ge f4)/\Has 112 a [(1,.pointer (some ⟨b1,0,none⟩)),(2,.int .i64 v1.2),(3,.pointer (some ⟨b2,0,none⟩)),(4,.int .i64 v2.2),(5,.pointer (some ⟨b3,0,none⟩)),(6,.int .i64 v3.2),(7,.pointer (some ⟨b4,0,none⟩)),(8,.bool one1)]) ?_ ?_
 ·rintro a m8 ⟨g8,b4,g9,ga,gb,gc,gd,ge,hd,kp,lr,ls,kq⟩
  refine a2a kq ?_
  obtain⟨⟨f5,f6,f7,f8,two1⟩,N,hm⟩:=Yb hm
  refine d7l (fun a w'=>∃(i8:Frz)(b5:Nat)(he:Option Addr)(hf:Nat)(hg:Nat)(hh:Option Addr)(hi:Nat)(hj:Nat),Frz.le g8 i8/\HS F w [] i8 [.box b5 44 [.int .i64 f5,.slice he hf hg,.int .i64 f7,.slice hh hi hj],.box b4 44 [.int .i64 f1,.slice g9 ga gb,.int .i64 f3,.slice gc gd ge],.box b3 34 [.slice h5 h6 h7],.box b2 34 [.slice h2 h3 h4],.box b1 34 [.slice h0 h1 g7]] w'/\(SlR (Rp.int .i64) i8 he hf hg f6)/\(SlR (Rp.int .i64) i8 hh hi hj f8)/\Has 112 a [(1,.pointer (some ⟨b1,0,none⟩)),(2,.int .i64 v1.2),(3,.pointer (some ⟨b2,0,none⟩)),(4,.int .i64 v2.2),(5,.pointer (some ⟨b3,0,none⟩)),(6,.int .i64 v3.2),(7,.pointer (some ⟨b4,0,none⟩)),(8,.bool one1),(9,.pointer (some ⟨b5,0,none⟩)),(10,.bool two1)]) ?_ ?_
  ·rintro a m9 ⟨i8,b5,he,hf,hg,hh,hi,hj,i9,iq,lt,lu,kr⟩
   refine a2a kr (a0f (a0a (a4d (v:= .agg #[.slice none 0 0]) Y Y Y (fun _=>by kernel_rfl) ?_)))
   obtain⟨v4,lv,hm⟩:=Yb hm
   refine a1s ent13 Y Y Y Y iq (a4l _ _ _ _ lv iq.sat (hg0.mono iq.le) (SlR.nil _ _) (SlR.nil _ _)) ?_
   rintro _ oy _ ma i1 ks ⟨ia,ib,ic,id,ie,ig,rfl,rfl,oz,p0⟩
   refine a0b Y Y Y (a1a Y Y Y Y (a1a Y Y Y Y (a2y ze44 Y Y Y ks ?_)))
   intro b6 mb kt
   refine a0o sz44 Y kt Y Y Y Y (i:=0) Y Y Y Y ?_
   intro mc jq
   refine a0c Y Y Y (a0e (a0d (a0f (a0a ?_))))
   have lw:=((((jo.trans jp).trans hk).trans hd).trans i9).trans i1
   obtain⟨v5,lx,hm⟩:=Yb hm
   refine a1s ent33 Y Y Y Y jq (b2n _ _ _ lx jq.sat (hg0.mono lw)) ?_
   rintro _ jr _ md ih ku ⟨hn,ho,hp,rfl,rfl,me⟩
   refine a0b Y Y Y (a1a Y Y Y Y (a1a Y Y Y Y (a2y ze34 Y Y Y ku ?_)))
   intro b7 mf kv
   refine a0o sz34 Y kv Y Y Y Y (i:=0) Y Y Y Y ?_
   intro gf ir
   refine a0c Y Y Y (a0e (a0d (a0f (a0f (a0a (a0b Y Y Y (a0n Y Y Y Y Y (a0b Y Y Y ?_))))))))
   obtain⟨v6,ii,hm⟩:=Yb hm
   refine a6y 3 (fun a w'=>gf=w'/\Has 112 a [(1,.pointer (some ⟨b1,0,none⟩)),(3,.pointer (some ⟨b2,0,none⟩)),(5,.pointer (some ⟨b3,0,none⟩)),(6,.int .i64 v3.2),(7,.pointer (some ⟨b4,0,none⟩)),(8,.bool one1),(9,.pointer (some ⟨b5,0,none⟩)),(10,.bool two1),(12,.bool v4.2),(14,.int .i64 v5.2),(55,.bool v6)]) ?_ ?_
   ·rintro a mg ⟨rfl,kw⟩
    refine a1u kw (a0b Y Y Y ?_)
    obtain⟨v7,ij,hm⟩:=Yb hm
    refine a6y 3 (fun a w'=>gf=w'/\Has 112 a [(1,.pointer (some ⟨b1,0,none⟩)),(3,.pointer (some ⟨b2,0,none⟩)),(5,.pointer (some ⟨b3,0,none⟩)),(7,.pointer (some ⟨b4,0,none⟩)),(8,.bool one1),(9,.pointer (some ⟨b5,0,none⟩)),(10,.bool two1),(12,.bool v4.2),(14,.int .i64 v5.2),(59,.bool v7)]) ?_ ?_
    ·rintro a mh ⟨rfl,kx⟩
     refine a1u kx (a0b Y Y Y ?_)
     obtain⟨v8,ik,hm⟩:=Yb hm
     refine a6y 3 (fun a w'=>gf=w'/\Has 112 a [(1,.pointer (some ⟨b1,0,none⟩)),(3,.pointer (some ⟨b2,0,none⟩)),(5,.pointer (some ⟨b3,0,none⟩)),(7,.pointer (some ⟨b4,0,none⟩)),(8,.bool one1),(9,.pointer (some ⟨b5,0,none⟩)),(10,.bool two1),(12,.bool v4.2),(63,.bool v8)]) ?_ ?_
     ·rintro a mi ⟨rfl,ky⟩
      refine a1u ky (a0b Y Y Y ?_)
      obtain⟨v9,il,hm⟩:=Yb hm
      refine a6y 3 (fun a w'=>gf=w'/\Has 112 a [(1,.pointer (some ⟨b1,0,none⟩)),(3,.pointer (some ⟨b2,0,none⟩)),(5,.pointer (some ⟨b3,0,none⟩)),(7,.pointer (some ⟨b4,0,none⟩)),(9,.pointer (some ⟨b5,0,none⟩)),(10,.bool two1),(12,.bool v4.2),(67,.bool v9)]) ?_ ?_
      ·rintro a mj ⟨rfl,kz⟩
       refine a1u kz (a0b Y Y Y ?_)
       obtain⟨v10,im,hm⟩:=Yb hm
       refine a6y 3 (fun a w'=>gf=w'/\Has 112 a [(1,.pointer (some ⟨b1,0,none⟩)),(3,.pointer (some ⟨b2,0,none⟩)),(5,.pointer (some ⟨b3,0,none⟩)),(7,.pointer (some ⟨b4,0,none⟩)),(9,.pointer (some ⟨b5,0,none⟩)),(12,.bool v4.2),(71,.bool v10)]) ?_ ?_
       ·rintro a mk ⟨rfl,l0⟩
        refine a1u l0 (a0b Y Y Y ?_)
        obtain⟨v11,io,hm⟩:=Yb hm
        refine a6y 2 (fun a w'=>gf=w'/\Has 112 a [(1,.pointer (some ⟨b1,0,none⟩)),(3,.pointer (some ⟨b2,0,none⟩)),(5,.pointer (some ⟨b3,0,none⟩)),(7,.pointer (some ⟨b4,0,none⟩)),(9,.pointer (some ⟨b5,0,none⟩)),(74,.bool v11)]) ?_ ?_
        ·rintro a ml ⟨rfl,l1⟩
         refine a1u l1 (a0b Y Y Y ?_)
         obtain⟨v12,ip,hm⟩:=Yb hm
         refine a6y 5 (fun a w'=>gf=w'/\Has 112 a [(1,.pointer (some ⟨b1,0,none⟩)),(3,.pointer (some ⟨b2,0,none⟩)),(5,.pointer (some ⟨b3,0,none⟩)),(7,.pointer (some ⟨b4,0,none⟩)),(9,.pointer (some ⟨b5,0,none⟩)),(80,.bool v12)]) ?_ ?_
         ·rintro a mm ⟨rfl,l2⟩
          refine a1u l2 (a0e (a0d ?_))
          rcases a0g hm with⟨it,hm⟩|⟨it,hm⟩
          ·refine a0v 80 rfl it ?_
           refine a1l Y (a0f (a0a (a0c Y Y Y (a0e (a0d (a3b (a0l (a6z Y Y ?_))))))))
           obtain rfl:=Yo hm
           exact⟨_,_,_,Y,ir.Yp [] Y Y,Y,Y⟩
          ·refine a0v 80 rfl it ?_
           refine a0q Y (a1y (a0d ?_))
           obtain⟨v13,H,hm⟩:=Yb hm
           refine d7l (fun a w'=>∃(js:Frz),Frz.le jr js/\HS F w [] js [.box b7 34 [.slice hn ho hp],.box b6 44 [.int .i64 v4.1.P.Sign,.slice ia ib ic,.int .i64 v4.1.Q.Sign,.slice id ie ig],.box b5 44 [.int .i64 f5,.slice he hf hg,.int .i64 f7,.slice hh hi hj],.box b4 44 [.int .i64 f1,.slice g9 ga gb,.int .i64 f3,.slice gc gd ge],.box b3 34 [.slice h5 h6 h7],.box b2 34 [.slice h2 h3 h4],.box b1 34 [.slice h0 h1 g7]] w'/\Has 112 a [(0,.bool v13)]) ?_ ?_
           ·rintro a mn ⟨js,p1,l3,kb⟩
            refine a2a kb (a3b (a6z Y Y ?_))
            obtain rfl:=Yo hm
            exact⟨_,_,_,Y,l3.Yp [] Y Y,Y,Y⟩
           ·clear hm
            refine a6u (SH jr [.box b7 34 [.slice hn ho hp],.box b6 44 [.int .i64 v4.1.P.Sign,.slice ia ib ic,.int .i64 v4.1.Q.Sign,.slice id ie ig],.box b5 44 [.int .i64 f5,.slice he hf hg,.int .i64 f7,.slice hh hi hj],.box b4 44 [.int .i64 f1,.slice g9 ga gb,.int .i64 f3,.slice gc gd ge],.box b3 34 [.slice h5 h6 h7],.box b2 34 [.slice h2 h3 h4],.box b1 34 [.slice h0 h1 g7]]) 32 Y (by kernel_rfl) ir ?_
            intro mo jt
            refine d_tk 0 Y (by kernel_rfl) Y Y Y Y (jt.Ys Yf [0,1,2,3,4,5,6] Y Y) (fun _ _ _ _ hq=>a5b ag34 sz34 Y Y hq Y (i:=6) Y Y Yn) (a1r 1 Y (by kernel_rfl) (a0i (e:=3) (cs:= [.int .i64 11,.int .i64 0,.int .i64 0]) (q:=1) Y Y jt Y (fun _=>by kernel_rfl) Y Y ?_))
            intro b8 mp ju
            refine a0y (ju.Ys Yf [1,2,3,4,5,6,7] Y Y) (a1r 2 Y (by kernel_rfl) ?_)
            obtain⟨ly,x,l4,hsx1⟩:=a1n ju (i:=0) Y ((show RowN (Rp.int .i64) jr 3 [.int .i64 11,.int .i64 0,.int .i64 0] [11,0,0]from⟨Y,⟨_,_,Y,Y,⟨_,_,Y,Y,⟨_,_,Y,Y,(Y:RowR (Rp.int .i64) _ [] [])⟩⟩⟩⟩))
            refine a0i (e:=28) (cs:= [.slice (some ⟨b8,0,none⟩) 3 3]) (q:=1) Y Y l4 Y (fun _=>by kernel_rfl) Y Y ?_
            intro b9 mq jv
            refine a0y (jv.Ys x [1,2,3,4,5,6,7] Y Y) (a1r 3 Y (by kernel_rfl) ?_)
            obtain⟨mr,g,iu,hsx2⟩:=a1n jv (i:=0) Y ((show RowN (Rp.sl (Rp.int .i64)) ly 1 [.slice (some ⟨b8,0,none⟩) 3 3] [[11,0,0]]from⟨Y,⟨_,_,Y,⟨(some ⟨b8,0,none⟩),3,3,Y,hsx1⟩,(Y:RowR (Rp.sl (Rp.int .i64)) _ [] [])⟩⟩))
            have lz:=((((((jp.trans hk).trans hd).trans i9).trans i1).trans ih).trans x).trans g
            obtain⟨v14,m0,H⟩:=Yb H
            refine a1s ent34 Y Y Y Y iu (b9z _ _ _ _ m0 iu.sat (hg0.mono iu.le) (li.mono lz) hsx2) ?_
            rintro _ jw _ ms s iv ⟨rfl,rfl⟩
            have S0:=iv.Ys ((x.trans g).trans s) [0,1,2,3,4,5,6] Y Y
            refine a0y S0 (d_tk 4 Y (by kernel_rfl) Y Y Y Y S0 (fun _ _ _ _ _=>a0b Y Y Y Yn) ?_)
            obtain⟨v15,gg,H⟩:=Yb H
            refine d7w (fuel':=19) (listed':= #[true,true,true,true,true,true,true,true,true,true,true,true,true,false,false,false,false,false,false,false,false,false,false,false,false,false,false,false,false,false,false,false]) (fun a w'=>∃(i2:Frz),Frz.le jw i2/\HS F w [] i2 [.box b7 34 [.slice hn ho hp],.box b6 44 [.int .i64 v4.1.P.Sign,.slice ia ib ic,.int .i64 v4.1.Q.Sign,.slice id ie ig],.box b5 44 [.int .i64 f5,.slice he hf hg,.int .i64 f7,.slice hh hi hj],.box b4 44 [.int .i64 f1,.slice g9 ga gb,.int .i64 f3,.slice gc gd ge],.box b3 34 [.slice h5 h6 h7],.box b2 34 [.slice h2 h3 h4],.box b1 34 [.slice h0 h1 g7]] w'/\Has 112 a [(5,.pointer (some ⟨b3,0,none⟩)),(7,.pointer (some ⟨b4,0,none⟩)),(9,.pointer (some ⟨b5,0,none⟩)),(93,.bool v15)]) ?_ (fun kj=> ?_)
            ·rintro a l5 ⟨i2,G,hr,kc⟩
             refine c0y kc ?_
             have S1:=hr.Ys (((x.trans g).trans s).trans G) [0,1,2,3,4,5,6] Y Y
             refine d_tk 13 Y (by kernel_rfl) Y Y Y Y S1 (fun _ _ _ _ _=>a0b Y Y Y Yn) ?_
             obtain⟨v16,gh,H⟩:=Yb H
             refine d7w (fuel':=11) (listed':= #[true,true,true,true,true,true,true,true,true,true,true,true,true,true,true,true,true,true,true,true,true,false,false,false,false,false,false,false,false,false,false,false]) (fun a w'=>l5=w'/\Has 112 a [(7,.pointer (some ⟨b4,0,none⟩)),(9,.pointer (some ⟨b5,0,none⟩)),(101,.bool v16)]) ?_ (fun kk=> ?_)
             ·rintro a mt ⟨rfl,kd⟩
              refine c0y kd (d_tk 21 Y (by kernel_rfl) Y Y Y Y S1 (fun _ _ _ _ _=>a0b Y Y Y Yn) ?_)
              obtain⟨v17,g3,H⟩:=Yb H
              refine d7w (fuel':=6) (listed':= #[true,true,true,true,true,true,true,true,true,true,true,true,true,true,true,true,true,true,true,true,true,true,true,true,true,true,false,false,false,false,false,false]) (fun a w'=>∃(i3:Frz),Frz.le i2 i3/\HS F w [] i3 [.box b7 34 [.slice hn ho hp],.box b6 44 [.int .i64 v4.1.P.Sign,.slice ia ib ic,.int .i64 v4.1.Q.Sign,.slice id ie ig],.box b5 44 [.int .i64 f5,.slice he hf hg,.int .i64 f7,.slice hh hi hj],.box b4 44 [.int .i64 f1,.slice g9 ga gb,.int .i64 f3,.slice gc gd ge],.box b3 34 [.slice h5 h6 h7],.box b2 34 [.slice h2 h3 h4],.box b1 34 [.slice h0 h1 g7]] w'/\Has 112 a [(9,.pointer (some ⟨b5,0,none⟩)),(106,.bool v17)]) ?_ (fun kl=> ?_)
              ·rintro a mu ⟨i3,R,g2,ke⟩
               refine c0y ke (d_tk 26 Y (by kernel_rfl) Y Y Y Y (g2.sh ((((x.trans g).trans s).trans G).trans R) [0,1,2,3,4,5,6] (by decide) Y) (fun _ _ _ _ _=>a0b Y Y Y Yn) ?_)
               obtain⟨v18,g4,H⟩:=Yb H
               refine d7w (fuel':=1) (listed':= #[true,true,true,true,true,true,true,true,true,true,true,true,true,true,true,true,true,true,true,true,true,true,true,true,true,true,true,true,true,true,true,false]) (fun a w'=>∃(iw:Frz),Frz.le i3 iw/\HS F w [] iw [.box b7 34 [.slice hn ho hp],.box b6 44 [.int .i64 v4.1.P.Sign,.slice ia ib ic,.int .i64 v4.1.Q.Sign,.slice id ie ig],.box b5 44 [.int .i64 f5,.slice he hf hg,.int .i64 f7,.slice hh hi hj],.box b4 44 [.int .i64 f1,.slice g9 ga gb,.int .i64 f3,.slice gc gd ge],.box b3 34 [.slice h5 h6 h7],.box b2 34 [.slice h2 h3 h4],.box b1 34 [.slice h0 h1 g7]] w'/\Has 112 a [(111,.bool v18)]) ?_ (fun km=> ?_)
               ·rintro a mv ⟨iw,jx,jy,kf⟩
                refine c0y kf (d_tk 31 Y (by kernel_rfl) Y Y Y Y (jy.sh (((((x.trans g).trans s).trans G).trans R).trans jx) [0,1,2,3,4,5,6] (by decide) Y) (fun _ _ _ _ _=>a0c Y Y Y Yn) (a7x (by kernel_rfl) (a0k (fun a ha=> ?_))))
                cases H
                exact⟨_,(((((x.trans g).trans s).trans G).trans R).trans jx),jy.Yp [0,1,2,3,4,5,6] Y Y,ha.cut (l:= [0]) Y⟩
               ·clear H
                rcases a0g g4 with⟨ix,g4⟩|⟨ix,g4⟩
                ·refine c6l 107 rfl ix ?_
                 refine d_tk 27 Y (by kernel_rfl) Y Y Y Y (g2.sh ((((x.trans g).trans s).trans G).trans R) [0,1,2,3,4,5,6] (by decide) Y) (fun _ _ _ _ hq=>a5b ag44 sz44 Y Y hq Y (i:=2) Y Y Yn) (a1r 28 Y (by kernel_rfl) ?_)
                 obtain⟨v19,m1,g4⟩:=Yb g4
                 refine a1s ent26 Y Y Y Y g2 (b8f _ _ _ m1 g2.sat (hg0.mono g2.le)) ?_
                 rintro _ mw _ mx ht i4 ⟨my,mz,o0,o2,o3,o4,rfl,rfl,l6,l7⟩
                 refine a0y (i4.sh (((((x.trans g).trans s).trans G).trans R).trans ht) [0,1,2,3,4,5,6] (by decide) Y) (a1r 29 Y (by kernel_rfl) ?_)
                 have kn:=((((((i1.trans ih).trans x).trans g).trans s).trans G).trans R).trans ht
                 obtain⟨v20,m2,g4⟩:=Yb g4
                 refine a1s ent16 Y Y Y Y i4 (b6r _ _ _ _ m2 i4.sat (hg0.mono i4.le) (lt.mono kn) (lu.mono kn) l6 l7) ?_
                 rintro _ o5 _ o6 iy iz ⟨rfl,rfl⟩
                 refine a0y (iz.sh ((((((x.trans g).trans s).trans G).trans R).trans ht).trans iy) [0,1,2,3,4,5,6] (by decide) Y) (d_tk 30 Y (by kernel_rfl) Y Y Y Y (iz.sh ((((((x.trans g).trans s).trans G).trans R).trans ht).trans iy) [0,1,2,3,4,5,6] (by decide) Y) (fun _ _ _ _ _=>a0m Y Y Y Y Yn) (c7p km (by kernel_rfl) (fun a ha=> ?_)))
                 cases g4
                 exact⟨_,(ht.trans iy),iz.Yp [0,1,2,3,4,5,6] Y Y,ha.cut (l:= [111]) Y⟩
                ·refine c6l 107 rfl ix ?_
                 refine d_of 27 Y (by kernel_rfl) Y Y Y (g2.sh ((((x.trans g).trans s).trans G).trans R) [0,1,2,3,4,5,6] (by decide) Y) (d_of 28 Y (by kernel_rfl) Y Y Y (g2.sh ((((x.trans g).trans s).trans G).trans R) [0,1,2,3,4,5,6] (by decide) Y) (d_of 29 Y (by kernel_rfl) Y Y Y (g2.sh ((((x.trans g).trans s).trans G).trans R) [0,1,2,3,4,5,6] (by decide) Y) (d_tk 30 Y (by kernel_rfl) Y Y Y Y (g2.sh ((((x.trans g).trans s).trans G).trans R) [0,1,2,3,4,5,6] (by decide) Y) (fun _ _ _ _ _=>a0j Y Y Y Y Yn) (c7p km (by kernel_rfl) (fun a ha=> ?_)))))
                 cases g4
                 exact⟨_,Yf,g2.Yp [0,1,2,3,4,5,6] Y Y,ha.cut (l:= [111]) Y⟩
              ·clear H
               rcases a0g g3 with⟨j0,g3⟩|⟨j0,g3⟩
               ·refine c6l 102 rfl j0 ?_
                refine d_tk 22 Y (by kernel_rfl) Y Y Y Y S1 (fun _ _ _ _ hq=>a5b ag44 sz44 Y Y hq Y (i:=3) Y Y Yn) (a1r 23 Y (by kernel_rfl) ?_)
                obtain⟨v21,m3,g3⟩:=Yb g3
                refine a1s ent26 Y Y Y Y hr (b8f _ _ _ m3 hr.sat (hg0.mono hr.le)) ?_
                rintro _ o7 _ o8 hu i5 ⟨o9,oa,ob,oc,od,oe,rfl,rfl,l8,l9⟩
                refine a0y (i5.sh ((((x.trans g).trans s).trans G).trans hu) [0,1,2,3,4,5,6] (by decide) Y) (a1r 24 Y (by kernel_rfl) ?_)
                have ko:=((((((i9.trans i1).trans ih).trans x).trans g).trans s).trans G).trans hu
                obtain⟨v22,la,g3⟩:=Yb g3
                refine a1s ent16 Y Y Y Y i5 (b6r _ _ _ _ la i5.sat (hg0.mono i5.le) (lr.mono ko) (ls.mono ko) l8 l9) ?_
                rintro _ of _ og j1 j2 ⟨rfl,rfl⟩
                refine a0y (j2.sh (((((x.trans g).trans s).trans G).trans hu).trans j1) [0,1,2,3,4,5,6] (by decide) Y) (d_tk 25 Y (by kernel_rfl) Y Y Y Y (j2.sh (((((x.trans g).trans s).trans G).trans hu).trans j1) [0,1,2,3,4,5,6] (by decide) Y) (fun _ _ _ _ _=>a0m Y Y Y Y Yn) (c7p kl (by kernel_rfl) (fun a ha=> ?_)))
                cases g3
                exact⟨_,(hu.trans j1),j2.Yp [0,1,2,3,4,5,6] Y Y,ha.cut (l:= [9,106]) Y⟩
               ·refine c6l 102 rfl j0 ?_
                refine d_of 22 Y (by kernel_rfl) Y Y Y S1 (d_of 23 Y (by kernel_rfl) Y Y Y S1 (d_of 24 Y (by kernel_rfl) Y Y Y S1 (d_tk 25 Y (by kernel_rfl) Y Y Y Y S1 (fun _ _ _ _ _=>a0j Y Y Y Y Yn) (c7p kl (by kernel_rfl) (fun a ha=> ?_)))))
                cases g3
                exact⟨_,Yf,hr.Yp [0,1,2,3,4,5,6] Y Y,ha.cut (l:= [9,106]) Y⟩
             ·clear H
              rcases a0g gh with⟨j3,gh⟩|⟨j3,gh⟩
              ·refine c6l 94 rfl j3 ?_
               refine d_tk 14 Y (by kernel_rfl) Y Y Y Y S1 (fun _ _ _ _ _=>a0h fa34_0 Y Y Y Yn) (d_tk 15 Y (by kernel_rfl) Y Y Y Y S1 (fun _ _ _ _ hq=>a1m ag32 Y Y hq Y (i:=4) Y Y Yn) ?_)
               obtain⟨ex1,m4,gh⟩:=Yb gh
               obtain⟨b10,o1,g7,m5,m6,kg⟩:=b1e (P:=Tryz.prog) (r:=(Rp.sl rp_Affine)) u32 sz57 ((((i0.mono hd).mono i9).mono i1).mono ih) m4
               obtain⟨oh,oi,oj,m7,lb⟩:=m6
               subst m7
               refine c6q 16 Y (by kernel_rfl) (by kernel_rfl) (by kernel_rfl) Y Y Y Y kg S1 (d_tk 17 Y (by kernel_rfl) Y Y Y Y S1 (fun _ _ _ hleq hq=>a6k (j:=0) ag57 Y Y hq (m5.mono (hleq)) Y Y Yn) (d_tk 18 Y (by kernel_rfl) Y Y Y Y S1 (fun _ _ _ _ _=>a6c lb.len u57 Y Y Y Yn) (d_tk 19 Y (by kernel_rfl) Y Y Y Y S1 (fun _ _ _ _ _=>a0n Y Y Y Y Y Yn) (d_tk 20 Y (by kernel_rfl) Y Y Y Y S1 (fun _ _ _ _ _=>a0m Y Y Y Y Yn) (c7p kk (by kernel_rfl) (fun a ha=> ?_))))))
               cases gh
               exact⟨Y,ha.cut (l:= [7,9,101]) Y⟩
              ·refine c6l 94 rfl j3 ?_
               refine d_of 14 Y (by kernel_rfl) Y Y Y S1 (d_of 15 Y (by kernel_rfl) Y Y Y S1 (d_of 16 Y (by kernel_rfl) Y Y Y S1 (d_of 17 Y (by kernel_rfl) Y Y Y S1 (d_of 18 Y (by kernel_rfl) Y Y Y S1 (d_of 19 Y (by kernel_rfl) Y Y Y S1 (d_tk 20 Y (by kernel_rfl) Y Y Y Y S1 (fun _ _ _ _ _=>a0j Y Y Y Y Yn) ?_))))))
               refine c7p kk (by kernel_rfl) (fun a ha=> ?_)
               cases gh
               exact⟨Y,ha.cut (l:= [7,9,101]) Y⟩
            ·clear H
             rcases a0g gg with⟨j4,gg⟩|⟨j4,gg⟩
             ·refine c6l 85 rfl j4 ?_
              refine d_tk 5 Y (by kernel_rfl) Y Y Y Y S0 (fun _ _ _ _ hq=>a5b ag34 sz34 Y Y hq Y (i:=5) Y Y Yn) ?_
              have hz:=iv
              have hl:=Frz.refl jw
              refine c8x [6,7,8,9] (by kernel_rfl) Y (a3p Y ?_ (a3p Y ?_ (a3p Y ?_ (a3p Y ?_ (steps_nil)))))
              all_goals repeat' first
               |(refine a0i (e:=3) (vl:= [(0,.int .i64 0),(1,.int .i64 1),(2,.int .i64 (-1))]) (cs:= [.int .i64 0,.int .i64 1,.int .i64 (-1)]) (q:=1) rfl rfl hz rfl (fun _=>by kernel_rfl) rfl rfl ?_;intro p6 wz hz;obtain⟨Fz,hF,hz,s6⟩:=a1n hz (i:=0) rfl (show RowN (Rp.int .i64) _ 3 [.int .i64 0,.int .i64 1,.int .i64 (-1)] [0,1,(-1)]from⟨rfl,⟨_,_,rfl,rfl,⟨_,_,rfl,rfl,⟨_,_,rfl,rfl,(rfl:RowR (Rp.int .i64) _ [] [])⟩⟩⟩⟩);replace hl:=hl.trans hF;(try replace s7:=s7.mono hF);(try replace s8:=s8.mono hF);(try replace s9:=s9.mono hF);refine a0y (hz.Ys (((x.trans g).trans s).trans hl) [0,1,2,3,4,5,6] Y Y) ?_)
               |(refine a0i (e:=3) (vl:= [(0,.int .i64 (-1)),(1,.int .i64 1),(2,.int .i64 0)]) (cs:= [.int .i64 (-1),.int .i64 1,.int .i64 0]) (q:=1) rfl rfl hz rfl (fun _=>by kernel_rfl) rfl rfl ?_;intro p7 wz hz;obtain⟨Fz,hF,hz,s7⟩:=a1n hz (i:=0) rfl (show RowN (Rp.int .i64) _ 3 [.int .i64 (-1),.int .i64 1,.int .i64 0] [(-1),1,0]from⟨rfl,⟨_,_,rfl,rfl,⟨_,_,rfl,rfl,⟨_,_,rfl,rfl,(rfl:RowR (Rp.int .i64) _ [] [])⟩⟩⟩⟩);replace hl:=hl.trans hF;(try replace s6:=s6.mono hF);(try replace s8:=s8.mono hF);(try replace s9:=s9.mono hF);refine a0y (hz.Ys (((x.trans g).trans s).trans hl) [0,1,2,3,4,5,6] Y Y) ?_)
               |(refine a0i (e:=3) (vl:= [(0,.int .i64 10),(1,.int .i64 0),(2,.int .i64 (-1))]) (cs:= [.int .i64 10,.int .i64 0,.int .i64 (-1)]) (q:=1) rfl rfl hz rfl (fun _=>by kernel_rfl) rfl rfl ?_;intro p8 wz hz;obtain⟨Fz,hF,hz,s8⟩:=a1n hz (i:=0) rfl (show RowN (Rp.int .i64) _ 3 [.int .i64 10,.int .i64 0,.int .i64 (-1)] [10,0,(-1)]from⟨rfl,⟨_,_,rfl,rfl,⟨_,_,rfl,rfl,⟨_,_,rfl,rfl,(rfl:RowR (Rp.int .i64) _ [] [])⟩⟩⟩⟩);replace hl:=hl.trans hF;(try replace s6:=s6.mono hF);(try replace s7:=s7.mono hF);(try replace s9:=s9.mono hF);refine a0y (hz.Ys (((x.trans g).trans s).trans hl) [0,1,2,3,4,5,6] Y Y) ?_)
               |(refine a0i (e:=3) (vl:= [(0,.int .i64 9),(1,.int .i64 0),(2,.int .i64 0)]) (cs:= [.int .i64 9,.int .i64 0,.int .i64 0]) (q:=1) rfl rfl hz rfl (fun _=>by kernel_rfl) rfl rfl ?_;intro p9 wz hz;obtain⟨Fz,hF,hz,s9⟩:=a1n hz (i:=0) rfl (show RowN (Rp.int .i64) _ 3 [.int .i64 9,.int .i64 0,.int .i64 0] [9,0,0]from⟨rfl,⟨_,_,rfl,rfl,⟨_,_,rfl,rfl,⟨_,_,rfl,rfl,(rfl:RowR (Rp.int .i64) _ [] [])⟩⟩⟩⟩);replace hl:=hl.trans hF;(try replace s6:=s6.mono hF);(try replace s7:=s7.mono hF);(try replace s8:=s8.mono hF);refine a0y (hz.Ys (((x.trans g).trans s).trans hl) [0,1,2,3,4,5,6] Y Y) ?_)
               |refine c8x [6,7,8] (by decide+kernel) rfl (a3p rfl ?_ (a3p rfl ?_ (a3p rfl ?_ (steps_nil))))
               |refine c8x [6,7,9] (by decide+kernel) rfl (a3p rfl ?_ (a3p rfl ?_ (a3p rfl ?_ (steps_nil))))
               |refine c8x [6,8,9] (by decide+kernel) rfl (a3p rfl ?_ (a3p rfl ?_ (a3p rfl ?_ (steps_nil))))
               |refine c8x [7,8,9] (by decide+kernel) rfl (a3p rfl ?_ (a3p rfl ?_ (a3p rfl ?_ (steps_nil))))
               |refine b6i 6 7 rfl rfl (by decide+kernel) ?_ ?_
               |refine b6i 6 8 rfl rfl (by decide+kernel) ?_ ?_
               |refine b6i 6 9 rfl rfl (by decide+kernel) ?_ ?_
               |refine b6i 7 8 rfl rfl (by decide+kernel) ?_ ?_
               |refine b6i 7 9 rfl rfl (by decide+kernel) ?_ ?_
               |refine b6i 8 9 rfl rfl (by decide+kernel) ?_ ?_
               |refine a1r 6 rfl (by decide+kernel) ?_
               |refine a1r 7 rfl (by decide+kernel) ?_
               |refine a1r 8 rfl (by decide+kernel) ?_
               |refine a1r 9 rfl (by decide+kernel) ?_
               |fail
              all_goals
               refine a1r 10 Y (by kernel_rfl) (a0i (e:=28) (cs:= [.slice (some ⟨p6,0,none⟩) 3 3,.slice (some ⟨p7,0,none⟩) 3 3,.slice (some ⟨p8,0,none⟩) 3 3,.slice (some ⟨p9,0,none⟩) 3 3]) (q:=1) Y Y hz Y (fun _=>by kernel_rfl) Y Y ?_)
               intro p10 wz hz
               obtain⟨Fz,hF,hz,s10⟩:=a1n hz (i:=0) Y (show RowN (Rp.sl (Rp.int .i64)) _ 4 [.slice (some ⟨p6,0,none⟩) 3 3,.slice (some ⟨p7,0,none⟩) 3 3,.slice (some ⟨p8,0,none⟩) 3 3,.slice (some ⟨p9,0,none⟩) 3 3] [[0,1,(-1)],[(-1),1,0],[10,0,(-1)],[9,0,0]]from⟨Y,⟨_,_,Y,⟨(some ⟨p6,0,none⟩),3,3,Y,s6⟩,⟨_,_,Y,⟨(some ⟨p7,0,none⟩),3,3,Y,s7⟩,⟨_,_,Y,⟨(some ⟨p8,0,none⟩),3,3,Y,s8⟩,⟨_,_,Y,⟨(some ⟨p9,0,none⟩),3,3,Y,s9⟩,(Y:RowR (Rp.sl (Rp.int .i64)) _ [] [])⟩⟩⟩⟩⟩)
               replace hl:=hl.trans hF
               refine a0y (hz.Ys (((x.trans g).trans s).trans hl) [0,1,2,3,4,5,6] Y Y) (a1r 11 Y (by kernel_rfl) ?_)
               obtain⟨v23,lc,gg⟩:=Yb gg
               refine a1s ent34 Y Y Y Y hz (b9z _ _ _ _ lc hz.sat (hg0.mono hz.le) (i6.mono ((((((hk.trans hd).trans i9).trans i1).trans ih).trans (((x.trans g).trans s).trans hl)))) s10) ?_
               rintro _ Fz _ wz hF hz ⟨rfl,rfl⟩
               replace hl:=hl.trans hF
               refine a0y (hz.Ys (((x.trans g).trans s).trans hl) [0,1,2,3,4,5,6] Y Y) (d_tk 12 Y (by kernel_rfl) Y Y Y Y (hz.Ys (((x.trans g).trans s).trans hl) [0,1,2,3,4,5,6] Y Y) (fun _ _ _ _ _=>a0m Y Y Y Y Yn) (c7p kj (by kernel_rfl) (fun a ha=> ?_)))
               cases gg
               exact⟨_,hl,hz.Yp [0,1,2,3,4,5,6] Y Y,ha.cut (l:= [5,7,9,93]) Y⟩
             ·refine c6l 85 rfl j4 ?_
              refine d_of 5 Y (by kernel_rfl) Y Y Y S0 (d_of 6 Y (by kernel_rfl) Y Y Y S0 (d_of 7 Y (by kernel_rfl) Y Y Y S0 (d_of 8 Y (by kernel_rfl) Y Y Y S0 (d_of 9 Y (by kernel_rfl) Y Y Y S0 (d_of 10 Y (by kernel_rfl) Y Y Y S0 (d_of 11 Y (by kernel_rfl) Y Y Y S0 ?_))))))
              refine d_tk 12 Y (by kernel_rfl) Y Y Y Y S0 (fun _ _ _ _ _=>a0j Y Y Y Y Yn) (c7p kj (by kernel_rfl) (fun a ha=> ?_))
              cases gg
              exact⟨_,Yf,iv.Yp [0,1,2,3,4,5,6] Y Y,ha.cut (l:= [5,7,9,93]) Y⟩
         ·clear hm
          rcases a0g ip with⟨j5,ip⟩|⟨j5,ip⟩
          ·refine a2q 75 rfl j5 ?_
           refine a0x Y (by decide) Y (a0x Y (by decide) Y (a0x Y (by decide) Y (a0x Y (by decide) Y (a0m Y Y Y Y (a0e (a0k (fun a ha=> ?_)))))))
           cases ip
           exact⟨Y,ha.cut (l:= [1,3,5,7,9,80]) Y⟩
          ·refine a2q 75 rfl j5 ?_
           refine a0h fa34_0 Y Y Y (a1m ag32 Y Y ir Y (i:=4) Y Y (a6c i0.len u32 Y Y Y (a0n Y Y Y Y Y (a0j Y Y Y Y (a0e (a0k (fun a ha=> ?_)))))))
           cases ip
           exact⟨Y,ha.cut (l:= [1,3,5,7,9,80]) Y⟩
        ·clear hm
         rcases a0g io with⟨j6,io⟩|⟨j6,io⟩
         ·refine a2q 72 rfl j6 ?_
          refine a0x Y (by decide) Y (a0m Y Y Y Y (a0e (a0k (fun a ha=> ?_))))
          cases io
          exact⟨Y,ha.cut (l:= [1,3,5,7,9,74]) Y⟩
         ·refine a2q 72 rfl j6 ?_
          refine a0b Y Y Y (a0j Y Y Y Y (a0e (a0k (fun a ha=> ?_))))
          cases io
          exact⟨Y,ha.cut (l:= [1,3,5,7,9,74]) Y⟩
       ·clear hm
        rcases a0g im with⟨j7,im⟩|⟨j7,im⟩
        ·refine a2q 68 rfl j7 ?_
         refine a0x Y (by decide) Y (a0x Y (by decide) Y (a0m Y Y Y Y (a0e (a0k (fun a ha=> ?_)))))
         cases im
         exact⟨Y,ha.cut (l:= [1,3,5,7,9,12,71]) Y⟩
        ·refine a2q 68 rfl j7 ?_
         refine a0b Y Y Y (c3x Y Y Y (a0j Y Y Y Y (a0e (a0k (fun a ha=> ?_)))))
         cases im
         exact⟨Y,ha.cut (l:= [1,3,5,7,9,12,71]) Y⟩
      ·clear hm
       rcases a0g il with⟨j8,il⟩|⟨j8,il⟩
       ·refine a2q 64 rfl j8 ?_
        refine a0x Y (by decide) Y (a0x Y (by decide) Y (a0m Y Y Y Y (a0e (a0k (fun a ha=> ?_)))))
        cases il
        exact⟨Y,ha.cut (l:= [1,3,5,7,9,10,12,67]) Y⟩
       ·refine a2q 64 rfl j8 ?_
        refine a0b Y Y Y (c3x Y Y Y (a0j Y Y Y Y (a0e (a0k (fun a ha=> ?_)))))
        cases il
        exact⟨Y,ha.cut (l:= [1,3,5,7,9,10,12,67]) Y⟩
     ·clear hm
      rcases a0g ik with⟨j9,ik⟩|⟨j9,ik⟩
      ·refine a2q 60 rfl j9 ?_
       refine a0x Y (by decide) Y (a0x Y (by decide) Y (a0m Y Y Y Y (a0e (a0k (fun a ha=> ?_)))))
       cases ik
       exact⟨Y,ha.cut (l:= [1,3,5,7,8,9,10,12,63]) Y⟩
      ·refine a2q 60 rfl j9 ?_
       refine a0b Y Y Y (a0n Y Y Y Y Y (a0j Y Y Y Y (a0e (a0k (fun a ha=> ?_)))))
       cases ik
       exact⟨Y,ha.cut (l:= [1,3,5,7,8,9,10,12,63]) Y⟩
    ·clear hm
     rcases a0g ij with⟨ja,ij⟩|⟨ja,ij⟩
     ·refine a2q 56 rfl ja ?_
      refine a0x Y (by decide) Y (a0x Y (by decide) Y (a0m Y Y Y Y (a0e (a0k (fun a ha=> ?_)))))
      cases ij
      exact⟨Y,ha.cut (l:= [1,3,5,7,8,9,10,12,14,59]) Y⟩
     ·refine a2q 56 rfl ja ?_
      refine a0b Y Y Y (a0n Y Y Y Y Y (a0j Y Y Y Y (a0e (a0k (fun a ha=> ?_)))))
      cases ij
      exact⟨Y,ha.cut (l:= [1,3,5,7,8,9,10,12,14,59]) Y⟩
   ·clear hm
    rcases a0g ii with⟨jb,ii⟩|⟨jb,ii⟩
    ·refine a2q 52 rfl jb ?_
     refine a0x Y (by decide) Y (a0x Y (by decide) Y (a0m Y Y Y Y (a0e (a0k (fun a ha=> ?_)))))
     cases ii
     exact⟨Y,ha.cut (l:= [1,3,5,6,7,8,9,10,12,14,55]) Y⟩
    ·refine a2q 52 rfl jb ?_
     refine a0b Y Y Y (a0n Y Y Y Y Y (a0j Y Y Y Y (a0e (a0k (fun a ha=> ?_)))))
     cases ii
     exact⟨Y,ha.cut (l:= [1,3,5,6,7,8,9,10,12,14,55]) Y⟩
  ·clear hm
   refine a6u (SH g8 [.box b4 44 [.int .i64 f1,.slice g9 ga gb,.int .i64 f3,.slice gc gd ge],.box b3 34 [.slice h5 h6 h7],.box b2 34 [.slice h2 h3 h4],.box b1 34 [.slice h0 h1 g7]]) 10 Y (by kernel_rfl) kp ?_
   intro ok jc
   refine d_tk 0 Y (by kernel_rfl) Y Y Y Y (jc.Ys Yf [0,1,2,3] Y Y) (fun _ _ _ _ hq=>a5b ag34 sz34 Y Y hq Y (i:=1) Y Y Yn) (b6i 1 7 Y Y (by kernel_rfl) ?_ ?_)
   ·refine a0i (e:=3) (cs:= [.int .i64 12,.int .i64 3]) (q:=1) rfl rfl jc rfl (fun _=>by kernel_rfl) rfl rfl ?_
    intro b16 ld h8
    refine a0y (h8.Ys Yf [1,2,3,4] Y Y) (b6i 2 7 Y Y (by kernel_rfl) ?_ ?_)
    ·obtain⟨jz,k,g5,hsx8⟩:=a1n h8 (i:=0) rfl ((show RowN (Rp.int .i64) g8 2 [.int .i64 12,.int .i64 3] [12,3]from⟨rfl,⟨_,_,rfl,rfl,⟨_,_,rfl,rfl,(rfl:RowR (Rp.int .i64) _ [] [])⟩⟩⟩))
     obtain⟨v24,hv,N⟩:=Yb N
     refine a1s ent25 Y Y Y Y g5 (a6w _ _ _ hv g5.sat (hg0.mono g5.le) hsx8) ?_
     rintro _ k0 _ k1 m V ⟨k2,k3,k4,xss16,rfl,rfl,h9⟩
     refine a0y (V.Ys (k.trans m) [1,2,3,4] Y Y) (b6i 3 7 Y Y (by kernel_rfl) ?_ ?_)
     ·obtain⟨jd,t,T,hsx9⟩:=a1n V (i:=0) rfl h9
      have hw:=((hd.trans k).trans m).trans t
      obtain⟨v25,gi,N⟩:=Yb N
      refine a1s ent13 Y Y Y Y T (a4l _ _ _ _ gi T.sat (hg0.mono T.le) (i0.mono hw) hsx9) ?_
      rintro _ je _ jf y K ⟨gj,gk,gl,gm,gn,go,rfl,rfl,gp,gq⟩
      have S2:=K.Ys (((k.trans m).trans t).trans y) [0,1,2,3] Y Y
      refine a0y S2 (d_tk 4 Y (by kernel_rfl) Y Y Y Y S2 (fun _ _ _ _ _=>a0b Y Y Y Yn) (d_tk 5 Y (by kernel_rfl) Y Y Y Y S2 (fun _ _ _ _ _=>a1a Y Y Y Y Yn) (d_tk 6 Y (by kernel_rfl) Y Y Y Y S2 (fun _ _ _ _ _=>a1a Y Y Y Y Yn) (a1r 7 Y (by kernel_rfl) (a2y ze44 Y Y Y K ?_)))))
      intro b17 jg Z
      refine a0y (Z.Ys (((k.trans m).trans t).trans y) [1,2,3,4] Y Y) (a1r 8 Y (by kernel_rfl) (a0o sz44 Y Z Y Y Y Y (i:=0) Y Y Y Y ?_))
      intro jh I
      refine a0y (I.Ys (((k.trans m).trans t).trans y) [1,2,3,4] Y Y) (d_tk 9 Y (by kernel_rfl) Y Y Y Y (I.Ys (((k.trans m).trans t).trans y) [1,2,3,4] Y Y) (fun _ _ _ _ _=>a0c Y Y Y Yn) (a7x (by kernel_rfl) (a0k (fun a ha=> ?_))))
      cases N
      exact⟨_,b17,gj,gk,gl,gm,gn,go,(((k.trans m).trans t).trans y),I.Yp [0,1,2,3,4] Y Y,gp,gq,ha.cut (l:= [1,2,3,4,5,6,7,8,9,10]) Y⟩
     ·refine a2y ze44 rfl rfl rfl V ?_
      intro b17 jf T
      refine a0y (T.Ys (k.trans m) [2,3,4,5] Y Y) (a1r 3 Y (by kernel_rfl) ?_)
      obtain⟨jd,t,K,hsx9⟩:=a1n T (i:=1) Y h9
      have hw:=((hd.trans k).trans m).trans t
      obtain⟨v25,gi,N⟩:=Yb N
      refine a1s ent13 Y Y Y Y K (a4l _ _ _ _ gi K.sat (hg0.mono K.le) (i0.mono hw) hsx9) ?_
      rintro _ je _ jg y Z ⟨gj,gk,gl,gm,gn,go,rfl,rfl,gp,gq⟩
      have S3:=Z.Ys (((k.trans m).trans t).trans y) [1,2,3,4] Y Y
      refine a0y S3 (d_tk 4 Y (by kernel_rfl) Y Y Y Y S3 (fun _ _ _ _ _=>a0b Y Y Y Yn) (d_tk 5 Y (by kernel_rfl) Y Y Y Y S3 (fun _ _ _ _ _=>a1a Y Y Y Y Yn) (d_tk 6 Y (by kernel_rfl) Y Y Y Y S3 (fun _ _ _ _ _=>a1a Y Y Y Y Yn) (a1r 8 Y (by kernel_rfl) (a0o sz44 Y Z Y Y Y Y (i:=0) Y Y Y Y ?_)))))
      intro jh I
      refine a0y (I.Ys (((k.trans m).trans t).trans y) [1,2,3,4] Y Y) (d_tk 9 Y (by kernel_rfl) Y Y Y Y (I.Ys (((k.trans m).trans t).trans y) [1,2,3,4] Y Y) (fun _ _ _ _ _=>a0c Y Y Y Yn) (a7x (by kernel_rfl) (a0k (fun a ha=> ?_))))
      cases N
      exact⟨_,b17,gj,gk,gl,gm,gn,go,(((k.trans m).trans t).trans y),I.Yp [0,1,2,3,4] Y Y,gp,gq,ha.cut (l:= [1,2,3,4,5,6,7,8,9,10]) Y⟩
    ·refine a2y ze44 rfl rfl rfl h8 ?_
     intro b17 k1 g5
     refine a0y (g5.Ys Yf [2,3,4,5] Y Y) (a1r 2 Y (by kernel_rfl) ?_)
     obtain⟨jz,k,V,hsx8⟩:=a1n g5 (i:=1) Y ((show RowN (Rp.int .i64) g8 2 [.int .i64 12,.int .i64 3] [12,3]from⟨Y,⟨_,_,Y,Y,⟨_,_,Y,Y,(Y:RowR (Rp.int .i64) _ [] [])⟩⟩⟩))
     obtain⟨v24,hv,N⟩:=Yb N
     refine a1s ent25 Y Y Y Y V (a6w _ _ _ hv V.sat (hg0.mono V.le) hsx8) ?_
     rintro _ k0 _ jf m T ⟨k2,k3,k4,xss16,rfl,rfl,h9⟩
     refine a0y (T.Ys (k.trans m) [2,3,4,5] Y Y) (a1r 3 Y (by kernel_rfl) ?_)
     obtain⟨jd,t,K,hsx9⟩:=a1n T (i:=0) Y h9
     have hw:=((hd.trans k).trans m).trans t
     obtain⟨v25,gi,N⟩:=Yb N
     refine a1s ent13 Y Y Y Y K (a4l _ _ _ _ gi K.sat (hg0.mono K.le) (i0.mono hw) hsx9) ?_
     rintro _ je _ jg y Z ⟨gj,gk,gl,gm,gn,go,rfl,rfl,gp,gq⟩
     have S4:=Z.Ys (((k.trans m).trans t).trans y) [1,2,3,4] Y Y
     refine a0y S4 (d_tk 4 Y (by kernel_rfl) Y Y Y Y S4 (fun _ _ _ _ _=>a0b Y Y Y Yn) (d_tk 5 Y (by kernel_rfl) Y Y Y Y S4 (fun _ _ _ _ _=>a1a Y Y Y Y Yn) (d_tk 6 Y (by kernel_rfl) Y Y Y Y S4 (fun _ _ _ _ _=>a1a Y Y Y Y Yn) (a1r 8 Y (by kernel_rfl) (a0o sz44 Y Z Y Y Y Y (i:=0) Y Y Y Y ?_)))))
     intro jh I
     refine a0y (I.Ys (((k.trans m).trans t).trans y) [1,2,3,4] Y Y) (d_tk 9 Y (by kernel_rfl) Y Y Y Y (I.Ys (((k.trans m).trans t).trans y) [1,2,3,4] Y Y) (fun _ _ _ _ _=>a0c Y Y Y Yn) (a7x (by kernel_rfl) (a0k (fun a ha=> ?_))))
     cases N
     exact⟨_,b17,gj,gk,gl,gm,gn,go,(((k.trans m).trans t).trans y),I.Yp [0,1,2,3,4] Y Y,gp,gq,ha.cut (l:= [1,2,3,4,5,6,7,8,9,10]) Y⟩
   ·refine a2y ze44 rfl rfl rfl jc ?_
    intro b16 ld h8
    refine a0y (h8.Ys Yf [1,2,3,4] Y Y) (a1r 1 Y (by kernel_rfl) (a0i (e:=3) (cs:= [.int .i64 12,.int .i64 3]) (q:=1) Y Y h8 Y (fun _=>by kernel_rfl) Y Y ?_))
    intro b17 k1 g5
    refine a0y (g5.Ys Yf [2,3,4,5] Y Y) (a1r 2 Y (by kernel_rfl) ?_)
    obtain⟨jz,k,V,hsx8⟩:=a1n g5 (i:=0) Y ((show RowN (Rp.int .i64) g8 2 [.int .i64 12,.int .i64 3] [12,3]from⟨Y,⟨_,_,Y,Y,⟨_,_,Y,Y,(Y:RowR (Rp.int .i64) _ [] [])⟩⟩⟩))
    obtain⟨v24,hv,N⟩:=Yb N
    refine a1s ent25 Y Y Y Y V (a6w _ _ _ hv V.sat (hg0.mono V.le) hsx8) ?_
    rintro _ k0 _ jf m T ⟨k2,k3,k4,xss16,rfl,rfl,h9⟩
    refine a0y (T.Ys (k.trans m) [2,3,4,5] Y Y) (a1r 3 Y (by kernel_rfl) ?_)
    obtain⟨jd,t,K,hsx9⟩:=a1n T (i:=0) Y h9
    have hw:=((hd.trans k).trans m).trans t
    obtain⟨v25,gi,N⟩:=Yb N
    refine a1s ent13 Y Y Y Y K (a4l _ _ _ _ gi K.sat (hg0.mono K.le) (i0.mono hw) hsx9) ?_
    rintro _ je _ jg y Z ⟨gj,gk,gl,gm,gn,go,rfl,rfl,gp,gq⟩
    have S5:=Z.Ys (((k.trans m).trans t).trans y) [1,2,3,4] Y Y
    refine a0y S5 (d_tk 4 Y (by kernel_rfl) Y Y Y Y S5 (fun _ _ _ _ _=>a0b Y Y Y Yn) (d_tk 5 Y (by kernel_rfl) Y Y Y Y S5 (fun _ _ _ _ _=>a1a Y Y Y Y Yn) (d_tk 6 Y (by kernel_rfl) Y Y Y Y S5 (fun _ _ _ _ _=>a1a Y Y Y Y Yn) (a1r 8 Y (by kernel_rfl) (a0o sz44 Y Z Y Y Y Y (i:=0) Y Y Y Y ?_)))))
    intro jh I
    refine a0y (I.Ys (((k.trans m).trans t).trans y) [1,2,3,4] Y Y) (d_tk 9 Y (by kernel_rfl) Y Y Y Y (I.Ys (((k.trans m).trans t).trans y) [1,2,3,4] Y Y) (fun _ _ _ _ _=>a0c Y Y Y Yn) (a7x (by kernel_rfl) (a0k (fun a ha=> ?_))))
    cases N
    exact⟨_,b16,gj,gk,gl,gm,gn,go,(((k.trans m).trans t).trans y),I.Yp [0,1,2,3,4] Y Y,gp,gq,ha.cut (l:= [1,2,3,4,5,6,7,8,9,10]) Y⟩
 ·clear hm
  refine a6u (SH i7 [.box b3 34 [.slice h5 h6 h7],.box b2 34 [.slice h2 h3 h4],.box b1 34 [.slice h0 h1 g7]]) 10 Y (by kernel_rfl) lq ?_
  intro ol ji
  refine d_tk 0 Y (by kernel_rfl) Y Y Y Y (ji.Ys Yf [0,1,2] Y Y) (fun _ _ _ _ hq=>a5b ag34 sz34 Y Y hq Y (i:=1) Y Y Yn) (b6i 1 7 Y Y (by kernel_rfl) ?_ ?_)
  ·refine a0i (e:=3) (cs:= [.int .i64 12,.int .i64 3]) (q:=1) rfl rfl ji rfl (fun _=>by kernel_rfl) rfl rfl ?_
   intro b18 lf hb
   refine a0y (hb.Ys Yf [1,2,3] Y Y) (b6i 2 7 Y Y (by kernel_rfl) ?_ ?_)
   ·obtain⟨k5,o,g6,hsx10⟩:=a1n hb (i:=0) rfl ((show RowN (Rp.int .i64) i7 2 [.int .i64 12,.int .i64 3] [12,3]from⟨rfl,⟨_,_,rfl,rfl,⟨_,_,rfl,rfl,(rfl:RowR (Rp.int .i64) _ [] [])⟩⟩⟩))
    obtain⟨v26,hx,M⟩:=Yb M
    refine a1s ent25 Y Y Y Y g6 (a6w _ _ _ hx g6.sat (hg0.mono g6.le) hsx10) ?_
    rintro _ k6 _ k7 p g0 ⟨k8,k9,ka,xss19,rfl,rfl,hc⟩
    refine a0y (g0.Ys (o.trans p) [1,2,3] Y Y) (b6i 3 7 Y Y (by kernel_rfl) ?_ ?_)
    ·obtain⟨jj,u,U,hsx11⟩:=a1n g0 (i:=0) rfl hc
     have hy:=((hk.trans o).trans p).trans u
     obtain⟨v27,gr,M⟩:=Yb M
     refine a1s ent13 Y Y Y Y U (a4l _ _ _ _ gr U.sat (hg0.mono U.le) (i6.mono hy) hsx11) ?_
     rintro _ jk _ jl z L ⟨gs,gt,gu,gv,gw,gx,rfl,rfl,gy,gz⟩
     have S6:=L.Ys (((o.trans p).trans u).trans z) [0,1,2] Y Y
     refine a0y S6 (d_tk 4 Y (by kernel_rfl) Y Y Y Y S6 (fun _ _ _ _ _=>a0b Y Y Y Yn) (d_tk 5 Y (by kernel_rfl) Y Y Y Y S6 (fun _ _ _ _ _=>a1a Y Y Y Y Yn) (d_tk 6 Y (by kernel_rfl) Y Y Y Y S6 (fun _ _ _ _ _=>a1a Y Y Y Y Yn) (a1r 7 Y (by kernel_rfl) (a2y ze44 Y Y Y L ?_)))))
     intro b19 jm g1
     refine a0y (g1.Ys (((o.trans p).trans u).trans z) [1,2,3] Y Y) (a1r 8 Y (by kernel_rfl) (a0o sz44 Y g1 Y Y Y Y (i:=0) Y Y Y Y ?_))
     intro jn J
     refine a0y (J.Ys (((o.trans p).trans u).trans z) [1,2,3] Y Y) (d_tk 9 Y (by kernel_rfl) Y Y Y Y (J.Ys (((o.trans p).trans u).trans z) [1,2,3] Y Y) (fun _ _ _ _ _=>a0c Y Y Y Yn) (a7x (by kernel_rfl) (a0k (fun a ha=> ?_))))
     cases M
     exact⟨_,b19,gs,gt,gu,gv,gw,gx,(((o.trans p).trans u).trans z),J.Yp [0,1,2,3] Y Y,gy,gz,ha.cut (l:= [1,2,3,4,5,6,7,8]) Y⟩
    ·refine a2y ze44 rfl rfl rfl g0 ?_
     intro b19 jl U
     refine a0y (U.Ys (o.trans p) [2,3,4] Y Y) (a1r 3 Y (by kernel_rfl) ?_)
     obtain⟨jj,u,L,hsx11⟩:=a1n U (i:=1) Y hc
     have hy:=((hk.trans o).trans p).trans u
     obtain⟨v27,gr,M⟩:=Yb M
     refine a1s ent13 Y Y Y Y L (a4l _ _ _ _ gr L.sat (hg0.mono L.le) (i6.mono hy) hsx11) ?_
     rintro _ jk _ jm z g1 ⟨gs,gt,gu,gv,gw,gx,rfl,rfl,gy,gz⟩
     have S7:=g1.Ys (((o.trans p).trans u).trans z) [1,2,3] Y Y
     refine a0y S7 (d_tk 4 Y (by kernel_rfl) Y Y Y Y S7 (fun _ _ _ _ _=>a0b Y Y Y Yn) (d_tk 5 Y (by kernel_rfl) Y Y Y Y S7 (fun _ _ _ _ _=>a1a Y Y Y Y Yn) (d_tk 6 Y (by kernel_rfl) Y Y Y Y S7 (fun _ _ _ _ _=>a1a Y Y Y Y Yn) (a1r 8 Y (by kernel_rfl) (a0o sz44 Y g1 Y Y Y Y (i:=0) Y Y Y Y ?_)))))
     intro jn J
     refine a0y (J.Ys (((o.trans p).trans u).trans z) [1,2,3] Y Y) (d_tk 9 Y (by kernel_rfl) Y Y Y Y (J.Ys (((o.trans p).trans u).trans z) [1,2,3] Y Y) (fun _ _ _ _ _=>a0c Y Y Y Yn) (a7x (by kernel_rfl) (a0k (fun a ha=> ?_))))
     cases M
     exact⟨_,b19,gs,gt,gu,gv,gw,gx,(((o.trans p).trans u).trans z),J.Yp [0,1,2,3] Y Y,gy,gz,ha.cut (l:= [1,2,3,4,5,6,7,8]) Y⟩
   ·refine a2y ze44 rfl rfl rfl hb ?_
    intro b19 k7 g6
    refine a0y (g6.Ys Yf [2,3,4] Y Y) (a1r 2 Y (by kernel_rfl) ?_)
    obtain⟨k5,o,g0,hsx10⟩:=a1n g6 (i:=1) Y ((show RowN (Rp.int .i64) i7 2 [.int .i64 12,.int .i64 3] [12,3]from⟨Y,⟨_,_,Y,Y,⟨_,_,Y,Y,(Y:RowR (Rp.int .i64) _ [] [])⟩⟩⟩))
    obtain⟨v26,hx,M⟩:=Yb M
    refine a1s ent25 Y Y Y Y g0 (a6w _ _ _ hx g0.sat (hg0.mono g0.le) hsx10) ?_
    rintro _ k6 _ jl p U ⟨k8,k9,ka,xss19,rfl,rfl,hc⟩
    refine a0y (U.Ys (o.trans p) [2,3,4] Y Y) (a1r 3 Y (by kernel_rfl) ?_)
    obtain⟨jj,u,L,hsx11⟩:=a1n U (i:=0) Y hc
    have hy:=((hk.trans o).trans p).trans u
    obtain⟨v27,gr,M⟩:=Yb M
    refine a1s ent13 Y Y Y Y L (a4l _ _ _ _ gr L.sat (hg0.mono L.le) (i6.mono hy) hsx11) ?_
    rintro _ jk _ jm z g1 ⟨gs,gt,gu,gv,gw,gx,rfl,rfl,gy,gz⟩
    have S8:=g1.Ys (((o.trans p).trans u).trans z) [1,2,3] Y Y
    refine a0y S8 (d_tk 4 Y (by kernel_rfl) Y Y Y Y S8 (fun _ _ _ _ _=>a0b Y Y Y Yn) (d_tk 5 Y (by kernel_rfl) Y Y Y Y S8 (fun _ _ _ _ _=>a1a Y Y Y Y Yn) (d_tk 6 Y (by kernel_rfl) Y Y Y Y S8 (fun _ _ _ _ _=>a1a Y Y Y Y Yn) (a1r 8 Y (by kernel_rfl) (a0o sz44 Y g1 Y Y Y Y (i:=0) Y Y Y Y ?_)))))
    intro jn J
    refine a0y (J.Ys (((o.trans p).trans u).trans z) [1,2,3] Y Y) (d_tk 9 Y (by kernel_rfl) Y Y Y Y (J.Ys (((o.trans p).trans u).trans z) [1,2,3] Y Y) (fun _ _ _ _ _=>a0c Y Y Y Yn) (a7x (by kernel_rfl) (a0k (fun a ha=> ?_))))
    cases M
    exact⟨_,b19,gs,gt,gu,gv,gw,gx,(((o.trans p).trans u).trans z),J.Yp [0,1,2,3] Y Y,gy,gz,ha.cut (l:= [1,2,3,4,5,6,7,8]) Y⟩
  ·refine a2y ze44 rfl rfl rfl ji ?_
   intro b18 lf hb
   refine a0y (hb.Ys Yf [1,2,3] Y Y) (a1r 1 Y (by kernel_rfl) (a0i (e:=3) (cs:= [.int .i64 12,.int .i64 3]) (q:=1) Y Y hb Y (fun _=>by kernel_rfl) Y Y ?_))
   intro b19 k7 g6
   refine a0y (g6.Ys Yf [2,3,4] Y Y) (a1r 2 Y (by kernel_rfl) ?_)
   obtain⟨k5,o,g0,hsx10⟩:=a1n g6 (i:=0) Y ((show RowN (Rp.int .i64) i7 2 [.int .i64 12,.int .i64 3] [12,3]from⟨Y,⟨_,_,Y,Y,⟨_,_,Y,Y,(Y:RowR (Rp.int .i64) _ [] [])⟩⟩⟩))
   obtain⟨v26,hx,M⟩:=Yb M
   refine a1s ent25 Y Y Y Y g0 (a6w _ _ _ hx g0.sat (hg0.mono g0.le) hsx10) ?_
   rintro _ k6 _ jl p U ⟨k8,k9,ka,xss19,rfl,rfl,hc⟩
   refine a0y (U.Ys (o.trans p) [2,3,4] Y Y) (a1r 3 Y (by kernel_rfl) ?_)
   obtain⟨jj,u,L,hsx11⟩:=a1n U (i:=0) Y hc
   have hy:=((hk.trans o).trans p).trans u
   obtain⟨v27,gr,M⟩:=Yb M
   refine a1s ent13 Y Y Y Y L (a4l _ _ _ _ gr L.sat (hg0.mono L.le) (i6.mono hy) hsx11) ?_
   rintro _ jk _ jm z g1 ⟨gs,gt,gu,gv,gw,gx,rfl,rfl,gy,gz⟩
   have S9:=g1.Ys (((o.trans p).trans u).trans z) [1,2,3] Y Y
   refine a0y S9 (d_tk 4 Y (by kernel_rfl) Y Y Y Y S9 (fun _ _ _ _ _=>a0b Y Y Y Yn) (d_tk 5 Y (by kernel_rfl) Y Y Y Y S9 (fun _ _ _ _ _=>a1a Y Y Y Y Yn) (d_tk 6 Y (by kernel_rfl) Y Y Y Y S9 (fun _ _ _ _ _=>a1a Y Y Y Y Yn) (a1r 8 Y (by kernel_rfl) (a0o sz44 Y g1 Y Y Y Y (i:=0) Y Y Y Y ?_)))))
   intro jn J
   refine a0y (J.Ys (((o.trans p).trans u).trans z) [1,2,3] Y Y) (d_tk 9 Y (by kernel_rfl) Y Y Y Y (J.Ys (((o.trans p).trans u).trans z) [1,2,3] Y Y) (fun _ _ _ _ _=>a0c Y Y Y Yn) (a7x (by kernel_rfl) (a0k (fun a ha=> ?_))))
   cases M
   exact⟨_,b18,gs,gt,gu,gv,gw,gx,(((o.trans p).trans u).trans z),J.Yp [0,1,2,3] Y Y,gy,gz,ha.cut (l:= [1,2,3,4,5,6,7,8]) Y⟩
theorem c7o(n:Nat):FnC Wt 8 [] (b3h n) (fun r=> .ob r):=⟨fun _ _=>by kernel_rfl,fun r hm w F hs hg us hu=>by
 obtain rfl:=hu
 exact(c4f n r hm hs (hg)).mono fun e w'⟨v,F',O',e1,e2,e3⟩=>by
  obtain⟨rfl,rfl⟩:=e3
  exact⟨_,F',e1,e2,rfl⟩⟩
end Go.Proofs.YthaegflpecbfgaaGreatDoor.M
namespace Go.Proofs.YthaegflpecbfgaaGreatDoor.M
open Go Go.RowKit Rt
set_option linter.unusedVariables false
def law37_mixed_L1(n:Nat)(ax1:(List Frac))(b1:(List Frac))(v1:(Frac×Int))(v2:(Frac×Int))(kont1:(List Frac)->Option (List Frac)):Nat->Int->(List Frac)->Option (List Frac)
 |0,_,_=>none
 |mx1+1,i1,l1=>
  (bif decide (i1<(ax1.length:Int))then
   some (decide (i1<(b1.length:Int)))
  else
   some false).bind fun v3=>
  bif v3 then
   ((ix ax1 i1).bind fun ex2=>
   (a8g n ex2 v1.1).bind fun v6=>
   some (v6.1.P.Sign,v6.1.P.Digits,v6.1.Q.Sign,v6.1.Q.Digits)).bind fun(f1,f2,f3,f4)=>
   ((ix b1 i1).bind fun ex1=>
   (a8g n ex1 v2.1).bind fun v5=>
   some (v5.1.P.Sign,v5.1.P.Digits,v5.1.Q.Sign,v5.1.Q.Digits)).bind fun(f5,f6,f7,f8)=>
   (a7h n (⟨(⟨f1,f2⟩:Big),(⟨f3,f4⟩:Big)⟩:Frac) (⟨(⟨f5,f6⟩:Big),(⟨f7,f8⟩:Big)⟩:Frac)).bind fun v4=>
   (app 64 l1 [v4.1]).bind fun l3=>
   law37_mixed_L1 n ax1 b1 v1 v2 kont1 mx1 (iadd .i64 i1 1) l3
  else
   kont1 l1
theorem law37_mixed_L1_s:type_of% @law37_mixed_L1.eq_2:= @law37_mixed_L1.eq_2
def a8o(n:Nat)(ax1:(List Frac))(b1:(List Frac))(part1:Int):Option (List Frac):=
 (b3t n part1 256).bind fun v1=>
 (b3t n (isub .i64 256 part1) 256).bind fun v2=>
 law37_mixed_L1 n ax1 b1 v1 v2 (fun(l2:List Frac)=>
  some l2) n 0 []
def law37_FormConvex_L2(n:Nat)(x1:Form)(ax1:(List Frac))(b1:(List Frac))(part1:Int)(v7:(Frac×Bool))(v10:(List Frac))(kont1:Bool->Option Bool):Nat->Bool->Int->Option Bool
 |0,_,_=>none
 |mx1+1,equal1,i2=>
  bif decide (i2<(x1.Pieces.length:Int))then
   (ix x1.Pieces i2).bind fun ex1=>
   (a8h n ex1 ax1).bind fun v12=>
   (bif !v12.2 then
    some true
   else
    (a3l n v7.1 v12.1).bind fun v23=>
    some (decide (0<v23))).bind fun v13=>
   bif v13 then
    some false
   else
    (bif equal1 then
     some true
    else
     (a4s n v7.1 v12.1).bind fun v22=>
     some v22).bind fun v14=>
    (ix x1.Pieces i2).bind fun ex2=>
    (a6g n (⟨[ex2]⟩:Form) ax1).bind fun v15=>
    (a6g n (⟨[ex2]⟩:Form) b1).bind fun v16=>
    (a6g n (⟨[ex2]⟩:Form) v10).bind fun v17=>
    (bif !v15.2 then
     some true
    else
     some (!v16.2)).bind fun v18=>
    (bif v18 then
     some true
    else
     some (!v17.2)).bind fun v19=>
    bif v19 then
     some false
    else
     (a8o n [v15.1] [v16.1] (IntKind.i64.wrap part1)).bind fun v20=>
     (ix v20 0).bind fun ex3=>
     (a3l n v17.1 ex3).bind fun v21=>
     bif decide (0<v21)then
      some false
     else
      law37_FormConvex_L2 n x1 ax1 b1 part1 v7 v10 kont1 mx1 v14 (iadd .i64 i2 1)
  else
   kont1 equal1
theorem law37_FormConvex_L2_s:type_of% @law37_FormConvex_L2.eq_2:= @law37_FormConvex_L2.eq_2
def law37_FormConvex_L1(n:Nat)(ax1:(List Frac))(b1:(List Frac))(v1:Bool)(kont2:Option Bool):Nat->Int->Option Bool
 |0,_=>none
 |mx2+1,i1=>
  bif decide (i1<(ax1.length:Int))then
   (ix ax1 i1).bind fun ex4=>
   (a9l n ex4 3).bind fun v24=>
   (bif !v24 then
    some true
   else
    (ix b1 i1).bind fun ex5=>
    (a9l n ex5 3).bind fun v26=>
    some (!v26)).bind fun v25=>
   bif v25 then
    some v1
   else
    law37_FormConvex_L1 n ax1 b1 v1 kont2 mx2 (iadd .i64 i1 1)
  else
   kont2
theorem law37_FormConvex_L1_s:type_of% @law37_FormConvex_L1.eq_2:= @law37_FormConvex_L1.eq_2
def a6v(n:Nat)(x1:Form)(ax1:(List Frac))(b1:(List Frac))(part1:Int):Option Bool:=
 (b3h n).bind fun v1=>
 (a9n n x1).bind fun v2=>
 (bif !v2 then
  some true
 else
  some (decide (8<(ax1.length:Int)))).bind fun v3=>
 (bif v3 then
  some true
 else
  some (decide (8<(b1.length:Int)))).bind fun v4=>
 (bif v4 then
  some true
 else
  (a7w n ax1 (ax1.length:Int)).bind fun v28=>
  some (!v28)).bind fun v5=>
 (bif v5 then
  some true
 else
  (a7w n b1 (ax1.length:Int)).bind fun v27=>
  some (!v27)).bind fun v6=>
 bif v6 then
  some v1
 else
  law37_FormConvex_L1 n ax1 b1 v1 (
   (a6g n x1 ax1).bind fun v7=>
   bif !v7.2 then
    (bif v1 then
     (a4s n v7.1 (⟨(⟨0,[]⟩:Big),(⟨0,[]⟩:Big)⟩:Frac)).bind fun v9=>
     some v9
    else
     some false).bind fun v8=>
    some v8
   else
    (a8o n ax1 b1 (IntKind.i64.wrap part1)).bind fun v10=>
    law37_FormConvex_L2 n x1 ax1 b1 part1 v7 v10 (fun(equal2:Bool)=>
     (bif v1 then
      some equal2
     else
      some false).bind fun v11=>
     some v11) n false 0) n 0
end Go.Proofs.YthaegflpecbfgaaGreatDoor.M
namespace Go.Proofs.YthaegflpecbfgaaGreatDoor.M
open Go Go.RowKit Rt
set_option maxRecDepth 1000000
set_option maxHeartbeats 40000000
theorem b7z(n:Nat)(ax1:(List Frac))(b1:(List Frac))(part1:Int):FnO Wt 21 [.sl 3 ax1,.sl 3 b1,.int .i64 part1] (a8o n ax1 b1 part1) 44 4 3 (fun r=>r):=by
 refine b4y (n:=72) Tryz.func21 rfl rfl rfl (fun _ _=>by kernel_rfl) fun F0 w0 r=> ?_
 unfold a8o
 refine gK (b9l _ _ _) rfl rfl rfl fun v1=> ?_
 refine gK (b9l _ _ _) rfl rfl rfl fun v2=> ?_
 refine a3c ((fun k0 m(s:Int×List Frac)=>law37_mixed_L1 n ax1 b1 v1 v2 k0 m s.1 s.2) _) (fun(s:Int×List Frac)=> [.r 11 3 s.2,.v 12 (.int .i64 s.1)]) (fun _=>rfl) (_,_) rfl rfl (fun _=>rfl) rfl fun K1 m1 hK1 z1=> ?_
 obtain⟨i1,l1⟩:=z1;dsimp only
 refine gJ 5 (fun v3=> [.v 40 (.ob v3)]) rfl (fun _=>rfl) (fun J2 hJ2=> ?_) (fun v3=> ?_)
 ·
  refine gD rfl (fun _=> ?_) (fun _=> ?_)
  ·
   exact gX hJ2 rfl (by kernel_rfl)
  ·
   exact gX hJ2 rfl (by kernel_rfl)
 refine gC rfl (fun _=> ?_) (fun _=> ?_)
 ·
  refine gA ?_
  refine gHs [(7,(pL [0,2,4,6,8] (.two 5 9 (pL [12,14,16,19,21,23] .nil) (pL [11,13,14,16,21,23] .nil)))),(8,(pL [0,2,4,6,8] (.two 5 9 (pL [12,14,16,19,21,23] .nil) (pL [11,13,14,16,21,23] .nil))))] rfl (by kernel_rfl) rfl rfl fun Ky=> ?_
  refine gV rfl fun ex2=> ?_
  refine gA ?_
  try refine gH2 rfl ?_ ?_
  all_goals
   refine gK (b7v _ _ _) rfl rfl rfl fun v6=> ?_
   refine gB ?_
   refine gA ?_
   refine gHe rfl ?_
   refine gHs [(7,(pL [0,2,4,6,8] (.two 5 9 (pL [12,14,16,19,21,23] .nil) (pL [11,13,14,16,21,23] .nil)))),(8,(pL [0,2,4,6,8] (.two 5 9 (pL [12,14,16,19,21,23] .nil) (pL [11,13,14,16,21,23] .nil))))] rfl (by kernel_rfl) rfl rfl fun Ky=> ?_
   refine gV rfl fun ex1=> ?_
   refine gA ?_
   try refine gH2 rfl ?_ ?_
   all_goals
    refine gK (b7v _ _ _) rfl rfl rfl fun v5=> ?_
    refine gB ?_
    refine gHe rfl ?_
    refine gK (c3k _ _ _) rfl rfl rfl fun v4=> ?_
    refine gP rfl fun l3=> ?_
    exact gE hK1 (_,_) rfl (by kernel_rfl)
 ·
  exact gRO rfl
theorem b7y(n:Nat)(x1:Form)(ax1:(List Frac))(b1:(List Frac))(part1:Int):FnC Wt 5 [.agg [.sl 4 x1.Pieces],.sl 3 ax1,.sl 3 b1,.int .u8 part1] (a6v n x1 ax1 b1 part1) (fun r=> .ob r):=by
 refine a1i (n:=178) Tryz.func5 rfl rfl rfl (fun _ _=>by kernel_rfl) fun F0 w0 r=> ?_
 unfold a6v
 refine gK (c7o _) rfl rfl rfl fun v1=> ?_
 refine gK (c2k _ _) rfl rfl rfl fun v2=> ?_
 refine gJ 4 (fun v3=> [.v 34 (.ob v3)]) rfl (fun _=>rfl) (fun J1 hJ1=> ?_) (fun v3=> ?_)
 ·
  refine gD rfl (fun _=> ?_) (fun _=> ?_)
  ·
   exact gX hJ1 rfl (by kernel_rfl)
  ·
   exact gX hJ1 rfl (by kernel_rfl)
 refine gJ 4 (fun v4=> [.v 39 (.ob v4)]) rfl (fun _=>rfl) (fun J2 hJ2=> ?_) (fun v4=> ?_)
 ·
  refine gD rfl (fun _=> ?_) (fun _=> ?_)
  ·
   exact gX hJ2 rfl (by kernel_rfl)
  ·
   exact gX hJ2 rfl (by kernel_rfl)
 refine gJ 6 (fun v5=> [.v 46 (.ob v5)]) rfl (fun _=>rfl) (fun J3 hJ3=> ?_) (fun v5=> ?_)
 ·
  refine gD rfl (fun _=> ?_) (fun _=> ?_)
  ·
   exact gX hJ3 rfl (by kernel_rfl)
  ·
   refine gA ?_
   refine gK (b5u _ _ _) rfl rfl rfl fun v28=> ?_
   exact gX hJ3 rfl (by kernel_rfl)
 refine gJ 6 (fun v6=> [.v 53 (.ob v6)]) rfl (fun _=>rfl) (fun J4 hJ4=> ?_) (fun v6=> ?_)
 ·
  refine gD rfl (fun _=> ?_) (fun _=> ?_)
  ·
   exact gX hJ4 rfl (by kernel_rfl)
  ·
   refine gA ?_
   refine gK (b5u _ _ _) rfl rfl rfl fun v27=> ?_
   exact gX hJ4 rfl (by kernel_rfl)
 refine gC rfl (fun _=> ?_) (fun _=> ?_)
 ·
  exact gR rfl rfl rfl
 ·
  refine a3c ((fun k0 m(s:Int)=>law37_FormConvex_L1 n ax1 b1 v1 k0 m s) _) (fun(s:Int)=> [.v 10 (.int .i64 s)]) (fun _=>rfl) _ rfl rfl (fun _=>rfl) rfl fun K5 m5 hK5 i1=> ?_
  refine gC rfl (fun _=> ?_) (fun _=> ?_)
  ·
   refine gV rfl fun ex4=> ?_
   refine gK (b3p _ _ _) rfl rfl rfl fun v24=> ?_
   refine gJ 7 (fun v25=> [.v 74 (.ob v25)]) rfl (fun _=>rfl) (fun J6 hJ6=> ?_) (fun v25=> ?_)
   ·
    refine gD rfl (fun _=> ?_) (fun _=> ?_)
    ·
     exact gX hJ6 rfl (by kernel_rfl)
    ·
     refine gA ?_
     refine gV rfl fun ex5=> ?_
     refine gA ?_
     refine gK (b3p _ _ _) rfl rfl rfl fun v26=> ?_
     exact gX hJ6 rfl (by kernel_rfl)
   refine gC rfl (fun _=> ?_) (fun _=> ?_)
   ·
    exact gR rfl rfl rfl
   ·
    exact gE hK5 _ rfl (by kernel_rfl)
  ·
   refine gK (b1s _ _ _) rfl rfl rfl fun v7=> ?_
   refine gC rfl (fun _=> ?_) (fun _=> ?_)
   ·
    refine gJ 4 (fun v8=> [.v 89 (.ob v8)]) rfl (fun _=>rfl) (fun J7 hJ7=> ?_) (fun v8=> ?_)
    ·
     refine gD rfl (fun _=> ?_) (fun _=> ?_)
     ·
      refine gA ?_
      refine gK (b2l _ _ _) rfl rfl rfl fun v9=> ?_
      exact gX hJ7 rfl (by kernel_rfl)
     ·
      exact gX hJ7 rfl (by kernel_rfl)
    exact gR rfl rfl rfl
   ·
    refine gO (b7z _ _ _ _) rfl rfl rfl fun v10=> ?_
    refine gFr 14 rfl ?_
    refine a3c ((fun k0 m(s:Bool×Int)=>law37_FormConvex_L2 n x1 ax1 b1 part1 v7 v10 k0 m s.1 s.2) _) (fun(s:Bool×Int)=> [.v 13 (.ob s.1),.v 15 (.int .i64 s.2)]) (fun _=>rfl) (_,_) rfl rfl (fun _=>rfl) rfl fun K8 m8 hK8 z8=> ?_
    obtain⟨equal1,i2⟩:=z8;dsimp only
    refine gC rfl (fun _=> ?_) (fun _=> ?_)
    ·
     refine gV rfl fun ex1=> ?_
     refine gK (c0k _ _ _) rfl rfl rfl fun v12=> ?_
     refine gJ 5 (fun v13=> [.v 119 (.ob v13)]) rfl (fun _=>rfl) (fun J9 hJ9=> ?_) (fun v13=> ?_)
     ·
      refine gD rfl (fun _=> ?_) (fun _=> ?_)
      ·
       exact gX hJ9 rfl (by kernel_rfl)
      ·
       refine gA ?_
       refine gK (b1p _ _ _) rfl rfl rfl fun v23=> ?_
       exact gX hJ9 rfl (by kernel_rfl)
     refine gC rfl (fun _=> ?_) (fun _=> ?_)
     ·
      exact gR rfl rfl rfl
     ·
      refine gJ 4 (fun v14=> [.v 125 (.ob v14)]) rfl (fun _=>rfl) (fun J10 hJ10=> ?_) (fun v14=> ?_)
      ·
       refine gD rfl (fun _=> ?_) (fun _=> ?_)
       ·
        exact gX hJ10 rfl (by kernel_rfl)
       ·
        refine gA ?_
        refine gK (b2l _ _ _) rfl rfl rfl fun v22=> ?_
        exact gX hJ10 rfl (by kernel_rfl)
      refine gV rfl fun ex2=> ?_
      refine gK (b1s _ _ _) rfl rfl rfl fun v15=> ?_
      refine gK (b1s _ _ _) rfl rfl rfl fun v16=> ?_
      refine gK (b1s _ _ _) rfl rfl rfl fun v17=> ?_
      refine gJ 3 (fun v18=> [.v 156 (.ob v18)]) rfl (fun _=>rfl) (fun J11 hJ11=> ?_) (fun v18=> ?_)
      ·
       refine gD rfl (fun _=> ?_) (fun _=> ?_)
       ·
        exact gX hJ11 rfl (by kernel_rfl)
       ·
        exact gX hJ11 rfl (by kernel_rfl)
      refine gJ 3 (fun v19=> [.v 160 (.ob v19)]) rfl (fun _=>rfl) (fun J12 hJ12=> ?_) (fun v19=> ?_)
      ·
       refine gD rfl (fun _=> ?_) (fun _=> ?_)
       ·
        exact gX hJ12 rfl (by kernel_rfl)
       ·
        exact gX hJ12 rfl (by kernel_rfl)
      refine gC rfl (fun _=> ?_) (fun _=> ?_)
      ·
       exact gR rfl rfl rfl
      ·
       refine gO (b7z _ _ _ _) rfl rfl rfl fun v20=> ?_
       refine gG rfl (by kernel_rfl) ?_
       refine gV rfl fun ex3=> ?_
       refine gQ (b1p _ _ _) rfl rfl rfl (fun _=>rfl) fun v21=> ?_
       refine gC rfl (fun _=> ?_) (fun _=> ?_)
       ·
        exact gR rfl rfl rfl
       ·
        exact gE hK8 (_,_) rfl (by kernel_rfl)
    ·
     refine gJ 2 (fun v11=> [.v 177 (.ob v11)]) rfl (fun _=>rfl) (fun J13 hJ13=> ?_) (fun v11=> ?_)
     ·
      refine gD rfl (fun _=> ?_) (fun _=> ?_)
      ·
       exact gX hJ13 rfl (by kernel_rfl)
      ·
       exact gX hJ13 rfl (by kernel_rfl)
     exact gR rfl rfl rfl
theorem law37_FormConvex_ok'(n:Nat)(x1:Form)(ax1:(List Frac))(b1:(List Frac))(part1:Int)(r:Bool)(hm:a6v n x1 ax1 b1 part1=some r){w:World}{F:Frz}(hs:Sat F w){as1:Option Addr}{ns1:Nat}{cs1:Nat}{as2:Option Addr}{ns2:Nat}{cs2:Nat}{as3:Option Addr}{ns3:Nat}{cs3:Nat}(hs1:SlR (Rp.sl rp_Affine) F as1 ns1 cs1 x1.Pieces)(hs2:SlR rp_Frac F as2 ns2 cs2 ax1)(hs3:SlR rp_Frac F as3 ns3 cs3 b1)(hg0:FX F 0 [.int .u8 40,.int .u8 41,.int .u8 44,.int .u8 59,.int .u8 58,.int .u8 61,.int .u8 60,.int .u8 43,.int .u8 45,.int .u8 42,.int .u8 47,.int .u8 123,.int .u8 125]):
 Calls Tryz.prog 5 #[.agg #[.slice as1 ns1 cs1],.slice as2 ns2 cs2,.slice as3 ns3 cs3,.int .u8 part1] w fun e w'=>∃v F' O',e= .returned v/\HS F w [] F' O' w'/\(v= .bool r/\O'= []):=
 (b7y n x1 ax1 b1 part1).2 r hm w F hs hg0 _ ⟨_,_,rfl,⟨_,rfl,⟨_,_,rfl,⟨_,_,_,rfl,hs1⟩,rfl⟩⟩,⟨_,_,rfl,⟨_,_,_,rfl,hs2⟩,⟨_,_,rfl,⟨_,_,_,rfl,hs3⟩,⟨_,_,rfl,rfl,rfl⟩⟩⟩⟩|>.mono fun e w'⟨v,F',e1,e2,e3⟩=>⟨v,F',[],e1,e2,e3,rfl⟩
end Go.Proofs.YthaegflpecbfgaaGreatDoor.M
namespace Go.Proofs.YthaegflpecbfgaaGreatDoor.Fm
open Go
abbrev RA:=Rat×List Rat
abbrev RFm:=List (List RA)
def dot:List Rat->List Rat->Rat
 |c::cs,w::ws=>c*w+dot cs ws
 |_,_=>0
def evA(w:List Rat)(a:RA):Rat:=a.1+dot a.2 w
def IsV(f:RFm)(w:List Rat)(v:Rat):Prop:=(∀p,p∈f->∃a,a∈p/\v<=evA w a)/\∃p,p∈f/\∀a,a∈p->evA w a<=v
theorem IsV.uniq{f:RFm}{w:List Rat}{u v:Rat}(h:IsV f w u)(k:IsV f w v):u=v:=by
 have go:∀{u v:Rat},IsV f w u->IsV f w v->u<=v:=by
  intro u v ⟨h1,_⟩ ⟨_,p,hp,h2⟩
  obtain⟨a,ha,h3⟩:=h1 p hp
  exact Rat.le_trans h3 (h2 a ha)
 exact Rat.le_antisymm (go h k) (go k h)
def cst(n:Nat)(c:Rat):RFm:= [[(c,List.replicate n 0)]]
def wgt(n k:Nat):RFm:= [[(0,(List.replicate n 0).set k 1)]]
def mulA(c:Rat)(a:RA):RA:=(a.1*c,a.2.map (·*c))
def addA(a b:RA):RA:=(a.1+b.1,List.zipWith (·+·) a.2 b.2)
def scl(c:Rat)(f:RFm):RFm:=f.map (·.map (mulA c))
def sz:RFm->Nat
 | []=>0
 |p::f=>p.length+sz f
def step(cs:RFm)(l:List RA):RFm:=cs.flatMap fun ch=>l.map fun a=>ch++ [mulA (-1) a]
def opp(f:RFm):RFm:=f.foldl step [[]]
def join(op:List RA->List RA->List RA)(f g:RFm):RFm:=f.flatMap fun x=>g.map fun y=>op x y
def sums(x y:List RA):List RA:=x.flatMap fun a=>y.map fun b=>addA a b
theorem d6b(p q:Rat):∀(c a b:List Rat),a.length=b.length->dot c (List.zipWith (fun x y=>x*p+y*q) a b)=dot c a*p+dot c b*q
 | [],_,_,_=>by simp [dot,Rat.zero_mul,Rat.zero_add]
 |x::c,[],[],_=>by simp [dot,Rat.zero_mul,Rat.zero_add]
 |x::c,y::a,z::b,h=>by
  show x*(y*p+z*q)+dot c (List.zipWith (fun x y=>x*p+y*q) a b)=(x*y+dot c a)*p+(x*z+dot c b)*q
  rw [d6b p q c a b (by simpa using h)];grind
 |_::_,[],_::_,h=>by simp at h
 |_::_,_::_,[],h=>by simp at h
theorem e5i{p q:Rat}(hpq:p+q=1)(a:RA){u v:List Rat}(h:u.length=v.length):evA (List.zipWith (fun x y=>x*p+y*q) u v) a=evA u a*p+evA v a*q:=by
 unfold evA
 rw [d6b p q _ _ _ h]
 have:a.1=a.1*p+a.1*q:=by rw [<-Rat.mul_add,hpq,Rat.mul_one]
 grind
section
variable{f g:RFm}{w:List Rat}{u v:Rat}
theorem e3b(h:IsV f w u)(k:IsV g w v):IsV (f++g) w (if v<u then v else u):=by
 obtain⟨h1,p,hp,h2⟩:=h
 obtain⟨k1,q,hq,k2⟩:=k
 split
 ·rename_i hlt
  refine⟨fun r hr=> ?_,q,List.mem_append_right _ hq,k2⟩
  rcases List.mem_append.1 hr with hr|hr
  ·obtain⟨a,ha,h3⟩:=h1 r hr
   exact⟨a,ha,Rat.le_trans (Rat.le_of_lt hlt) h3⟩
  ·exact k1 r hr
 ·rename_i hlt
  refine⟨fun r hr=> ?_,p,List.mem_append_left _ hp,h2⟩
  rcases List.mem_append.1 hr with hr|hr
  ·exact h1 r hr
  ·obtain⟨a,ha,h3⟩:=k1 r hr
   exact⟨a,ha,Rat.le_trans (Rat.not_lt.1 hlt) h3⟩
def Wide(n:Nat)(f:RFm):Prop:=∀p,p∈f->∀a,a∈p->a.2.length=n
inductive Ch:RFm->List RA->Prop
 |nil:Ch [] []
 |cons {l:List RA} {f:RFm} {a:RA} {d:List RA}:a∈l->Ch f d->Ch (l::f) (mulA (-1) a::d)
theorem Ch.has{r p:List RA}(h:Ch f r)(hp:p∈f):∃a,a∈p/\mulA (-1) a∈r:=by
 induction h with
 |nil=>cases hp
 | @cons l f a d ha _ ih=>
  rcases List.mem_cons.1 hp with rfl|hp
  ·exact⟨a,ha,by simp⟩
  ·obtain⟨b,hb,h2⟩:=ih hp
   exact⟨b,hb,by simp [h2]⟩
theorem Ch.all{r:List RA}(h:Ch f r):∀x,x∈r->∃p a,p∈f/\a∈p/\x=mulA (-1) a:=by
 induction h with
 |nil=>intro x hx;cases hx
 | @cons l f a d ha _ ih=>
  intro x hx
  rcases List.mem_cons.1 hx with rfl|hx
  ·exact⟨l,a,by simp,ha,rfl⟩
  ·obtain⟨p,b,hp,hb,e⟩:=ih x hx
   exact⟨p,b,by simp [hp],hb,e⟩
theorem Ch.pick{P:RA->Prop}:∀{f:RFm},(∀p,p∈f->∃a,a∈p/\P a)->∃r,Ch f r/\∀x,x∈r->∃a,P a/\x=mulA (-1) a
 | [],_=>⟨[],Ch.nil,by simp⟩
 |l::f,h=>by
  obtain⟨a,ha,hP⟩:=h l (by simp)
  obtain⟨r,hr,h2⟩:=Ch.pick (f:=f) (fun p hp=>h p (by simp [hp]))
  refine⟨_,Ch.cons ha hr,fun x hx=> ?_⟩
  rcases List.mem_cons.1 hx with rfl|hx
  ·exact⟨a,hP,rfl⟩
  ·exact h2 x hx
theorem d6m(op:List RA->List RA->List RA)(x:List RA)(f g:RFm):join op (x::f) g=g.map (op x)++join op f g:=rfl
theorem d0w{op:List RA->List RA->List RA}:∀f g:RFm,(join op f g).length=f.length*g.length
 | [],g=>by simp [join]
 |x::f,g=>by rw [d6m,List.length_append,List.length_map,d0w f g,List.length_cons,Nat.add_mul];omega
theorem Ch.len{r:List RA}(h:Ch f r):r.length=f.length:=by
 induction h with
 |nil=>rfl
 |cons _ _ ih=>simp [ih]
end
end Go.Proofs.YthaegflpecbfgaaGreatDoor.Fm
namespace Go.Proofs.YthaegflpecbfgaaGreatDoor.Rt
open Go
theorem inc64{i:Nat}(h:i<4611686018427387904):iadd .i64 (i:Int) 1=((i+1:Nat):Int):=by rw [a2n (by omega) (by omega)];omega
theorem e0n{i:Nat}(h:i<4611686018427387904):isub .i64 ((i+1:Nat):Int) 1=(i:Int):=by rw [a1f (by omega) (by omega)];omega
theorem drop_cons{α:Type}{a:List α}{i:Nat}{x:α}{xs:List α}(h:a.drop i=x::xs):ix a (i:Int)=some x/\a.drop (i+1)=xs/\i<a.length:=by
 have h1:i<a.length:=by
  rcases Nat.lt_or_ge i a.length with h2|h2
  ·exact h2
  ·rw [List.drop_eq_nil_of_le h2]at h;cases h
 rw [List.drop_eq_getElem_cons h1]at h
 injection h with h2 h3
 exact⟨by rw [b4l,List.getElem?_eq_getElem h1,h2],h3,h1⟩
theorem drop_nil{α:Type}{a:List α}{i:Nat}(h:a.drop i= []):a.length<=i:=by simpa using h
theorem a3y{α:Type}{a:List α}{i:Nat}{x:α}{xs:List α}(h:a.drop i=x::xs):decide ((i:Int)<(a.length:Int))=true:=by
 have:=(drop_cons h).2.2
 exact decide_eq_true (by omega)
theorem a9e{α:Type}{a:List α}{i:Nat}(h:a.drop i= []):decide ((i:Int)<(a.length:Int))=false:=by
 have:=drop_nil h
 exact decide_eq_false (by omega)
section
variable{β:Type}{r:β}{c d:Bool}{y:Nat->Option Bool}{f:Nat->Bool->Option β}
theorem guard{V:Bool}{rest:Nat->Option Bool}(h:V=false->Ev rest true):Ev (fun n=>bif V then some true else rest n) true:=by
 cases V with
 |true=>exact Ev.then rfl (Ev.pure _)
 |false=>exact Ev.else rfl (h rfl)
theorem Ev.conv{α:Type}{x y:Nat->Option α}{s:α}(e:∀n,x n=y n)(h:Ev y s):Ev x s:=by
 obtain⟨N,hN⟩:=h
 exact⟨N,fun n hn=>by rw [e n];exact hN n hn⟩
end
theorem c4h{α:Type}{b:Nat}{l m:List α}(h:(l.length+m.length)*b<=140737488355328):app b l m=some (l++m):=c0e h
end Go.Proofs.YthaegflpecbfgaaGreatDoor.Rt
namespace Go.Proofs.YthaegflpecbfgaaGreatDoor.Rt
open Go
theorem Ev.suc{α:Type}{f g:Nat->Option α}{r:α}(e:∀n,f (n+1)=g n)(h:Ev g r):Ev f r:=by
 obtain⟨N,hN⟩:=h
 refine⟨N+1,fun n hn=> ?_⟩
 obtain⟨k,rfl⟩:∃k,n=k+1:=⟨n-1,by omega⟩
 rw [e];exact hN k (by omega)
def Tt{α:Type}(Q:α->Prop)(f:Nat->Option α):Prop:=∃r,Ev f r/\Q r
section
variable{α β:Type}{P:α->Prop}{Q:β->Prop}
theorem Tt.pure{r:β}(h:Q r):Tt Q (fun _=>some r):=⟨r,Ev.pure r,h⟩
theorem Tt.of{f:Nat->Option β}{r:β}(h:Ev f r)(hq:Q r):Tt Q f:=⟨r,h,hq⟩
theorem Tt.all{f:Nat->Option β}{r:β}(h:∀n,f n=some r)(hq:Q r):Tt Q f:=⟨r,Ev.all h,hq⟩
theorem Tt.bind{x:Nat->Option α}{g:Nat->α->Option β}(hx:Tt P x)(h:∀r,P r->Tt Q (fun n=>g n r)):Tt Q (fun n=>(x n).bind (g n)):=by
 obtain⟨r,h1,h2⟩:=hx
 obtain⟨s,h3,h4⟩:=h r h2
 exact⟨s,Ev.bind h1 h3,h4⟩
theorem Tt.evb{x:Nat->Option α}{a:α}{g:Nat->α->Option β}(hx:Ev x a)(h:Tt Q (fun n=>g n a)):Tt Q (fun n=>(x n).bind (g n)):=by
 obtain⟨s,h3,h4⟩:=h
 exact⟨s,Ev.bind hx h3,h4⟩
theorem Tt.step{x:Option α}{g:Nat->α->Option β}{a:α}(hx:x=some a)(h:Tt Q (fun n=>g n a)):Tt Q (fun n=>x.bind (g n)):=by
 subst hx;exact h
theorem Tt.bif{c:Bool}{x y:Nat->Option β}(h1:c=true->Tt Q x)(h2:c=false->Tt Q y):Tt Q (fun n=>bif c then x n else y n):=by
 cases c
 ·exact h2 rfl
 ·exact h1 rfl
theorem Tt.suc{f g:Nat->Option β}(e:∀n,f (n+1)=g n)(h:Tt Q g):Tt Q f:=by
 obtain⟨r,h1,h2⟩:=h
 exact⟨r,Ev.suc e h1,h2⟩
theorem Tt.cond{c d:Bool}{g:Nat->Bool->Option β}(h:∀b,Tt Q (fun n=>g n b))(k:Bool):Tt Q (fun n=>(bif c then some k else some d).bind (g n)):=by
 cases c<;>exact h _
end
end Go.Proofs.YthaegflpecbfgaaGreatDoor.Rt
namespace Go.Proofs.YthaegflpecbfgaaGreatDoor.Lx
abbrev Bs:=List UInt8
def isLetter(c:UInt8):Bool:=decide ((97<=c.toNat/\c.toNat<=122)∨(65<=c.toNat/\c.toNat<=90))
def b7i(c:UInt8):Bool:=decide (48<=c.toNat/\c.toNat<=57)
def b1r(c:UInt8):Bool:=decide ((97<=c.toNat/\c.toNat<=122)∨(65<=c.toNat/\c.toNat<=90)∨(48<=c.toNat/\c.toNat<=57)∨c.toNat=95)
def e2k(c:UInt8):Bool:=decide (32<=c.toNat/\c.toNat<=126)
def b9b(p:UInt8->Bool):Bs->Nat
 | []=>0
 |c::r=>bif p c then b9b p r+1 else 0
def name(l:Bs):Bool:= !l.isEmpty&&isLetter (l.headD 0)&&decide (l.length<=20)&&(b9b b1r l==l.length)
def dec(l:Bs):Nat:=l.foldl (fun n c=>10*n+(c.toNat-48)) 0
def maxNumber:Nat:=1099511627776
def d8q(l:Bs):Bool:= !l.isEmpty&&(b9b b7i l==l.length)&& !(l.headD 0==48&& !(l== [48]))&&decide (l.length<=13)
def number(l:Bs):Nat×Bool:=if d8q l/\dec l<=maxNumber then(dec l,true)else(0,false)
def qloop:Bs->Bs->Nat->Option (Bs×Nat)
 | [],_,_=>none
 |c::r,acc,n=>
  if e2k c=false then none
  else if c.toNat=34 then some (acc,n)
  else if c.toNat=92 then
   match r with
   | []=>none
   |d::r'=>if d.toNat=34∨d.toNat=92 then qloop r' (acc++ [d]) (n+2)else none
  else qloop r (acc++ [c]) (n+1)
def quoted(l:Bs):Bs×Nat:=
 match qloop (l.drop 1) [] 1 with
 |none=>([],0)
 |some (v,n)=>if v.length>400 then([],0)else(v,n+1)
end Go.Proofs.YthaegflpecbfgaaGreatDoor.Lx
namespace Go.Proofs.YthaegflpecbfgaaGreatDoor.Lx
open Rt M Go
theorem b8q{s r:Rt.Bs}{i:Nat}{c:UInt8}(h:s.drop i=c::r):sidx s (i:Int)=some (c.toNat:Int):=by
 have h1:s[i]?=some c:=by
  have:=congrArg (·[0]?) h
  simpa using this
 simp [sidx,h1]
theorem d1b{s r:Rt.Bs}{i:Nat}{c:UInt8}(h:s.drop i=c::r):i+r.length+1=s.length:=by
 have:=congrArg List.length h
 simp only [List.length_drop,List.length_cons]at this
 omega
theorem c1j{s r:Rt.Bs}{i:Nat}{c:UInt8}(h:s.drop i=c::r):s.drop (i+1)=r:=by
 rw [<-List.drop_drop,h,List.drop_one,List.tail_cons]
theorem drop_nil{s:Rt.Bs}{i:Nat}(h:s.drop i= [])(hi:i<=s.length):i=s.length:=by
 have:=congrArg List.length h
 simp only [List.length_drop,List.length_nil]at this
 omega
theorem a5k(x:Int)(h1:-9223372036854775808<=x)(h2:x<9223372036854775808):IntKind.i64.wrap x=x:=by
 simp [IntKind.wrap,IntKind.signed,IntKind.bits]
 split<;>omega
theorem d8c(a b:Nat)(h:a+b<9223372036854775808):iadd .i64 (a:Int) (b:Int)=((a+b:Nat):Int):=by
 rw [iadd,a5k _ (by omega) (by omega)];simp
theorem c7d(a:Nat)(h:a+1<9223372036854775808):iadd .i64 (a:Int) 1=((a+1:Nat):Int):=d8c a 1 h
theorem b8p{p:UInt8->Bool}(h:(List.range 256).all (fun k=>p (UInt8.ofNat k))=true)(c:UInt8):p c=true:=by
 have:=List.all_eq_true.mp h c.toNat (by simpa using c.toNat_lt)
 simpa using this
theorem letter_eq(n:Nat)(c:UInt8):a5f n (c.toNat:Int)=some (isLetter c):=
 of_decide_eq_true (b8p (p:=fun c=>decide (a5f 0 (c.toNat:Int)=some (isLetter c))) (by decide+kernel) c)
theorem d9c(n:Nat)(c:UInt8):a5m n (c.toNat:Int)=some (b1r c):=
 of_decide_eq_true (b8p (p:=fun c=>decide (a5m 0 (c.toNat:Int)=some (b1r c))) (by decide+kernel) c)
theorem c8l{p:UInt8->Bool}{f:Int->Option Bool}(hf:∀c:UInt8,f c.toNat=some (p c)){s:Rt.Bs}(hs:s.length<9223372036854775807){n:Nat}{kont:Int->Option Int}:
 ∀{r:Rt.Bs}{i m:Nat},s.drop i=r->i<=s.length->r.length<m->lexer_span_L1 n s f kont m (i:Int)=kont ((i+b9b p r:Nat):Int)
 | [],i,m+1,h,hi,_=>by
  have:=drop_nil h hi
  rw [lexer_span_L1_s]
  simp [this,b9b]
 |c::r,i,m+1,h,hi,hm=>by
  have h1:=d1b h
  rw [lexer_span_L1_s,b8q h,decide_eq_true (by omega)]
  simp only [cond_true,Option.bind_some,hf]
  cases hp:p c
  ·simp [b9b,hp]
  ·rw [cond_true,c7d _ (by omega),c8l hf hs (c1j h) (by omega) (by simp only [List.length_cons]at hm;omega)]
   simp only [b9b,hp,cond_true]
   congr 2;omega
theorem e1e{p:UInt8->Bool}{f:Int->Option Bool}(hf:∀c:UInt8,f c.toNat=some (p c)){s:Rt.Bs}(hs:s.length<9223372036854775807){n:Nat}(hn:s.length<n):
 a4t n s f=some ((b9b p s:Nat):Int):=by
 have:=c8l hf hs (n:=n) (kont:=fun nx2=>some nx2) (r:=s) (i:=0) (m:=n) (by simp) (by omega) hn
 simpa [a4t]using this
theorem headD_idx{s:Rt.Bs}(h:s≠ []):sidx s 0=some ((s.headD 0).toNat:Int):=by
 cases s with
 |nil=>exact absurd rfl h
 |cons c r=>exact b8q (i:=0) rfl
theorem name_eq{s:Rt.Bs}(hs:s.length<9223372036854775807){n:Nat}(hn:s.length<n):a4q n s=some (name s):=by
 cases hs0:s with
 |nil=>rfl
 |cons c r=>
  rw [<-hs0]
  have h0:s≠ []:=by rw [hs0];simp
  have h1:(s== [])=false:=by simp [hs0]
  simp only [a4q,h1,Bool.not_false,cond_true,headD_idx h0,Option.bind_some,letter_eq,e1e (d9c n) hs hn,name]
  have h2:s.isEmpty=false:=by simp [hs0]
  rw [h2]
  cases isLetter (s.headD 0)<;>by_cases h3:s.length<=20<;>simp [h3]
  ·rw [decide_eq_true (by omega)]
   simp only [cond_true,Option.some.injEq]
   rw [Bool.eq_iff_iff];simp;omega
  ·rw [decide_eq_false (by omega)];simp
end Go.Proofs.YthaegflpecbfgaaGreatDoor.Lx
namespace Go.Proofs.YthaegflpecbfgaaGreatDoor.Lx
open Rt M Go
def ints(l:Rt.Bs):List Int:=l.map fun c=>(c.toNat:Int)
def signs:List UInt8:= [40,41,44,59,58,61,60,43,45,42,47,123,125]
theorem c7w{c:UInt8}(h:isLetter c=true):b1r c=true:=by
 simp only [isLetter,b1r,decide_eq_true_eq]at*;omega
end Go.Proofs.YthaegflpecbfgaaGreatDoor.Lx
namespace Go.Proofs.YthaegflpecbfgaaGreatDoor.Ta
open Go Rt M
inductive Fit:M.Expr->Prop
 |mk {o n:Int} {s:Rt.Bs} {l:List M.Expr}:l.length<=1000000->(∀y,y∈l->Fit y)->Fit ⟨o,n,s,l⟩
theorem Fit.leaf(o n:Int)(s:Rt.Bs):Fit ⟨o,n,s,[]⟩:=Fit.mk (by simp) (by simp)
theorem Fit.one{x:M.Expr}(o n:Int)(s:Rt.Bs)(h:Fit x):Fit ⟨o,n,s,[x]⟩:=Fit.mk (by simp) (by simpa using h)
theorem Fit.two{x y:M.Expr}(o n:Int)(s:Rt.Bs)(h:Fit x)(h2:Fit y):Fit ⟨o,n,s,[x,y]⟩:=Fit.mk (by simp) (by simp [h,h2])
end Go.Proofs.YthaegflpecbfgaaGreatDoor.Ta
namespace Go.Proofs.YthaegflpecbfgaaGreatDoor.Ta
open Go Rt M
theorem left{k m:Nat}(h:k<m):∃j,m=j+1:=⟨m-1,by omega⟩
theorem pred{k m:Nat}(h:k+1<m):∃j,m=j+1/\k<j:=⟨m-1,by omega,by omega⟩
theorem c5b(s:Rt.Bs):Ev (fun n=>a4q n s) (Lx.name s):=by
 refine⟨21,fun n hn=> ?_⟩
 by_cases h:s.length<=20
 ·exact Lx.name_eq (by omega) (by omega)
 ·have h0:s≠ []:=by intro e;rw [e]at h;simp at h
  have h1:(s== [])=false:=by simpa using h0
  have h2:Lx.name s=false:=by unfold Lx.name;rw [decide_eq_false h];simp
  rw [h2]
  unfold a4q
  dsimp only
  rw [h1,Bool.not_false,cond_true,Lx.headD_idx h0,Option.bind_some,Lx.letter_eq,Option.bind_some,Option.bind_some]
  cases Lx.isLetter (s.headD 0)
  ·rfl
  ·rw [cond_true,decide_eq_false (show¬(s.length:Int)<=20 by omega)];rfl
theorem d4k(n:Nat)(l:List Rt.Bs)(s:Rt.Bs)(hl:l.length<4611686018427387904):∀(us:List Rt.Bs)(i m:Nat),l.drop i=us->us.length<m->
 slices_Index_string_string_L1 n l s (some (-1)) m (i:Int)=some (if s∈us then((i+us.idxOf s:Nat):Int)else-1)
 | [],i,m+1,hd,_=>by rw [slices_Index_string_string_L1_s,a9e hd];rfl
 |x::us,i,m+1,hd,hm=>by
  obtain⟨h1,h2,h3⟩:=drop_cons hd
  have ih:=d4k n l s hl us (i+1) m h2 (by simp only [List.length_cons]at hm;omega)
  rw [slices_Index_string_string_L1_s,a3y hd,cond_true,h1,Option.bind_some]
  by_cases h:s=x
  ·subst h
   rw [beq_self_eq_true,cond_true,if_pos (by simp)];simp
  ·have e:(s==x)=false:=by simpa using h
   rw [e,cond_false,inc64 (by omega),ih]
   by_cases h5:s∈us
   ·rw [if_pos h5,if_pos (List.mem_cons_of_mem _ h5),List.idxOf_cons,show(x==s)=false by simpa using fun h6=>h h6.symm]
    simp only [cond_false];congr 1;omega
   ·rw [if_neg h5,if_neg (by simp [h,h5])]
theorem b1q{l:List Rt.Bs}(s:Rt.Bs)(hl:l.length<4611686018427387904):Ev (fun n=>a0z n l s) (decide (s∈l)):=by
 refine⟨l.length+1,fun n hn=> ?_⟩
 unfold a0z a1g
 dsimp only
 have h:slices_Index_string_string_L1 n l s (some (-1)) n 0=_:=d4k n l s hl l 0 n rfl (by omega)
 rw [h,Option.bind_some]
 by_cases h5:s∈l
 ·rw [if_pos h5,decide_eq_true h5,decide_eq_true (by omega)]
 ·rw [if_neg h5,decide_eq_false h5];rfl
def b8i(l:List Rt.Bs):Nat->List Rt.Bs->Bool
 |_,[]=>decide ((l.length:Int)<=6)
 |i,s::us=>Lx.name s&&(!decide (s∈l.take i)&&b8i l (i+1) us)
def named(l:List Rt.Bs):Bool:=b8i l 0 l
theorem d6j(l:List Rt.Bs)(hl:l.length<4611686018427387904):∀(us:List Rt.Bs)(i:Nat),l.drop i=us->∃N,∀n m,N<=n->us.length<m->
 tariff_named_L1 n l (some (decide ((l.length:Int)<=6))) m (i:Int)=some (b8i l i us)
 | [],i,hd=>by
  refine⟨0,fun n m _ hm=> ?_⟩
  obtain⟨m,rfl⟩:=left hm
  rw [tariff_named_L1_s,a9e hd];rfl
 |s::us,i,hd=>by
  obtain⟨h1,h2,h3⟩:=drop_cons hd
  obtain⟨N,ih⟩:=d6j l hl us (i+1) h2
  obtain⟨N1,e1⟩:=c5b s
  obtain⟨N2,e2⟩:=b1q (l:=l.take i) s (by simp;omega)
  refine⟨max N (max N1 N2),fun n m hn hm=> ?_⟩
  obtain⟨m,rfl,hm2⟩:=pred (by simpa using hm)
  have e1:a4q n s=some (Lx.name s):=e1 n (by omega)
  have e2:a0z n (l.take i) s=some (decide (s∈l.take i)):=e2 n (by omega)
  rw [tariff_named_L1_s,a3y hd,cond_true,h1,Option.bind_some,e1,Option.bind_some]
  unfold b8i
  cases Lx.name s with
  |false=>rfl
  |true=>
   have e3:lsl l 0 (i:Int)=some (l.take i):=by
    have:=c8k (l:=l) (p:=0) (q:=i) (by omega) (by omega)
    simpa using this
   rw [Bool.not_true,cond_false,e3,Option.bind_some,e2,Option.bind_some,Option.bind_some,Bool.true_and]
   cases decide (s∈l.take i)with
   |true=>rfl
   |false=>rw [cond_false,inc64 (by omega),ih n m (by omega) hm2];rfl
theorem c6a{l:List Rt.Bs}(hl:l.length<4611686018427387904):Ev (fun n=>b0n n l) (named l):=by
 obtain⟨N,h⟩:=d6j l hl l 0 rfl
 exact⟨N+l.length+1,fun n hn=>h n n (by omega) (by omega)⟩
def b8z(o:Int):Int:=if o<=4 then 0 else if o=14 then 1 else if o=11 then 3 else 2
theorem d5b(n:Nat)(o:Int):a9z n o=some (b8z o):=by
 unfold a9z b8z
 by_cases h1:o<=4
 ·rw [decide_eq_true h1,if_pos h1];rfl
 ·rw [decide_eq_false h1,if_neg h1,cond_false]
  by_cases h2:o=14
  ·subst h2;rfl
  ·rw [show(o==14)=false by simpa using h2,if_neg h2,cond_false]
   by_cases h3:o=11
   ·subst h3;rfl
   ·rw [show(o==11)=false by simpa using h3,if_neg h3];rfl
inductive Shp:M.Expr->Prop
 |mk {o n:Int} {s:Rt.Bs} {l:List M.Expr}:0<=o->o<=16->(l.length:Int)=b8z o->(∀y,y∈l->Shp y)->Shp ⟨o,n,s,l⟩
theorem c1w(l:List M.Expr)(hl:l.length<=1000000)(f:Nat->M.Expr->Option Bool)(Q:M.Expr->Prop):∀(us:List M.Expr)(i:Nat),l.drop i=us->(∀y,y∈us->Tt (fun b=>b=false->Q y) (fun n=>f n y))->
 ∃N r,(r=-1/\(∀y,y∈us->Q y)∨0<=r)/\∀n m,N<=n->us.length<m->slices_IndexFunc_api_Expr_api_Expr_L1 n l (f n) (some (-1)) m (i:Int)=some r
 | [],i,hd,_=>by
  refine⟨0,-1,.inl ⟨rfl,by simp⟩,fun n m _ hm=> ?_⟩
  obtain⟨m,rfl⟩:=left hm
  rw [slices_IndexFunc_api_Expr_api_Expr_L1_s,a9e hd];rfl
 |y::us,i,hd,H=>by
  obtain⟨h1,h2,h3⟩:=drop_cons hd
  obtain⟨b,⟨N1,e1⟩,hb⟩:=H y (by simp)
  obtain⟨N,r,hr,ih⟩:=c1w l hl f Q us (i+1) h2 (fun z hz=>H z (by simp [hz]))
  cases b with
  |true=>
   refine⟨N1,(i:Int),.inr (by omega),fun n m hn hm=> ?_⟩
   obtain⟨m,rfl⟩:=left hm
   have e1:f n y=some true:=e1 n (by omega)
   rw [slices_IndexFunc_api_Expr_api_Expr_L1_s,a3y hd,cond_true,h1,Option.bind_some,e1];rfl
  |false=>
   refine⟨max N N1,r,hr.imp (fun h=>⟨h.1,by simpa using⟨hb rfl,h.2⟩⟩) id,fun n m hn hm=> ?_⟩
   obtain⟨m,rfl,hm2⟩:=pred (by simpa using hm)
   have e1:f n y=some false:=e1 n (by omega)
   rw [slices_IndexFunc_api_Expr_api_Expr_L1_s,a3y hd,cond_true,h1,Option.bind_some,e1,Option.bind_some,cond_false,inc64 (by omega)]
   exact ih n m (by omega) hm2
theorem c4c(l:List M.Expr)(hl:l.length<=1000000)(f:Nat->M.Expr->Option Bool)(Q:M.Expr->Prop)(H:∀y,y∈l->Tt (fun b=>b=false->Q y) (fun n=>f n y)):
 Tt (fun b=>b=false->∀y,y∈l->Q y) (fun n=>a0s n l (f n)):=by
 obtain⟨N,r,hr,ih⟩:=c1w l hl f Q l 0 rfl H
 refine⟨decide (0<=r),⟨N+l.length+1,fun n hn=> ?_⟩,fun hb=> ?_⟩
 ·unfold a0s a1t
  dsimp only
  have e:slices_IndexFunc_api_Expr_api_Expr_L1 n l (f n) (some (-1)) n 0=some r:=ih n n (by omega) (by omega)
  rw [e];rfl
 ·have:=of_decide_eq_false hb
  rcases hr with h|h
  ·exact h.2
  ·omega
theorem d8s{x:M.Expr}(hx:Fit x):Tt (fun b=>b=true->Shp x) (fun n=>tariff_shaped n x):=by
 induction hx with
 | @mk o k s l hl _ ih=>
  refine Tt.suc (fun n=>tariff_shaped_s _ n) ?_
  refine Tt.bind (P:=fun b=>b=false->0<=o/\o<=16) (Tt.bif (fun h=>Tt.pure fun h=>by cases h) (fun h=>Tt.pure fun h2=> ?_)) ?_
  ·have h1:=of_decide_eq_false h
   have h3:=of_decide_eq_false h2
   dsimp only at h1 h3
   omega
  intro b hb
  refine Tt.bind (P:=fun c=>c=false->(0<=o/\o<=16)/\(l.length:Int)=b8z o) (Tt.bif (fun h=>Tt.pure fun h=>by cases h) (fun h=> ?_)) ?_
  ·refine Tt.evb (Ev.all fun n=>d5b n _) (Tt.pure fun h2=>⟨hb h,by simpa using h2⟩)
  intro c hc
  refine Tt.bif (fun _=>Tt.pure fun h=>by cases h) (fun h=> ?_)
  obtain⟨⟨h1,h2⟩,h3⟩:=hc h
  refine Tt.bif (fun h0=> ?_) (fun h0=> ?_)
  ·have h0':o=0:=by simpa using h0
   subst h0'
   have hz:l= []:=by
    have:(l.length:Int)=0:=h3
    exact List.length_eq_zero_iff.1 (by omega)
   subst hz
   refine Tt.bind (P:=fun _=>True) (Tt.bif (fun _=>Tt.pure trivial) (fun _=>Tt.pure trivial)) fun _ _=> ?_
   refine Tt.bind (P:=fun _=>True) (Tt.bif (fun _=>Tt.pure trivial) (fun _=>Tt.pure trivial)) fun _ _=> ?_
   exact Tt.pure fun _=>Shp.mk h1 h2 h3 (by simp)
  refine Tt.bind (P:=fun b=>b=true->o=1∨o=4) (Tt.bif (fun h=>Tt.pure fun _=> .inl (by simpa using h)) (fun _=>Tt.pure fun h=> .inr (by simpa using h))) ?_
  intro b1 hb1
  refine Tt.bif (fun h4=> ?_) (fun h4=> ?_)
  ·have hz:l= []:=by
    have:(l.length:Int)=0:=by rw [h3];rcases hb1 h4 with rfl|rfl<;>rfl
    exact List.length_eq_zero_iff.1 (by omega)
   subst hz
   refine Tt.bind (P:=fun _=>True) (Tt.bif (fun _=> ?_) (fun _=>Tt.pure trivial)) fun _ _=> ?_
   ·exact Tt.evb (c5b _) (Tt.pure trivial)
   ·exact Tt.pure fun _=>Shp.mk h1 h2 h3 (by simp)
  refine Tt.bind (P:=fun _=>True) (Tt.bif (fun _=>Tt.pure trivial) (fun _=>Tt.pure trivial)) fun _ _=> ?_
  refine Tt.bind (P:=fun b=>b=true->∀y,y∈l->Shp y) (Tt.bif (fun _=> ?_) (fun _=>Tt.pure fun h=>by cases h)) ?_
  ·refine Tt.bind (c4c l hl tariff_shaped_1 Shp (fun y hy=> ?_)) ?_
   ·refine Tt.suc (fun n=>b0g n _) ?_
    refine Tt.bind (ih y hy) ?_
    intro b hb
    exact Tt.pure fun h=>hb (by simpa using h)
   ·intro b hb
    exact Tt.pure fun h=>hb (by simpa using h)
  ·intro b hb
   exact Tt.pure fun h=>Shp.mk h1 h2 h3 (hb h)
end Go.Proofs.YthaegflpecbfgaaGreatDoor.Ta
namespace Go.Proofs.YthaegflpecbfgaaGreatDoor.Tp
open Go Rt M Ta
mutual
def dep:M.Expr->Nat
 |⟨_,_,_,l⟩=>deps l+1
def deps:List M.Expr->Nat
 | []=>0
 |x::l=>max (dep x) (deps l)
 end
def b2j(o n:Int)(s:Rt.Bs):Prop:=if o=0 then(0<=n/\n<=1099511627776)/\s= []else if o=1∨o=4 then n=0/\Lx.name s=true else n=0/\s= []
inductive Shx:M.Expr->Prop
 |mk {o n:Int} {s:Rt.Bs} {l:List M.Expr}:0<=o->o<=16->(l.length:Int)=b8z o->b2j o n s->(∀y,y∈l->Shx y)->Shx ⟨o,n,s,l⟩
theorem Shx.inv{o n:Int}{s:Rt.Bs}{l:List M.Expr}(h:Shx ⟨o,n,s,l⟩):0<=o/\o<=16/\(l.length:Int)=b8z o/\b2j o n s/\∀y,y∈l->Shx y:=by
 cases h with
 |mk h1 h2 h3 h4 h5=>exact⟨h1,h2,h3,h4,h5⟩
end Go.Proofs.YthaegflpecbfgaaGreatDoor.Tp
namespace Go.Proofs.YthaegflpecbfgaaGreatDoor.Tp
open Go Rt M Ta
def wd(a b:Int):Int:=bif a==2||b==2 then 2 else 1
inductive Typ(names:List Rt.Bs):M.Expr->Int->Prop
 |num {m:Int}:0<=m->m<=1099511627776->Typ names ⟨0,m,[],[]⟩ 1
 |lifts {s:Rt.Bs}:Lx.name s=true->s∈names->Typ names ⟨1,0,s,[]⟩ 1
 |pers:Typ names ⟨2,0,[],[]⟩ 1
 |flats:Typ names ⟨3,0,[],[]⟩ 1
 |wgt {s:Rt.Bs}:Lx.name s=true->s∈names->Typ names ⟨4,0,s,[]⟩ 2
 |ari {o:Int} {a b:M.Expr} {p q:Int}:(o=5∨o=6∨o=9∨o=10)->Typ names a p->Typ names b q->p≠0->q≠0->Typ names ⟨o,0,[],[a,b]⟩ (wd p q)
 |mul {a b:M.Expr} {p q:Int}:Typ names a p->Typ names b q->p≠0->q≠0->¬(p=2/\q=2)->Typ names ⟨7,0,[],[a,b]⟩ (wd p q)
 |div {a:M.Expr} {m:Int} {p:Int}:Typ names a p->p≠0->1<=m->m<=1099511627776->Typ names ⟨8,0,[],[a,⟨0,m,[],[]⟩]⟩ p
 |ite {c a b:M.Expr} {p q:Int}:Typ names c 0->Typ names a p->Typ names b q->p≠0->q≠0->Typ names ⟨11,0,[],[c,a,b]⟩ (wd p q)
 |rel {o:Int} {a b:M.Expr}:(o=12∨o=13)->Typ names a 1->Typ names b 1->Typ names ⟨o,0,[],[a,b]⟩ 0
 |not {a:M.Expr}:Typ names a 0->Typ names ⟨14,0,[],[a]⟩ 0
 |bin {o:Int} {a b:M.Expr}:(o=15∨o=16)->Typ names a 0->Typ names b 0->Typ names ⟨o,0,[],[a,b]⟩ 0
theorem c6p(a b:Int):wd a b=1∨wd a b=2:=by
 unfold wd
 cases a==2||b==2
 ·exact .inl rfl
 ·exact .inr rfl
theorem Typ.range{names:List Rt.Bs}{x:M.Expr}{k:Int}(h:Typ names x k):k=0∨k=1∨k=2:=by
 induction h with
 |num=>exact .inr (.inl rfl)
 |lifts=>exact .inr (.inl rfl)
 |pers=>exact .inr (.inl rfl)
 |flats=>exact .inr (.inl rfl)
 |wgt=>exact .inr (.inr rfl)
 |ari=>exact .inr (c6p _ _)
 |mul=>exact .inr (c6p _ _)
 |div _ _ _ _ ih=>exact ih
 |ite=>exact .inr (c6p _ _)
 |rel=>exact .inl rfl
 |not=>exact .inl rfl
 |bin=>exact .inl rfl
theorem Typ.args{names:List Rt.Bs}{x:M.Expr}{k:Int}(h:Typ names x k):∀y,y∈x.Args->∃p,Typ names y p:=by
 cases h with
 |num=>intro y hy;cases hy
 |lifts=>intro y hy;cases hy
 |pers=>intro y hy;cases hy
 |flats=>intro y hy;cases hy
 |wgt=>intro y hy;cases hy
 |ari _ ha hb=>intro y hy;simp only [List.mem_cons,List.not_mem_nil,or_false]at hy;rcases hy with rfl|rfl<;>first|exact⟨_,ha⟩|exact⟨_,hb⟩
 |mul ha hb=>intro y hy;simp only [List.mem_cons,List.not_mem_nil,or_false]at hy;rcases hy with rfl|rfl<;>first|exact⟨_,ha⟩|exact⟨_,hb⟩
 |div ha _ h1 h2=>intro y hy;simp only [List.mem_cons,List.not_mem_nil,or_false]at hy;rcases hy with rfl|rfl<;>first|exact⟨_,ha⟩|exact⟨_,Typ.num (by omega) h2⟩
 |ite hc ha hb=>intro y hy;simp only [List.mem_cons,List.not_mem_nil,or_false]at hy;rcases hy with rfl|rfl|rfl<;>first|exact⟨_,hc⟩|exact⟨_,ha⟩|exact⟨_,hb⟩
 |rel _ ha hb=>intro y hy;simp only [List.mem_cons,List.not_mem_nil,or_false]at hy;rcases hy with rfl|rfl<;>first|exact⟨_,ha⟩|exact⟨_,hb⟩
 |not ha=>intro y hy;simp only [List.mem_cons,List.not_mem_nil,or_false]at hy;rcases hy with rfl;exact⟨_,ha⟩
 |bin _ ha hb=>intro y hy;simp only [List.mem_cons,List.not_mem_nil,or_false]at hy;rcases hy with rfl|rfl<;>first|exact⟨_,ha⟩|exact⟨_,hb⟩
theorem Typ.shx{names:List Rt.Bs}{x:M.Expr}{k:Int}(h:Typ names x k):Shx x:=by
 have nk:∀{o:Int},5<=o->b2j o 0 []:=fun{o}ho=>by unfold b2j;rw [if_neg (by omega),if_neg (by omega)];exact⟨rfl,rfl⟩
 have two:∀{o:Int}{a b:M.Expr},(5<=o/\o<=16/\o≠11/\o≠14)->Shx a->Shx b->Shx ⟨o,0,[],[a,b]⟩:=fun{o a b}ho ha hb=>by
  refine Shx.mk (by omega) (by omega) ?_ (nk ho.1) ?_
  ·show(2:Int)=_
   unfold b8z;rw [if_neg (by omega),if_neg (by omega),if_neg (by omega)]
  ·intro y hy;simp only [List.mem_cons,List.not_mem_nil,or_false]at hy;rcases hy with rfl|rfl<;>first|exact ha|exact hb
 have nn:∀{m:Int},0<=m->m<=1099511627776->Shx ⟨0,m,[],[]⟩:=fun{m}h1 h2=>Shx.mk (by decide) (by decide) rfl (by unfold b2j;rw [if_pos rfl];exact⟨⟨h1,h2⟩,rfl⟩) (by intro y hy;cases hy)
 induction h with
 |num h1 h2=>exact nn h1 h2
 |lifts h1 _=>exact Shx.mk (by decide) (by decide) rfl (by unfold b2j;rw [if_neg (by decide),if_pos (by decide)];exact⟨rfl,h1⟩) (by intro y hy;cases hy)
 |pers=>exact Shx.mk (by decide) (by decide) rfl (by unfold b2j;rw [if_neg (by decide),if_neg (by decide)];exact⟨rfl,rfl⟩) (by intro y hy;cases hy)
 |flats=>exact Shx.mk (by decide) (by decide) rfl (by unfold b2j;rw [if_neg (by decide),if_neg (by decide)];exact⟨rfl,rfl⟩) (by intro y hy;cases hy)
 |wgt h1 _=>exact Shx.mk (by decide) (by decide) rfl (by unfold b2j;rw [if_neg (by decide),if_pos (by decide)];exact⟨rfl,h1⟩) (by intro y hy;cases hy)
 |ari ho _ _ _ _ ha hb=>exact two (by omega) ha hb
 |mul _ _ _ _ _ ha hb=>exact two (by decide) ha hb
 |div _ _ h1 h2 ha=>exact two (by decide) ha (nn (by omega) h2)
 |ite _ _ _ _ _ hc ha hb=>
  refine Shx.mk (by decide) (by decide) rfl (nk (by decide)) ?_
  intro y hy;simp only [List.mem_cons,List.not_mem_nil,or_false]at hy;rcases hy with rfl|rfl|rfl<;>first|exact hc|exact ha|exact hb
 |rel ho _ _ ha hb=>exact two (by omega) ha hb
 |not _ ha=>
  refine Shx.mk (by decide) (by decide) rfl (nk (by decide)) ?_
  intro y hy;simp only [List.mem_cons,List.not_mem_nil,or_false]at hy;rcases hy with rfl;exact ha
 |bin ho _ _ ha hb=>exact two (by omega) ha hb
theorem e5d(n:Nat)(a b:Int):a1j n a b=some (bif a==0||b==0 then(0,13)else(wd a b,0)):=by
 unfold a1j wd
 have orT:∀c d:Bool,(bif c then some true else some d)=some (c||d):=fun c d=>by cases c<;>rfl
 rw [orT,Option.bind_some,orT,Option.bind_some]
 cases a==0||b==0<;>cases a==2||b==2<;>rfl
theorem e3l(k p q w:Int):Ev (fun n=>a3q n k [p,q] w) (bif p==w&&q==w then(k,0)else(0,13)):=by
 refine⟨3,fun n hn=> ?_⟩
 obtain⟨n,rfl⟩:∃j,n=j+3:=⟨n-3,by omega⟩
 show((bif p !=w then some (0:Int)else bif q !=w then some 1 else some (-1)).bind fun v1=>some (decide (0<=v1))).bind (fun v1=>bif v1 then some ((0:Int),(13:Int))else some (k,0))=_
 cases hp:p==w<;>cases hq:q==w<;>simp [bne,hp,hq]
theorem e3p(k p w:Int):Ev (fun n=>a3q n k [p] w) (bif p==w then(k,0)else(0,13)):=by
 refine⟨3,fun n hn=> ?_⟩
 obtain⟨n,rfl⟩:∃j,n=j+3:=⟨n-3,by omega⟩
 show((bif p !=w then some (0:Int)else some (-1)).bind fun v1=>some (decide (0<=v1))).bind (fun v1=>bif v1 then some ((0:Int),(13:Int))else some (k,0))=_
 cases hp:p==w<;>simp [bne,hp]
def Fnd(names:List Rt.Bs)(x:M.Expr)(r:Int×Int):Prop:=(r.2=0->Typ names x r.1)/\(∀k,Typ names x k->r=(k,0))
theorem Fnd.uniq{names:List Rt.Bs}{x:M.Expr}{p k:Int}(h:Fnd names x (p,0))(hk:Typ names x k):k=p:=by
 have:=h.2 k hk
 exact(Prod.mk.inj this).1.symm
inductive F2(names:List Rt.Bs):List M.Expr->List Int->Prop
 |nil:F2 names [] []
 |cons {x:M.Expr} {p:Int} {l:List M.Expr} {ps:List Int}:Fnd names x (p,0)->F2 names l ps->F2 names (x::l) (p::ps)
theorem d0r(x:M.Expr)(names:List Rt.Bs)(hx:x.Args.length<=1000000):∀(us:List M.Expr)(i:Nat)(acc:List Int),x.Args.drop i=us->acc.length=i->i<=x.Args.length->
 (∀y,y∈us->Tt (Fnd names y) (fun n=>tariff_typed n y names))->
 (∃(N:Nat)(e:Int),e≠0/\(∃y,y∈us/\∀k,¬Typ names y k)/\∀n m kont,N<=n->us.length<m->tariff_typed_L1 n (tariff_typed n) x names kont m (i:Int) acc=some (0,e))∨
 ∃(N:Nat)(ps:List Int),F2 names us ps/\∀n m kont,N<=n->us.length<m->tariff_typed_L1 n (tariff_typed n) x names kont m (i:Int) acc=kont (acc++ps)
 | [],i,acc,hd,ha,hi,_=>by
  refine .inr ⟨0,[],F2.nil,fun n m kont _ hm=> ?_⟩
  obtain⟨m,rfl⟩:=left hm
  rw [tariff_typed_L1_s,a9e hd,List.append_nil];rfl
 |y::us,i,acc,hd,ha,hi,H=>by
  obtain⟨h1,h2,h3⟩:=drop_cons hd
  obtain⟨⟨k,e⟩,⟨N1,e1⟩,hq⟩:=H y (by simp)
  by_cases he:e=0
  ·subst he
   have step:∀n m kont,N1<=n->tariff_typed_L1 n (tariff_typed n) x names kont (m+1) (i:Int) acc=tariff_typed_L1 n (tariff_typed n) x names kont m ((i+1:Nat):Int) (acc++ [k]):=by
    intro n m kont hn
    have e1:tariff_typed n y names=some (k,0):=e1 n (by omega)
    rw [tariff_typed_L1_s,a3y hd,cond_true,h1,Option.bind_some,e1,Option.bind_some]
    show((app 8 acc [k]).bind fun l3=>_)=_
    rw [c4h (by simp only [List.length_cons,List.length_nil];omega),Option.bind_some,inc64 (by omega)]
   rcases d0r x names hx us (i+1) (acc++ [k]) h2 (by simp [ha]) (by omega) (fun z hz=>H z (by simp [hz]))with⟨N,e,he,⟨z,hz,hzk⟩,ih⟩|⟨N,ps,hp,ih⟩
   ·refine .inl ⟨max N N1,e,he,⟨z,by simp [hz],hzk⟩,fun n m kont hn hm=> ?_⟩
    obtain⟨m,rfl,hm2⟩:=pred (by simpa using hm)
    rw [step n m kont (by omega)]
    exact ih n m kont (by omega) hm2
   ·refine .inr ⟨max N N1,k::ps,F2.cons hq hp,fun n m kont hn hm=> ?_⟩
    obtain⟨m,rfl,hm2⟩:=pred (by simpa using hm)
    rw [step n m kont (by omega),ih n m kont (by omega) hm2,List.append_assoc];rfl
  ·refine .inl ⟨N1,e,he,⟨y,by simp,fun k' hk=>he (Prod.mk.inj (hq.2 k' hk)).2⟩,fun n m kont hn hm=> ?_⟩
   obtain⟨m,rfl⟩:=left hm
   have e1:tariff_typed n y names=some (k,e):=e1 n (by omega)
   have hb:(e !=0)=true:=by simpa using he
   rw [tariff_typed_L1_s,a3y hd,cond_true,h1,Option.bind_some,e1,Option.bind_some]
   dsimp only
   rw [hb];rfl
def d3x(names:List Rt.Bs)(x:M.Expr)(n:Nat)(l2:List Int):Option (Int×Int):=
 (bif x.Op==1 then
  some true
 else
  some (x.Op==4)).bind fun v1=>
 bif v1 then
  (a0z n names x.Name).bind fun v2=>
  bif !v2 then
   some (0,11)
  else
   bif x.Op==4 then
    some (2,0)
   else
    some (1,0)
 else
  (bif x.Op==0 then
   some true
  else
   bif x.Op==2 then
    some true
   else
    some (x.Op==3)).bind fun v3=>
  bif v3 then
   some (1,0)
  else
   (bif x.Op==12 then
    some true
   else
    some (x.Op==13)).bind fun v4=>
   bif v4 then
    (a3q n 0 l2 1).bind fun v5=>
    some (v5.1,v5.2)
   else
    (bif x.Op==14 then
     some true
    else
     bif x.Op==15 then
      some true
     else
      some (x.Op==16)).bind fun v6=>
    bif v6 then
     (a3q n 0 l2 0).bind fun v7=>
     some (v7.1,v7.2)
    else
     bif x.Op==11 then
      (ix l2 0).bind fun ex=>
      bif ex !=0 then
       some (0,13)
      else
       (ix l2 1).bind fun w2=>
       (ix l2 2).bind fun w3=>
       (a1j n w2 w3).bind fun v8=>
       some (v8.1,v8.2)
     else
      bif x.Op==7 then
       (ix l2 0).bind fun w4=>
       (bif w4==2 then
        (ix l2 1).bind fun w7=>
        some (w7==2)
       else
        some false).bind fun v9=>
       bif v9 then
        some (0,13)
       else
        (ix l2 0).bind fun w5=>
        (ix l2 1).bind fun w6=>
        (a1j n w5 w6).bind fun v10=>
        some (v10.1,v10.2)
      else
       bif x.Op==8 then
        (ix x.Args 1).bind fun w8=>
        bif w8.Op !=0 then
         some (0,13)
        else
         bif w8.N==0 then
          some (0,14)
         else
          (ix l2 0).bind fun w9=>
          (ix l2 1).bind fun w0=>
          (a1j n w9 w0).bind fun v11=>
          some (v11.1,v11.2)
       else
        (ix l2 0).bind fun w1=>
        (ix l2 1).bind fun w2=>
        (a1j n w1 w2).bind fun v12=>
        some (v12.1,v12.2)
theorem c3b(n:Nat)(x:M.Expr)(names:List Rt.Bs):tariff_typed (n+1) x names=tariff_typed_L1 n (tariff_typed n) x names (d3x names x n) n 0 []:=rfl
def c0r(p q:Int):Int×Int:=bif p==0||q==0 then(0,13)else(wd p q,0)
theorem b4c(p q:Int):Ev (fun n=>(a1j n p q).bind fun v=>some (v.1,v.2)) (c0r p q):=Ev.all fun n=>by rw [e5d];rfl
theorem d8b(p q w:Int):Ev (fun n=>(a3q n 0 [p,q] w).bind fun v5=>some (v5.1,v5.2)) (bif p==w&&q==w then(0,0)else(0,13)):=Ev.bind (e3l 0 p q w) (Ev.pure _)
theorem e5t(p w:Int):Ev (fun n=>(a3q n 0 [p] w).bind fun v5=>some (v5.1,v5.2)) (bif p==w then(0,0)else(0,13)):=Ev.bind (e3p 0 p w) (Ev.pure _)
theorem b4e(p q:Int):((p≠0/\q≠0)/\c0r p q=(wd p q,0))∨((p=0∨q=0)/\c0r p q=(0,13)):=by
 unfold c0r
 by_cases hp:p=0
 ·subst hp;exact .inr ⟨.inl rfl,rfl⟩
 ·by_cases hq:q=0
  ·subst hq;exact .inr ⟨.inr rfl,by rw [show((0:Int)==0)=true from rfl,Bool.or_true];rfl⟩
  ·exact .inl ⟨⟨hp,hq⟩,by rw [show(p==0)=false by simpa using hp,show(q==0)=false by simpa using hq];rfl⟩
theorem Fnd.no{names:List Rt.Bs}{x:M.Expr}{p e:Int}(he:e≠0)(h:∀k,¬Typ names x k):Fnd names x (p,e):=⟨fun h2=>absurd h2 he,fun k hk=>absurd hk (h k)⟩
theorem Fnd.yes{names:List Rt.Bs}{x:M.Expr}{p:Int}(h:Typ names x p)(hu:∀k,Typ names x k->k=p):Fnd names x (p,0):=⟨fun _=>h,fun k hk=>by rw [hu k hk]⟩
theorem F2.len0{names:List Rt.Bs}{l:List M.Expr}{ps:List Int}(h:F2 names l ps)(h0:(l.length:Int)=0):l= []/\ps= []:=by
 cases h with
 |nil=>exact⟨rfl,rfl⟩
 |cons=>simp at h0;omega
theorem F2.len1{names:List Rt.Bs}{l:List M.Expr}{ps:List Int}(h:F2 names l ps)(h0:(l.length:Int)=1):∃a p,l= [a]/\ps= [p]/\Fnd names a (p,0):=by
 cases h with
 |nil=>simp at h0
 |cons ha h=>
  obtain⟨rfl,rfl⟩:=h.len0 (by simp only [List.length_cons]at h0;omega)
  exact⟨_,_,rfl,rfl,ha⟩
theorem F2.len2{names:List Rt.Bs}{l:List M.Expr}{ps:List Int}(h:F2 names l ps)(h0:(l.length:Int)=2):∃a b p q,l= [a,b]/\ps= [p,q]/\Fnd names a (p,0)/\Fnd names b (q,0):=by
 cases h with
 |nil=>simp at h0
 |cons ha h=>
  obtain⟨b,q,rfl,rfl,hb⟩:=h.len1 (by simp only [List.length_cons]at h0;omega)
  exact⟨_,b,_,q,rfl,rfl,ha,hb⟩
theorem F2.len3{names:List Rt.Bs}{l:List M.Expr}{ps:List Int}(h:F2 names l ps)(h0:(l.length:Int)=3):∃a b c p q r,l= [a,b,c]/\ps= [p,q,r]/\Fnd names a (p,0)/\Fnd names b (q,0)/\Fnd names c (r,0):=by
 cases h with
 |nil=>simp at h0
 |cons ha h=>
  obtain⟨b,c,q,r,rfl,rfl,hb,hc⟩:=h.len2 (by simp only [List.length_cons]at h0;omega)
  exact⟨_,b,c,_,q,r,rfl,rfl,ha,hb,hc⟩
theorem Shx.leaf{m:Int}{s:Rt.Bs}{l:List M.Expr}(h:Shx ⟨0,m,s,l⟩):(0<=m/\m<=1099511627776)/\s= []/\l= []:=by
 obtain⟨_,_,h3,h4,_⟩:=h.inv
 unfold b2j at h4
 rw [if_pos rfl]at h4
 refine⟨h4.1,h4.2,List.length_eq_zero_iff.1 ?_⟩
 have:(l.length:Int)=0:=h3
 omega
theorem c5g{names:List Rt.Bs}{o:Int}{a b:M.Expr}{p q:Int}(ho:o=5∨o=6∨o=9∨o=10)(ha:Fnd names a (p,0))(hb:Fnd names b (q,0)):Fnd names ⟨o,0,[],[a,b]⟩ (c0r p q):=by
 have inv:∀k,Typ names ⟨o,0,[],[a,b]⟩ k->(p≠0/\q≠0)/\k=wd p q:=by
  intro k hk
  cases hk with
  |ari _ h1 h2 h3 h4=>obtain rfl:=ha.uniq h1;obtain rfl:=hb.uniq h2;exact⟨⟨h3,h4⟩,rfl⟩
  |mul=>omega
  |div=>omega
  |rel h=>omega
  |bin h=>omega
 rcases b4e p q with⟨h,e⟩|⟨h,e⟩
 ·rw [e];exact Fnd.yes (Typ.ari ho (ha.1 rfl) (hb.1 rfl) h.1 h.2) fun k hk=>(inv k hk).2
 ·rw [e];exact Fnd.no (by decide) fun k hk=>by have:=(inv k hk).1;omega
theorem e2u{names:List Rt.Bs}{a b:M.Expr}{p q:Int}(ha:Fnd names a (p,0))(hb:Fnd names b (q,0)):Fnd names ⟨7,0,[],[a,b]⟩ (bif p==2&&q==2 then(0,13)else c0r p q):=by
 have inv:∀k,Typ names ⟨7,0,[],[a,b]⟩ k->((p≠0/\q≠0)/\¬(p=2/\q=2))/\k=wd p q:=by
  intro k hk
  cases hk with
  |ari h=>omega
  |mul h1 h2 h3 h4 h5=>obtain rfl:=ha.uniq h1;obtain rfl:=hb.uniq h2;exact⟨⟨⟨h3,h4⟩,h5⟩,rfl⟩
  |rel h=>omega
  |bin h=>omega
 by_cases h2:p=2/\q=2
 ·rw [h2.1,h2.2];exact Fnd.no (by decide) fun k hk=>(inv k hk).1.2 h2
 ·have e2:(p==2&&q==2)=false:=by
   cases h:p==2&&q==2
   ·rfl
   ·rw [Bool.and_eq_true]at h;exact absurd ⟨by simpa using h.1,by simpa using h.2⟩ h2
  rw [e2]
  show Fnd names _ (c0r p q)
  rcases b4e p q with⟨h,e⟩|⟨h,e⟩
  ·rw [e];exact Fnd.yes (Typ.mul (ha.1 rfl) (hb.1 rfl) h.1 h.2 h2) fun k hk=>(inv k hk).2
  ·rw [e];exact Fnd.no (by decide) fun k hk=>by have:=(inv k hk).1.1;omega
theorem e4d{names:List Rt.Bs}{a:M.Expr}{p:Int}(h:Typ names a p)(h0:p≠0):wd p 1=p:=by
 rcases h.range with rfl|rfl|rfl
 ·exact absurd rfl h0
 ·rfl
 ·rfl
theorem e2a{names:List Rt.Bs}{a b:M.Expr}{p q:Int}(ha:Fnd names a (p,0))(hb:Fnd names b (q,0))(hs:Shx b):Fnd names ⟨8,0,[],[a,b]⟩ (bif b.Op !=0 then(0,13)else bif b.N==0 then(0,14)else c0r p q):=by
 have inv:∀k,Typ names ⟨8,0,[],[a,b]⟩ k->∃m,b=⟨0,m,[],[]⟩/\m≠0/\p≠0/\k=p:=by
  intro k hk
  cases hk with
  |ari h=>omega
  |div h1 h2 h3 h4=>obtain rfl:=ha.uniq h1;exact⟨_,rfl,by omega,h2,rfl⟩
  |rel h=>omega
  |bin h=>omega
 obtain⟨o,m,s,l⟩:=b
 dsimp only
 by_cases h0:o=0
 ·subst h0
  obtain⟨h1,rfl,rfl⟩:=hs.leaf
  have hq:q=1:=(hb.uniq (Typ.num h1.1 h1.2)).symm
  subst hq
  show Fnd names _ (bif m==0 then(0,14)else c0r p 1)
  by_cases hm:m=0
  ·subst hm
   exact Fnd.no (by decide) fun k hk=>by
    obtain⟨m2,h5,h6,_⟩:=inv k hk
    injection h5 with _ h7
    exact h6 h7.symm
  ·rw [show(m==0)=false by simpa using hm]
   show Fnd names _ (c0r p 1)
   rcases b4e p 1 with⟨h,e⟩|⟨h,e⟩
   ·rw [e,e4d (ha.1 rfl) h.1];exact Fnd.yes (Typ.div (ha.1 rfl) h.1 (by omega) h1.2) fun k hk=>by obtain⟨_,_,_,_,h⟩:=inv k hk;exact h
   ·rw [e];exact Fnd.no (by decide) fun k hk=>by obtain⟨_,_,_,h5,_⟩:=inv k hk;omega
 ·rw [show(o !=0)=true by simpa using h0]
  exact Fnd.no (by decide) fun k hk=>by
   obtain⟨m2,h5,_⟩:=inv k hk
   injection h5 with h7
   exact h0 h7
theorem e1a{names:List Rt.Bs}{c a b:M.Expr}{r p q:Int}(hc:Fnd names c (r,0))(ha:Fnd names a (p,0))(hb:Fnd names b (q,0)):Fnd names ⟨11,0,[],[c,a,b]⟩ (bif r !=0 then(0,13)else c0r p q):=by
 have inv:∀k,Typ names ⟨11,0,[],[c,a,b]⟩ k->(r=0/\p≠0/\q≠0)/\k=wd p q:=by
  intro k hk
  cases hk with
  |ite h0 h1 h2 h3 h4=>obtain rfl:=hc.uniq h0;obtain rfl:=ha.uniq h1;obtain rfl:=hb.uniq h2;exact⟨⟨rfl,h3,h4⟩,rfl⟩
 by_cases hr:r=0
 ·subst hr
  show Fnd names _ (c0r p q)
  rcases b4e p q with⟨h,e⟩|⟨h,e⟩
  ·rw [e];exact Fnd.yes (Typ.ite (hc.1 rfl) (ha.1 rfl) (hb.1 rfl) h.1 h.2) fun k hk=>(inv k hk).2
  ·rw [e];exact Fnd.no (by decide) fun k hk=>by have:=(inv k hk).1;omega
 ·rw [show(r !=0)=true by simpa using hr]
  exact Fnd.no (by decide) fun k hk=>hr (inv k hk).1.1
theorem d4b{names:List Rt.Bs}{o:Int}{a b:M.Expr}{p q:Int}(ho:o=12∨o=13)(ha:Fnd names a (p,0))(hb:Fnd names b (q,0)):Fnd names ⟨o,0,[],[a,b]⟩ (bif p==1&&q==1 then(0,0)else(0,13)):=by
 have inv:∀k,Typ names ⟨o,0,[],[a,b]⟩ k->(p=1/\q=1)/\k=0:=by
  intro k hk
  cases hk with
  |ari h=>omega
  |mul=>omega
  |div=>omega
  |rel _ h1 h2=>exact⟨⟨(ha.uniq h1).symm,(hb.uniq h2).symm⟩,rfl⟩
  |bin h=>omega
 by_cases h2:p=1/\q=1
 ·obtain⟨rfl,rfl⟩:=h2;exact Fnd.yes (Typ.rel ho (ha.1 rfl) (hb.1 rfl)) fun k hk=>(inv k hk).2
 ·have e2:(p==1&&q==1)=false:=by
   cases h:p==1&&q==1
   ·rfl
   ·rw [Bool.and_eq_true]at h;exact absurd ⟨by simpa using h.1,by simpa using h.2⟩ h2
  rw [e2];exact Fnd.no (by decide) fun k hk=>h2 (inv k hk).1
theorem d4s{names:List Rt.Bs}{o:Int}{a b:M.Expr}{p q:Int}(ho:o=15∨o=16)(ha:Fnd names a (p,0))(hb:Fnd names b (q,0)):Fnd names ⟨o,0,[],[a,b]⟩ (bif p==0&&q==0 then(0,0)else(0,13)):=by
 have inv:∀k,Typ names ⟨o,0,[],[a,b]⟩ k->(p=0/\q=0)/\k=0:=by
  intro k hk
  cases hk with
  |ari h=>omega
  |mul=>omega
  |div=>omega
  |rel h=>omega
  |bin _ h1 h2=>exact⟨⟨(ha.uniq h1).symm,(hb.uniq h2).symm⟩,rfl⟩
 by_cases h2:p=0/\q=0
 ·obtain⟨rfl,rfl⟩:=h2;exact Fnd.yes (Typ.bin ho (ha.1 rfl) (hb.1 rfl)) fun k hk=>(inv k hk).2
 ·have e2:(p==0&&q==0)=false:=by
   cases h:p==0&&q==0
   ·rfl
   ·rw [Bool.and_eq_true]at h;exact absurd ⟨by simpa using h.1,by simpa using h.2⟩ h2
  rw [e2];exact Fnd.no (by decide) fun k hk=>h2 (inv k hk).1
theorem e1b{names:List Rt.Bs}{a:M.Expr}{p:Int}(ha:Fnd names a (p,0)):Fnd names ⟨14,0,[],[a]⟩ (bif p==0 then(0,0)else(0,13)):=by
 have inv:∀k,Typ names ⟨14,0,[],[a]⟩ k->p=0/\k=0:=by
  intro k hk
  cases hk with
  |not h1=>exact⟨(ha.uniq h1).symm,rfl⟩
 by_cases h2:p=0
 ·subst h2;exact Fnd.yes (Typ.not (ha.1 rfl)) fun k hk=>(inv k hk).2
 ·rw [show(p==0)=false by simpa using h2];exact Fnd.no (by decide) fun k hk=>h2 (inv k hk).1
theorem a5j{o n:Int}{s:Rt.Bs}(h:b2j o n s)(h5:o≠0/\o≠1/\o≠4):n=0/\s= []:=by
 unfold b2j at h
 rw [if_neg h5.1,if_neg (by omega)]at h
 exact h
theorem e2c{x:M.Expr}(hx:Fit x)(names:List Rt.Bs)(hn:names.length<4611686018427387904):Shx x->Tt (Fnd names x) (fun n=>tariff_typed n x names):=by
 induction hx with
 | @mk o k s l hl _ ih=>
  intro hs
  obtain⟨h1,h2,h3,hno,h4⟩:=hs.inv
  rcases d0r ⟨o,k,s,l⟩ names hl l 0 [] rfl rfl (by simp) (fun y hy=>ih y hy (h4 y hy))with⟨N,e,he,⟨y,hy,hyk⟩,hL⟩|⟨N,ps,hp,hL⟩
  ·refine⟨(0,e),Ev.suc (fun n=>c3b n _ _) ⟨N+l.length+1,fun n hn=>hL n n _ (by omega) (by omega)⟩,Fnd.no he fun k' hk=> ?_⟩
   obtain⟨p,hp⟩:=hk.args y hy
   exact hyk p hp
  have out:∀r:Int×Int,Fnd names ⟨o,k,s,l⟩ r->Ev (fun n=>d3x names ⟨o,k,s,l⟩ n ps) r->Tt (Fnd names ⟨o,k,s,l⟩) (fun n=>tariff_typed n ⟨o,k,s,l⟩ names):=by
   intro r hty hf
   exact⟨r,Ev.suc (fun n=>c3b n _ _) (Ev.from (N+l.length+1) (fun n hn=>hL n n _ (by omega) (by omega)) hf),hty⟩
  clear hL ih
  have hc:o=0∨o=1∨o=2∨o=3∨o=4∨o=5∨o=6∨o=7∨o=8∨o=9∨o=10∨o=11∨o=12∨o=13∨o=14∨o=15∨o=16:=by omega
  rcases hc with rfl|rfl|rfl|rfl|rfl|rfl|rfl|rfl|rfl|rfl|rfl|rfl|rfl|rfl|rfl|rfl|rfl
  ·obtain⟨h5,rfl,rfl⟩:=hs.leaf
   obtain⟨_,rfl⟩:=hp.len0 rfl
   exact out (1,0) (Fnd.yes (Typ.num h5.1 h5.2) fun k hk=>by cases hk;rfl) (Ev.all fun n=>rfl)
  ·obtain⟨rfl,rfl⟩:=hp.len0 h3
   unfold b2j at hno
   rw [if_neg (by decide),if_pos (by decide)]at hno
   obtain⟨rfl,hname⟩:=hno
   refine out (bif !decide (s∈names)then(0,11)else(1,0)) ?_ ?_
   ·by_cases hm:s∈names
    ·rw [decide_eq_true hm];exact Fnd.yes (Typ.lifts hname hm) fun k hk=>by cases hk;rfl
    ·rw [decide_eq_false hm];exact Fnd.no (by decide) fun k hk=>by cases hk;contradiction
   ·exact Ev.bind (f:=fun n v2=>bif !v2 then some (0,11)else some (1,0)) (b1q s hn) (by cases decide (s∈names)<;>exact Ev.pure _)
  ·obtain⟨rfl,rfl⟩:=hp.len0 h3
   obtain⟨rfl,rfl⟩:=a5j hno (by decide)
   exact out (1,0) (Fnd.yes Typ.pers fun k hk=>by cases hk;rfl) (Ev.all fun n=>rfl)
  ·obtain⟨rfl,rfl⟩:=hp.len0 h3
   obtain⟨rfl,rfl⟩:=a5j hno (by decide)
   exact out (1,0) (Fnd.yes Typ.flats fun k hk=>by cases hk;rfl) (Ev.all fun n=>rfl)
  ·obtain⟨rfl,rfl⟩:=hp.len0 h3
   unfold b2j at hno
   rw [if_neg (by decide),if_pos (by decide)]at hno
   obtain⟨rfl,hname⟩:=hno
   refine out (bif !decide (s∈names)then(0,11)else(2,0)) ?_ ?_
   ·by_cases hm:s∈names
    ·rw [decide_eq_true hm];exact Fnd.yes (Typ.wgt hname hm) fun k hk=>by cases hk;rfl
    ·rw [decide_eq_false hm];exact Fnd.no (by decide) fun k hk=>by cases hk;contradiction
   ·exact Ev.bind (f:=fun n v2=>bif !v2 then some (0,11)else some (2,0)) (b1q s hn) (by cases decide (s∈names)<;>exact Ev.pure _)
  ·obtain⟨a,b,p,q,rfl,rfl,ha,hb⟩:=hp.len2 h3
   obtain⟨rfl,rfl⟩:=a5j hno (by decide)
   exact out _ (c5g (by decide) ha hb) (b4c p q)
  ·obtain⟨a,b,p,q,rfl,rfl,ha,hb⟩:=hp.len2 h3
   obtain⟨rfl,rfl⟩:=a5j hno (by decide)
   exact out _ (c5g (by decide) ha hb) (b4c p q)
  ·obtain⟨a,b,p,q,rfl,rfl,ha,hb⟩:=hp.len2 h3
   obtain⟨rfl,rfl⟩:=a5j hno (by decide)
   refine out _ (e2u ha hb) ?_
   show Ev (fun n=>(bif p==2 then some (q==2)else some false).bind fun v9=>bif v9 then some (0,13)else(a1j n p q).bind fun v=>some (v.1,v.2)) _
   refine Ev.bind (a:=p==2&&q==2) (Ev.all fun n=>by cases p==2<;>rfl) ?_
   cases p==2&&q==2
   ·exact Ev.else rfl (b4c p q)
   ·exact Ev.then rfl (Ev.pure _)
  ·obtain⟨a,b,p,q,rfl,rfl,ha,hb⟩:=hp.len2 h3
   obtain⟨rfl,rfl⟩:=a5j hno (by decide)
   refine out _ (e2a ha hb (h4 b (by simp))) ?_
   show Ev (fun n=>bif b.Op !=0 then some (0,13)else bif b.N==0 then some (0,14)else(a1j n p q).bind fun v=>some (v.1,v.2)) _
   cases b.Op !=0
   ·cases b.N==0
    ·exact Ev.else rfl (Ev.else rfl (b4c p q))
    ·exact Ev.else rfl (Ev.then rfl (Ev.pure _))
   ·exact Ev.then rfl (Ev.pure _)
  ·obtain⟨a,b,p,q,rfl,rfl,ha,hb⟩:=hp.len2 h3
   obtain⟨rfl,rfl⟩:=a5j hno (by decide)
   exact out _ (c5g (by decide) ha hb) (b4c p q)
  ·obtain⟨a,b,p,q,rfl,rfl,ha,hb⟩:=hp.len2 h3
   obtain⟨rfl,rfl⟩:=a5j hno (by decide)
   exact out _ (c5g (by decide) ha hb) (b4c p q)
  ·obtain⟨c,a,b,r,p,q,rfl,rfl,hcc,ha,hb⟩:=hp.len3 h3
   obtain⟨rfl,rfl⟩:=a5j hno (by decide)
   refine out _ (e1a hcc ha hb) ?_
   show Ev (fun n=>bif r !=0 then some (0,13)else(a1j n p q).bind fun v=>some (v.1,v.2)) _
   cases r !=0
   ·exact Ev.else rfl (b4c p q)
   ·exact Ev.then rfl (Ev.pure _)
  ·obtain⟨a,b,p,q,rfl,rfl,ha,hb⟩:=hp.len2 h3
   obtain⟨rfl,rfl⟩:=a5j hno (by decide)
   exact out _ (d4b (by decide) ha hb) (d8b p q 1)
  ·obtain⟨a,b,p,q,rfl,rfl,ha,hb⟩:=hp.len2 h3
   obtain⟨rfl,rfl⟩:=a5j hno (by decide)
   exact out _ (d4b (by decide) ha hb) (d8b p q 1)
  ·obtain⟨a,p,rfl,rfl,ha⟩:=hp.len1 h3
   obtain⟨rfl,rfl⟩:=a5j hno (by decide)
   exact out _ (e1b ha) (e5t p 0)
  ·obtain⟨a,b,p,q,rfl,rfl,ha,hb⟩:=hp.len2 h3
   obtain⟨rfl,rfl⟩:=a5j hno (by decide)
   exact out _ (d4s (by decide) ha hb) (d8b p q 0)
  ·obtain⟨a,b,p,q,rfl,rfl,ha,hb⟩:=hp.len2 h3
   obtain⟨rfl,rfl⟩:=a5j hno (by decide)
   exact out _ (d4s (by decide) ha hb) (d8b p q 0)
theorem Typ.uniq{names:List Rt.Bs}(hn:names.length<4611686018427387904){x:M.Expr}(hx:Fit x){j k:Int}(h:Typ names x j)(h2:Typ names x k):j=k:=by
 obtain⟨r,_,hr⟩:=e2c hx names hn h.shx
 have e:=(hr.2 j h).symm.trans (hr.2 k h2)
 exact(Prod.mk.inj e).1
end Go.Proofs.YthaegflpecbfgaaGreatDoor.Tp
namespace Go.Proofs.YthaegflpecbfgaaGreatDoor.D
def val:List Int->Int
 | []=>0
 |d::l=>d+1048576*val l
def valc:List Int->Int->Int
 | [],c=>c
 |d::l,c=>d+1048576*valc l c
def pw:Nat->Int
 |0=>1
 |k+1=>1048576*pw k
def InR(l:List Int):Prop:=∀d∈l,0<=d/\d<1048576
theorem InR.nil:InR []:=by intro d hd;simp at hd
theorem InR.cons{d:Int}{l:List Int}(h0:0<=d)(h1:d<1048576)(h:InR l):InR (d::l):=by
 intro e he
 rcases List.mem_cons.1 he with rfl|he
 ·exact⟨h0,h1⟩
 ·exact h e he
theorem InR.head{d:Int}{l:List Int}(h:InR (d::l)):0<=d/\d<1048576:=h d (by simp)
theorem InR.tail{d:Int}{l:List Int}(h:InR (d::l)):InR l:=fun e he=>h e (by simp [he])
theorem InR.append{a b:List Int}(h:InR a)(k:InR b):InR (a++b):=by
 intro e he
 rcases List.mem_append.1 he with he|he
 ·exact h e he
 ·exact k e he
theorem InR.left{a b:List Int}(h:InR (a++b)):InR a:=fun e he=>h e (by simp [he])
theorem InR.right{a b:List Int}(h:InR (a++b)):InR b:=fun e he=>h e (by simp [he])
theorem InR.rep(k:Nat):InR (List.replicate k 0):=by
 intro e he
 rw [(List.mem_replicate.1 he).2];decide
theorem InR.headD{l:List Int}(h:InR l):0<=l.headD 0/\l.headD 0<1048576:=by
 cases l with
 |nil=>simp
 |cons d l=>simpa using h.head
theorem InR.tail'{l:List Int}(h:InR l):InR l.tail:=by
 cases l with
 |nil=>exact h
 |cons d l=>exact h.tail
theorem pw_pos:∀k,0<pw k
 |0=>by decide
 |k+1=>by have:=pw_pos k;simp only [pw];omega
theorem valc_eq:∀(l:List Int)(c:Int),valc l c=val l+pw l.length*c
 | [],c=>by simp [valc,val,pw]
 |d::l,c=>by simp only [valc,val,pw,List.length_cons,valc_eq l c];grind
theorem val_append:∀(a b:List Int),val (a++b)=val a+pw a.length*val b
 | [],b=>by simp [val,pw]
 |d::a,b=>by simp only [List.cons_append,val,pw,List.length_cons,val_append a b];grind
theorem b7q(a b:List Int):valc a (val b)=val (a++b):=by rw [valc_eq,val_append]
theorem val_nonneg:∀{l:List Int},InR l->0<=val l
 | [],_=>by simp [val]
 |d::l,h=>by have:=val_nonneg h.tail;have:=h.head;simp only [val];omega
theorem val_lt:∀{l:List Int},InR l->val l<pw l.length
 | [],_=>by simp [val,pw]
 |d::l,h=>by have:=val_lt h.tail;have:=h.head;simp only [val,pw,List.length_cons];omega
theorem val_rep:∀k,val (List.replicate k 0)=0
 |0=>rfl
 |k+1=>by rw [List.replicate_succ];simp only [val,val_rep k];rfl
def dig(v:Nat):List Int:=if v=0 then []else((v %1048576:Nat):Int)::dig (v/1048576)
 termination_by v
 decreasing_by omega
theorem dig_zero:dig 0= []:=by rw [dig];simp
theorem b4w{v:Nat}(h:v≠0):dig v=((v %1048576:Nat):Int)::dig (v/1048576):=by rw [dig];simp [h]
theorem a1p(v:Nat):val (dig v)=v:=by
 induction v using Nat.strongRecOn with
 |ind v ih=>
  by_cases h:v=0
  ·subst h;rw [dig_zero];rfl
  ·rw [b4w h];simp only [val];rw [ih (v/1048576) (by omega)];omega
theorem a2e(v:Nat):InR (dig v):=by
 induction v using Nat.strongRecOn with
 |ind v ih=>
  by_cases h:v=0
  ·subst h;rw [dig_zero];exact InR.nil
  ·rw [b4w h];exact InR.cons (by omega) (by omega) (ih _ (by omega))
theorem b6s{v:Nat}(h:v≠0):dig v≠ []:=by rw [b4w h];simp
theorem b8x(v:Nat):(dig v).getLast?≠some 0:=by
 induction v using Nat.strongRecOn with
 |ind v ih=>
  by_cases h:v=0
  ·subst h;rw [dig_zero];simp
  ·rw [b4w h]
   by_cases h2:v/1048576=0
   ·rw [h2,dig_zero];simp;omega
   ·have:=ih _ (show v/1048576<v by omega)
    rw [List.getLast?_cons]
    have h3:=b6s h2
    cases hg:(dig (v/1048576)).getLast? with
    |none=>rw [List.getLast?_eq_none_iff]at hg;exact absurd hg h3
    |some z=>simp [hg]at this⊢;exact this
def Canon(l:List Int):Prop:=InR l/\l.getLast?≠some 0
theorem Canon.tail{d:Int}{l:List Int}(h:Canon (d::l)):Canon l:=by
 refine⟨h.1.tail,?_⟩
 cases l with
 |nil=>simp
 |cons e l=>have:=h.2;rw [List.getLast?_cons_cons]at this;exact this
theorem b0l(v:Nat):Canon (dig v):=⟨a2e v,b8x v⟩
theorem dig_val:∀{l:List Int},Canon l->dig (val l).toNat=l
 | [],_=>by simp [val,dig_zero]
 |d::l,h=>by
  have ih:=dig_val h.tail
  have h0:=h.1.head
  have h1:=val_nonneg h.1.tail
  simp only [val]
  have hne:(d+1048576*val l).toNat≠0:=by
   intro e
   have e1:val l=0:=by omega
   have e2:d=0:=by omega
   rw [e1]at ih
   simp only [Int.toNat_zero,dig_zero]at ih
   subst ih e2
   exact h.2 rfl
  rw [b4w hne]
  have e1:(((d+1048576*val l).toNat %1048576:Nat):Int)=d:=by omega
  have e2:(d+1048576*val l).toNat/1048576=(val l).toNat:=by omega
  rw [e1,e2,ih]
theorem e0t{u v:Nat}(h:dig u=dig v):u=v:=by
 have h1:=a1p u
 rw [h,a1p]at h1;omega
theorem split_dig:∀{l:List Int},InR l->∃r,l=dig (val l).toNat++List.replicate r 0
 | [],_=>⟨0,by simp [val,dig_zero]⟩
 |d::l,h=>by
  obtain⟨r,hr⟩:=split_dig h.tail
  have h0:=h.head
  have h1:=val_nonneg h.tail
  simp only [val]
  by_cases hz:(d+1048576*val l).toNat=0
  ·have e1:val l=0:=by omega
   have e2:d=0:=by omega
   rw [e1]at hr
   simp only [Int.toNat_zero,dig_zero,List.nil_append]at hr
   refine⟨r+1,?_⟩
   rw [hz,dig_zero,e2,hr,List.replicate_succ];simp
  ·refine⟨r,?_⟩
   rw [b4w hz]
   have e1:(((d+1048576*val l).toNat %1048576:Nat):Int)=d:=by omega
   have e2:(d+1048576*val l).toNat/1048576=(val l).toNat:=by omega
   rw [e1,e2]
   conv=>lhs;rw [hr]
   simp
theorem b9w{l:List Int}(h:InR l):(dig (val l).toNat).length<=l.length:=by
 obtain⟨r,hr⟩:=split_dig h
 conv=>rhs;rw [hr]
 simp
theorem val_lt_of_len:∀{a b:List Int},InR a->Canon b->a.length<b.length->val a<val b
 | [],[],_,_,h=>by simp at h
 | [],d::l,_,hb,_=>by
  have h1:=val_nonneg hb.1
  have h2:val (d::l)≠0:=by
   intro e
   have:=dig_val hb
   rw [e]at this
   simp [dig_zero]at this
  simp only [val]at*;omega
 |x::xs,[],_,_,h=>by simp at h
 |x::xs,y::ys,ha,hb,h=>by
  have:=val_lt_of_len ha.tail hb.tail (by simpa using h)
  have:=ha.head
  have:=hb.1.head
  simp only [val];omega
theorem a4k{u v:Nat}(h:u<=v):(dig u).length<=(dig v).length:=by
 rcases Nat.lt_or_ge (dig v).length (dig u).length with h1|h1
 ·have:=val_lt_of_len (a2e v) (b0l u) h1
  rw [a1p,a1p]at this;omega
 ·exact h1
def addD:Int->List Int->List Int->List Int×Int
 |c,[],_=>([],c)
 |c,x::xs,ys=>((c+x+ys.headD 0) %1048576::(addD ((c+x+ys.headD 0)/1048576) xs ys.tail).1,(addD ((c+x+ys.headD 0)/1048576) xs ys.tail).2)
theorem addD_val:∀(xs ys:List Int)(c:Int),ys.length<=xs.length->valc (addD c xs ys).1 (addD c xs ys).2=c+val xs+val ys
 | [],ys,c,h=>by
  have:ys= []:=List.eq_nil_of_length_eq_zero (by simpa using h)
  subst this;simp [addD,valc,val]
 |x::xs,ys,c,h=>by
  have ih:=addD_val xs ys.tail ((c+x+ys.headD 0)/1048576) (by simp at h⊢;omega)
  simp only [addD,valc,ih,val]
  cases ys with
  |nil=>simp [val];omega
  |cons y ys=>simp [val];omega
theorem addD_len:∀(xs ys:List Int)(c:Int),(addD c xs ys).1.length=xs.length
 | [],_,_=>rfl
 |x::xs,ys,c=>by simp [addD,addD_len xs]
theorem addD_in:∀(xs ys:List Int)(c:Int),InR (addD c xs ys).1
 | [],_,_=>InR.nil
 |x::xs,ys,c=>InR.cons (by omega) (by omega) (addD_in xs _ _)
theorem addD_carry:∀(xs ys:List Int)(c:Int),InR xs->InR ys->0<=c->c<=1->0<=(addD c xs ys).2/\(addD c xs ys).2<=1
 | [],_,c,_,_,h0,h1=>⟨h0,h1⟩
 |x::xs,ys,c,hx,hy,h0,h1=>by
  have:=hx.head
  have:=hy.headD
  exact addD_carry xs ys.tail _ hx.tail hy.tail' (by omega) (by omega)
def setD(g:Int):Int->List Int->List Int->List Int×Int
 |b,[],_=>([],b)
 |b,u::us,vs=>((u-b-g*vs.headD 0) %1048576::(setD g (-((u-b-g*vs.headD 0)/1048576)) us vs.tail).1,(setD g (-((u-b-g*vs.headD 0)/1048576)) us vs.tail).2)
theorem c5l(g:Int):∀(us vs:List Int)(b:Int),vs.length<=us.length->valc (setD g b us vs).1 (-(setD g b us vs).2)=val us-b-g*val vs
 | [],vs,b,h=>by
  have:vs= []:=List.eq_nil_of_length_eq_zero (by simpa using h)
  subst this;simp [setD,valc,val]
 |u::us,vs,b,h=>by
  have ih:=c5l g us vs.tail (-((u-b-g*vs.headD 0)/1048576)) (by simp at h⊢;omega)
  simp only [setD,valc,ih,val]
  cases vs with
  |nil=>simp [val];omega
  |cons v vs=>
   simp only [List.headD_cons,List.tail_cons,val]
   rw [show g*(v+1048576*val vs)=g*v+1048576*(g*val vs) by grind]
   generalize g*v=p
   generalize g*val vs=q
   omega
theorem b5v(g:Int):∀(us vs:List Int)(b:Int),(setD g b us vs).1.length=us.length
 | [],_,_=>rfl
 |x::xs,ys,c=>by simp [setD,b5v g xs]
theorem b5t(g:Int):∀(us vs:List Int)(b:Int),InR (setD g b us vs).1
 | [],_,_=>InR.nil
 |x::xs,ys,c=>InR.cons (by omega) (by omega) (b5t g xs _ _)
theorem b7r{g v:Int}(hg:0<=g)(h0:0<=v)(h1:v<1048576):0<=g*v/\g*v<=g*1048576-g:=by
 have h2:=Int.mul_nonneg hg h0
 have h3:=Int.mul_le_mul_of_nonneg_left (show v<=1048575 by omega) hg
 omega
theorem b7s{g:Int}(hg:0<=g):∀(us vs:List Int)(b:Int),InR us->InR vs->0<=b->b<=g->0<=(setD g b us vs).2/\(setD g b us vs).2<=g
 | [],_,b,_,_,h0,h1=>⟨h0,h1⟩
 |u::us,vs,b,hu,hv,h0,h1=>by
  have:=hu.head
  have:=hv.headD
  have:=b7r (g:=g) hg this.1 this.2
  exact b7s hg us vs.tail _ hu.tail hv.tail' (by omega) (by omega)
def mulD(x:Int):Int->List Int->List Int->List Int×Int
 |c,[],_=>([],c)
 |c,y::ys,ws=>((ws.headD 0+x*y+c) %1048576::(mulD x ((ws.headD 0+x*y+c)/1048576) ys ws.tail).1,(mulD x ((ws.headD 0+x*y+c)/1048576) ys ws.tail).2)
theorem d0t(x:Int):∀(ys ws:List Int)(c:Int),ws.length=ys.length->valc (mulD x c ys ws).1 (mulD x c ys ws).2=val ws+x*val ys+c
 | [],ws,c,h=>by
  have:ws= []:=List.eq_nil_of_length_eq_zero (by simpa using h)
  subst this;simp [mulD,valc,val]
 |y::ys,[],c,h=>by simp at h
 |y::ys,w::ws,c,h=>by
  have ih:=d0t x ys ws ((w+x*y+c)/1048576) (by simpa using h)
  simp only [mulD,List.headD_cons,List.tail_cons,valc,ih,val]
  rw [show x*(y+1048576*val ys)=x*y+1048576*(x*val ys) by grind]
  generalize x*y=p
  generalize x*val ys=q
  omega
theorem c0s(x:Int):∀(ys ws:List Int)(c:Int),(mulD x c ys ws).1.length=ys.length
 | [],_,_=>rfl
 |y::ys,ws,c=>by simp [mulD,c0s x ys]
theorem c9u(x:Int):∀(ys ws:List Int)(c:Int),InR (mulD x c ys ws).1
 | [],_,_=>InR.nil
 |y::ys,ws,c=>InR.cons (by omega) (by omega) (c9u x ys _ _)
theorem c2m{x y:Int}(h0:0<=x)(h1:x<1048576)(h2:0<=y)(h3:y<1048576):0<=x*y/\x*y<=1099509530625:=by
 have h4:=b7r h0 h2 h3
 omega
theorem b9f{x:Int}(h0:0<=x)(h1:x<1048576):∀(ys ws:List Int)(c:Int),InR ys->InR ws->0<=c->c<1048576->0<=(mulD x c ys ws).2/\(mulD x c ys ws).2<1048576
 | [],_,c,_,_,h2,h3=>⟨h2,h3⟩
 |y::ys,ws,c,hy,hw,h2,h3=>by
  have e1:=hy.head
  have e2:=hw.headD
  have e3:=c2m h0 h1 e1.1 e1.2
  exact b9f h0 h1 ys ws.tail _ hy.tail hw.tail' (by omega) (by omega)
def mulF(b:List Int):List Int->List Int->List Int
 | [],w=>w
 |x::xs,w=>((mulD x 0 b w).1++ [(mulD x 0 b w).2]).headD 0::mulF b xs (((mulD x 0 b w).1++ [(mulD x 0 b w).2]).tail)
theorem d3m{l:List Int}(h:l≠ []):l.headD 0+1048576*val l.tail=val l:=by
 cases l with
 |nil=>exact absurd rfl h
 |cons d l=>rfl
theorem c5s(b:List Int):∀(xs w:List Int),w.length=b.length->val (mulF b xs w)=val w+val xs*val b
 | [],w,_=>by simp [mulF,val]
 |x::xs,w,h=>by
  have e1:=d0t x b w 0 h
  have e2:=c5s b xs (((mulD x 0 b w).1++ [(mulD x 0 b w).2]).tail) (by simp [c0s])
  have e3:=d3m (l:=(mulD x 0 b w).1++ [(mulD x 0 b w).2]) (by simp)
  have e4:val ((mulD x 0 b w).1++ [(mulD x 0 b w).2])=valc (mulD x 0 b w).1 (mulD x 0 b w).2:=by
   rw [<-b7q];simp [val]
  simp only [mulF,val,e2]
  rw [show(x+1048576*val xs)*val b=x*val b+1048576*(val xs*val b) by grind]
  generalize x*val b=p at*
  generalize val xs*val b=q at*
  omega
theorem c0w(b:List Int):∀(xs w:List Int),w.length=b.length->(mulF b xs w).length=xs.length+b.length
 | [],w,h=>by simp [mulF,h]
 |x::xs,w,h=>by simp [mulF,c0w b xs _ (show(((mulD x 0 b w).1++ [(mulD x 0 b w).2]).tail).length=b.length by simp [c0s])];omega
theorem c8z{b:List Int}(hb:InR b):∀(xs w:List Int),InR xs->InR w->InR (mulF b xs w)
 | [],w,_,hw=>hw
 |x::xs,w,hx,hw=>by
  have h0:=hx.head
  have e1:=b9f h0.1 h0.2 b w 0 hb hw (by decide) (by decide)
  have e2:InR ((mulD x 0 b w).1++ [(mulD x 0 b w).2]):=(c9u x b w 0).append (InR.cons e1.1 e1.2 InR.nil)
  simp only [mulF]
  exact InR.cons e2.headD.1 e2.headD.2 (c8z hb xs _ hx.tail e2.tail')
def a6d(V:Int):List Int->Int->List Int×Int
 | [],r=>([],r)
 |x::xs,r=>(((a6d V xs r).2*1048576+x)/V::(a6d V xs r).1,((a6d V xs r).2*1048576+x) %V)
theorem c2v{V:Int}:∀(l:List Int)(r:Int),val (a6d V l r).1*V+(a6d V l r).2=valc l r
 | [],r=>by simp [a6d,val,valc]
 |x::xs,r=>by
  have ih:=c2v (V:=V) xs r
  simp only [a6d,val,valc]
  have h1:=Int.mul_ediv_add_emod ((a6d V xs r).2*1048576+x) V
  rw [Int.add_mul,Int.mul_assoc]
  rw [Int.mul_comm V]at h1
  generalize ((a6d V xs r).2*1048576+x)/V*V=p at*
  generalize val (a6d V xs r).1*V=q at*
  omega
theorem b8n(V:Int):∀(l:List Int)(r:Int),(a6d V l r).1.length=l.length
 | [],_=>rfl
 |x::xs,r=>by simp [a6d,b8n V xs]
theorem b8j{V:Int}(hV:0<V):∀(l:List Int)(r:Int),0<=r->r<V->0<=(a6d V l r).2/\(a6d V l r).2<V
 | [],r,h0,h1=>⟨h0,h1⟩
 |x::xs,r,_,_=>⟨Int.emod_nonneg _ (by omega),Int.emod_lt_of_pos _ hV⟩
theorem c6m{V:Int}(hV:0<V):∀(l:List Int)(r:Int),InR l->0<=r->r<V->InR (a6d V l r).1
 | [],_,_,_,_=>InR.nil
 |x::xs,r,hl,h0,h1=>by
  have h2:=b8j hV xs r h0 h1
  have h3:=hl.head
  refine InR.cons (Int.ediv_nonneg (by omega) (by omega)) (Int.ediv_lt_of_lt_mul hV ?_) (c6m hV xs r hl.tail h0 h1)
  omega
def sg(x:Int):Int:=if x<0 then-1 else if 0<x then 1 else 0
def cmpD:List Int->List Int->Int
 |x::xs,y::ys=>if cmpD xs ys=0 then sg (x-y)else cmpD xs ys
 |_,_=>0
theorem cmpD_val:∀{a b:List Int},InR a->InR b->a.length=b.length->cmpD a b=sg (val a-val b)
 | [],[],_,_,_=>by simp [cmpD,sg,val]
 | [],_::_,_,_,h=>by simp at h
 |_::_,[],_,_,h=>by simp at h
 |x::xs,y::ys,ha,hb,h=>by
  have ih:=cmpD_val ha.tail hb.tail (by simpa using h)
  have h1:=ha.head
  have h2:=hb.head
  simp only [cmpD,val,ih]
  unfold sg
  split<;>split<;>(try split)<;>(try split)<;>(try split)<;>omega
theorem cmpD_drop:∀(k:Nat)(a b:List Int),cmpD (a.drop k) (b.drop k)≠0->cmpD a b=cmpD (a.drop k) (b.drop k)
 |0,_,_,_=>by simp
 |k+1,[],b,h=>by simp [cmpD]at h
 |k+1,_::_,[],h=>by simp [cmpD]at h
 |k+1,x::xs,y::ys,h=>by
  simp only [List.drop_succ_cons]at h⊢
  have ih:=cmpD_drop k xs ys h
  simp only [cmpD,ih,if_neg h]
theorem b5d(V:Int):∀(a b:List Int)(r:Int),a6d V (a++b) r=((a6d V a (a6d V b r).2).1++(a6d V b r).1,(a6d V a (a6d V b r).2).2)
 | [],b,r=>rfl
 |x::xs,b,r=>by
  simp only [List.cons_append,a6d,b5d V xs b r]
theorem pw_mono:∀{a b:Nat},a<=b->pw a<=pw b
 |0,0,_=>Int.le_refl _
 |0,b+1,_=>by have:=pw_pos b;have:=pw_mono (Nat.zero_le b);simp only [pw]at*;omega
 |a+1,0,h=>by omega
 |a+1,b+1,h=>by have:=pw_mono (show a<=b by omega);simp only [pw];omega
theorem d3f{V1 V2 Vl P g rest T u2 Ul B:Int}(hB:B=1048576)(hT:g*V1+rest=T)(hV:0<=Vl)(hU:Ul<P)(hg:0<=g)(hbig:rest*B+u2<g*V2)(hP:0<P):
 Ul+P*(u2+B*T)<g*(Vl+P*(V2+B*V1)):=by
 have h1:Ul+P*(u2+B*T)-g*(Vl+P*(V2+B*V1))=Ul-g*Vl+P*(u2+rest*B-g*V2):=by grind
 have h2:=Int.mul_nonneg hg hV
 have h3:P*(u2+rest*B-g*V2)<=P*(-1):=Int.mul_le_mul_of_nonneg_left (by omega) (by omega)
 omega
theorem d5j{V1 V2 Vl P g rest T u2 Ul B:Int}(hB:B=1048576)(hT:g*V1+rest=T)(hV:0<=Vl)(hVP:Vl<=P)(hU:0<=Ul)(hgB:g<=B)(hsm:g*V2<=rest*B+u2)(hP:0<P)(h1:1<=V1)(h2:0<=V2):
 (g-1)*(Vl+P*(V2+B*V1))<=Ul+P*(u2+B*T):=by
 have e1:Ul+P*(u2+B*T)-(g-1)*(Vl+P*(V2+B*V1))=Ul-g*Vl+P*(u2+rest*B-g*V2)+Vl+P*V2+P*B*V1:=by grind
 have e2:0<=P*(u2+rest*B-g*V2):=Int.mul_nonneg (by omega) (by omega)
 have e3:g*Vl<=B*P:=Int.mul_le_mul hgB hVP hV (by omega)
 have e4:P*B*1<=P*B*V1:=Int.mul_le_mul_of_nonneg_left h1 (Int.mul_nonneg (by omega) (by omega))
 have e5:0<=P*V2:=Int.mul_nonneg (by omega) h2
 have e6:B*P=P*B:=Int.mul_comm _ _
 omega
theorem c5y{U V q:Int}(hV:0<V)(h0:q*V<=U)(h1:U<(q+1)*V):U/V=q/\U %V=U-q*V:=by
 have h2:(q+1)*V=q*V+V:=by grind
 have h3:=Int.ediv_emod_unique (a:=U) (b:=V) (r:=U-q*V) (q:=q) hV
 have h4:=h3.2 ⟨by rw [Int.mul_comm V q];omega,by omega,by omega⟩
 exact h4
end Go.Proofs.YthaegflpecbfgaaGreatDoor.D
namespace Go.Proofs.YthaegflpecbfgaaGreatDoor.D
open Go Rt M
theorem inc64{i:Nat}(h:i<4611686018427387904):iadd .i64 (i:Int) 1=((i+1:Nat):Int):=by rw [a2n (by omega) (by omega)];omega
theorem e0n{i:Nat}(h:i<4611686018427387904):isub .i64 ((i+1:Nat):Int) 1=(i:Int):=by rw [a1f (by omega) (by omega)];omega
theorem drop_cons{α:Type}{a:List α}{i:Nat}{x:α}{xs:List α}(h:a.drop i=x::xs):ix a (i:Int)=some x/\a.drop (i+1)=xs/\i<a.length:=by
 have h1:a[i]?=some x:=by have:=congrArg (fun l=>l[0]?) h;simpa using this
 refine⟨by rw [b4l];exact h1,?_,(List.getElem?_eq_some_iff.1 h1).1⟩
 rw [<-List.drop_drop,h];rfl
theorem drop_nil{α:Type}{a:List α}{i:Nat}(h:a.drop i= []):a.length<=i:=by simpa using h
theorem InR.drop{l:List Int}(h:InR l)(k:Nat):InR (l.drop k):=fun e he=>h e (List.mem_of_mem_drop he)
theorem InR.take{l:List Int}(h:InR l)(k:Nat):InR (l.take k):=fun e he=>h e (List.mem_of_mem_take he)
theorem e0c(n:Nat)(kont:Int->Option (List Int)):∀(r:Nat)(c:List Int)(m:Nat),Canon c->c.length+r<1099511627776->r<m->
 big_trim_L1 n (c++List.replicate r 0) kont m ((c.length+r:Nat):Int)=kont (c.length:Int)
 |0,c,m+1,hc,hl,_=>by
  rw [big_trim_L1_s]
  simp only [Nat.add_zero,List.replicate_zero,List.append_nil]
  rcases List.eq_nil_or_concat c with rfl|⟨p,d,rfl⟩
  ·rfl
  ·rw [List.concat_eq_append]at*
   have hd:(d==0)=false:=by
    have:=hc.2
    simpa using this
   have e0:isub .i64 (((p++ [d]).length:Nat):Int) 1=(p.length:Int):=by rw [List.length_append,List.length_singleton];exact e0n (by simp at hl;omega)
   have e1:decide ((0:Int)<((p++ [d]).length:Int))=true:=by rw [decide_eq_true_eq,List.length_append,List.length_singleton];omega
   rw [e1,e0,a4x p d [] rfl]
   simp only [cond_true,Option.bind_some,hd,cond_false]
 |r+1,c,m+1,hc,hl,hm=>by
  rw [big_trim_L1_s]
  have e1:decide ((0:Int)<((c.length+(r+1):Nat):Int))=true:=by simp;try omega
  have e0:isub .i64 ((c.length+(r+1):Nat):Int) 1=((c.length+r:Nat):Int):=by rw [a1f (by omega) (by omega)];omega
  have e2:ix (c++List.replicate (r+1) 0) ((c.length+r:Nat):Int)=some 0:=by
   rw [b4l,List.getElem?_append_right (by omega)]
   simp
  rw [e1,e0,e2]
  simp only [cond_true,Option.bind_some,beq_self_eq_true]
  have e3:∀(m:Nat)(k:Nat),k<=c.length+r->big_trim_L1 n (c++List.replicate (r+1) 0) kont m (k:Int)=big_trim_L1 n (c++List.replicate r 0) kont m (k:Int):=by
   intro m
   induction m with
   |zero=>intro k _;rfl
   |succ m ih=>
    intro k hk
    rw [big_trim_L1_s,big_trim_L1_s]
    cases k with
    |zero=>rfl
    |succ k=>
     rw [e0n (by omega)]
     have e4:ix (c++List.replicate (r+1) 0) (k:Int)=ix (c++List.replicate r 0) (k:Int):=by
      rw [b4l,b4l,List.replicate_succ',<-List.append_assoc,List.getElem?_append_left (by simp;omega)]
     rw [e4,ih k (by omega)]
  rw [e3 m _ (Nat.le_refl _)]
  exact e0c n kont r c m hc (by omega) (by omega)
 |_,_,0,_,_,h=>by omega
theorem c3r{l:List Int}(hl:InR l)(hlen:l.length<1099511627776){n:Nat}(hn:l.length<n):a2r n l=some (dig (val l).toNat):=by
 obtain⟨r,hr⟩:=split_dig hl
 have h1:l.length=(dig (val l).toNat).length+r:=by conv=>lhs;rw [hr]
                                                   simp
 unfold a2r
 have h2:=e0c n (fun(nx2:Int)=>(lsl l 0 nx2).bind fun l2=>some l2) r (dig (val l).toNat) n (b0l _) (by omega) (by omega)
 rw [<-hr,<-h1]at h2
 rw [h2]
 have h3:=c8k (l:=l) (p:=0) (q:=(dig (val l).toNat).length) (by omega) (by omega)
 rw [show((0:Nat):Int)=0 from rfl]at h3
 rw [h3]
 simp only [Option.bind_some,List.drop_zero]
 have h4:∀c:List Int,l=c++List.replicate r 0->l.take c.length=c:=fun c hc=>by rw [hc];exact List.take_left
 rw [h4 _ hr]
theorem d7e{l:List Int}(hl:InR l)(hlen:l.length<1099511627776):Ev (fun n=>a2r n l) (dig (val l).toNat):=⟨l.length+1,fun _ hn=>c3r hl hlen hn⟩
theorem e5p(n:Nat)(a b:List Int)(kont:Int->List Int->Option (List Int))(ha:a.length<1099511627776)(hb:InR b):∀(us:List Int)(i:Nat)(c:Int)(pre suf:List Int)(m:Nat),a.drop i=us->InR us->0<=c->c<=1->pre.length=i->us.length<=suf.length->us.length<m->
 big_add_L1 n a b kont m c (i:Int) (pre++suf)=kont (addD c us (b.drop i)).2 (pre++((addD c us (b.drop i)).1++suf.drop us.length))
 | [],i,c,pre,suf,m+1,hd,_,_,_,_,_,_=>by
  rw [big_add_L1_s]
  have:=drop_nil hd
  have e1:decide ((i:Int)<(a.length:Int))=false:=by simp;omega
  rw [e1];simp [addD]
 |x::xs,i,c,pre,[],m+1,_,_,_,_,_,hs,_=>by simp at hs
 |x::xs,i,c,pre,z::suf,m+1,hd,hx,h0,h1,hp,hs,hm=>by
  rw [big_add_L1_s]
  obtain⟨e1,e2,e3⟩:=drop_cons hd
  have e4:decide ((i:Int)<(a.length:Int))=true:=by simp;omega
  have hx0:=hx.head
  have hy0:=(InR.drop hb i).headD
  have e5:(bif decide ((i:Int)<(b.length:Int))then(ix b (i:Int)).bind fun ex4=>some (iadd .i64 (iadd .i64 c x) ex4)else some (iadd .i64 c x))=some (c+x+(b.drop i).headD 0):=by
   cases hbd:b.drop i with
   |nil=>
    have:=drop_nil hbd
    have e6:decide ((i:Int)<(b.length:Int))=false:=by simp;omega
    rw [e6,a2n (by omega) (by omega)];simp
   |cons y ys=>
    obtain⟨f1,_,f3⟩:=drop_cons hbd
    have e6:decide ((i:Int)<(b.length:Int))=true:=by simp;omega
    rw [hbd]at hy0
    simp only [List.headD_cons]at hy0
    rw [e6,f1,a2n (x:=c) (by omega) (by omega)]
    simp only [cond_true,Option.bind_some,List.headD_cons]
    rw [a2n (by omega) (by omega)]
  rw [e4,e1]
  simp only [cond_true,Option.bind_some]
  rw [e5]
  simp only [Option.bind_some]
  rw [a4x pre z suf (by omega),b5e,a8y pre z _ suf (by omega),c1n,inc64 (by omega)]
  simp only [Option.bind_some]
  have ih:=e5p n a b kont ha hb xs (i+1) ((c+x+(b.drop i).headD 0)/1048576) (pre++ [(c+x+(b.drop i).headD 0) %1048576]) suf m e2 hx.tail (by omega) (by omega) (by simp;omega) (by simpa using hs) (by simpa using hm)
  rw [List.append_assoc,List.singleton_append]at ih
  rw [ih]
  have e7:b.drop (i+1)=(b.drop i).tail:=by simp
  simp only [addD,e7,List.append_assoc,List.nil_append,List.cons_append,List.drop_succ_cons,List.length_cons]
 |_,_,_,_,_,0,_,_,_,_,_,_,h=>by omega
theorem e3m{a b:List Int}(ha:InR a)(hb:InR b)(hla:a.length<1073741824)(hlb:b.length<1073741824):Ev (fun n=>b6x n a b) (dig (val a+val b).toNat):=by
 have key:∀{a b:List Int},InR a->InR b->a.length<1073741824->b.length<=a.length->Ev (fun n=>(mks 8 (0:Int) (iadd .i64 (a.length:Int) 1)).bind fun l1=>
  big_add_L1 n a b (fun(carry2:Int)(l3:List Int)=>(ix l3 (a.length:Int)).bind fun _=>(lset l3 (a.length:Int) carry2).bind fun l4=>(a2r n l4).bind fun v1=>some v1) n 0 0 l1) (dig (val a+val b).toNat):=by
  intro a b ha hb hla hle
  refine Ev.step (by rw [inc64 (by omega)];exact c4o (by omega)) ?_
  refine⟨a.length+2,fun n hn=> ?_⟩
  have h1:=e5p n a b (fun(carry2:Int)(l3:List Int)=>(ix l3 (a.length:Int)).bind fun _=>(lset l3 (a.length:Int) carry2).bind fun l4=>(a2r n l4).bind fun v1=>some v1) (by omega) hb a 0 0 [] (List.replicate (a.length+1) 0) n rfl ha (by decide) (by decide) rfl (by simp) (by omega)
  simp only [List.nil_append,List.drop_zero]at h1
  rw [show((0:Nat):Int)=0 from rfl]at h1
  dsimp only
  rw [h1]
  have e1:(List.replicate (a.length+1) (0:Int)).drop a.length= [0]:=by simp
  have e2:=addD_len a b 0
  have e3:=addD_carry a b 0 ha hb (by decide) (by decide)
  have e4:=addD_val a b 0 hle
  rw [e1,a4x _ 0 [] (by rw [e2]),a8y _ 0 _ [] (by rw [e2])]
  simp only [Option.bind_some]
  have e5:InR ((addD 0 a b).1++ [(addD 0 a b).2]):=(addD_in a b 0).append (InR.cons e3.1 (by omega) InR.nil)
  rw [c3r e5 (by simp [e2];omega) (by simp [e2];omega)]
  simp only [Option.bind_some]
  have e6:val ((addD 0 a b).1++ [(addD 0 a b).2])=val a+val b:=by
   rw [<-b7q]
   simp only [val,Int.mul_zero,Int.add_zero]
   omega
  rw [e6]
 unfold b6x
 by_cases hlt:a.length<b.length
 ·refine Ev.step (a:=(b,a)) (by rw [show decide ((a.length:Int)<(b.length:Int))=true from by simp;omega];rfl) ?_
  rw [Int.add_comm]
  exact key hb ha hlb (by omega)
 ·refine Ev.step (a:=(a,b)) (by rw [show decide ((a.length:Int)<(b.length:Int))=false from by simp;omega];rfl) ?_
  exact key ha hb hla (by omega)
end Go.Proofs.YthaegflpecbfgaaGreatDoor.D
namespace Go.Proofs.YthaegflpecbfgaaGreatDoor.D
open Go Rt M
theorem e1q(n:Nat){a:List Int}(h:a.length<1073741824):a0u n a=some a:=by
 have h2:(([]:List Int).length+a.length)*8<=140737488355328:=by simp only [List.length_nil,Nat.zero_add];omega
 show app 8 [] a=some a
 rw [c0e h2,List.nil_append]
theorem d4r{a:List Int}(h:a.length<1073741824):∀n,a0u n a=some a:=fun n=>e1q n h
theorem d3w{a:List Int}(h:∀n,a0u n a=some a):Ev (fun n=>a0u n a) a:=⟨0,fun n _=>h n⟩
theorem b8b{a:List Int}(h:a.length<1073741824):Ev (fun n=>a0u n a) a:=d3w (d4r h)
theorem d8w{x c y:Int}(h0:0<=c)(h1:c<=1)(hx0:0<=x)(hx1:x<1048576)(hy0:0<=y)(hy1:y<1048576){t:Int}(ht:t=x-c-y):t/1048576 %2=-(t/1048576)/\0<=-(t/1048576)/\-(t/1048576)<=1:=by
 subst ht;omega
theorem e5c(n:Nat)(b v:List Int)(kont:List Int->Option (List Int))(hv:v.length<1099511627776)(hb:InR b):∀(us:List Int)(i:Nat)(c:Int)(pre:List Int)(m:Nat),InR us->0<=c->c<=1->pre.length=i->i+us.length=v.length->us.length<m->
 big_sub_L1 n b v kont m c (i:Int) (pre++us)=kont (pre++(setD 1 c us (b.drop i)).1)
 | [],i,c,pre,m+1,_,_,_,_,hl,_=>by
  rw [big_sub_L1_s]
  simp only [List.length_nil]at hl
  have e1:decide ((i:Int)<(v.length:Int))=false:=by simp;omega
  rw [e1];simp [setD]
 |x::xs,i,c,pre,m+1,hx,h0,h1,hp,hl,hm=>by
  rw [big_sub_L1_s]
  simp only [List.length_cons]at hl hm
  have e4:decide ((i:Int)<(v.length:Int))=true:=by simp;omega
  have hx0:=hx.head
  have hy0:=(InR.drop hb i).headD
  have e7:b.drop (i+1)=(b.drop i).tail:=by simp
  obtain⟨t,ht⟩:∃t,t=x-c-(b.drop i).headD 0:=⟨_,rfl⟩
  have e5:(bif decide ((i:Int)<(b.length:Int))then(ix b (i:Int)).bind fun ex3=>some (isub .i64 (isub .i64 x c) ex3)else some (isub .i64 x c))=some t:=by
   rw [ht]
   cases hbd:b.drop i with
   |nil=>
    have:=drop_nil hbd
    have e6:decide ((i:Int)<(b.length:Int))=false:=by simp;omega
    rw [e6,a1f (by omega) (by omega)];simp
   |cons y ys=>
    obtain⟨f1,_,f3⟩:=drop_cons hbd
    have e6:decide ((i:Int)<(b.length:Int))=true:=by simp;omega
    rw [hbd]at hy0
    simp only [List.headD_cons]at hy0
    rw [e6,f1,a1f (x:=x) (by omega) (by omega)]
    simp only [cond_true,Option.bind_some,List.headD_cons]
    rw [a1f (by omega) (by omega)]
  obtain⟨b1,b2,b3⟩:=d8w h0 h1 hx0.1 hx0.2 hy0.1 hy0.2 ht
  have e8:x-c-1*(b.drop i).headD 0=t:=by rw [ht,Int.one_mul]
  have e9:setD 1 c (x::xs) (b.drop i)=(t %1048576::(setD 1 (-(t/1048576)) xs (b.drop (i+1))).1,(setD 1 (-(t/1048576)) xs (b.drop (i+1))).2):=by
   rw [e7];simp only [setD,e8]
  have ih:=e5c n b v kont hv hb xs (i+1) (-(t/1048576)) (pre++ [t %1048576]) m hx.tail b2 b3 (by simp;omega) (by omega) (by omega)
  rw [e4,a4x pre x xs (by omega)]
  simp only [cond_true,Option.bind_some]
  rw [e5,Option.bind_some,c1n,b5e,a8y pre x _ xs (by omega),inc64 (by omega)]
  simp only [Option.bind_some]
  rw [d9g,b1,e9]
  rw [List.append_assoc,List.singleton_append]at ih
  rw [ih,List.append_assoc,List.singleton_append]
 |_,_,_,_,0,_,_,_,_,_,h=>by omega
theorem c4y{us vs:List Int}{g:Int}(hu:InR us)(hv:InR vs)(hl:vs.length<=us.length)(hg:0<=g)(h:g*val vs<=val us):(setD g 0 us vs).2=0/\val (setD g 0 us vs).1=val us-g*val vs:=by
 have e1:=c5l g us vs 0 hl
 have e2:=b7s hg us vs 0 hu hv (by decide) hg
 have e3:=val_lt (b5t g us vs 0)
 rw [valc_eq,b5v]at e1
 rw [b5v]at e3
 have hb:(setD g 0 us vs).2=0:=by
  rcases(show 0<(setD g 0 us vs).2∨(setD g 0 us vs).2<=0 by omega)with h4|h4
  ·have h5:pw us.length*(-(setD g 0 us vs).2)<=pw us.length*(-1):=Int.mul_le_mul_of_nonneg_left (by omega) (by have:=pw_pos us.length;omega)
   omega
  ·omega
 refine⟨hb,?_⟩
 rw [hb]at e1
 simp only [Int.neg_zero,Int.mul_zero]at e1
 omega
theorem e3s{a b:List Int}(ha:InR a)(hb:InR b)(hla:a.length<1073741824)(hlb:b.length<=a.length)(h:val b<=val a):Ev (fun n=>b5k n a b) (dig (val a-val b).toNat):=by
 unfold b5k
 refine Ev.bind (b8b hla) ?_
 refine⟨a.length+1,fun n hn=> ?_⟩
 have h1:=e5c n b a (fun(l2:List Int)=>(a2r n l2).bind fun v2=>some v2) (by omega) hb a 0 0 [] n ha (by decide) (by decide) rfl (by simp) (by omega)
 simp only [List.nil_append,List.drop_zero]at h1
 rw [show((0:Nat):Int)=0 from rfl]at h1
 dsimp only
 rw [h1,c3r (b5t _ _ _ _) (by rw [b5v];omega) (by rw [b5v];omega)]
 have h2:=c4y (g:=1) ha hb hlb (by decide) (by omega)
 simp only [Option.bind_some]
 rw [h2.2,Int.one_mul]
theorem c7b(n:Nat)(u v:List Int)(g:Int)(kont:Int->List Int->Option (List Int×Int))(hlu:u.length<1099511627776)(hv:InR v)(hg0:0<=g)(hg1:g<=1048576):∀(us:List Int)(i:Nat)(c:Int)(pre:List Int)(m:Nat),InR us->0<=c->c<=g->pre.length=i->i+us.length=u.length->us.length<m->
 big_settle_L1 n u v g kont m c (i:Int) (pre++us)=kont (setD g c us (v.drop i)).2 (pre++(setD g c us (v.drop i)).1)
 | [],i,c,pre,m+1,_,_,_,_,hl,_=>by
  rw [big_settle_L1_s]
  simp only [List.length_nil]at hl
  have e1:decide ((i:Int)<(u.length:Int))=false:=by simp;omega
  rw [e1];simp [setD]
 |x::xs,i,c,pre,m+1,hx,h0,h1,hp,hl,hm=>by
  rw [big_settle_L1_s]
  simp only [List.length_cons]at hl hm
  have e4:decide ((i:Int)<(u.length:Int))=true:=by simp;omega
  have hx0:=hx.head
  have hy0:=(InR.drop hv i).headD
  have hmul:=b7r hg0 hy0.1 hy0.2
  have e5:(bif decide ((i:Int)<(v.length:Int))then(ix v (i:Int)).bind fun ex6=>some (isub .i64 (isub .i64 x c) (imul .i64 g ex6))else some (isub .i64 x c))=some (x-c-g*(v.drop i).headD 0):=by
   cases hbd:v.drop i with
   |nil=>
    have:=drop_nil hbd
    have e6:decide ((i:Int)<(v.length:Int))=false:=by simp;omega
    rw [e6,a1f (by omega) (by omega)];simp
   |cons y ys=>
    obtain⟨f1,_,f3⟩:=drop_cons hbd
    have e6:decide ((i:Int)<(v.length:Int))=true:=by simp;omega
    rw [hbd]at hy0 hmul
    simp only [List.headD_cons]at hy0 hmul
    rw [e6,f1,a1f (x:=x) (by omega) (by omega)]
    simp only [cond_true,Option.bind_some,List.headD_cons]
    rw [a7p (by omega) (by omega),a1f (by omega) (by omega)]
  rw [e4,a4x pre x xs (by omega)]
  simp only [cond_true,Option.bind_some]
  rw [e5]
  simp only [Option.bind_some]
  rw [c1n,b5e,a8y pre x _ xs (by omega),inc64 (by omega)]
  simp only [Option.bind_some]
  rw [Int.zero_sub,a5k (by omega) (by omega)]
  have ih:=c7b n u v g kont hlu hv hg0 hg1 xs (i+1) (-((x-c-g*(v.drop i).headD 0)/1048576)) (pre++ [(x-c-g*(v.drop i).headD 0) %1048576]) m hx.tail (by omega) (by omega) (by simp;omega) (by omega) (by omega)
  rw [List.append_assoc,List.singleton_append]at ih
  rw [ih]
  have e7:v.drop (i+1)=(v.drop i).tail:=by simp
  simp only [setD,e7,List.append_assoc,List.nil_append,List.cons_append]
 |_,_,_,_,0,_,_,_,_,_,h=>by omega
theorem c7r(n:Nat)(v l0:List Int)(kont:List Int->Option (List Int×Int))(hl0:l0.length<1099511627776)(hv:InR v):∀(us:List Int)(i:Nat)(c:Int)(pre:List Int)(m:Nat),InR us->0<=c->c<=1->pre.length=i->i+us.length=l0.length->us.length<m->
 big_settle_L2 n v l0 kont m c (i:Int) (pre++us)=kont (pre++(addD c us (v.drop i)).1)
 | [],i,c,pre,m+1,_,_,_,_,hl,_=>by
  rw [big_settle_L2_s]
  simp only [List.length_nil]at hl
  have e1:decide ((i:Int)<(l0.length:Int))=false:=by simp;omega
  rw [e1];simp [addD]
 |x::xs,i,c,pre,m+1,hx,h0,h1,hp,hl,hm=>by
  rw [big_settle_L2_s]
  simp only [List.length_cons]at hl hm
  have e4:decide ((i:Int)<(l0.length:Int))=true:=by simp;omega
  have hx0:=hx.head
  have hy0:=(InR.drop hv i).headD
  have e5:(bif decide ((i:Int)<(v.length:Int))then(ix v (i:Int)).bind fun ex3=>some (iadd .i64 (iadd .i64 c x) ex3)else some (iadd .i64 c x))=some (c+x+(v.drop i).headD 0):=by
   cases hbd:v.drop i with
   |nil=>
    have:=drop_nil hbd
    have e6:decide ((i:Int)<(v.length:Int))=false:=by simp;omega
    rw [e6,a2n (by omega) (by omega)];simp
   |cons y ys=>
    obtain⟨f1,_,f3⟩:=drop_cons hbd
    have e6:decide ((i:Int)<(v.length:Int))=true:=by simp;omega
    rw [hbd]at hy0
    simp only [List.headD_cons]at hy0
    rw [e6,f1,a2n (x:=c) (by omega) (by omega)]
    simp only [cond_true,Option.bind_some,List.headD_cons]
    rw [a2n (by omega) (by omega)]
  rw [e4,a4x pre x xs (by omega)]
  simp only [cond_true,Option.bind_some]
  rw [e5]
  simp only [Option.bind_some]
  rw [c1n,b5e,a8y pre x _ xs (by omega),inc64 (by omega)]
  simp only [Option.bind_some]
  have ih:=c7r n v l0 kont hl0 hv xs (i+1) ((c+x+(v.drop i).headD 0)/1048576) (pre++ [(c+x+(v.drop i).headD 0) %1048576]) m hx.tail (by omega) (by omega) (by simp;omega) (by omega) (by omega)
  rw [List.append_assoc,List.singleton_append]at ih
  rw [ih]
  have e7:v.drop (i+1)=(v.drop i).tail:=by simp
  simp only [addD,e7,List.append_assoc,List.nil_append,List.cons_append]
 |_,_,_,_,0,_,_,_,_,_,h=>by omega
theorem d8k{u v:List Int}{g:Int}(hu:InR u)(hv:InR v)(hl:v.length<=u.length)(hlu:u.length<1073741824)(hg0:0<=g)(hg1:g<=1048576)(hV:0<val v)(h1:val u<(g+1)*val v)(h2:(g-1)*val v<=val u){n:Nat}(hn:u.length<n):
 ∃r,b0c n u v g=some (r,val u/val v)/\InR r/\r.length=u.length/\val r=val u %val v:=by
 have e0:=c7b n u v g (fun(borrow2:Int)(l2:List Int)=>bif borrow2==0 then some (l2,g)else big_settle_L2 n v l2 (fun(l4:List Int)=>some (l4,isub .i64 g 1)) n 0 0 l2) (by omega) hv hg0 hg1 u 0 0 [] n hu (by decide) hg0 rfl (by simp) hn
 simp only [List.nil_append,List.drop_zero]at e0
 rw [show((0:Nat):Int)=0 from rfl]at e0
 have e1:=b5v g u v 0
 by_cases h:g*val v<=val u
 ·obtain⟨f1,f2⟩:=c4y hu hv hl hg0 h
  obtain⟨q1,q2⟩:=c5y hV h h1
  refine⟨(setD g 0 u v).1,?_,b5t g u v 0,e1,by rw [f2,q2]⟩
  unfold b0c
  rw [e0,f1,q1];rfl
 ·have e2:=c5l g u v 0 hl
  have e3:=b7s hg0 u v 0 hu hv (by decide) hg0
  have e4:=val_lt (b5t g u v 0)
  have e5:=val_nonneg (b5t g u v 0)
  have e6:=val_lt hv
  have e7:=pw_mono hl
  have e8:=pw_pos u.length
  rw [valc_eq,e1]at e2
  rw [e1]at e4
  have e9:(g-1)*val v=g*val v-val v:=by grind
  have hb:(setD g 0 u v).2=1:=by
   rcases(show 1<(setD g 0 u v).2∨(setD g 0 u v).2<=1 by omega)with h4|h4
   ·have h5:pw u.length*(-(setD g 0 u v).2)<=pw u.length*(-2):=Int.mul_le_mul_of_nonneg_left (by omega) (by omega)
    omega
   ·rcases(show 0<(setD g 0 u v).2∨(setD g 0 u v).2<=0 by omega)with h5|h5
    ·omega
    ·have:(setD g 0 u v).2=0:=by omega
     rw [this]at e2
     simp only [Int.neg_zero,Int.mul_zero]at e2
     omega
  rw [hb]at e2
  have e10:=c7r n v (setD g 0 u v).1 (fun(l4:List Int)=>some (l4,isub .i64 g 1)) (by rw [e1];omega) hv (setD g 0 u v).1 0 0 [] n (b5t g u v 0) (by decide) (by decide) rfl (by simp) (by rw [e1];exact hn)
  simp only [List.nil_append,List.drop_zero]at e10
  rw [show((0:Nat):Int)=0 from rfl]at e10
  have a1:=addD_len (setD g 0 u v).1 v 0
  have a2:=addD_val (setD g 0 u v).1 v 0 (by rw [e1];exact hl)
  have a3:=addD_carry (setD g 0 u v).1 v 0 (b5t g u v 0) hv (by decide) (by decide)
  have a4:=addD_in (setD g 0 u v).1 v 0
  have a5:=val_lt a4
  have a6:=val_nonneg a4
  rw [valc_eq,a1,e1]at a2
  rw [a1,e1]at a5
  obtain⟨q1,q2⟩:=c5y (q:=g-1) hV h2 (by rw [show g-1+1=g by omega];omega)
  have hc:(addD 0 (setD g 0 u v).1 v).2=1:=by
   rcases(show 0<(addD 0 (setD g 0 u v).1 v).2∨(addD 0 (setD g 0 u v).1 v).2<=0 by omega)with h5|h5
   ·omega
   ·have:(addD 0 (setD g 0 u v).1 v).2=0:=by omega
    rw [this]at a2
    omega
  rw [hc]at a2
  refine⟨(addD 0 (setD g 0 u v).1 v).1,?_,a4,by rw [a1,e1],by rw [q2];omega⟩
  unfold b0c
  have hb':((setD g 0 u v).2==0)=false:=by rw [hb];rfl
  rw [e0,hb']
  simp only [cond_false]
  rw [e10,a1f (by omega) (by omega),q1]
theorem d9r(n:Nat)(b:List Int)(i:Nat)(x:Int)(kont:Int->List Int->Option (List Int))(hlb:b.length<1073741824)(hi:i<1073741824)(hx0:0<=x)(hx1:x<1048576):∀(ys ws:List Int)(k:Nat)(c:Int)(pre rest:List Int)(m:Nat),b.drop k=ys->InR ys->InR ws->ws.length=ys.length->0<=c->c<1048576->pre.length=i+k->ys.length<m->
 big_mul_L2 n b (i:Int) x kont m c (k:Int) (pre++(ws++rest))=kont (mulD x c ys ws).2 (pre++((mulD x c ys ws).1++rest))
 | [],ws,k,c,pre,rest,m+1,hd,_,_,hw,_,_,_,_=>by
  rw [big_mul_L2_s]
  have:=drop_nil hd
  have e1:decide ((k:Int)<(b.length:Int))=false:=by simp;omega
  have:ws= []:=List.eq_nil_of_length_eq_zero (by simpa using hw)
  subst this
  rw [e1];simp [mulD]
 |y::ys,[],k,c,pre,rest,m+1,_,_,_,hw,_,_,_,_=>by simp at hw
 |y::ys,w::ws,k,c,pre,rest,m+1,hd,hy,hws,hw,h0,h1,hp,hm=>by
  rw [big_mul_L2_s]
  obtain⟨f1,f2,f3⟩:=drop_cons hd
  simp only [List.length_cons]at hw hm
  have e4:decide ((k:Int)<(b.length:Int))=true:=by simp;omega
  have hw0:=hws.head
  have hy0:=hy.head
  have hmul:=c2m hx0 hx1 hy0.1 hy0.2
  have e5:iadd .i64 (i:Int) (k:Int)=(pre.length:Int):=by rw [a2n (by omega) (by omega)];omega
  rw [e4,f1,e5,List.cons_append,a4x pre w _ rfl]
  simp only [cond_true,Option.bind_some]
  rw [a7p (by omega) (by omega),a2n (x:=w) (by omega) (by omega),a2n (by omega) (by omega),b5e,a8y pre w _ _ rfl,c1n,inc64 (by omega)]
  simp only [Option.bind_some]
  have ih:=d9r n b i x kont hlb hi hx0 hx1 ys ws (k+1) ((w+x*y+c)/1048576) (pre++ [(w+x*y+c) %1048576]) rest m f2 hy.tail hws.tail (by omega) (by omega) (by omega) (by simp;omega) (by omega)
  rw [List.append_assoc,List.singleton_append]at ih
  rw [ih]
  simp only [mulD,List.headD_cons,List.tail_cons,List.append_assoc,List.nil_append,List.cons_append]
 |_,_,_,_,_,_,0,_,_,_,_,_,_,_,h=>by omega
theorem e0a(n:Nat)(a b:List Int)(kont:List Int->Option (List Int))(hla:a.length<1073741824)(hlb:b.length<1073741824)(hb:InR b)(hn:b.length<n):∀(us:List Int)(w:List Int)(i:Nat)(pre:List Int)(m:Nat),a.drop i=us->InR us->InR w->w.length=b.length->pre.length=i->us.length<m->
 big_mul_L1 n a b kont m (i:Int) (pre++(w++List.replicate us.length 0))=kont (pre++mulF b us w)
 | [],w,i,pre,m+1,hd,_,_,_,_,_=>by
  rw [big_mul_L1_s]
  have:=drop_nil hd
  have e1:decide ((i:Int)<(a.length:Int))=false:=by simp;omega
  rw [e1];simp [mulF]
 |x::xs,w,i,pre,m+1,hd,hx,hw,hwl,hp,hm=>by
  rw [big_mul_L1_s]
  obtain⟨f1,f2,f3⟩:=drop_cons hd
  simp only [List.length_cons]at hm
  have e4:decide ((i:Int)<(a.length:Int))=true:=by simp;omega
  have hx0:=hx.head
  rw [e4,f1]
  simp only [cond_true,Option.bind_some,List.length_cons,List.replicate_succ]
  have h2:=d9r n b i x (fun(carry2:Int)(l5:List Int)=>
   (ix l5 (iadd .i64 (i:Int) (b.length:Int))).bind fun ex2=>
   (ix l5 (iadd .i64 (i:Int) (b.length:Int))).bind fun _=>
   (lset l5 (iadd .i64 (i:Int) (b.length:Int)) (iadd .i64 ex2 carry2)).bind fun l6=>
   big_mul_L1 n a b kont m (iadd .i64 (i:Int) 1) l6) hlb (by omega) hx0.1 hx0.2 b w 0 0 pre (0::List.replicate xs.length 0) n rfl hb hw hwl (by decide) (by decide) (by omega) hn
  rw [show((0:Nat):Int)=0 from rfl]at h2
  rw [h2]
  have hc:=b9f hx0.1 hx0.2 b w 0 hb hw (by decide) (by decide)
  have hlen:=c0s x b w 0
  have e5:iadd .i64 (i:Int) (b.length:Int)=(((pre++(mulD x 0 b w).1).length:Nat):Int):=by
   rw [a2n (by omega) (by omega),List.length_append,hlen];omega
  rw [e5,<-List.append_assoc,a4x _ 0 _ rfl]
  simp only [Option.bind_some]
  rw [a8y _ 0 _ _ rfl,a2n (by omega) (by omega),inc64 (by omega)]
  simp only [Option.bind_some,Int.zero_add]
  have hne:(mulD x 0 b w).1++ [(mulD x 0 b w).2]≠ []:=by simp
  obtain⟨h,t,ht⟩:=List.exists_cons_of_ne_nil hne
  have e6:pre++(mulD x 0 b w).1++(mulD x 0 b w).2::List.replicate xs.length 0=(pre++ [h])++(t++List.replicate xs.length 0):=by
   rw [List.append_assoc,List.append_assoc,<-List.singleton_append (x:=(mulD x 0 b w).2),<-List.append_assoc (mulD x 0 b w).1,ht]
   simp
  have hin:InR ((mulD x 0 b w).1++ [(mulD x 0 b w).2]):=(c9u x b w 0).append (InR.cons hc.1 hc.2 InR.nil)
  rw [ht]at hin
  have htl:t.length=b.length:=by
   have:=congrArg List.length ht
   simp [hlen]at this
   omega
  have ih:=e0a n a b kont hla hlb hb hn xs t (i+1) (pre++ [h]) m f2 hx.tail hin.tail htl (by simp;omega) (by omega)
  rw [e6,ih]
  simp only [mulF,ht,List.headD_cons,List.tail_cons,List.append_assoc,List.singleton_append]
 |_,_,_,_,0,_,_,_,_,_,h=>by omega
theorem d5y{a b:List Int}(ha:InR a)(hb:InR b)(hla:a.length<536870912)(hlb:b.length<536870912):Ev (fun n=>b0v n a b) (dig (val a*val b).toNat):=by
 unfold b0v
 refine Ev.step (by rw [a2n (by omega) (by omega),show(a.length:Int)+(b.length:Int)=((a.length+b.length:Nat):Int) by omega];exact c4o (by omega)) ?_
 refine⟨a.length+b.length+1,fun n hn=> ?_⟩
 have h1:=e0a n a b (fun(l3:List Int)=>(a2r n l3).bind fun v1=>some v1) (by omega) (by omega) hb (by omega) a (List.replicate b.length 0) 0 [] n rfl ha (InR.rep _) (by simp) rfl (by omega)
 simp only [List.nil_append,List.replicate_append_replicate]at h1
 rw [show((0:Nat):Int)=0 from rfl,Nat.add_comm]at h1
 dsimp only
 rw [h1,c3r (c8z hb _ _ ha (InR.rep _)) (by rw [c0w b a _ (by simp)];omega) (by rw [c0w b a _ (by simp)];omega)]
 simp only [Option.bind_some]
 rw [c5s b a _ (by simp),val_rep,Int.zero_add]
theorem d4i(n:Nat)(a:List Int)(d:Int)(kont:Int->List Int->Option (List Int×Int))(ha:InR a)(hla:a.length<1073741824)(hd:0<d)(hd1:d<=1048576):∀(k:Nat)(m:Nat),k<=a.length->k<m->
 big_short_L1 n a d kont m (a6d d (a.drop k) 0).2 ((k:Int)-1) (List.replicate k 0++(a6d d (a.drop k) 0).1)=kont (a6d d a 0).2 (a6d d a 0).1
 |0,m+1,_,_=>by
  rw [big_short_L1_s]
  have e1:decide ((0:Int)<=((0:Nat):Int)-1)=false:=by decide
  rw [e1];simp
 |k+1,m+1,hk,hm=>by
  rw [big_short_L1_s]
  have hk':k<a.length:=by omega
  have hdrop:a.drop k=a[k]::a.drop (k+1):=List.drop_eq_getElem_cons hk'
  have hx:=ha a[k] (List.getElem_mem hk')
  have e0:((k+1:Nat):Int)-1=(k:Int):=by omega
  have e1:decide ((0:Int)<=(k:Int))=true:=by simp
  have e2:ix a (k:Int)=some a[k]:=(drop_cons hdrop).1
  have hr:=b8j hd (a.drop (k+1)) 0 (by decide) hd
  rw [e0,e1,e2,c1d (by omega) (by omega)]
  simp only [cond_true,Option.bind_some]
  have e3:0<=(a6d d (a.drop (k+1)) 0).2*1048576+a[k]:=by omega
  rw [c1y hr.1 (by omega) hx.1 hx.2,c1h e3 (by omega) hd,c2c e3 hd,List.replicate_succ',List.append_assoc,List.singleton_append,a4x _ 0 _ (by simp)]
  simp only [Option.bind_some]
  rw [a8y _ 0 _ _ (by simp)]
  simp only [Option.bind_some]
  have e4:isub .i64 (k:Int) 1=(k:Int)-1:=a1f (by omega) (by omega)
  have ih:=d4i n a d kont ha hla hd hd1 k m (by omega) (by omega)
  rw [hdrop]at ih
  simp only [a6d]at ih
  rw [e4,ih]
 |_,0,_,h=>by omega
theorem d6h{a:List Int}{d:Int}(ha:InR a)(hla:a.length<1073741824)(hd:0<d)(hd1:d<=1048576){n:Nat}(hn:a.length<n):a8b n a d=some (dig (val a/d).toNat,val a %d):=by
 unfold a8b
 rw [c4o (by omega),Option.bind_some]
 have h1:=d4i n a d (fun(rx2:Int)(l3:List Int)=>(a2r n l3).bind fun v1=>some (v1,rx2)) ha hla hd hd1 a.length n (by omega) (by omega)
 simp only [List.drop_length,a6d,List.append_nil]at h1
 rw [a1f (by omega) (by omega),h1,c3r (c6m hd a 0 ha (by decide) hd) (by rw [b8n];omega) (by rw [b8n];omega)]
 simp only [Option.bind_some]
 have h2:=c2v (V:=d) a 0
 have h3:=b8j hd a 0 (by decide) hd
 rw [valc_eq,Int.mul_zero,Int.add_zero]at h2
 have h4:((val (a6d d a 0).1)+1)*d=val (a6d d a 0).1*d+d:=by grind
 obtain⟨q1,q2⟩:=c5y (U:=val a) (q:=val (a6d d a 0).1) hd (by omega) (by omega)
 rw [q1,show(a6d d a 0).2=val a %d by omega]
theorem d8x{a:List Int}{d:Int}(ha:InR a)(hla:a.length<1073741824)(hd:0<d)(hd1:d<=1048576):Ev (fun n=>a8b n a d) (dig (val a/d).toNat,val a %d):=
 ⟨a.length+1,fun _ hn=>d6h ha hla hd hd1 hn⟩
theorem b6v(n:Nat)(x y:Int):a4v n x y=some (sg (x-y)):=by
 unfold a4v a8z
 simp only [Option.bind_some,bne_self_eq_false,cond_false]
 unfold sg
 by_cases h:x<y
 ·simp only [h,decide_true,cond_true];rw [if_pos (by omega)]
 ·by_cases h2:y<x
  ·simp only [h,h2,decide_true,decide_false,cond_true,cond_false];rw [if_neg (by omega),if_pos (by omega)]
  ·simp only [h,h2,decide_false,cond_false];rw [if_neg (by omega),if_neg (by omega)]
theorem c8y(n:Nat)(a b:List Int)(hl:a.length=b.length)(hla:a.length<1099511627776):∀(k:Nat)(m:Nat),k<=a.length->k<m->cmpD (a.drop k) (b.drop k)=0->big_compare_L1 n a b (some 0) m ((k:Int)-1)=some (cmpD a b)
 |0,m+1,_,_,h=>by
  rw [big_compare_L1_s]
  have e1:decide ((0:Int)<=((0:Nat):Int)-1)=false:=by decide
  rw [e1]
  simp only [List.drop_zero]at h
  rw [h];rfl
 |k+1,m+1,hk,hm,h=>by
  rw [big_compare_L1_s]
  have hk':k<a.length:=by omega
  have hkb:k<b.length:=by omega
  have hda:a.drop k=a[k]::a.drop (k+1):=List.drop_eq_getElem_cons hk'
  have hdb:b.drop k=b[k]::b.drop (k+1):=List.drop_eq_getElem_cons hkb
  have e0:((k+1:Nat):Int)-1=(k:Int):=by omega
  have e1:decide ((0:Int)<=(k:Int))=true:=by simp
  rw [e0,e1,(drop_cons hda).1,(drop_cons hdb).1]
  simp only [cond_true,Option.bind_some,b6v]
  have e2:cmpD (a.drop k) (b.drop k)=sg (a[k]-b[k]):=by rw [hda,hdb];simp only [cmpD,h,if_true]
  by_cases hne:a[k]=b[k]
  ·have e3:(a[k] !=b[k])=false:=by simp [hne]
   rw [e3]
   simp only [cond_false]
   rw [a1f (by omega) (by omega)]
   refine c8y n a b hl hla k m (by omega) (by omega) ?_
   rw [e2,hne];simp [sg]
  ·have e3:(a[k] !=b[k])=true:=by simpa using hne
   rw [e3]
   simp only [cond_true]
   have e4:sg (a[k]-b[k])≠0:=by unfold sg;split<;>(try split)<;>omega
   rw [cmpD_drop k a b (by rw [e2];exact e4),e2]
 |_,0,_,h,_=>by omega
theorem c8p{a b:List Int}(ha:Canon a)(hb:Canon b)(hla:a.length<1099511627776){n:Nat}(hn:a.length<n):a6l n a b=some (sg (val a-val b)):=by
 unfold a6l
 by_cases hl:a.length=b.length
 ·have e1:((a.length:Int) !=(b.length:Int))=false:=by rw [hl];simp
  rw [e1]
  simp only [cond_false]
  have h:=c8y n a b hl hla a.length n (Nat.le_refl _) hn (by rw [List.drop_length];rfl)
  rw [a1f (by omega) (by omega),h,cmpD_val ha.1 hb.1 hl]
 ·have e1:((a.length:Int) !=(b.length:Int))=true:=by simp;omega
  rw [e1]
  simp only [cond_true,b6v,Option.bind_some]
  congr 1
  unfold sg
  rcases Nat.lt_or_ge a.length b.length with h|h
  ·have:=val_lt_of_len ha.1 hb h
   rw [if_pos (by omega),if_pos (by omega)]
  ·have:=val_lt_of_len hb.1 ha (by omega)
   rw [if_neg (by omega),if_pos (by omega),if_neg (by omega),if_pos (by omega)]
end Go.Proofs.YthaegflpecbfgaaGreatDoor.D
namespace Go.Proofs.YthaegflpecbfgaaGreatDoor.D
open Go Rt M
theorem e4w(n:Nat)(v u:List Int)(k:Nat){vl ul lo zs:List Int}{v1 v2 t1 t0 u2:Int}(hv:v=vl++ [v2,v1])(hu:u=lo++(ul++ [u2,t0,t1])++zs)(hlo:lo.length=k)(hul:ul.length=vl.length)
 (hlv:v.length<1073741824) (hlu:u.length<1073741824) (hvi:InR v) (hui:InR (ul++ [u2,t0,t1])) (hv1:1<=v1) (hlt:val (ul++ [u2,t0,t1])<1048576*val v):
 ∀(N:Nat)(g rest:Int),g.toNat=N->0<=g->0<=rest->g*v1+rest=t1*1048576+t0->val (ul++ [u2,t0,t1])<(g+1)*val v->
  ∃g',0<=g'/\g'<=1048576/\val (ul++ [u2,t0,t1])<(g'+1)*val v/\(g'-1)*val v<=val (ul++ [u2,t0,t1])/\∀(kont:Int->Option (List Int×List Int))m,N<m->big_div_L3 n v (k:Int) u kont m g rest=kont g':=by
 have hv2:0<=v2/\v2<1048576:=hvi v2 (by rw [hv];simp)
 have hv1':0<=v1/\v1<1048576:=hvi v1 (by rw [hv];simp)
 have ht1:0<=t1/\t1<1048576:=hui t1 (by simp)
 have ht0:0<=t0/\t0<1048576:=hui t0 (by simp)
 have hu2:0<=u2/\u2<1048576:=hui u2 (by simp)
 have hvl:InR vl:=fun e he=>hvi e (by rw [hv];simp [he])
 have hull:InR ul:=fun e he=>hui e (by simp [he])
 have eV:val v=val vl+pw vl.length*(v2+1048576*v1):=by rw [hv,val_append];simp [val]
 have eU:val (ul++ [u2,t0,t1])=val ul+pw vl.length*(u2+1048576*(t1*1048576+t0)):=by
  rw [val_append,hul]
  simp only [val]
  have:t0+1048576*(t1+1048576*0)=t1*1048576+t0:=by omega
  rw [this]
 have hP:=pw_pos vl.length
 have hvlP:=val_lt hvl
 have hulP:=val_lt hull
 rw [hul]at hulP
 have hvl0:=val_nonneg hvl
 have hul0:=val_nonneg hull
 have hlen:v.length=vl.length+2:=by rw [hv];simp
 have hlenu:u.length=k+vl.length+3+zs.length:=by rw [hu];simp [hlo,hul];omega
 have i1:isub .i64 (v.length:Int) 2=((vl.length:Nat):Int):=by rw [a1f (by omega) (by omega)];omega
 have i2:isub .i64 (v.length:Int) 1=((vl.length+1:Nat):Int):=by rw [a1f (by omega) (by omega)];omega
 have i3:isub .i64 (iadd .i64 (k:Int) (v.length:Int)) 2=((k+vl.length:Nat):Int):=by rw [a2n (by omega) (by omega),a1f (by omega) (by omega)];omega
 have r1:ix v ((vl.length:Nat):Int)=some v2:=by rw [hv];exact a4x vl v2 [v1] rfl
 have r2:ix v ((vl.length+1:Nat):Int)=some v1:=by
  rw [hv,show vl++ [v2,v1]=(vl++ [v2])++ [v1] by simp];exact a4x (vl++ [v2]) v1 [] (by simp)
 have r3:ix u ((k+vl.length:Nat):Int)=some u2:=by
  rw [hu,show lo++(ul++ [u2,t0,t1])++zs=(lo++ul)++u2::([t0,t1]++zs) by simp]
  exact a4x (lo++ul) u2 _ (by simp [hlo,hul])
 intro N
 induction N with
 |zero=>
  intro g rest hg h0 hr hT hq
  have hg0:g=0:=by omega
  subst hg0
  refine⟨0,by decide,by decide,hq,?_,fun kont m hm=> ?_⟩
  ·have:0<=val v:=val_nonneg hvi
   have:=val_nonneg hui
   omega
  ·obtain⟨m,rfl⟩:∃m',m=m'+1:=⟨m-1,by omega⟩
   rw [big_div_L3_s]
   have e1:decide ((1048576:Int)<=0)=false:=by decide
   rw [e1]
   simp only [cond_false]
   by_cases hr2:rest<1048576
   ·have e2:decide (rest<1048576)=true:=by simpa using hr2
    rw [e2,i1,r1,i3,r3,c1d (by omega) (by omega)]
    simp only [cond_true,Option.bind_some]
    rw [c1y hr (by omega) hu2.1 hu2.2,a7p (by omega) (by omega)]
    have e3:decide (rest*1048576+u2<0*v2)=false:=by simp;omega
    rw [e3];rfl
   ·have e2:decide (rest<1048576)=false:=by simpa using hr2
    rw [e2];rfl
 |succ N ih=>
  intro g rest hg h0 hr hT hq
  by_cases hbig:1048576<=g∨(rest<1048576/\rest*1048576+u2<g*v2)
  ·have hq':val (ul++ [u2,t0,t1])<(g-1+1)*val v:=by
    rw [show g-1+1=g by omega]
    rcases hbig with h|⟨h1,h2⟩
    ·have:1048576*val v<=g*val v:=Int.mul_le_mul_of_nonneg_right h (val_nonneg hvi)
     omega
    ·rw [eU,eV]
     exact d3f rfl hT hvl0 hulP h0 h2 hP
   have hT':(g-1)*v1+(rest+v1)=t1*1048576+t0:=by rw [<-hT];grind
   obtain⟨g',a1,a2,a3,a4,a5⟩:=ih (g-1) (rest+v1) (by omega) (by omega) (by omega) hT' hq'
   have hgv:0<=g*v1:=Int.mul_nonneg h0 (by omega)
   have hgle:g*1<=g*v1:=Int.mul_le_mul_of_nonneg_left hv1 h0
   refine⟨g',a1,a2,a3,a4,fun kont m hm=> ?_⟩
   obtain⟨m,rfl⟩:∃m',m=m'+1:=⟨m-1,by omega⟩
   rw [big_div_L3_s]
   have hflag:((bif decide ((1048576:Int)<=g)then some true else(bif decide (rest<1048576)then(ix v (isub .i64 (v.length:Int) 2)).bind fun ex8=>(shl .i64 rest 20).bind fun q4=>(ix u (isub .i64 (iadd .i64 (k:Int) (v.length:Int)) 2)).bind fun ex9=>some (decide ((ior .i64 q4 ex9)<(imul .i64 g ex8)))else some false).bind fun v12=>some v12):Option Bool)=some true:=by
    by_cases hgB:1048576<=g
    ·rw [show decide ((1048576:Int)<=g)=true by simpa using hgB];rfl
    ·rcases hbig with h|⟨h1,h2⟩
     ·exact absurd h hgB
     ·have hm1:=b7r (g:=g) h0 hv2.1 hv2.2
      rw [show decide ((1048576:Int)<=g)=false by simpa using hgB,show decide (rest<1048576)=true by simpa using h1,i1,r1,i3,r3,c1d (by omega) (by omega)]
      simp only [cond_true,cond_false,Option.bind_some]
      rw [c1y hr (by omega) hu2.1 hu2.2,a7p (by omega) (by omega),show decide (rest*1048576+u2<g*v2)=true by simpa using h2]
   rw [hflag]
   simp only [Option.bind_some,cond_true]
   rw [i2,r2]
   simp only [Option.bind_some]
   rw [a1f (by omega) (by omega),a2n (by omega) (by omega)]
   exact a5 kont m (by omega)
  ·have hgB:g<1048576:=by omega
   have hsm:g*v2<=rest*1048576+u2:=by
    by_cases h1:rest<1048576
    ·omega
    ·have hm1:=b7r (g:=g) h0 hv2.1 hv2.2
     omega
   refine⟨g,h0,by omega,hq,?_,fun kont m hm=> ?_⟩
   ·rw [eU,eV]
    exact d5j rfl hT hvl0 (by omega) hul0 (by omega) hsm hP hv1 hv2.1
   ·obtain⟨m,rfl⟩:∃m',m=m'+1:=⟨m-1,by omega⟩
    rw [big_div_L3_s]
    have hflag:((bif decide ((1048576:Int)<=g)then some true else(bif decide (rest<1048576)then(ix v (isub .i64 (v.length:Int) 2)).bind fun ex8=>(shl .i64 rest 20).bind fun q4=>(ix u (isub .i64 (iadd .i64 (k:Int) (v.length:Int)) 2)).bind fun ex9=>some (decide ((ior .i64 q4 ex9)<(imul .i64 g ex8)))else some false).bind fun v12=>some v12):Option Bool)=some false:=by
     rw [show decide ((1048576:Int)<=g)=false by simp;omega]
     by_cases h1:rest<1048576
     ·have hm1:=b7r (g:=g) h0 hv2.1 hv2.2
      rw [show decide (rest<1048576)=true by simpa using h1,i1,r1,i3,r3,c1d (by omega) (by omega)]
      simp only [cond_true,cond_false,Option.bind_some]
      rw [c1y hr (by omega) hu2.1 hu2.2,a7p (by omega) (by omega),show decide (rest*1048576+u2<g*v2)=false by simp;omega]
     ·rw [show decide (rest<1048576)=false by simpa using h1];rfl
    rw [hflag];rfl
theorem e5u{l:List Int}(h:3<=l.length):∃ul a b c,l=ul++ [a,b,c]:=by
 refine⟨l.take (l.length-3),l[l.length-3],l[l.length-2],l[l.length-1],?_⟩
 have h1:l.drop (l.length-3)= [l[l.length-3],l[l.length-2],l[l.length-1]]:=by
  rw [List.drop_eq_getElem_cons (by omega),List.drop_eq_getElem_cons (by omega),List.drop_eq_getElem_cons (by omega),List.drop_eq_nil_of_le (by omega)]
  simp only [show l.length-3+1=l.length-2 by omega,show l.length-2+1=l.length-1 by omega]
 rw [<-h1,List.take_append_drop]
theorem e6a{l:List Int}(h:2<=l.length):∃ul a b,l=ul++ [a,b]:=by
 refine⟨l.take (l.length-2),l[l.length-2],l[l.length-1],?_⟩
 have h1:l.drop (l.length-2)= [l[l.length-2],l[l.length-1]]:=by
  rw [List.drop_eq_getElem_cons (by omega),List.drop_eq_getElem_cons (by omega),List.drop_eq_nil_of_le (by omega)]
  simp only [show l.length-2+1=l.length-1 by omega]
 rw [<-h1,List.take_append_drop]
theorem d8f{l:List Int}(h:1<=l.length):∃ul a,l=ul++ [a]:=
 ⟨l.take (l.length-1),l[l.length-1],by
  have h1:l.drop (l.length-1)= [l[l.length-1]]:=by
   rw [List.drop_eq_getElem_cons (by omega),List.drop_eq_nil_of_le (by omega)]
  rw [<-h1,List.take_append_drop]⟩
theorem d0k{P Ul u2 T V1 V2 Vl g:Int}(hP:0<P)(hU:Ul<P)(hu:u2<1048576)(hV:0<=Vl)(h2:0<=V2)(hg:T<(g+1)*V1)(hg0:0<=g):
 Ul+P*(u2+1048576*T)<(g+1)*(Vl+P*(V2+1048576*V1)):=by
 have e1:P*u2<=P*1048575:=Int.mul_le_mul_of_nonneg_left (by omega) (by omega)
 have e2:P*(T+1)<=P*((g+1)*V1):=Int.mul_le_mul_of_nonneg_left (by omega) (by omega)
 have e3:0<=(g+1)*Vl:=Int.mul_nonneg (by omega) hV
 have e4:0<=(g+1)*(P*V2):=Int.mul_nonneg (by omega) (Int.mul_nonneg (by omega) h2)
 have e5:(g+1)*(Vl+P*(V2+1048576*V1))=(g+1)*Vl+(g+1)*(P*V2)+1048576*(P*((g+1)*V1)):=by grind
 have e6:Ul+P*(u2+1048576*T)=Ul+P*u2+1048576*(P*(T+1))-1048576*P:=by grind
 omega
theorem e0e(n:Nat)(v:List Int)(kont:List Int->List Int->Option (List Int×List Int))(hv:Canon v)(hl2:2<=v.length)(hlv:v.length<268435456)(hn:4398046511104<n):
 ∀(k:Nat)(lo w zs qd:List Int)(m:Nat),lo.length=k->w.length=v.length->InR lo->InR w->InR zs->val zs=0->val w<val v->k+v.length+zs.length<1073741824->k<m->
  ∃uf,big_div_L2 n v kont m ((k:Int)-1) (List.replicate k 0++qd) (lo++(w++zs))=kont ((a6d (val v) lo (val w)).1++qd) uf/\InR uf/\uf.length=k+v.length+zs.length/\val uf=(a6d (val v) lo (val w)).2
 |0,lo,w,zs,qd,m+1,hlo,hw,hil,hiw,hiz,hz,hlt,hlen,hm=>by
  have:lo= []:=List.eq_nil_of_length_eq_zero hlo
  subst this
  refine⟨w++zs,?_,hiw.append hiz,by simp [hw],?_⟩
  ·rw [big_div_L2_s]
   have e1:decide ((0:Int)<=((0:Nat):Int)-1)=false:=by decide
   rw [e1];simp [a6d]
  ·rw [val_append,hz];simp [a6d]
 |k+1,lo,w,zs,qd,m+1,hlo,hw,hil,hiw,hiz,hz,hlt,hlen,hm=>by
  obtain⟨lo',d,rfl⟩:=d8f (l:=lo) (by omega)
  obtain⟨vl,v2,v1,hvd⟩:=e6a hl2
  obtain⟨ul,u2,t0,t1,hwin⟩:=e5u (l:=d::w) (by simp;omega)
  have hlo':lo'.length=k:=by simpa using hlo
  have hid:0<=d/\d<1048576:=hil d (by simp)
  have hiwin:InR (ul++ [u2,t0,t1]):=by rw [<-hwin];exact InR.cons hid.1 hid.2 hiw
  have hv1:1<=v1/\v1<1048576:=by
   have h1:=hv.1 v1 (by rw [hvd];simp)
   have h2:=hv.2
   rw [hvd]at h2
   have:v1≠0:=by simpa using h2
   omega
  have ht1:0<=t1/\t1<1048576:=hiwin t1 (by simp)
  have ht0:0<=t0/\t0<1048576:=hiwin t0 (by simp)
  have hu2:0<=u2/\u2<1048576:=hiwin u2 (by simp)
  have hv2:0<=v2/\v2<1048576:=hv.1 v2 (by rw [hvd];simp)
  have hvll:v.length=vl.length+2:=by rw [hvd];simp
  have hull:ul.length=vl.length:=by
   have:=congrArg List.length hwin
   simp at this;omega
  have hV:=val_nonneg hv.1
  have hU0:=val_nonneg hiwin
  have hUw:val (ul++ [u2,t0,t1])=d+1048576*val w:=by rw [<-hwin];rfl
  have hw0:=val_nonneg hiw
  have hult:val (ul++ [u2,t0,t1])<1048576*val v:=by omega
  have eV:val v=val vl+pw vl.length*(v2+1048576*v1):=by rw [hvd,val_append];simp [val]
  have eU:val (ul++ [u2,t0,t1])=val ul+pw vl.length*(u2+1048576*(t1*1048576+t0)):=by
   rw [val_append,hull]
   simp only [val]
   have:t0+1048576*(t1+1048576*0)=t1*1048576+t0:=by omega
   rw [this]
  obtain⟨T,hT⟩:∃T,T=t1*1048576+t0:=⟨_,rfl⟩
  have hT0:0<=T:=by omega
  have hT1:T<1099511627776:=by omega
  have hg0:0<=T/v1:=Int.ediv_nonneg hT0 (by omega)
  have hgT:T/v1<=T:=Int.ediv_le_self v1 hT0
  have hr0:0<=T %v1:=Int.emod_nonneg _ (by omega)
  have hr1:T %v1<v1:=Int.emod_lt_of_pos _ (by omega)
  have hsum:T/v1*v1+T %v1=T:=by have:=Int.mul_ediv_add_emod T v1;rw [Int.mul_comm]at this;exact this
  have hq0:val (ul++ [u2,t0,t1])<(T/v1+1)*val v:=by
   rw [eU,eV,<-hT]
   have h1:=val_lt (l:=ul) (fun e he=>hiwin e (by simp [he]))
   rw [hull]at h1
   refine d0k (pw_pos _) h1 hu2.2 (val_nonneg (fun e he=>hv.1 e (by rw [hvd];simp [he]))) hv2.1 ?_ hg0
   rw [Int.add_mul,Int.one_mul];omega
  obtain⟨u,hu⟩:∃u,u=lo'++(ul++ [u2,t0,t1])++zs:=⟨_,rfl⟩
  have hu':lo'++ [d]++(w++zs)=u:=by rw [hu,<-hwin];simp
  have hulen:u.length=k+v.length+1+zs.length:=by rw [<-hu'];simp [hlo',hw];omega
  obtain⟨g',a1,a2,a3,a4,a5⟩:=e4w n v u k hvd hu hlo' hull (by omega) (by omega) hv.1 hiwin hv1.1 hult (T/v1).toNat (T/v1) (T %v1) rfl hg0 hr0 (by rw [hsum,hT]) hq0
  obtain⟨r,s1,s2,s3,s4⟩:=d8k (n:=n) hiwin hv.1 (by simp;omega) (by simp;omega) a1 a2 (by omega) a3 a4 (by simp;omega)
  have hVpos:0<val v:=by omega
  have hrlt:val r<val v:=by rw [s4];exact Int.emod_lt_of_pos _ hVpos
  obtain⟨w'',z,hrw⟩:=d8f (l:=r) (by rw [s3];simp)
  have hw''l:w''.length=v.length:=by
   have:=congrArg List.length hrw
   rw [s3]at this
   simp at this;omega
  have hz0:z=0:=by
   have h1:=val_lt hv.1
   have h2:0<=z/\z<1048576:=s2 z (by rw [hrw];simp)
   have h3:=val_nonneg (l:=w'') (fun e he=>s2 e (by rw [hrw];simp [he]))
   rw [hrw,val_append,hw''l]at hrlt
   simp only [val,Int.mul_zero,Int.add_zero]at hrlt
   rcases(show z=0∨1<=z by omega)with h4|h4
   ·exact h4
   ·have h5:pw v.length*1<=pw v.length*z:=Int.mul_le_mul_of_nonneg_left h4 (by have:=pw_pos v.length;omega)
    omega
  subst hz0
  have hrval:val r=val w'':=by rw [hrw,val_append];simp [val]
  have hiw'':InR w'':=fun e he=>s2 e (by rw [hrw];simp [he])
  have hqi:InR [val (ul++ [u2,t0,t1])/val v]:=InR.cons (Int.ediv_nonneg hU0 (by omega)) (Int.ediv_lt_of_lt_mul hVpos (by omega)) InR.nil
  obtain⟨uf,b1,b2,b3,b4⟩:=e0e n v kont hv hl2 hlv hn k lo' w'' (0::zs) (val (ul++ [u2,t0,t1])/val v::qd) m hlo' hw''l (fun e he=>hil e (by simp [he])) hiw'' (InR.cons (by decide) (by decide) hiz) (by simp [val,hz]) (by omega) (by simp;omega) (by omega)
  refine⟨uf,?_,b2,by rw [b3];simp;omega,?_⟩
  ·rw [big_div_L2_s,hu']
   have e0:((k+1:Nat):Int)-1=(k:Int):=by omega
   have e1:decide ((0:Int)<=(k:Int))=true:=by simp
   have i1:iadd .i64 (k:Int) (v.length:Int)=((k+v.length:Nat):Int):=by rw [a2n (by omega) (by omega)];omega
   have i2:isub .i64 ((k+v.length:Nat):Int) 1=((k+vl.length+1:Nat):Int):=by rw [a1f (by omega) (by omega)];omega
   have i3:isub .i64 (v.length:Int) 1=((vl.length+1:Nat):Int):=by rw [a1f (by omega) (by omega)];omega
   have r1:ix u ((k+v.length:Nat):Int)=some t1:=by
    rw [hu,show lo'++(ul++ [u2,t0,t1])++zs=(lo'++(ul++ [u2,t0]))++t1::zs by simp]
    exact a4x _ t1 _ (by simp [hlo',hull];omega)
   have r2:ix u ((k+vl.length+1:Nat):Int)=some t0:=by
    rw [hu,show lo'++(ul++ [u2,t0,t1])++zs=(lo'++(ul++ [u2]))++t0::(t1::zs) by simp]
    exact a4x _ t0 _ (by simp [hlo',hull];omega)
   have r3:ix v ((vl.length+1:Nat):Int)=some v1:=by
    rw [hvd,show vl++ [v2,v1]=(vl++ [v2])++ [v1] by simp];exact a4x (vl++ [v2]) v1 [] (by simp)
   rw [e0,e1,i1,r1,cond_true,Option.bind_some,c1d (by omega) (by omega),Option.bind_some,i2,r2,Option.bind_some,i3,r3,Option.bind_some,c1y ht1.1 (by omega) ht0.1 ht0.2,<-hT,c1h hT0 (by omega) (by omega),Option.bind_some,Option.bind_some,c2c hT0 (by omega),Option.bind_some]
   rw [a5 _ n (by omega)]
   have i4:iadd .i64 ((k+v.length:Nat):Int) 1=((k+v.length+1:Nat):Int):=inc64 (by omega)
   have r4:lsl u (k:Int) ((k+v.length+1:Nat):Int)=some (ul++ [u2,t0,t1]):=by
    rw [c8k (by omega) (by omega),hu]
    congr 1
    rw [List.take_append_of_le_length (by simp [hlo',hull];omega),List.take_of_length_le (by simp [hlo',hull];omega),<-hlo',List.drop_left]
   rw [i4,r4,Option.bind_some,s1,Option.bind_some,List.replicate_succ',List.append_assoc,List.singleton_append,a4x _ 0 _ (by simp),Option.bind_some,a8y _ 0 _ _ (by simp),Option.bind_some,a1f (by omega) (by omega)]
   have r5:lput u (k:Int) r ((k+v.length+1:Nat):Int)=lo'++(w''++0::zs):=by
    have hX:(lo'++(ul++ [u2,t0,t1])).length=k+v.length+1:=by simp [hlo',hull];omega
    have d1:u.drop (k+v.length+1)=zs:=by rw [hu,<-hX];exact List.drop_left
    have d2:u.take k=lo':=by rw [hu,List.append_assoc,<-hlo'];exact List.take_left
    unfold lput
    rw [Int.toNat_natCast,Int.toNat_natCast,d1,d2,hrw]
    simp
   rw [r5,b1]
   congr 1
   rw [b5d]
   simp only [a6d]
   have e2:val w*1048576+d=val (ul++ [u2,t0,t1]):=by omega
   rw [e2,<-s4,hrval]
   simp
  ·rw [b4,b5d]
   simp only [a6d]
   have e2:val w*1048576+d=val (ul++ [u2,t0,t1]):=by omega
   rw [e2,<-s4,hrval]
 |_,_,_,_,_,0,_,_,_,_,_,_,_,_,h=>by omega
theorem e5a(b:List Int)(hl:1<=b.length)(hlb:b.length<1073741824){top:Int}(htop:ix b ((b.length-1:Nat):Int)=some top)(h1:1<=top)(h2:top<1048576):
 ∀(N j:Nat),j+N=19->∃s':Int,1<=s'/\s'<=524288/\∀(n:Nat)(kont:Int->Option (List Int×List Int))m,N<m->big_div_L1 n b kont m ((2^j:Nat):Int)=kont s':=by
 have i1:isub .i64 (b.length:Int) 1=((b.length-1:Nat):Int):=by rw [a1f (by omega) (by omega)];omega
 have htm:∀s:Int,1<=s->s<=524288->0<=top*s/\top*s<=549755813888:=fun s a1 a2=>
  ⟨Int.mul_nonneg (by omega) (by omega),by have:=Int.mul_le_mul (show top<=1048576 by omega) a2 (by omega) (by omega);omega⟩
 have hpow:∀j:Nat,j<=19->1<=((2^j:Nat):Int)/\((2^j:Nat):Int)<=524288:=fun j hj=>by
  have h1:=Nat.pow_le_pow_right (n:=2) (by decide) hj
  have h2:=Nat.pow_pos (n:=j) (show 0<2 by decide)
  have h3:2^19=524288:=by decide
  omega
 intro N
 induction N with
 |zero=>
  intro j hj
  obtain rfl:j=19:=by omega
  have hp:=hpow 19 (by omega)
  refine⟨((2^19:Nat):Int),hp.1,hp.2,fun n kont m hm=> ?_⟩
  obtain⟨m,rfl⟩:∃m',m=m'+1:=⟨m-1,by omega⟩
  have:=htm _ hp.1 hp.2
  have hs:((2^19:Nat):Int)=524288:=by decide
  have e1:decide (top*((2^19:Nat):Int)<524288)=false:=by
   rw [hs,decide_eq_false_iff_not]
   omega
  rw [big_div_L1_s,i1,htop,Option.bind_some,a7p (by omega) (by omega),e1,cond_false]
 |succ N ih=>
  intro j hj
  have hp:=hpow j (by omega)
  have hp2:=hpow (j+1) (by omega)
  have hm0:=htm _ hp.1 hp.2
  have hdbl:((2^j:Nat):Int)*2=((2^(j+1):Nat):Int):=by rw [Nat.pow_succ];omega
  by_cases h:top*((2^j:Nat):Int)<524288
  ·obtain⟨s',a1,a2,a3⟩:=ih (j+1) (by omega)
   refine⟨s',a1,a2,fun n kont m hm=> ?_⟩
   obtain⟨m,rfl⟩:∃m',m=m'+1:=⟨m-1,by omega⟩
   rw [big_div_L1_s,i1,htop,Option.bind_some,a7p (by omega) (by omega),show decide (top*((2^j:Nat):Int)<524288)=true by simpa using h,cond_true,a7p (by omega) (by omega),hdbl]
   exact a3 n kont m (by omega)
  ·refine⟨_,hp.1,hp.2,fun n kont m hm=> ?_⟩
   obtain⟨m,rfl⟩:∃m',m=m'+1:=⟨m-1,by omega⟩
   rw [big_div_L1_s,i1,htop,Option.bind_some,a7p (by omega) (by omega),show decide (top*((2^j:Nat):Int)<524288)=false by rw [decide_eq_false_iff_not];exact h,cond_false]
theorem c6s{a b s:Nat}(hs:0<s):a*s/(b*s)=a/b/\a*s %(b*s)=a %b*s:=⟨Nat.mul_div_mul_right _ _ hs,Nat.mul_mod_mul_right _ _ _⟩
theorem e0f{x y:Nat}(hy:y≠0)(hlx:(dig x).length<16777216)(hly:(dig y).length<16777216):Ev (fun n=>b4r n (dig x) (dig y)) (dig (x/y),dig (x %y)):=by
 unfold b4r
 refine Ev.bind (a:=sg ((x:Int)-y)) ⟨(dig x).length+1,fun n hn=> ?_⟩ ?_
 ·have:=c8p (n:=n) (b0l x) (b0l y) (by omega) (by omega)
  rw [a1p,a1p]at this;exact this
 by_cases hlt:x<y
 ·refine Ev.then (by simp [sg];omega) ?_
  refine Ev.bind (b8b (by omega)) ?_
  rw [Nat.div_eq_of_lt hlt,Nat.mod_eq_of_lt hlt,dig_zero]
  exact Ev.pure _
 refine Ev.else (by simp [sg];split<;>(try split)<;>omega) ?_
 have hyl:1<=(dig y).length:=by
  have:=b6s hy
  cases h:dig y with
  |nil=>exact absurd h this
  |cons=>simp
 by_cases h1:(dig y).length=1
 ·refine Ev.then (by simp [h1]) ?_
  obtain⟨d,hd⟩:∃d,dig y= [d]:=List.length_eq_one_iff.1 h1
  have hdy:d=y:=by have:=a1p y;rw [hd]at this;simpa [val]using this
  have hd1:0<=d/\d<1048576:=a2e y d (by rw [hd];simp)
  refine Ev.step (a:=d) (by rw [hd];rfl) ?_
  refine Ev.bind (d8x (a2e x) (by omega) (by omega) (by omega)) ?_
  have hm:0<=(x:Int) %y/\(x:Int) %y<1048576:=⟨Int.emod_nonneg _ (by omega),by have:=Int.emod_lt_of_pos (x:Int) (show(0:Int)<y by omega);omega⟩
  refine Ev.bind (d7e (InR.cons (by rw [a1p,hdy];exact hm.1) (by rw [a1p,hdy];exact hm.2) InR.nil) (by simp)) ?_
  refine(Ev.pure _).eq ?_
  simp only [a1p,hdy,val,Int.mul_zero,Int.add_zero]
  rw [<-Int.natCast_ediv,<-Int.natCast_emod,Int.toNat_natCast,Int.toNat_natCast]
 refine Ev.else (by simp;omega) ?_
 obtain⟨pl,top,hpt⟩:=d8f (l:=dig y) hyl
 have htop:ix (dig y) (((dig y).length-1:Nat):Int)=some top:=by
  have:∀l:List Int,l=pl++ [top]->ix l ((l.length-1:Nat):Int)=some top:=fun l hl=>by subst hl;exact a4x pl top [] (by simp)
  exact this _ hpt
 have ht1:0<=top/\top<1048576:=a2e y top (by rw [hpt];simp)
 have ht2:top≠0:=by have:=b8x y;rw [hpt]at this;simpa using this
 obtain⟨s,hs1,hs2,hL1⟩:=e5a (dig y) hyl (by omega) htop (by omega) ht1.2 19 0 rfl
 rw [show((2^0:Nat):Int)=1 from rfl]at hL1
 refine Ev.from 20 (fun n hn=>hL1 n _ n (by omega)) ?_
 obtain⟨S,rfl⟩:=Int.eq_ofNat_of_zero_le (show 0<=s by omega)
 have hS:0<S:=by omega
 have hSi:InR [(S:Int)]:=InR.cons (by omega) (by omega) InR.nil
 have hmul:∀z:Nat,(val (dig z)*val [(S:Int)]).toNat=z*S:=fun z=>by
  rw [a1p];simp only [val,Int.mul_zero,Int.add_zero]
  rw [<-Int.natCast_mul,Int.toNat_natCast]
 have m1:=d5y (a2e x) hSi (by omega) (by simp)
 have m2:=d5y (a2e y) hSi (by omega) (by simp)
 rw [hmul]at m1 m2
 have hxS:x<=x*S:=Nat.le_mul_of_pos_right _ hS
 have hyS:y<=y*S:=Nat.le_mul_of_pos_right _ hS
 have hxy:y*S<=x*S:=Nat.mul_le_mul_right _ (by omega)
 have l1:=a4k hxS
 have l2:=a4k hyS
 have l3:=a4k hxy
 have l4:(dig (x*S)).length<=(dig x).length+1:=by
  have h:=c0w [(S:Int)] (dig x) [0] rfl
  have h2:=b9w (c8z hSi (dig x) [0] (a2e x) (InR.rep 1))
  rw [c5s [(S:Int)] (dig x) [0] rfl,show val [(0:Int)]=0 from rfl,Int.zero_add,hmul,h]at h2
  simpa using h2
 refine Ev.bind m1 ?_
 refine Ev.step (a:=dig (x*S)++ [0]) (c0e (by simp;omega)) ?_
 refine Ev.bind m2 ?_
 refine Ev.step (a:=dig (x*S)++ [0]) (by
  have:(((dig (x*S)++ [(0:Int)]).length:Int)==((dig x).length:Int))=false:=by simp;omega
  rw [this,cond_false]) ?_
 obtain⟨k,hk⟩:∃k,(dig (x*S)).length+1=(dig (y*S)).length+k:=⟨(dig (x*S)).length+1-(dig (y*S)).length,by omega⟩
 have hk1:1<=k:=by omega
 have hkle:k<=(dig (x*S)).length:=by omega
 refine Ev.step (a:=List.replicate k 0) (by
  rw [a1f (by simp;omega) (by simp;omega),show(((dig (x*S)++ [(0:Int)]).length:Int)-((dig (y*S)).length:Int))=(k:Int) by simp;omega]
  exact c4o (by omega)) ?_
 have hyS0:y*S≠0:=by omega
 obtain⟨pl',top',hpt'⟩:=d8f (l:=dig (y*S)) (by omega)
 have htop':1<=top':=by
  have h1:=a2e (y*S) top' (by rw [hpt'];simp)
  have h2:=b8x (y*S)
  rw [hpt']at h2
  have:top'≠0:=by simpa using h2
  omega
 have hVge:pw ((dig (y*S)).length-1)<=val (dig (y*S)):=by
  have h0:(dig (y*S)).length-1=pl'.length:=by rw [hpt'];simp
  rw [h0,hpt',val_append]
  have h1:=val_nonneg (l:=pl') (fun e he=>a2e (y*S) e (by rw [hpt'];simp [he]))
  have h2:pw pl'.length*1<=pw pl'.length*top':=Int.mul_le_mul_of_nonneg_left htop' (by have:=pw_pos pl'.length;omega)
  simp only [val,Int.mul_zero,Int.add_zero]
  omega
 have hw:(dig (x*S)++ [(0:Int)]).drop k=(dig (x*S)).drop k++ [0]:=List.drop_append_of_le_length hkle
 have hwlt:val ((dig (x*S)++ [(0:Int)]).drop k)<val (dig (y*S)):=by
  rw [hw,val_append]
  have h1:=val_lt ((a2e (x*S)).drop k)
  have h2:((dig (x*S)).drop k).length=(dig (y*S)).length-1:=by simp;omega
  rw [h2]at h1
  simp only [val,Int.mul_zero,Int.add_zero]
  omega
 have hui:InR (dig (x*S)++ [(0:Int)]):=(a2e _).append (InR.cons (by decide) (by decide) InR.nil)
 refine⟨4398046511105+k+(dig (x*S)).length,fun n hn=> ?_⟩
 obtain⟨uf,r1,r2,r3,r4⟩:=e0e n (dig (y*S)) (fun(l6:List Int)(l7:List Int)=>(a2r n l7).bind fun v7=>(a8b n v7 (S:Int)).bind fun v8=>(a2r n l6).bind fun v9=>some (v9,v8.1)) (b0l _) (by omega) (by omega) (by omega)
  k ((dig (x*S)++ [(0:Int)]).take k) ((dig (x*S)++ [(0:Int)]).drop k) [] [] n (by simp;omega) (by simp;omega) (hui.take k) (hui.drop k) InR.nil rfl hwlt (by simp;omega) (by omega)
 simp only [List.append_nil,List.take_append_drop]at r1
 have hV:(0:Int)<val (dig (y*S)):=by rw [a1p];omega
 have h0:=val_nonneg (hui.drop k)
 have q1:=c2v (V:=val (dig (y*S))) ((dig (x*S)++ [(0:Int)]).take k) (val ((dig (x*S)++ [(0:Int)]).drop k))
 have q2:=b8j hV ((dig (x*S)++ [(0:Int)]).take k) _ h0 hwlt
 have q3:=c6m hV ((dig (x*S)++ [(0:Int)]).take k) _ (hui.take k) h0 hwlt
 have q4:=b8n (val (dig (y*S))) ((dig (x*S)++ [(0:Int)]).take k) (val ((dig (x*S)++ [(0:Int)]).drop k))
 rw [b7q,List.take_append_drop]at q1
 have q5:val (dig (x*S)++ [(0:Int)])=((x*S:Nat):Int):=by rw [val_append,a1p];simp [val]
 rw [q5]at q1
 have hVy:val (dig (y*S))=((y*S:Nat):Int):=a1p _
 rw [hVy]at q1 q2 q3 q4 r1 r4
 obtain⟨g1,g2⟩:=c5y (U:=((x*S:Nat):Int)) (V:=((y*S:Nat):Int)) (q:=val (a6d ((y*S:Nat):Int) ((dig (x*S)++ [(0:Int)]).take k) (val ((dig (x*S)++ [(0:Int)]).drop k))).1) (by omega) (by omega) (by rw [Int.add_mul,Int.one_mul];omega)
 obtain⟨n1,n2⟩:=c6s (a:=x) (b:=y) hS
 have e1:val uf=((x %y*S:Nat):Int):=by
  rw [r4,<-n2,Int.natCast_emod];omega
 have e2:val (a6d ((y*S:Nat):Int) ((dig (x*S)++ [(0:Int)]).take k) (val ((dig (x*S)++ [(0:Int)]).drop k))).1=((x/y:Nat):Int):=by
  rw [<-g1,<-n1,Int.natCast_ediv]
 have hul:uf.length<n:=by rw [r3];simp;omega
 have hlu:uf.length<1073741824:=by rw [r3];simp;omega
 have hdl:=b9w r2
 rw [e1,Int.toNat_natCast]at hdl
 dsimp only
 rw [List.length_replicate,a1f (by omega) (by omega),r1,c3r r2 (by omega) hul,e1,Int.toNat_natCast,Option.bind_some,
  d6h (a2e _) (by omega) (by omega) (by omega) (n:=n) (by omega),Option.bind_some,
  c3r q3 (by rw [q4];simp;omega) (by rw [q4];simp;omega),Option.bind_some,e2,Int.toNat_natCast,a1p]
 have e3:((x %y*S:Nat):Int)/(S:Int)=((x %y:Nat):Int):=by
  rw [<-Int.natCast_ediv,Nat.mul_div_cancel _ hS]
 rw [e3,Int.toNat_natCast]
end Go.Proofs.YthaegflpecbfgaaGreatDoor.D
namespace Go.Proofs.YthaegflpecbfgaaGreatDoor.D
open Go Rt M
def toB(x:Int):Big:=⟨sg x,dig x.natAbs⟩
def Sm(k:Nat)(x:Int):Prop:=(x.natAbs:Int)<pw k
theorem a1d(x:Int):(x<0/\sg x=-1)∨(x=0/\sg x=0)∨(0<x/\sg x=1):=by
 unfold sg;split
 ·exact .inl ⟨by assumption,rfl⟩
 ·split
  ·exact .inr (.inr ⟨by assumption,rfl⟩)
  ·exact .inr (.inl ⟨by omega,rfl⟩)
theorem a3r{x:Int}(h:0<x):sg x=1:=by rcases a1d x with h1|h1|h1<;>omega
theorem a3z{x:Int}(h:x<0):sg x=-1:=by rcases a1d x with h1|h1|h1<;>omega
theorem b6k(x y:Int):sg (x*y)=sg x*sg y:=by
 rcases a1d x with⟨h1,h2⟩|⟨h1,h2⟩|⟨h1,h2⟩<;>rcases a1d y with⟨h3,h4⟩|⟨h3,h4⟩|⟨h3,h4⟩<;>rw [h2,h4]
 ·exact a3r (Int.mul_pos_of_neg_of_neg h1 h3)
 ·subst h3;rw [Int.mul_zero];decide
 ·exact a3z (Int.mul_neg_of_neg_of_pos h1 h3)
 ·subst h1;rw [Int.zero_mul];decide
 ·subst h1;rw [Int.zero_mul];decide
 ·subst h1;rw [Int.zero_mul];decide
 ·exact a3z (Int.mul_neg_of_pos_of_neg h1 h3)
 ·subst h3;rw [Int.mul_zero];decide
 ·exact a3r (Int.mul_pos h1 h3)
theorem c1p(x:Int):sg x*(x.natAbs:Int)=x:=by
 rcases a1d x with⟨h1,h2⟩|⟨h1,h2⟩|⟨h1,h2⟩<;>rw [h2]<;>omega
theorem c1a(x:Int):-1<=sg x/\sg x<=1:=by rcases a1d x with h|h|h<;>omega
theorem d2b(a:Nat):∀b,pw (a+b)=pw a*pw b
 |0=>by simp [pw]
 |b+1=>by rw [<-Nat.add_assoc];simp only [pw,d2b a b];grind
theorem a1k{k:Nat}{x:Int}(h:Sm k x):(dig x.natAbs).length<=k:=by
 rcases Nat.lt_or_ge k (dig x.natAbs).length with h1|h1
 ·exfalso
  have h2:val (List.replicate k (1048575:Int))<val (dig x.natAbs):=val_lt_of_len (fun e he=>by rw [(List.mem_replicate.1 he).2];decide) (b0l _) (by simpa using h1)
  have h3:∀k,val (List.replicate k (1048575:Int))=pw k-1:=by
   intro k
   induction k with
   |zero=>rfl
   |succ k ih=>rw [List.replicate_succ];simp only [val,pw,ih];omega
  rw [h3,a1p]at h2
  unfold Sm at h
  omega
 ·exact h1
theorem a4a{k:Nat}{x:Int}(h:(dig x.natAbs).length<=k):Sm k x:=by
 have h1:=val_lt (a2e x.natAbs)
 rw [a1p]at h1
 exact Int.lt_of_lt_of_le h1 (pw_mono h)
theorem Sm.mono{k l:Nat}{x:Int}(h:Sm k x)(hkl:k<=l):Sm l x:=Int.lt_of_lt_of_le h (pw_mono hkl)
theorem Sm.add{k:Nat}{x y:Int}(h:Sm k x)(h2:Sm k y):Sm (k+1) (x+y):=by
 unfold Sm at*;simp only [pw];omega
theorem Sm.neg{k:Nat}{x:Int}(h:Sm k x):Sm k (-x):=by unfold Sm at*;omega
theorem Sm.sub{k:Nat}{x y:Int}(h:Sm k x)(h2:Sm k y):Sm (k+1) (x-y):=by rw [Int.sub_eq_add_neg];exact h.add h2.neg
theorem Sm.mul{k l:Nat}{x y:Int}(h:Sm k x)(h2:Sm l y):Sm (k+l) (x*y):=by
 unfold Sm at*
 rw [d2b,Int.natAbs_mul,Int.natCast_mul]
 have h3:(x.natAbs:Int)*y.natAbs<=x.natAbs*pw l:=Int.mul_le_mul_of_nonneg_left (by omega) (by omega)
 have h4:(x.natAbs:Int)*pw l<pw k*pw l:=Int.mul_lt_mul_of_pos_right h (pw_pos l)
 omega
theorem Sm.le{k:Nat}{x y:Int}(h:Sm k x)(h2:y.natAbs<=x.natAbs):Sm k y:=by unfold Sm at*;omega
def okd(d:Int):Bool:=decide (0<=d)&&decide (d<1048576)
def a9h(a:Big):Bool:=a.Digits.all okd&&(if a.Digits= []then a.Sign==0 else(a.Sign==1||a.Sign==-1)&&(a.Digits.getLast?.getD 0 !=0))
theorem d7c(n:Nat)(a:Big)(kont:Option Bool)(hl:a.Digits.length<1099511627776):∀(us:List Int)(i m:Nat),a.Digits.drop i=us->us.length<m->big_Right_L1 n a kont m (i:Int)=bif us.all okd then kont else some false
 | [],i,m+1,hd,_=>by
  rw [big_Right_L1_s]
  have:=drop_nil hd
  rw [show decide ((i:Int)<(a.Digits.length:Int))=false by simp;omega];rfl
 |x::xs,i,m+1,hd,hm=>by
  rw [big_Right_L1_s]
  obtain⟨f1,f2,f3⟩:=drop_cons hd
  rw [show decide ((i:Int)<(a.Digits.length:Int))=true by simp;omega,cond_true,f1,Option.bind_some]
  have e1:((bif decide (x<0)then some true else some (decide (1048575<x))):Option Bool)=some (!okd x):=by
   unfold okd
   by_cases h:x<0
   ·rw [show decide (x<0)=true by simpa using h,show decide (0<=x)=false by simp;omega];rfl
   ·rw [show decide (x<0)=false by simpa using h,show decide (0<=x)=true by simp;omega,cond_false]
    by_cases h2:x<1048576
    ·rw [show decide (1048575<x)=false by simp;omega,show decide (x<1048576)=true by simpa using h2];rfl
    ·rw [show decide (1048575<x)=true by simp;omega,show decide (x<1048576)=false by simpa using h2];rfl
  rw [e1,Option.bind_some,List.all_cons]
  cases h:okd x with
  |false=>rfl
  |true=>
   rw [inc64 (by omega),d7c n a kont hl xs (i+1) m f2 (by simpa using hm)];rfl
 |_,_,0,_,h=>by omega
theorem e2s{a:Big}(hl:a.Digits.length<1099511627776){n:Nat}(hn:a.Digits.length<n):a2x n a=some (a9h a):=by
 unfold a2x
 have h:=fun kont=>d7c n a kont hl a.Digits 0 n rfl hn
 rw [show((0:Nat):Int)=0 from rfl]at h
 rw [h]
 unfold a9h
 cases ha:a.Digits.all okd with
 |false=>rfl
 |true=>
  rw [cond_true,Bool.true_and]
  rcases List.eq_nil_or_concat a.Digits with h0|⟨p,d,h0⟩
  ·rw [h0];rfl
  ·rw [List.concat_eq_append]at h0
   have hne:a.Digits≠ []:=by rw [h0];simp
   have e1:((a.Digits.length:Int)==0)=false:=by rw [h0];simp;omega
   have e2:isub .i64 (a.Digits.length:Int) 1=(p.length:Int):=by rw [a1f (by omega) (by omega),h0];simp
   have e3:ix a.Digits (p.length:Int)=some d:=by rw [h0];exact a4x p d [] rfl
   rw [e1,cond_false,if_neg hne,e2,e3]
   have e4:a.Digits.getLast?.getD 0=d:=by rw [h0];simp
   rw [e4]
   cases h1:(a.Sign==1)<;>cases h2:(a.Sign==-1)<;>rfl
theorem c5d{a:Big}(hl:a.Digits.length<1099511627776):Ev (fun n=>a2x n a) (a9h a):=⟨a.Digits.length+1,fun _ hn=>e2s hl hn⟩
theorem b6a(x:Int):a9h (toB x)=true:=by
 unfold a9h toB
 have h1:(dig x.natAbs).all okd=true:=by
  rw [List.all_eq_true]
  intro d hd
  have:=a2e _ d hd
  unfold okd;simp;omega
 simp only [h1,Bool.true_and]
 by_cases h:x=0
 ·subst h;rw [show(0:Int).natAbs=0 from rfl,dig_zero];rfl
 ·rw [if_neg (b6s (by omega))]
  have h2:(dig x.natAbs).getLast?.getD 0≠0:=by
   have h3:=b8x x.natAbs
   cases h4:(dig x.natAbs).getLast? with
   |none=>rw [List.getLast?_eq_none_iff]at h4;exact absurd h4 (b6s (by omega))
   |some d=>rw [h4]at h3;simpa using h3
  rcases a1d x with⟨_,h5⟩|⟨h6,_⟩|⟨_,h5⟩
  ·rw [h5];simpa using h2
  ·exact absurd h6 h
  ·rw [h5];simpa using h2
theorem a8s{a:Big}(h:a9h a=true):∃x,a=toB x:=by
 obtain⟨s,l⟩:=a
 unfold a9h at h
 simp only [Bool.and_eq_true,List.all_eq_true]at h
 obtain⟨h1,h2⟩:=h
 have hi:InR l:=fun d hd=>by have:=h1 d hd;unfold okd at this;simpa using this
 by_cases hl:l= []
 ·subst hl
  simp only [if_true,beq_iff_eq]at h2
  subst h2
  exact⟨0,by unfold toB;rw [show(0:Int).natAbs=0 from rfl,dig_zero];rfl⟩
 ·simp only [if_neg hl,Bool.and_eq_true,Bool.or_eq_true,beq_iff_eq,bne_iff_ne]at h2
  have hc:Canon l:=by
   refine⟨hi,fun h3=> ?_⟩
   rw [h3]at h2;exact h2.2 rfl
  have hv:=val_nonneg hi
  have hv0:val l≠0:=fun e=>by have:=dig_val hc;rw [e,Int.toNat_zero,dig_zero]at this;exact hl this.symm
  have hd:=dig_val hc
  rcases h2.1 with h3|h3
  ·refine⟨val l,?_⟩
   unfold toB
   rw [a3r (by omega),h3,show(val l).natAbs=(val l).toNat by omega,hd]
  ·refine⟨-val l,?_⟩
   unfold toB
   rw [a3z (by omega),h3,show(-val l).natAbs=(val l).toNat by omega,hd]
theorem e1j{x y:Int}(h:toB x=toB y):x=y:=by
 unfold toB at h
 simp only [Big.mk.injEq]at h
 have:=e0t h.2
 have h1:=c1p x
 have h2:=c1p y
 rw [h.1,this]at h1
 omega
theorem toB_zero:toB 0=⟨0,[]⟩:=by unfold toB;rw [show(0:Int).natAbs=0 from rfl,dig_zero];rfl
theorem a5h{x:Int}{k:Nat}(h:Sm k x)(hk:k<1099511627776):Ev (fun n=>a2x n (toB x)) true:=by
 have:=c5d (a:=toB x) (by have:=a1k h;simp only [toB];omega)
 rwa [b6a]at this
theorem a8d(s:Int){v:Nat}(h:(dig v).length<1099511627776):Ev (fun n=>a3x n s (dig v)) (if v=0 then⟨0,[]⟩else⟨s,dig v⟩):=by
 unfold a3x
 have h1:=d7e (a2e v) h
 rw [a1p,Int.toNat_natCast]at h1
 refine Ev.bind h1 ?_
 by_cases hv:v=0
 ·rw [if_pos hv]
  refine Ev.then (by rw [hv,dig_zero];rfl) (Ev.pure _)
 ·rw [if_neg hv]
  refine Ev.else ?_ (Ev.pure _)
  have:=b6s hv
  cases hd:dig v with
  |nil=>exact absurd hd this
  |cons a l=>simp;omega
theorem a5y{s:Int}{v:Nat}(z:Int)(hz:z.natAbs=v)(hs:v≠0->s=sg z):(if v=0 then(⟨0,[]⟩:Big)else⟨s,dig v⟩)=toB z:=by
 by_cases hv:v=0
 ·rw [if_pos hv]
  have:z=0:=by omega
  rw [this,toB_zero]
 ·rw [if_neg hv,hs hv];unfold toB;rw [hz]
theorem d2e{x:Int}{k:Nat}(h:Sm k x)(hk:k<1073741824):Ev (fun n=>b2u n (toB x)) (toB (-x)):=by
 unfold b2u
 have hl:=a1k h
 refine Ev.bind (a5h h (by omega)) ?_
 refine Ev.else rfl ?_
 refine Ev.bind (b8b (a:=(toB x).Digits) (by simp only [toB];omega)) ?_
 have hr:=c1a x
 refine Ev.bind (a8d (IntKind.i64.wrap (0-(toB x).Sign)) (v:=x.natAbs) (by omega)) ?_
 refine(Ev.pure _).eq ?_
 rw [a5y (-x) (by omega) (fun hv=>by
  show IntKind.i64.wrap (0-sg x)=_
  rw [a5k (by omega) (by omega)]
  rcases a1d x with⟨h1,h2⟩|⟨h1,h2⟩|⟨h1,h2⟩
  ·rw [h2,a3r (by omega)];rfl
  ·omega
  ·rw [h2,a3z (by omega)];rfl)]
theorem Or_n(n:Nat)(x y:Int)(hn:2<n):b3e n [x,y]=some (if x≠0 then x else y):=by
 obtain⟨n,rfl⟩:∃k,n=k+3:=⟨n-3,by omega⟩
 have h0:ix [x,y] 0=some x:=rfl
 have h1:ix [x,y] 1=some y:=rfl
 have a1:iadd .i64 0 1=1:=by decide
 have a2:iadd .i64 1 1=2:=by decide
 unfold b3e
 rw [cmp_Or_int_L1_s,show decide ((0:Int)<(([x,y]:List Int).length:Int))=true by rfl,cond_true,h0,Option.bind_some]
 by_cases hx:x=0
 ·rw [show(x !=0)=false by simpa using hx,cond_false,a1,cmp_Or_int_L1_s,show decide ((1:Int)<(([x,y]:List Int).length:Int))=true by rfl,cond_true,h1,Option.bind_some,if_neg (by simpa using hx)]
  by_cases hy:y=0
  ·rw [show(y !=0)=false by simpa using hy,cond_false,a2,cmp_Or_int_L1_s,show decide ((2:Int)<(([x,y]:List Int).length:Int))=false by rfl,cond_false,hy]
  ·rw [show(y !=0)=true by simpa using hy,cond_true]
 ·rw [show(x !=0)=true by simpa using hx,cond_true,if_pos hx]
theorem d4m(u v:Nat)(hu:(dig u).length<1073741824)(hv:(dig v).length<1073741824):Ev (fun n=>b6x n (dig u) (dig v)) (dig (u+v)):=by
 have:=e3m (a2e u) (a2e v) hu hv
 rwa [a1p,a1p,show((u:Int)+v).toNat=u+v by omega]at this
theorem d0p(u v:Nat)(hu:(dig u).length<1073741824)(hvu:v<=u):Ev (fun n=>b5k n (dig u) (dig v)) (dig (u-v)):=by
 have:=e3s (a2e u) (a2e v) hu (a4k hvu) (by rw [a1p,a1p];omega)
 rwa [a1p,a1p,show((u:Int)-v).toNat=u-v by omega]at this
theorem e1z(u v:Nat)(hu:(dig u).length<536870912)(hv:(dig v).length<536870912):Ev (fun n=>b0v n (dig u) (dig v)) (dig (u*v)):=by
 have:=d5y (a2e u) (a2e v) hu hv
 rwa [a1p,a1p,<-Int.natCast_mul,Int.toNat_natCast]at this
theorem c2x(u v:Nat)(hu:(dig u).length<1073741824):Ev (fun n=>a6l n (dig u) (dig v)) (sg ((u:Int)-v)):=⟨(dig u).length+1,fun n hn=>by
 have:=c8p (n:=n) (b0l u) (b0l v) (by omega) (by omega)
 rwa [a1p,a1p]at this⟩
theorem b0o(n:Nat)(c:Big):a4u n true c=some (c,0):=rfl
theorem b5q(x y:Int):imul .i64 (sg x) (sg y)=sg (x*y):=by
 rw [b6k]
 have h1:=c1a x
 have h2:=c1a y
 refine a7p ?_ ?_<;>rcases a1d x with⟨_,h⟩|⟨_,h⟩|⟨_,h⟩<;>rw [h]<;>omega
theorem e5k{x y:Int}{k:Nat}(hx:Sm k x)(hy:Sm k y)(hk:k<536870912):Ev (fun n=>c2b n (toB x) (toB y)) (toB (x+y),0):=by
 have lx:=a1k hx
 have ly:=a1k hy
 have lxy:=a1k (hx.add hy)
 unfold c2b
 refine Ev.bind (a5h hx (by omega)) ?_
 refine Ev.bind (a:=false) (Ev.else rfl (Ev.bind (a5h hy (by omega)) (Ev.pure _))) ?_
 refine Ev.else rfl ?_
 show Ev (fun n=>bif decide (0<=imul .i64 (sg x) (sg y))then _ else _) _
 rw [b5q]
 by_cases hs:0<=sg (x*y)
 ·refine Ev.then (by simpa using hs) ?_
  refine Ev.bind (a:=if sg x≠0 then sg x else sg y) ⟨3,fun n hn=>Or_n n _ _ (by omega)⟩ ?_
  refine Ev.bind (d4m x.natAbs y.natAbs (by omega) (by omega)) ?_
  have hab:x.natAbs+y.natAbs=(x+y).natAbs:=by
   rw [b6k]at hs
   rcases a1d x with⟨h1,h2⟩|⟨h1,h2⟩|⟨h1,h2⟩<;>rcases a1d y with⟨h3,h4⟩|⟨h3,h4⟩|⟨h3,h4⟩<;>rw [h2,h4]at hs<;>omega
  rw [hab]
  refine Ev.bind (a8d _ (by omega)) ?_
  rw [a5y (x+y) rfl (fun hv=>by
   rw [b6k]at hs
   rcases a1d x with⟨h1,h2⟩|⟨h1,h2⟩|⟨h1,h2⟩<;>rcases a1d y with⟨h3,h4⟩|⟨h3,h4⟩|⟨h3,h4⟩<;>rw [h2,h4]at hs⊢<;>
    first
     |omega
     |(rw [a3z (by omega)];decide)
     |(rw [a3r (by omega)];decide))]
  exact Ev.step (b0o 0 _) (Ev.pure _)
 ·refine Ev.else (by simpa using hs) ?_
  have hne:x≠0/\y≠0:=by
   constructor
   ·intro h;subst h;rw [Int.zero_mul]at hs;exact hs (by decide)
   ·intro h;subst h;rw [Int.mul_zero]at hs;exact hs (by decide)
  have hop:sg x=-sg y:=by
   rw [b6k]at hs
   rcases a1d x with⟨h1,h2⟩|⟨h1,h2⟩|⟨h1,h2⟩<;>rcases a1d y with⟨h3,h4⟩|⟨h3,h4⟩|⟨h3,h4⟩<;>rw [h2,h4]at hs⊢<;>omega
  refine Ev.bind (c2x x.natAbs y.natAbs (by omega)) ?_
  by_cases hlt:x.natAbs<y.natAbs
  ·refine Ev.then (by rw [a3z (by omega)];rfl) ?_
   refine Ev.bind (d0p y.natAbs x.natAbs (by omega) (by omega)) ?_
   rw [show y.natAbs-x.natAbs=(x+y).natAbs by
    rcases a1d x with⟨h1,h2⟩|⟨h1,h2⟩|⟨h1,h2⟩<;>rcases a1d y with⟨h3,h4⟩|⟨h3,h4⟩|⟨h3,h4⟩<;>omega]
   refine Ev.bind (a8d _ (by omega)) ?_
   rw [a5y (x+y) rfl (fun hv=>by
    show sg y=_
    rcases a1d y with⟨h3,h4⟩|⟨h3,h4⟩|⟨h3,h4⟩
    ·rw [h4,a3z (by omega)]
    ·omega
    ·rw [h4,a3r (by omega)])]
   exact Ev.step (b0o 0 _) (Ev.pure _)
  ·refine Ev.else (by
    rcases a1d ((x.natAbs:Int)-y.natAbs)with h|h|h
    ·omega
    ·rw [h.2];rfl
    ·rw [h.2];rfl) ?_
   refine Ev.bind (d0p x.natAbs y.natAbs (by omega) (by omega)) ?_
   rw [show x.natAbs-y.natAbs=(x+y).natAbs by
    rcases a1d x with⟨h1,h2⟩|⟨h1,h2⟩|⟨h1,h2⟩<;>rcases a1d y with⟨h3,h4⟩|⟨h3,h4⟩|⟨h3,h4⟩<;>omega]
   refine Ev.bind (a8d _ (by omega)) ?_
   rw [a5y (x+y) rfl (fun hv=>by
    show sg x=_
    rcases a1d x with⟨h3,h4⟩|⟨h3,h4⟩|⟨h3,h4⟩
    ·rw [h4,a3z (by omega)]
    ·omega
    ·rw [h4,a3r (by omega)])]
   exact Ev.step (b0o 0 _) (Ev.pure _)
theorem e4f{x y:Int}{k:Nat}(hx:Sm k x)(hy:Sm k y)(hk:k<268435456):Ev (fun n=>c2t n (toB x) (toB y)) (toB (x*y),0):=by
 have lx:=a1k hx
 have ly:=a1k hy
 have lxy:=a1k (hx.mul hy)
 unfold c2t
 refine Ev.bind (a5h hx (by omega)) ?_
 refine Ev.bind (a:=false) (Ev.else rfl (Ev.bind (a5h hy (by omega)) (Ev.pure _))) ?_
 refine Ev.else rfl ?_
 refine Ev.bind (e1z x.natAbs y.natAbs (by omega) (by omega)) ?_
 rw [<-Int.natAbs_mul]
 refine Ev.bind (a8d (imul .i64 (sg x) (sg y)) (by omega)) ?_
 rw [a5y (x*y) rfl (fun _=>b5q x y)]
 exact Ev.step (b0o 0 _) (Ev.pure _)
end Go.Proofs.YthaegflpecbfgaaGreatDoor.D
namespace Go.Proofs.YthaegflpecbfgaaGreatDoor.D
open Go Rt M
def odd(x y:Int):Bool:=decide (x*y<0)&&decide (x.natAbs %y.natAbs≠0)
def dq(x y:Int):Int:=if odd x y then-((x.natAbs/y.natAbs:Nat)+1:Int)else sg (x*y)*(x.natAbs/y.natAbs:Nat)
def dr(x y:Int):Int:=if odd x y then sg y*((y.natAbs-x.natAbs %y.natAbs:Nat):Int)else sg x*((x.natAbs %y.natAbs:Nat):Int)
theorem b3i{x y:Int}:x*y<0↔(x<0/\0<y)∨(0<x/\y<0):=by
 rcases a1d x with⟨h1,h2⟩|⟨h1,h2⟩|⟨h1,h2⟩<;>rcases a1d y with⟨h3,h4⟩|⟨h3,h4⟩|⟨h3,h4⟩
 ·have:=Int.mul_pos_of_neg_of_neg h1 h3;omega
 ·subst h3;simp
 ·have:=Int.mul_neg_of_neg_of_pos h1 h3;omega
 ·subst h1;simp
 ·subst h1;simp
 ·subst h1;simp
 ·have:=Int.mul_neg_of_pos_of_neg h1 h3;omega
 ·subst h3;simp
 ·have:=Int.mul_pos h1 h3;omega
theorem e6j{x y:Int}(hy:y≠0):dq x y*y+dr x y=x/\(dr x y=0∨sg (dr x y)=sg y)/\(dr x y).natAbs<y.natAbs:=by
 have hyn:0<y.natAbs:=by omega
 have h1:=Nat.div_add_mod x.natAbs y.natAbs
 have h2:=Nat.mod_lt x.natAbs hyn
 have h1':(y.natAbs:Int)*((x.natAbs/y.natAbs:Nat):Int)+((x.natAbs %y.natAbs:Nat):Int)=x.natAbs:=by rw [<-Int.natCast_mul];omega
 generalize hq:x.natAbs/y.natAbs=q at*
 generalize hr:x.natAbs %y.natAbs=r at*
 unfold dq dr odd
 rw [hq,hr]
 by_cases ho:x*y<0
 ·by_cases hr0:r=0
  ·rw [show(decide (x*y<0)&&decide (r≠0))=false by simp [hr0]]
   simp only [if_neg Bool.false_ne_true]
   rw [hr0]at h1'⊢
   rw [a3z ho]
   simp only [Int.natCast_zero,Int.mul_zero,Int.add_zero]at h1'⊢
   refine⟨?_,.inl trivial,by omega⟩
   rcases b3i.1 ho with⟨a,b⟩|⟨a,b⟩
   ·have e:(y.natAbs:Int)=y:=by omega
    rw [e]at h1'
    have:-1*(q:Int)*y=-(y*q):=by grind
    omega
   ·have e:(y.natAbs:Int)=-y:=by omega
    rw [e]at h1'
    have:-1*(q:Int)*y=-y*q:=by grind
    omega
  ·rw [show(decide (x*y<0)&&decide (r≠0))=true by simp [hr0,ho]]
   simp only [if_true]
   rcases b3i.1 ho with⟨a,b⟩|⟨a,b⟩
   ·have e:(y.natAbs:Int)=y:=by omega
    rw [e]at h1'
    rw [a3r b]
    have:-((q:Int)+1)*y=-(y*q)-y:=by grind
    exact⟨by omega,.inr (by rw [a3r (by omega)]),by omega⟩
   ·have e:(y.natAbs:Int)=-y:=by omega
    rw [e]at h1'
    rw [a3z b]
    have:-((q:Int)+1)*y=-y*q-y:=by grind
    exact⟨by omega,.inr (by rw [a3z (by omega)]),by omega⟩
 ·rw [show(decide (x*y<0)&&decide (r≠0))=false by simp [ho]]
  simp only [if_neg Bool.false_ne_true]
  rcases a1d x with⟨a,b⟩|⟨a,b⟩|⟨a,b⟩<;>rcases a1d y with⟨c,d⟩|⟨c,d⟩|⟨c,d⟩
  ·rw [b6k,b,d]
   have e:(y.natAbs:Int)=-y:=by omega
   rw [e]at h1'
   have:-1*-1*(q:Int)*y=-(-y*q):=by grind
   refine⟨by omega,?_,by omega⟩
   by_cases hr0:r=0
   ·left;omega
   ·right;rw [a3z (by omega)]
  ·exact absurd c hy
  ·exact absurd (b3i.2 (.inl ⟨a,c⟩)) ho
  ·rw [b6k,b];subst a
   have:r=0:=by rw [<-hr];simp
   refine⟨?_,.inl (by omega),by omega⟩
   simp
  ·exact absurd c hy
  ·rw [b6k,b];subst a
   refine⟨?_,.inl (by omega),by omega⟩
   simp
  ·exact absurd (b3i.2 (.inr ⟨a,c⟩)) ho
  ·exact absurd c hy
  ·rw [b6k,b,d]
   have e:(y.natAbs:Int)=y:=by omega
   rw [e]at h1'
   have:1*1*(q:Int)*y=y*q:=by grind
   refine⟨by omega,?_,by omega⟩
   by_cases hr0:r=0
   ·left;omega
   ·right;rw [a3r (by omega)]
theorem d1o{x y:Int}(ho:odd x y=true):(dq x y).natAbs=x.natAbs/y.natAbs+1/\sg (dq x y)=-1:=by
 unfold dq;rw [if_pos ho]
 generalize x.natAbs/y.natAbs=q
 exact⟨by omega,a3z (by omega)⟩
theorem d1c{x y:Int}(hy:y≠0)(ho:odd x y=true):(dr x y).natAbs=y.natAbs-x.natAbs %y.natAbs/\sg (dr x y)=sg y:=by
 unfold dr;rw [if_pos ho]
 have h:=Nat.mod_lt x.natAbs (show y.natAbs>0 by omega)
 generalize x.natAbs %y.natAbs=r at*
 rcases a1d y with⟨h1,h2⟩|⟨h1,h2⟩|⟨h1,h2⟩<;>rw [h2]
 ·exact⟨by omega,a3z (by omega)⟩
 ·exact absurd h1 hy
 ·exact⟨by omega,a3r (by omega)⟩
theorem c5w{x y:Int}(hy:y≠0)(ho:¬odd x y=true):(dq x y).natAbs=x.natAbs/y.natAbs/\(x.natAbs/y.natAbs≠0->sg (x*y)=sg (dq x y)):=by
 unfold dq;rw [if_neg ho]
 rcases a1d (x*y)with⟨h1,h2⟩|⟨h1,h2⟩|⟨h1,h2⟩<;>rw [h2]
 ·generalize x.natAbs/y.natAbs=q
  exact⟨by omega,fun _=>by rw [a3z (by omega)]⟩
 ·have h3:x=0:=by
   rcases Int.mul_eq_zero.1 h1 with h4|h4
   ·exact h4
   ·exact absurd h4 hy
  subst h3
  rw [show(0:Int).natAbs=0 from rfl,Nat.zero_div]
  exact⟨rfl,fun h=>absurd rfl h⟩
 ·generalize x.natAbs/y.natAbs=q
  exact⟨by omega,fun _=>by rw [a3r (by omega)]⟩
theorem c6u{x y:Int}(ho:¬odd x y=true):(dr x y).natAbs=x.natAbs %y.natAbs/\(x.natAbs %y.natAbs≠0->sg x=sg (dr x y)):=by
 unfold dr;rw [if_neg ho]
 rcases a1d x with⟨h1,h2⟩|⟨h1,h2⟩|⟨h1,h2⟩<;>rw [h2]
 ·generalize x.natAbs %y.natAbs=r
  exact⟨by omega,fun _=>by rw [a3z (by omega)]⟩
 ·subst h1
  rw [show(0:Int).natAbs=0 from rfl,Nat.zero_mod]
  exact⟨rfl,fun h=>absurd rfl h⟩
 ·generalize x.natAbs %y.natAbs=r
  exact⟨by omega,fun _=>by rw [a3r (by omega)]⟩
theorem dig_one:dig 1= [1]:=by rw [b4w (by decide),show 1/1048576=0 from rfl,dig_zero];rfl
theorem d9w{x y:Int}{k:Nat}(hx:Sm k x)(hy:Sm k y)(hk:k<8388608)(hy0:y≠0):Ev (fun n=>b2r n (toB x) (toB y)) (toB (dq x y),toB (dr x y),0):=by
 have lx:=a1k hx
 have ly:=a1k hy
 have hyn:y.natAbs≠0:=by omega
 have hmod:=Nat.mod_lt x.natAbs (show y.natAbs>0 by omega)
 have hdivle:x.natAbs/y.natAbs<=x.natAbs:=Nat.div_le_self _ _
 have lq:=a4k hdivle
 have lr:=a4k (Nat.le_of_lt hmod)
 have lq1:(dig (x.natAbs/y.natAbs+1)).length<=k+1:=by
  have h:Sm (k+1) ((x.natAbs/y.natAbs+1:Nat):Int):=by
   generalize x.natAbs/y.natAbs=q at*
   unfold Sm at*
   rw [Int.natAbs_natCast]
   simp only [pw];have:=pw_pos k;omega
  have:=a1k h
  rwa [Int.natAbs_natCast]at this
 have ls:=a4k (show y.natAbs-x.natAbs %y.natAbs<=y.natAbs by omega)
 unfold b2r
 refine Ev.bind (a5h hx (by omega)) ?_
 refine Ev.bind (a:=false) (Ev.else rfl (Ev.bind (a5h hy (by omega)) (Ev.pure _))) ?_
 refine Ev.else rfl ?_
 refine Ev.else (by show(sg y==0)=false;rcases a1d y with h|h|h<;>first|(rw [h.2];rfl)|omega) ?_
 refine Ev.bind (e0f (x:=x.natAbs) (y:=y.natAbs) hyn (by omega) (by omega)) ?_
 refine Ev.step (a:=odd x y) (by
  show(bif decide (imul .i64 (sg x) (sg y)<0)then some (decide (0<((dig (x.natAbs %y.natAbs)).length:Int)))else some false)=_
  rw [b5q]
  unfold odd
  have e1:decide (sg (x*y)<0)=decide (x*y<0):=by
   rcases a1d (x*y)with⟨h1,h2⟩|⟨h1,h2⟩|⟨h1,h2⟩<;>rw [h2]<;>simp<;>omega
  have e2:decide (0<((dig (x.natAbs %y.natAbs)).length:Int))=decide (x.natAbs %y.natAbs≠0):=by
   by_cases h:x.natAbs %y.natAbs=0
   ·rw [h,dig_zero];rfl
   ·have:=b6s h
    have h3:0<(dig (x.natAbs %y.natAbs)).length:=List.length_pos_iff.2 this
    simp [h];omega
  rw [e1,e2]
  cases decide (x*y<0)<;>rfl) ?_
 by_cases ho:odd x y=true
 ·refine Ev.then ho ?_
  refine Ev.bind (a:=dig (x.natAbs/y.natAbs+1)) (by
   have:=d4m (x.natAbs/y.natAbs) 1 (by omega) (by rw [dig_one];simp)
   rwa [dig_one]at this) ?_
  refine Ev.bind (a8d (-1) (by omega)) ?_
  refine Ev.bind (d0p y.natAbs (x.natAbs %y.natAbs) (by omega) (by omega)) ?_
  refine Ev.bind (a8d (sg y) (by omega)) ?_
  refine(Ev.pure _).eq ?_
  rw [a5y (dq x y) (d1o ho).1 (fun _=>(d1o ho).2.symm),a5y (dr x y) (d1c hy0 ho).1 (fun _=>(d1c hy0 ho).2.symm)]
 ·refine Ev.else (by simpa using ho) ?_
  refine Ev.bind (a8d (imul .i64 (sg x) (sg y)) (by omega)) ?_
  refine Ev.bind (a8d (sg x) (by omega)) ?_
  refine(Ev.pure _).eq ?_
  rw [b5q,a5y (dq x y) (c5w hy0 ho).1 (c5w hy0 ho).2,a5y (dr x y) (c6u ho).1 (c6u ho).2]
theorem e6e(v:Nat):∀(u:Nat),(dig u).length<16777216->(dig v).length<16777216->∃N,∀n,N<=n->∀(kont:List Int->Option (Big×Int))m,v<m->big_Gcd_L1 n kont m (dig u) (dig v)=kont (dig (Nat.gcd u v)):=by
 induction v using Nat.strongRecOn with
 |ind v ih=>
  intro u hu hv
  by_cases h:v=0
  ·subst h
   refine⟨0,fun n _ kont m hm=> ?_⟩
   obtain⟨m,rfl⟩:∃m',m=m'+1:=⟨m-1,by omega⟩
   rw [big_Gcd_L1_s,dig_zero,Nat.gcd_zero_right];rfl
  ·have hlt:=Nat.mod_lt u (show v>0 by omega)
   obtain⟨N1,h1⟩:=e0f (x:=u) (y:=v) h hu hv
   obtain⟨N2,h2⟩:=ih (u %v) hlt v hv (by have:=a4k (Nat.le_of_lt hlt);omega)
   refine⟨max N1 N2,fun n hn kont m hm=> ?_⟩
   obtain⟨m,rfl⟩:∃m',m=m'+1:=⟨m-1,by omega⟩
   have h3:0<(dig v).length:=List.length_pos_iff.2 (b6s h)
   rw [big_Gcd_L1_s,show decide (0<((dig v).length:Int))=true by simp;omega,cond_true,(show b4r n (dig u) (dig v)=_ from h1 n (by omega)),Option.bind_some]
   show big_Gcd_L1 n kont m (dig v) (dig (u %v))=_
   rw [h2 n (by omega) kont m (by omega),Nat.gcd_comm v,<-Nat.gcd_rec,Nat.gcd_comm]
theorem e0h{x y:Int}{k:Nat}(hx:Sm k x)(hy:Sm k y)(hk:k<8388608):Ev (fun n=>b5f n (toB x) (toB y)) (toB (Nat.gcd x.natAbs y.natAbs:Nat),0):=by
 have lx:=a1k hx
 have ly:=a1k hy
 have lg:(dig (Nat.gcd x.natAbs y.natAbs)).length<16777216:=by
  by_cases h:x.natAbs=0
  ·rw [h,Nat.gcd_zero_left];omega
  ·have:=a4k (Nat.gcd_le_left y.natAbs (show 0<x.natAbs by omega));omega
 unfold b5f
 refine Ev.bind (a5h hx (by omega)) ?_
 refine Ev.bind (a:=false) (Ev.else rfl (Ev.bind (a5h hy (by omega)) (Ev.pure _))) ?_
 refine Ev.else rfl ?_
 refine Ev.bind (b8b (a:=(toB x).Digits) (by simp only [toB];omega)) ?_
 obtain⟨N,hN⟩:=e6e y.natAbs x.natAbs (by omega) (by omega)
 refine Ev.from (max N (y.natAbs+1)) (fun n hn=>hN n (by omega) _ n (by omega)) ?_
 refine Ev.bind (b8b (by omega)) ?_
 refine Ev.bind (a8d 1 (by omega)) ?_
 rw [a5y ((Nat.gcd x.natAbs y.natAbs:Nat):Int) (Int.natAbs_natCast _) (fun hv=>by rw [a3r (by omega)])]
 exact Ev.step (b0o 0 _) (Ev.pure _)
theorem d2q{x y:Int}{k:Nat}(hx:Sm k x)(hy:Sm k y)(hk:k<536870912):Ev (fun n=>b1v n (toB x) (toB y)) (sg (x-y)):=by
 have lx:=a1k hx
 unfold b1v
 refine Ev.bind (a5h hx (by omega)) ?_
 refine Ev.bind (a:=false) (Ev.else rfl (Ev.bind (a5h hy (by omega)) (Ev.pure _))) ?_
 refine Ev.else rfl ?_
 by_cases h:sg x=sg y
 ·refine Ev.else (by show(sg x !=sg y)=false;rw [h];simp) ?_
  refine Ev.bind (c2x x.natAbs y.natAbs (by omega)) ?_
  refine(Ev.pure _).eq ?_
  show imul .i64 (sg x) _=_
  rw [b5q]
  rcases a1d x with⟨a,b⟩|⟨a,b⟩|⟨a,b⟩<;>rcases a1d y with⟨c,d⟩|⟨c,d⟩|⟨c,d⟩<;>rw [b,d]at h<;>(try omega)
  ·rw [b6k,b]
   rcases a1d (x-y)with⟨e,f⟩|⟨e,f⟩|⟨e,f⟩
   ·rw [f,a3r (by omega)];rfl
   ·rw [f,show(x.natAbs:Int)-y.natAbs=0 by omega];rfl
   ·rw [f,a3z (by omega)];rfl
  ·subst a c;rfl
  ·rw [b6k,b,Int.one_mul,show(x.natAbs:Int)-y.natAbs=x-y by omega]
 ·refine Ev.then (by show(sg x !=sg y)=true;simpa using h) ?_
  refine Ev.step (a:=sg (sg x-sg y)) (b6v 0 _ _) ?_
  refine(Ev.pure _).eq ?_
  rcases a1d x with⟨a,b⟩|⟨a,b⟩|⟨a,b⟩<;>rcases a1d y with⟨c,d⟩|⟨c,d⟩|⟨c,d⟩<;>rw [b,d]at h⊢<;>first
   |(exfalso;omega)
   |(rw [a3z (x:=x-y) (by omega)];decide)
   |(rw [a3r (x:=x-y) (by omega)];decide)
theorem d9h(x y:Int)(xs ys:List Int):decide (x::xs=y::ys)=(decide (x=y)&&decide (xs=ys)):=by
 by_cases h:x=y<;>by_cases h2:xs=ys<;>simp [h,h2]
end Go.Proofs.YthaegflpecbfgaaGreatDoor.D
namespace Go.Proofs.YthaegflpecbfgaaGreatDoor.D
open Go Rt M
theorem c0h{u:Nat}(h:u<18446744073709551616):(dig u).length<=4:=by
 have h1:Sm 4 (u:Int):=by unfold Sm;rw [Int.natAbs_natCast,show pw 4=1208925819614629174706176 by decide];omega
 have h2:=a1k h1
 rwa [Int.natAbs_natCast]at h2
theorem e2w{x:Int}{i:Nat}(hi:i<=60)(h0:0<=x)(h1:x*2^i<18446744073709551616):shl .u64 x (i:Int)=some (x*2^i):=by
 unfold shl
 have h3:0<=x*2^i:=Int.mul_nonneg h0 (Int.le_of_lt (Int.pow_pos (by decide)))
 rw [if_neg (by omega),show min (i:Int).toNat IntKind.u64.bits=i by simp [IntKind.bits];omega,c6g]
 congr 1
 omega
theorem e1h{x y:Int}{i:Nat}(h0:0<=x)(h1:x<2^i)(h2:0<=y)(h3:x+y*2^i<18446744073709551616):ior .u64 x (y*2^i)=x+y*2^i:=by
 obtain⟨p,rfl⟩:=Int.eq_ofNat_of_zero_le h0
 obtain⟨q,rfl⟩:=Int.eq_ofNat_of_zero_le h2
 have h1':p<2^i:=by have:((p:Nat):Int)<((2^i:Nat):Int):=by simpa using h1
                    exact Int.ofNat_lt.1 this
 have e:(q:Int)*2^i=((2^i*q:Nat):Int):=by rw [Int.natCast_mul,Int.mul_comm];simp
 rw [e]at h3⊢
 unfold ior
 rw [BitVec.toNat_or,BitVec.toNat_ofInt,BitVec.toNat_ofInt,show IntKind.u64.bits=64 from rfl]
 have e1:((p:Int) %((2^64:Nat):Int)).toNat=p:=by omega
 have e2:(((2^i*q:Nat):Int) %((2^64:Nat):Int)).toNat=2^i*q:=by omega
 rw [e1,e2,Nat.or_comm,<-Nat.two_pow_add_eq_or_of_lt h1',c6g]
 omega
theorem pw_two:∀i,pw i=2^(20*i)
 |0=>rfl
 |i+1=>by rw [pw,pw_two i,Nat.mul_add,Int.pow_add,Int.mul_comm];rfl
theorem e3o(n:Nat)(a:Big)(kont:Int->Option (Int×Bool))(hr:InR a.Digits)(h4:a.Digits.length<=4):∀(us:List Int)(i m:Nat)(u:Int),a.Digits.drop i=us->us.length<m->0<=u->u<pw i->u<10376293541461622784->
 big_Int_L1 n a kont m u (i:Int)=if u+pw i*val us<10376293541461622784 then kont (u+pw i*val us)else some (0,false)
 | [],i,m+1,u,hd,_,h0,h1,h2=>by
  have hi:a.Digits.length<=i:=by simpa using hd
  rw [big_Int_L1_s,show decide ((i:Int)<(a.Digits.length:Int))=false by simp;omega,cond_false]
  simp only [val,Int.mul_zero,Int.add_zero]
  rw [if_pos h2]
 |d::us,i,m+1,u,hd,hm,h0,h1,h2=>by
  obtain⟨hix,hdt,hi⟩:=drop_cons hd
  have hdr:=hr d (List.mem_of_mem_drop (by rw [hd];simp:d∈a.Digits.drop i))
  have hir:InR us:=fun e he=>hr e (by rw [<-List.take_append_drop (i+1) a.Digits,hdt];exact List.mem_append_right _ he)
  rw [big_Int_L1_s,show decide ((i:Int)<(a.Digits.length:Int))=true by simp;omega,cond_true,hix,Option.bind_some]
  have hp:=pw_pos i
  have hval:u+pw i*val (d::us)=(u+d*pw i)+pw (i+1)*val us:=by simp only [val,pw];grind
  have hvus:0<=pw (i+1)*val us:=Int.mul_nonneg (Int.le_of_lt (pw_pos _)) (val_nonneg hir)
  have hpi:pw i<=pw 3:=pw_mono (by omega)
  rw [show pw 3=1152921504606846976 by decide]at hpi
  by_cases h8:i=3/\8<d
  ·obtain⟨rfl,h8⟩:=h8
   rw [show((((3:Nat):Int))==3)=true from rfl,cond_true,Option.bind_some,show decide (8<d)=true by simpa using h8,cond_true,hval,if_neg]
   rw [show pw 3=1152921504606846976 by decide]
   omega
  ·have e1:(bif((i:Int)==3)then some (decide (8<d))else some false)=some false:=by
    by_cases h3:i=3
    ·subst h3
     rw [show((((3:Nat):Int))==3)=true from rfl,cond_true,show decide (8<d)=false by simp;omega]
    ·rw [show((i:Int)==3)=false by simp;omega,cond_false]
   rw [e1,Option.bind_some,cond_false]
   have hq:u+d*pw i<10376293541461622784:=by
    rcases Nat.lt_or_ge i 3 with h3|h3
    ·have h5:pw (i+1)<=pw 3:=pw_mono (by omega)
     rw [show pw 3=1152921504606846976 by decide]at h5
     have h6:(d+1)*pw i<=1048576*pw i:=Int.mul_le_mul_of_nonneg_right (by omega) (Int.le_of_lt hp)
     simp only [pw]at h5
     rw [Int.add_mul,Int.one_mul]at h6
     omega
    ·have:i=3:=by omega
     subst this
     rw [show pw 3=1152921504606846976 by decide]at h1⊢
     omega
   have hq1:u+d*pw i<pw (i+1):=by
    have h6:(d+1)*pw i<=1048576*pw i:=Int.mul_le_mul_of_nonneg_right (by omega) (Int.le_of_lt hp)
    simp only [pw]
    rw [Int.add_mul,Int.one_mul]at h6
    omega
   have hq0:0<=d*pw i:=Int.mul_nonneg hdr.1 (Int.le_of_lt hp)
   have e2:imul .i64 20 (i:Int)=((20*i:Nat):Int):=by rw [a7p (by omega) (by omega)];omega
   have e3:IntKind.u64.wrap d=d:=by rw [c6g];omega
   rw [e2,e3,e2w (by omega) hdr.1 (by rw [<-pw_two];omega),Option.bind_some,e1h h0 (by rw [<-pw_two];exact h1) hdr.1 (by rw [<-pw_two];omega),<-pw_two]
   have e4:iadd .i64 (i:Int) 1=((i+1:Nat):Int):=by rw [a2n (by omega) (by omega)];omega
   rw [e4,e3o n a kont hr h4 us (i+1) m (u+d*pw i) hdt (by simp only [List.length_cons]at hm;omega) (by omega) hq1 hq,hval]
theorem e5f{x:Int}{k:Nat}(h:Sm k x)(hk:k<1099511627776):Ev (fun n=>c2y n (toB x)) (if-9223372036854775808<=x/\x<=9223372036854775807 then(x,true)else(0,false)):=by
 unfold c2y
 refine Ev.bind (a5h h hk) ?_
 by_cases hl:(dig x.natAbs).length<=4
 ·refine Ev.bind (a:=false) (Ev.else rfl ((Ev.pure _).eq (by show decide (4<((dig x.natAbs).length:Int))=false;simp;omega))) ?_
  refine Ev.else rfl ?_
  refine Ev.from (g:=fun _=>some (if-9223372036854775808<=x/\x<=9223372036854775807 then(x,true)else(0,false))) 5 (fun n hn=> ?_) (Ev.pure _)
  have h1:=e3o n (toB x) (fun(u2:Int)=>
   (bif decide ((toB x).Sign<0)then
    some (decide (u2<=9223372036854775808))
   else
    some false).bind fun v3=>
   bif v3 then
    some (IntKind.i64.wrap (IntKind.u64.wrap (0-u2)),true)
   else
    (bif decide (0<=(toB x).Sign)then
     some (decide (u2<9223372036854775808))
    else
     some false).bind fun v4=>
    bif v4 then
     some (IntKind.i64.wrap u2,true)
    else
     some (0,false)) (a2e x.natAbs) hl (dig x.natAbs) 0 n 0 rfl (by omega) (by decide) (by decide) (by decide)
  refine h1.trans ?_
  rw [a1p,show pw 0=1 from rfl,Int.one_mul,Int.zero_add]
  by_cases hb:(x.natAbs:Int)<10376293541461622784
  ·rw [if_pos hb]
   have hsx:(toB x).Sign=sg x:=rfl
   rw [hsx]
   rcases a1d x with⟨a,b⟩|⟨a,b⟩|⟨a,b⟩<;>rw [b]
   ·rw [show decide ((-1:Int)<0)=true from rfl,cond_true,Option.bind_some]
    by_cases hc:(x.natAbs:Int)<=9223372036854775808
    ·rw [show decide ((x.natAbs:Int)<=9223372036854775808)=true by simpa using hc,cond_true,if_pos (by omega)]
     congr 2
     rw [e0j,c6g];split<;>omega
    ·rw [show decide ((x.natAbs:Int)<=9223372036854775808)=false by simpa using hc,cond_false,if_neg (by omega)];rfl
   ·subst a;rfl
   ·rw [show decide ((1:Int)<0)=false from rfl,cond_false,Option.bind_some,cond_false,show decide ((0:Int)<=1)=true from rfl,cond_true,Option.bind_some]
    by_cases hc:(x.natAbs:Int)<9223372036854775808
    ·rw [show decide ((x.natAbs:Int)<9223372036854775808)=true by simpa using hc,cond_true,if_pos (by omega)]
     congr 2
     rw [a5k (by omega) (by omega)];omega
    ·rw [show decide ((x.natAbs:Int)<9223372036854775808)=false by simpa using hc,cond_false,if_neg (by omega)]
  ·rw [if_neg hb,if_neg (by omega)]
 ·refine Ev.bind (a:=true) (Ev.else rfl ((Ev.pure _).eq (by show decide (4<((dig x.natAbs).length:Int))=true;simp;omega))) ?_
  refine Ev.then rfl ((Ev.pure _).eq ?_)
  rw [if_neg]
  intro hx
  exact hl (c0h (by omega))
end Go.Proofs.YthaegflpecbfgaaGreatDoor.D
namespace Go.Proofs.YthaegflpecbfgaaGreatDoor.D
open Go Rt M
section
variable{β:Type}{r:β}{c d:Bool}{y:Nat->Option Bool}{f:Nat->Bool->Option β}
theorem guard{V:Bool}{rest:Nat->Option Bool}(h:V=false->Ev rest true):Ev (fun n=>bif V then some true else rest n) true:=by
 cases V with
 |true=>exact Ev.then rfl (Ev.pure _)
 |false=>exact Ev.else rfl (h rfl)
end
theorem b7b(x:Int):(sg x==0)=decide (x=0):=by rcases a1d x with h|h|h<;>rw [h.2]<;>simp<;>omega
end Go.Proofs.YthaegflpecbfgaaGreatDoor.D
namespace Go.Proofs.YthaegflpecbfgaaGreatDoor.D
open Go Rt M
theorem d6t(n:Nat)(a b:Big)(kont:Option Bool)(hl:a.Digits.length=b.Digits.length)(hla:a.Digits.length<1099511627776):∀(us:List Int)(i m:Nat),a.Digits.drop i=us->us.length<m->ref05_SameBig_L1 n a b kont m (i:Int)=bif decide (us=b.Digits.drop i)then kont else some false
 | [],i,m+1,hd,_=>by
  rw [ref05_SameBig_L1_s]
  have:=drop_nil hd
  have hb:b.Digits.drop i= []:=List.drop_eq_nil_of_le (by omega)
  rw [show decide ((i:Int)<(a.Digits.length:Int))=false by simp;omega,hb];rfl
 |x::xs,i,m+1,hd,hm=>by
  rw [ref05_SameBig_L1_s]
  obtain⟨f1,f2,f3⟩:=drop_cons hd
  have hdb:b.Digits.drop i=b.Digits[i]::b.Digits.drop (i+1):=List.drop_eq_getElem_cons (by omega)
  rw [show decide ((i:Int)<(a.Digits.length:Int))=true by simp;omega,cond_true,f1,Option.bind_some,(drop_cons hdb).1,Option.bind_some,hdb]
  by_cases h:x=b.Digits[i]
  ·rw [show(x !=b.Digits[i])=false by simp [h],cond_false,inc64 (by omega),d6t n a b kont hl hla xs (i+1) m f2 (by simpa using hm),d9h,show decide (x=b.Digits[i])=true by simpa using h,Bool.true_and]
  ·rw [show(x !=b.Digits[i])=true by simpa using h,cond_true,d9h,show decide (x=b.Digits[i])=false by simpa using h];rfl
 |_,_,0,_,h=>by omega
theorem d2h{a b:Big}(hl:a.Digits.length<1099511627776):Ev (fun n=>a7l n a b) (decide (a=b)):=by
 unfold a7l
 obtain⟨s,l⟩:=a
 obtain⟨t,k⟩:=b
 by_cases h:s=t
 ·subst h
  by_cases hlen:l.length=k.length
  ·refine Ev.step (a:=false) (by simp [hlen]) ?_
   refine Ev.else rfl ⟨l.length+1,fun n hn=> ?_⟩
   have h1:=d6t n ⟨s,l⟩ ⟨s,k⟩ (some true) hlen hl l 0 n rfl (by omega)
   rw [show((0:Nat):Int)=0 from rfl,List.drop_zero]at h1
   dsimp only at h1⊢
   rw [h1]
   by_cases h2:l=k
   ·simp [h2]
   ·simp [h2]
  ·refine Ev.step (a:=true) (by simp;omega) ?_
   have:l≠k:=fun e=>hlen (by rw [e])
   exact Ev.then rfl ((Ev.pure _).eq (by simp [this]))
 ·refine Ev.step (a:=true) (by rw [show(s !=t)=true by simpa using h,cond_true]) ?_
  exact Ev.then rfl ((Ev.pure _).eq (by simp [h]))
end Go.Proofs.YthaegflpecbfgaaGreatDoor.D
namespace Go.Proofs.YthaegflpecbfgaaGreatDoor.D
open Go Rt M
def toF(r:Rat):Frac:=⟨toB r.num,toB (r.den:Int)⟩
def SmF(k:Nat)(r:Rat):Prop:=Sm k r.num/\Sm k (r.den:Int)
def zeroF:Frac:=⟨⟨0,[]⟩,⟨0,[]⟩⟩
theorem c6f(r:Rat):0<(r.den:Int):=by have:=r.den_nz;omega
theorem SmF.mono{j k:Nat}{r:Rat}(h:SmF j r)(hk:j<=k):SmF k r:=⟨h.1.mono hk,h.2.mono hk⟩
theorem b6d{p q:Int}(hq:0<q):(Rat.divInt p q).num=p/((Nat.gcd p.natAbs q.natAbs:Nat):Int)/\((Rat.divInt p q).den:Int)=q/((Nat.gcd p.natAbs q.natAbs:Nat):Int):=by
 obtain⟨d,rfl⟩:=Int.eq_ofNat_of_zero_le (Int.le_of_lt hq)
 have hd:d≠0:=by omega
 rw [Rat.divInt_ofNat,Rat.mkRat_def,dif_neg hd,Rat.normalize_eq,Int.natAbs_natCast]
 exact⟨rfl,Int.natCast_ediv _ _⟩
theorem c9k(a b:Rat):a+b=Rat.divInt (a.num*b.den+b.num*a.den) (a.den*b.den):=by
 conv=>lhs;rw [<-Rat.num_divInt_den a,<-Rat.num_divInt_den b]
 rw [Rat.divInt_add_divInt _ _ (by have:=c6f a;omega) (by have:=c6f b;omega)]
theorem c9q(a b:Rat):a*b=Rat.divInt (a.num*b.num) (a.den*b.den):=by
 conv=>lhs;rw [<-Rat.num_divInt_den a,<-Rat.num_divInt_den b]
 rw [Rat.divInt_mul_divInt]
theorem d2o{x y:Int}(hy:0<y):dq x y=x/y:=by
 obtain⟨h1,h2,h3⟩:=e6j (x:=x) (y:=y) (by omega)
 have h4:0<=dr x y/\dr x y<y:=by
  rcases h2 with h|h
  ·omega
  ·rw [a3r hy]at h
   have:=a1d (dr x y)
   omega
 generalize dq x y=q at*
 generalize dr x y=r at*
 rw [<-h1,Int.add_comm,Int.add_mul_ediv_right _ _ (by omega),Int.ediv_eq_zero_of_lt h4.1 h4.2];omega
theorem c5h{x y:Int}{k:Nat}(h:Sm k x):Sm k (x/y):=h.le (Int.natAbs_ediv_le_natAbs x y)
theorem b7k(p q:Int):Rat.divInt p q=Rat.divInt (-p) (-q):=(Rat.neg_divInt_neg p q).symm
theorem b1c{p q:Int}{k:Nat}(hp:Sm k p)(hq:Sm k q)(h0:q≠0):SmF k (Rat.divInt p q):=by
 by_cases hn:q<0
 ·rw [b7k]
  obtain⟨e1,e2⟩:=b6d (p:=-p) (q:=-q) (by omega)
  exact⟨by rw [e1];exact c5h hp.neg,by rw [e2];exact c5h hq.neg⟩
 ·obtain⟨e1,e2⟩:=b6d (p:=p) (q:=q) (by omega)
  exact⟨by rw [e1];exact c5h hp,by rw [e2];exact c5h hq⟩
theorem c4t{x y:Int}(hx:x≠0)(hy:y≠0):x*y≠0:=Int.mul_ne_zero hx hy
theorem b4n(r:Rat):(r.den:Int)≠0:=by have:=c6f r;omega
theorem SmF.add{j k:Nat}{a b:Rat}(ha:SmF j a)(hb:SmF k b):SmF (j+k+1) (a+b):=by
 rw [c9k]
 exact b1c ((ha.1.mul hb.2).add ((hb.1.mul ha.2).mono (by omega))) ((ha.2.mul hb.2).mono (by omega)) (c4t (b4n a) (b4n b))
theorem SmF.mul{j k:Nat}{a b:Rat}(ha:SmF j a)(hb:SmF k b):SmF (j+k) (a*b):=by
 rw [c9q]
 exact b1c (ha.1.mul hb.1) (ha.2.mul hb.2) (c4t (b4n a) (b4n b))
theorem SmF.neg{k:Nat}{a:Rat}(ha:SmF k a):SmF k (-a):=⟨by rw [Rat.neg_num];exact ha.1.neg,by rw [Rat.neg_den];exact ha.2⟩
theorem SmF.sub{j k:Nat}{a b:Rat}(ha:SmF j a)(hb:SmF k b):SmF (j+k+1) (a-b):=by rw [Rat.sub_eq_add_neg];exact ha.add hb.neg
def ofB(a:Big):Int:=a.Sign*val a.Digits
theorem b2t(x:Int):ofB (toB x)=x:=by unfold ofB toB;rw [a1p,c1p]
def a5r(f:Frac):Bool:=a9h f.P&&a9h f.Q&&(f.Q.Sign==1)&&(Nat.gcd (ofB f.P).natAbs (ofB f.Q).natAbs==1)
theorem b9s(r:Rat):a5r (toF r)=true:=by
 unfold a5r toF
 simp only
 rw [b6a,b6a,b2t,b2t]
 have h1:(toB (r.den:Int)).Sign=1:=a3r (c6f r)
 rw [h1,Int.natAbs_natCast]
 have h2:Nat.gcd r.num.natAbs r.den=1:=r.reduced
 rw [h2];rfl
theorem b8u{f:Frac}(h:a5r f=true):∃r,f=toF r:=by
 obtain⟨P,Q⟩:=f
 unfold a5r at h
 simp only [Bool.and_eq_true,beq_iff_eq]at h
 obtain⟨⟨⟨h1,h2⟩,h3⟩,h4⟩:=h
 obtain⟨p,rfl⟩:=a8s h1
 obtain⟨q,rfl⟩:=a8s h2
 rw [b2t,b2t]at h4
 have h5:0<q:=by have h6:sg q=1:=h3;have:=a1d q;omega
 obtain⟨d,rfl⟩:=Int.eq_ofNat_of_zero_le (Int.le_of_lt h5)
 refine⟨⟨p,d,by omega,?_⟩,rfl⟩
 rwa [Int.natAbs_natCast]at h4
theorem e4g{x:Int}{k:Nat}(h:Sm k x)(hk:k<1099511627776):Ev (fun n=>b8t n (toB x)) (decide (x=1)):=by
 unfold b8t
 refine Ev.bind (e5f h hk) ?_
 by_cases hr:-9223372036854775808<=x/\x<=9223372036854775807
 ·rw [if_pos hr]
  exact Ev.bind (a:=decide (x=1)) (Ev.then rfl ((Ev.pure _).eq (by by_cases hx:x=1<;>simp [hx]))) (Ev.pure _)
 ·rw [if_neg hr]
  refine Ev.bind (a:=decide (x=1)) (Ev.else rfl ((Ev.pure _).eq ?_)) (Ev.pure _)
  rw [decide_eq_false (by omega)]
theorem c6r{p q:Int}{k:Nat}(hp:Sm k p)(hq:Sm k q):Sm k ((Nat.gcd p.natAbs q.natAbs:Nat):Int):=by
 by_cases h0:p.natAbs=0
 ·rw [h0,Nat.gcd_zero_left];exact hq.le (by omega)
 ·exact hp.le (by have:=Nat.gcd_le_left q.natAbs (Nat.pos_of_ne_zero h0);omega)
theorem c3m{f:Frac}{k:Nat}(hp:f.P.Digits.length<=k)(hq:f.Q.Digits.length<=k)(hk:k<8388608):Ev (fun n=>a2h n f) (a5r f):=by
 unfold a2h
 refine Ev.bind (c5d (a:=f.P) (by omega)) ?_
 cases hP:a9h f.P with
 |false=>exact Ev.bind (a:=true) (Ev.then rfl (Ev.pure _)) (Ev.bind (a:=true) (Ev.then rfl (Ev.pure _)) (Ev.then rfl ((Ev.pure _).eq (by unfold a5r;rw [hP];rfl))))
 |true=>
  refine Ev.bind (a:= !a9h f.Q) (Ev.else rfl (Ev.bind (c5d (a:=f.Q) (by omega)) (Ev.pure _))) ?_
  cases hQ:a9h f.Q with
  |false=>exact Ev.bind (a:=true) (Ev.then rfl (Ev.pure _)) (Ev.then rfl ((Ev.pure _).eq (by unfold a5r;rw [hP,hQ];rfl)))
  |true=>
   refine Ev.bind (a:=f.Q.Sign !=1) (Ev.else rfl (Ev.pure _)) ?_
   by_cases hs:f.Q.Sign=1
   ·refine Ev.else (by simp [hs]) ?_
    obtain⟨P,Q⟩:=f
    obtain⟨p,rfl⟩:=a8s hP
    obtain⟨q,rfl⟩:=a8s hQ
    have hp':Sm k p:=a4a hp
    have hq':Sm k q:=a4a hq
    refine Ev.bind (e0h hp' hq' hk) ?_
    refine Ev.bind (a:=decide (Nat.gcd p.natAbs q.natAbs=1)) (Ev.then rfl (Ev.bind ((e4g (c6r hp' hq') (by omega)).eq (s:=decide (Nat.gcd p.natAbs q.natAbs=1)) ?_) (Ev.pure _))) ((Ev.pure _).eq ?_)
    ·by_cases hg:Nat.gcd p.natAbs q.natAbs=1
     ·rw [decide_eq_true hg,decide_eq_true (by omega)]
     ·rw [decide_eq_false hg,decide_eq_false (by omega)]
    ·unfold a5r
     rw [hP,hQ,b2t,b2t,hs]
     by_cases hg:Nat.gcd p.natAbs q.natAbs=1<;>simp [hg]
   ·refine Ev.then (by simpa using hs) ((Ev.pure _).eq ?_)
    unfold a5r
    rw [hP,hQ]
    simp [hs]
theorem b9m{r:Rat}{k:Nat}(h:SmF k r):(toF r).P.Digits.length<=k/\(toF r).Q.Digits.length<=k:=⟨a1k h.1,a1k h.2⟩
theorem a8u{r:Rat}{k:Nat}(h:SmF k r)(hk:k<8388608):Ev (fun n=>a2h n (toF r)) true:=(c3m (b9m h).1 (b9m h).2 hk).eq (b9s r)
section
variable{p q:Int}{k:Nat}(hp:Sm k p)(hq:Sm k q)(hk:k<8388608)
include hp hq hk
theorem d2l(h0:0<q):Ev (fun n=>
 (b5f n (toB p) (toB q)).bind fun v8=>
 (b2r n (toB p) (⟨v8.1.Sign,v8.1.Digits⟩:Big)).bind fun v9=>
 (b2r n (toB q) (⟨v8.1.Sign,v8.1.Digits⟩:Big)).bind fun v10=>
 some ((⟨(⟨v9.1.Sign,v9.1.Digits⟩:Big),(⟨v10.1.Sign,v10.1.Digits⟩:Big)⟩:Frac),(0:Int))) (toF (Rat.divInt p q),0):=by
 have hg:0<Nat.gcd p.natAbs q.natAbs:=Nat.gcd_pos_of_pos_right _ (by omega)
 have hgs:=c6r hp hq
 obtain⟨e1,e2⟩:=b6d (p:=p) h0
 refine Ev.bind (e0h hp hq hk) ?_
 refine Ev.bind (d9w hp hgs hk (by omega)) ?_
 refine Ev.bind (d9w hq hgs hk (by omega)) ((Ev.pure _).eq ?_)
 unfold toF
 rw [e1,e2,<-d2o (by omega),<-d2o (by omega)]
theorem d5d(h0:q≠0):Ev (fun n=>b2d n (toB p) (toB q)) (toF (Rat.divInt p q),0):=by
 unfold b2d
 refine Ev.bind (a5h hp (by omega)) ?_
 refine Ev.bind (a:=false) (Ev.else rfl (Ev.bind (a5h hq (by omega)) (Ev.pure _))) ?_
 refine Ev.else rfl ?_
 refine Ev.else (by show(sg q==0)=false;rw [b7b];simpa using h0) ?_
 by_cases hn:q<0
 ·refine Ev.then (by show decide (sg q<0)=true;rw [a3z hn];rfl) ?_
  refine Ev.bind (d2e hp (by omega)) (Ev.bind (d2e hq (by omega)) ?_)
  rw [b7k]
  exact d2l hp.neg hq.neg hk (by omega)
 ·refine Ev.else (by show decide (sg q<0)=false;rw [a3r (by omega)];rfl) ?_
  exact d2l hp hq hk (by omega)
omit hk in
theorem c0u(hk:k<268435456):Ev (fun n=>a3o n (toB p) (toB q)) (toB (p*q)):=by
 unfold a3o
 exact Ev.bind (e4f hp hq hk) (Ev.pure _)
end
theorem c6h{x:Int}{k:Nat}(h:Sm k x)(hk:k<1073741824):Ev (fun n=>b1y n (toB x)) (toB x):=by
 unfold b1y
 exact Ev.bind (d2e h hk) (Ev.bind (d2e h.neg hk) ((Ev.pure _).eq (by rw [Int.neg_neg])))
section
variable{a b:Rat}{j k:Nat}(ha:SmF j a)(hb:SmF k b)(hk:j+k<4000000)
include ha hb hk
theorem times_PQ:Ev (fun n=>a3o n (⟨(toF a).P.Sign,(toF a).P.Digits⟩:Big) (⟨(toF b).Q.Sign,(toF b).Q.Digits⟩:Big)) (toB (a.num*b.den)):=
 c0u (ha.1.mono (by omega:j<=j+k)) (hb.2.mono (by omega:k<=j+k)) (by omega)
theorem times_PP:Ev (fun n=>a3o n (⟨(toF a).P.Sign,(toF a).P.Digits⟩:Big) (⟨(toF b).P.Sign,(toF b).P.Digits⟩:Big)) (toB (a.num*b.num)):=
 c0u (ha.1.mono (by omega:j<=j+k)) (hb.1.mono (by omega:k<=j+k)) (by omega)
theorem times_QQ:Ev (fun n=>a3o n (⟨(toF a).Q.Sign,(toF a).Q.Digits⟩:Big) (⟨(toF b).Q.Sign,(toF b).Q.Digits⟩:Big)) (toB ((a.den:Int)*b.den)):=
 c0u (ha.2.mono (by omega:j<=j+k)) (hb.2.mono (by omega:k<=j+k)) (by omega)
end
section
variable{a b:Rat}{j k:Nat}(ha:SmF j a)(hb:SmF k b)(hk:j+k<4000000)
include ha hb hk
theorem FAdd_ev:Ev (fun n=>b0h n (toF a) (toF b)) (toF (a+b),0):=by
 have m1:Sm (j+k+1) (a.num*b.den):=(ha.1.mul hb.2).mono (by omega)
 have m2:Sm (j+k+1) (b.num*a.den):=(hb.1.mul ha.2).mono (by omega)
 have m3:Sm (j+k+1) ((a.den:Int)*b.den):=(ha.2.mul hb.2).mono (by omega)
 have m4:Sm (j+k+1) (a.num*b.den+b.num*a.den):=(ha.1.mul hb.2).add ((hb.1.mul ha.2).mono (by omega))
 unfold b0h
 refine Ev.bind (a8u ha (by omega)) ?_
 refine Ev.bind (a:=false) (Ev.else rfl (Ev.bind (a8u hb (by omega)) (Ev.pure _))) ?_
 refine Ev.else rfl ?_
 refine Ev.bind (a:=(sg (a.num*b.den+b.num*a.den),dig (a.num*b.den+b.num*a.den).natAbs)) ?_ ?_
 ·refine Ev.bind (times_PQ ha hb hk) ?_
  refine Ev.bind (times_PQ hb ha (by omega)) ?_
  exact Ev.bind (e5k m1 m2 (by omega)) (Ev.pure _)
 ·refine Ev.bind (times_QQ ha hb hk) ?_
  refine Ev.bind (d5d m4 m3 (by omega) (c4t (b4n a) (b4n b))) ((Ev.pure _).eq ?_)
  rw [c9k]
theorem FMul_ev:Ev (fun n=>b2i n (toF a) (toF b)) (toF (a*b),0):=by
 unfold b2i
 refine Ev.bind (a8u ha (by omega)) ?_
 refine Ev.bind (a:=false) (Ev.else rfl (Ev.bind (a8u hb (by omega)) (Ev.pure _))) ?_
 refine Ev.else rfl ?_
 refine Ev.bind (times_PP ha hb hk) ?_
 refine Ev.bind (times_QQ ha hb hk) ?_
 refine Ev.bind (d5d (ha.1.mul hb.1) (ha.2.mul hb.2) (by omega) (c4t (b4n a) (b4n b))) ((Ev.pure _).eq ?_)
 rw [c9q]
end
def cmpQ(a b:Rat):Int:=sg (a.num*b.den-b.num*a.den)
theorem e1u{a b:Rat}(h:a<b):cmpQ a b=-1:=by
 have:=Rat.lt_iff a b
 exact a3z (by have:=this.1 h;omega)
theorem e1x{a b:Rat}(h:b<a):cmpQ a b=1:=by
 have:=Rat.lt_iff b a
 exact a3r (by have:=this.1 h;omega)
theorem d6d(a:Rat):cmpQ a a=0:=by unfold cmpQ;rw [Int.sub_self];rfl
theorem b2z(a b:Rat):(a<b/\cmpQ a b=-1)∨(a=b/\cmpQ a b=0)∨(b<a/\cmpQ a b=1):=by
 by_cases h:a<b
 ·exact .inl ⟨h,e1u h⟩
 ·by_cases h2:b<a
  ·exact .inr (.inr ⟨h2,e1x h2⟩)
  ·have e:a=b:=Rat.le_antisymm (Rat.not_lt.1 h2) (Rat.not_lt.1 h)
   exact .inr (.inl ⟨e,by rw [e];exact d6d b⟩)
section
variable{a b:Rat}{j k:Nat}(ha:SmF j a)(hb:SmF k b)(hk:j+k<4000000)
include ha hb hk
theorem FCompare_ev:Ev (fun n=>a4e n (toF a) (toF b)) (cmpQ a b):=by
 unfold a4e
 refine Ev.bind (a8u ha (by omega)) ?_
 refine Ev.bind (a:=false) (Ev.else rfl (Ev.bind (a8u hb (by omega)) (Ev.pure _))) ?_
 refine Ev.else rfl ?_
 refine Ev.bind (times_PQ ha hb hk) ?_
 refine Ev.bind (times_PQ hb ha (by omega)) ?_
 exact Ev.bind (d2q (ha.1.mul hb.2) ((hb.1.mul ha.2).mono (by omega)) (by omega)) (Ev.pure _)
theorem d2p(s:Int)(hs:s=1∨s=-1):Ev (fun n=>b0d n (toF a) (toF b) s) (toF (if cmpQ a b*s<0 then b else a),0):=by
 unfold b0d
 refine Ev.bind (a8u ha (by omega)) ?_
 refine Ev.bind (a:=false) (Ev.else rfl (Ev.bind (a8u hb (by omega)) (Ev.pure _))) ?_
 refine Ev.else rfl ?_
 refine Ev.bind (FCompare_ev ha hb hk) ?_
 have hr:=c1a (a.num*b.den-b.num*a.den)
 have e:imul .i64 (cmpQ a b) s=cmpQ a b*s:=by
  have h1:-1<=cmpQ a b:=hr.1
  have h2:cmpQ a b<=1:=hr.2
  exact a7p (by rcases hs with rfl|rfl<;>omega) (by rcases hs with rfl|rfl<;>omega)
 rw [e]
 by_cases h:cmpQ a b*s<0
 ·rw [if_pos h]
  refine Ev.bind (Ev.then (decide_eq_true h) (Ev.pure _)) ?_
  exact Ev.bind (c6h hb.1 (by omega)) (Ev.bind (c6h hb.2 (by omega)) (Ev.pure _))
 ·rw [if_neg h]
  refine Ev.bind (Ev.else (decide_eq_false h) (Ev.pure _)) ?_
  exact Ev.bind (c6h ha.1 (by omega)) (Ev.bind (c6h ha.2 (by omega)) (Ev.pure _))
theorem FMax_ev:Ev (fun n=>b3w n (toF a) (toF b)) (toF (if a<b then b else a),0):=by
 unfold b3w
 refine Ev.bind (d2p ha hb hk 1 (.inl rfl)) ((Ev.pure _).eq ?_)
 rcases b2z a b with⟨h,e⟩|⟨h,e⟩|⟨h,e⟩
 ·rw [e,if_pos (by decide),if_pos h]
 ·rw [e,if_neg (by decide),if_neg (by grind)]
 ·rw [e,if_neg (by decide),if_neg (by grind)]
end
section
variable{a:Rat}{k:Nat}(ha:SmF k a)(hk:k<4000000)
include ha hk
end
theorem c8d{f g:Frac}(hp:f.P.Digits.length<1099511627776)(hq:f.Q.Digits.length<1099511627776):Ev (fun n=>a4s n f g) (decide (f=g)):=by
 unfold a4s
 refine Ev.bind (d2h (a:=f.P) (b:=g.P) hp) ?_
 obtain⟨P,Q⟩:=f
 obtain⟨P',Q'⟩:=g
 refine Ev.bind (a:=decide ((⟨P,Q⟩:Frac)=⟨P',Q'⟩)) ?_ (Ev.pure _)
 by_cases h:P=P'
 ·subst h
  refine Ev.then (by simp) (Ev.bind (d2h (a:=Q) (b:=Q') hq) ((Ev.pure _).eq (by simp)))
 ·exact Ev.else (by simpa using h) ((Ev.pure _).eq (by simp [h]))
end Go.Proofs.YthaegflpecbfgaaGreatDoor.D
namespace Go.Proofs.YthaegflpecbfgaaGreatDoor.D
open Go Rt M
theorem d7u(f:Frac)(k:Int):Ev (fun n=>a9l n f k) (decide ((f.P.Digits.length:Int)<=k)&&decide ((f.Q.Digits.length:Int)<=k)):=by
 refine Ev.all fun n=> ?_
 unfold a9l
 cases decide ((f.P.Digits.length:Int)<=k)<;>rfl
theorem c8f{f:Frac}{k:Nat}(h:(decide ((f.P.Digits.length:Int)<=k)&&decide ((f.Q.Digits.length:Int)<=k))=true):f.P.Digits.length<=k/\f.Q.Digits.length<=k:=by
 simpa using h
theorem d9l{f:Frac}{k:Nat}(h:f.P.Digits.length<=k/\f.Q.Digits.length<=k)(hr:a5r f=true):∃r,f=toF r/\SmF k r:=by
 obtain⟨r,rfl⟩:=b8u hr
 exact⟨r,rfl,a4a h.1,a4a h.2⟩
end Go.Proofs.YthaegflpecbfgaaGreatDoor.D
