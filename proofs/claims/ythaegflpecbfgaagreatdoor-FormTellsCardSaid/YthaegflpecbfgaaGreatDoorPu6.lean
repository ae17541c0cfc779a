/- Several texts in one, for FormTells.card: what the theorem leans on. -/
import Derived.Test.YthaegflpecbfgaaGreatDoorRows
import Derived.KernelRfl
import Derived.Test.YthaegflpecbfgaaGreatDoorPu5
set_option maxHeartbeats 1000000
set_option maxRecDepth 1000000
set_option linter.unusedVariables false
set_option linter.unusedSimpArgs false
namespace Go.Proofs.YthaegflpecbfgaaGreatDoor
namespace M
open Go Go.RowKit Rt
set_option maxRecDepth 1000000
set_option maxHeartbeats 40000000
theorem d3a(n:Nat)(l1:(List Int)):FnO Wt 25 [.sl 2 l1] (b4i n l1) 44 4 3 (fun r=>r):=by
 refine b7j (n:=21) Tryz.func25 Y Y Y (fun _ _=>by kernel_rfl) fun F0 w0 r=> ?_;unfold b4i;refine a1h ((fun k0 m(s:Int×List Frac)=>b5k n l1 k0 m s.1 s.2) _) (fun(s:Int×List Frac)=> [.r 3 3 s.2,.v 4 (.int .i64 s.1)]) (fun _=>Y) (_,_) Y Y (fun _=>Y) Y fun K1 m1 hK1 z1=> ?_;obtain⟨i1,l2⟩:=z1;dsimp only;refine gc Y ?_ ?_
 ·refine gV Y fun ex1=> ?_;refine gK (a6r _ _) Y Y Y fun v1=> ?_;refine gP Y fun l4=> ?_;exact ge hK1 (_,_)
 exact gRO Y
theorem d8p(n:Nat)(s1:Bs):FnC Wt 33 [.str s1] (b4p n s1) (fun r=> .tup [.agg [.sl 4 r.1.Pieces],.int .i64 r.2]):=by
 refine fk (n:=31) Tryz.func33 fun F0 w0 r=> ?_;unfold b4p;refine gV Y fun t1=> ?_;refine gV Y fun t2=> ?_;refine gK (c7u _ _) Y Y Y fun v1=> ?_;refine gc Y ?_ ?_
 ·exact gr
 refine gK (c5i _ _ _ _) Y Y Y fun v2=> ?_;exact gr
theorem d7v(n:Nat)(f1:Form)(want1:(List (List Int))):FnC Wt 34 [.agg [.sl 4 f1.Pieces],.sl 6 want1] (c1o n f1 want1) (fun r=> .ob r):=by
 refine fk (n:=69) Tryz.func34 fun F0 w0 r=> ?_;unfold c1o;refine gc Y ?_ ?_
 ·exact gr
 refine a1h ((fun k0 m(s:Int×(List (List Afn)))=>b9t n want1 k0 m s.1 s.2) _) (fun(s:Int×(List (List Afn)))=> [.b 2 [.sl 4 s.2],.v 5 (.int .i64 s.1)]) (fun _=>Y) (_,_) Y Y (fun _=>Y) Y fun K1 m1 hK1 z1=> ?_;obtain⟨i1,f2⟩:=z1;dsimp only;refine gc Y ?_ ?_
 ·refine gV Y fun ex1=> ?_;refine gc Y ?_ ?_
  ·exact gr
  refine gV Y fun ex2=> ?_;refine gV Y fun ex3=> ?_;refine gP Y fun l1=> ?_;refine gV Y fun ex4=> ?_;refine gc Y ?_ ?_
  ·exact gr
  refine a1h ((fun k0 m(s:Int)=>b9c n want1 i1 l1 k0 m s) _) (fun(s:Int)=> [.v 8 (.int .i64 s)]) (fun _=>Y) _ Y Y (fun _=>Y) Y fun K2 m2 hK2 k1=> ?_;refine gc Y ?_ ?_
  ·refine gHs [(15,(pL [0,2,4,6,8,10,12,14,16,18,20,23,25,27] .nil))] Y (by kernel_rfl) Y Y fun Ky=> ?_;refine gV Y fun ex5=> ?_;refine gV Y fun ex6=> ?_;refine gV Y fun ex7=> ?_;refine gK (a6r _ _) Y Y Y fun v1=> ?_;refine gK (b1c _ _ _) Y Y Y fun v2=> ?_;refine gHe Y ?_;refine gc Y ?_ ?_
   ·exact gr
   exact ge hK2 _
  exact ge hK1 (_,_)
 exact gr
theorem b2w(n:Nat)(s1:Bs)(r:(Form×Int))(hm:b4p n s1=some r){w:World}{F:Frz}(hs:Sat F w)(hg0:FX F 0 [.int .u8 40,.int .u8 41,.int .u8 44,.int .u8 59,.int .u8 58,.int .u8 61,.int .u8 60,.int .u8 43,.int .u8 45,.int .u8 42,.int .u8 47,.int .u8 123,.int .u8 125]):
 Calls Tryz.prog 33 #[vs s1] w fun e w'=>∃v F' O',e= .returned v/\HS F w [] F' O' w'/\(∃(a0_0:Option Addr)(n0_0:Nat)(c0_0:Nat),v= .tuple #[.agg #[.slice a0_0 n0_0 c0_0],.int .i64 r.2]/\O'= []/\SlR (Rp.sl rp_Affine) F' a0_0 n0_0 c0_0 r.1.Pieces):=
 (d8p n s1).2 r hm w F hs hg0 _ ⟨_,_,rfl,rfl,rfl⟩|>.mono fun e w'⟨v,F',e1,e2,e3⟩=>by
  obtain⟨_,rfl,⟨_,_,rfl,⟨_,rfl,⟨_,_,rfl,⟨_,_,_,rfl,g0⟩,rfl⟩⟩,⟨_,_,rfl,rfl,rfl⟩⟩⟩:=e3;exact⟨_,F',[],e1,e2,⟨_,_,_,rfl,rfl,g0⟩⟩
theorem a4p(n:Nat)(f1:Form)(weights1:(List Frac))(r:(Frac×Bool))(hm:a9s n f1 weights1=some r){w:World}{F:Frz}(hs:Sat F w)(hg0:FX F 0 [.int .u8 40,.int .u8 41,.int .u8 44,.int .u8 59,.int .u8 58,.int .u8 61,.int .u8 60,.int .u8 43,.int .u8 45,.int .u8 42,.int .u8 47,.int .u8 123,.int .u8 125]){as1:Option Addr}{ns1:Nat}{cs1:Nat}{as2:Option Addr}{ns2:Nat}{cs2:Nat}(hs1:SlR (Rp.sl rp_Affine) F as1 ns1 cs1 f1.Pieces)(hs2:SlR rp_Frac F as2 ns2 cs2 weights1):
 Calls Tryz.prog 13 #[.agg #[.slice as1 ns1 cs1],.slice as2 ns2 cs2] w fun e w'=>∃v F' O',e= .returned v/\HS F w [] F' O' w'/\(∃(a0_1:Option Addr)(n0_1:Nat)(c0_1:Nat)(a0_3:Option Addr)(n0_3:Nat)(c0_3:Nat),v= .tuple #[.agg #[.int .i64 r.1.P.Sign,.slice a0_1 n0_1 c0_1,.int .i64 r.1.Q.Sign,.slice a0_3 n0_3 c0_3],.bool r.2]/\O'= []/\SlR (Rp.int .i64) F' a0_1 n0_1 c0_1 r.1.P.Digits/\SlR (Rp.int .i64) F' a0_3 n0_3 c0_3 r.1.Q.Digits):=
 (c6s n f1 weights1).2 r hm w F hs hg0 _ ⟨_,_,rfl,⟨_,rfl,⟨_,_,rfl,⟨_,_,_,rfl,hs1⟩,rfl⟩⟩,⟨_,_,rfl,⟨_,_,_,rfl,hs2⟩,rfl⟩⟩|>.mono fun e w'⟨v,F',e1,e2,e3⟩=>by
  obtain⟨_,rfl,⟨_,_,rfl,⟨_,rfl,⟨_,_,rfl,rfl,⟨_,_,rfl,⟨_,_,_,rfl,g0⟩,⟨_,_,rfl,rfl,⟨_,_,rfl,⟨_,_,_,rfl,g1⟩,rfl⟩⟩⟩⟩⟩,⟨_,_,rfl,rfl,rfl⟩⟩⟩:=e3;exact⟨_,F',[],e1,e2,⟨_,_,_,_,_,_,rfl,rfl,g0,g1⟩⟩
theorem c3c(n:Nat)(f1:Form)(want1:(List (List Int)))(r:Bool)(hm:c1o n f1 want1=some r){w:World}{F:Frz}(hs:Sat F w)(hg0:FX F 0 [.int .u8 40,.int .u8 41,.int .u8 44,.int .u8 59,.int .u8 58,.int .u8 61,.int .u8 60,.int .u8 43,.int .u8 45,.int .u8 42,.int .u8 47,.int .u8 123,.int .u8 125]){as1:Option Addr}{ns1:Nat}{cs1:Nat}{as2:Option Addr}{ns2:Nat}{cs2:Nat}(hs1:SlR (Rp.sl rp_Affine) F as1 ns1 cs1 f1.Pieces)(hs2:SlR (Rp.sl (Rp.int .i64)) F as2 ns2 cs2 want1):
 Calls Tryz.prog 34 #[.agg #[.slice as1 ns1 cs1],.slice as2 ns2 cs2] w fun e w'=>∃v F' O',e= .returned v/\HS F w [] F' O' w'/\(v= .bool r/\O'= []):=
 (d7v n f1 want1).2 r hm w F hs hg0 _ ⟨_,_,rfl,⟨_,rfl,⟨_,_,rfl,⟨_,_,_,rfl,hs1⟩,rfl⟩⟩,⟨_,_,rfl,⟨_,_,_,rfl,hs2⟩,rfl⟩⟩|>.mono fun e w'⟨v,F',e1,e2,e3⟩=>by
  obtain rfl:=e3;exact⟨_,F',[],e1,e2,⟨rfl,rfl⟩⟩
theorem c0l(n:Nat)(nx1:Int)(r:Frac)(hm:a2v n nx1=some r){w:World}{F:Frz}(hs:Sat F w)(hg0:FX F 0 [.int .u8 40,.int .u8 41,.int .u8 44,.int .u8 59,.int .u8 58,.int .u8 61,.int .u8 60,.int .u8 43,.int .u8 45,.int .u8 42,.int .u8 47,.int .u8 123,.int .u8 125]):
 Calls Tryz.prog 26 #[.int .i64 nx1] w fun e w'=>∃v F' O',e= .returned v/\HS F w [] F' O' w'/\(∃(a0_1:Option Addr)(n0_1:Nat)(c0_1:Nat)(a0_3:Option Addr)(n0_3:Nat)(c0_3:Nat),v= .agg #[.int .i64 r.P.Sign,.slice a0_1 n0_1 c0_1,.int .i64 r.Q.Sign,.slice a0_3 n0_3 c0_3]/\O'= []/\SlR (Rp.int .i64) F' a0_1 n0_1 c0_1 r.P.Digits/\SlR (Rp.int .i64) F' a0_3 n0_3 c0_3 r.Q.Digits):=
 (a6r n nx1).2 r hm w F hs hg0 _ ⟨_,_,rfl,rfl,rfl⟩|>.mono fun e w'⟨v,F',e1,e2,e3⟩=>by
  obtain⟨_,rfl,⟨_,_,rfl,rfl,⟨_,_,rfl,⟨_,_,_,rfl,g0⟩,⟨_,_,rfl,rfl,⟨_,_,rfl,⟨_,_,_,rfl,g1⟩,rfl⟩⟩⟩⟩⟩:=e3;exact⟨_,F',[],e1,e2,⟨_,_,_,_,_,_,rfl,rfl,g0,g1⟩⟩
theorem b8n(n:Nat)(ax1:Frac)(b1:Frac)(r:Bool)(hm:a4c n ax1 b1=some r){w:World}{F:Frz}(hs:Sat F w)(hg0:FX F 0 [.int .u8 40,.int .u8 41,.int .u8 44,.int .u8 59,.int .u8 58,.int .u8 61,.int .u8 60,.int .u8 43,.int .u8 45,.int .u8 42,.int .u8 47,.int .u8 123,.int .u8 125]){as1:Option Addr}{ns1:Nat}{cs1:Nat}{as2:Option Addr}{ns2:Nat}{cs2:Nat}{as3:Option Addr}{ns3:Nat}{cs3:Nat}{as4:Option Addr}{ns4:Nat}{cs4:Nat}(hs1:SlR (Rp.int .i64) F as1 ns1 cs1 ax1.P.Digits)(hs2:SlR (Rp.int .i64) F as2 ns2 cs2 ax1.Q.Digits)(hs3:SlR (Rp.int .i64) F as3 ns3 cs3 b1.P.Digits)(hs4:SlR (Rp.int .i64) F as4 ns4 cs4 b1.Q.Digits):
 Calls Tryz.prog 16 #[.agg #[.int .i64 ax1.P.Sign,.slice as1 ns1 cs1,.int .i64 ax1.Q.Sign,.slice as2 ns2 cs2],.agg #[.int .i64 b1.P.Sign,.slice as3 ns3 cs3,.int .i64 b1.Q.Sign,.slice as4 ns4 cs4]] w fun e w'=>∃v F' O',e= .returned v/\HS F w [] F' O' w'/\(v= .bool r/\O'= []):=
 (b1c n ax1 b1).2 r hm w F hs hg0 _ ⟨_,_,rfl,⟨_,rfl,⟨_,_,rfl,rfl,⟨_,_,rfl,⟨_,_,_,rfl,hs1⟩,⟨_,_,rfl,rfl,⟨_,_,rfl,⟨_,_,_,rfl,hs2⟩,rfl⟩⟩⟩⟩⟩,⟨_,_,rfl,⟨_,rfl,⟨_,_,rfl,rfl,⟨_,_,rfl,⟨_,_,_,rfl,hs3⟩,⟨_,_,rfl,rfl,⟨_,_,rfl,⟨_,_,_,rfl,hs4⟩,rfl⟩⟩⟩⟩⟩,rfl⟩⟩|>.mono fun e w'⟨v,F',e1,e2,e3⟩=>by
  obtain rfl:=e3;exact⟨_,F',[],e1,e2,⟨rfl,rfl⟩⟩
theorem a7a(n:Nat)(l1:(List Int))(r:(List Frac))(hm:b4i n l1=some r){w:World}{F:Frz}(hs:Sat F w)(hg0:FX F 0 [.int .u8 40,.int .u8 41,.int .u8 44,.int .u8 59,.int .u8 58,.int .u8 61,.int .u8 60,.int .u8 43,.int .u8 45,.int .u8 42,.int .u8 47,.int .u8 123,.int .u8 125]){as1:Option Addr}{ns1:Nat}{cs1:Nat}(hs1:SlR (Rp.int .i64) F as1 ns1 cs1 l1):
 Calls Tryz.prog 25 #[.slice as1 ns1 cs1] w fun e w'=>∃v F' O',e= .returned v/\HS F w [] F' O' w'/\(∃(a0_0:Option Addr)(n0_0:Nat)(c0_0:Nat)(xs0_0:List Value),v= .slice a0_0 n0_0 c0_0/\O'= [.row 44 4 a0_0 n0_0 c0_0 xs0_0]/\RowN rp_Frac F' n0_0 xs0_0 r):=
 (d3a n l1).2 r hm w F hs hg0 _ ⟨_,_,rfl,⟨_,_,_,rfl,hs1⟩,rfl⟩|>.mono fun e w'⟨v,F',a,m,nn,xs,e1,e2,e3,e4⟩=>⟨v,F',_,e1,e2,a,m,nn,xs,e4,rfl,e3⟩
theorem c7m(n:Nat)(r:Bool)(hm:b3v n=some r){w:World}{F:Frz}(hs:Sat F w)(hg0:FX F 0 [.int .u8 40,.int .u8 41,.int .u8 44,.int .u8 59,.int .u8 58,.int .u8 61,.int .u8 60,.int .u8 43,.int .u8 45,.int .u8 42,.int .u8 47,.int .u8 123,.int .u8 125]):
 Calls Tryz.prog 8 #[] w fun e w'=>∃v F' O',e= .returned v/\HS F w [] F' O' w'/\(v= .bool r/\O'= []):=by
 unfold b3v at hm;have h:=HS.init hs;refine a3c 112 Tryz.func8 Y Y Y (a0h (a0b (a0c Y Y Y (a0f (a0d (a0h (a0b ?_)))))));obtain⟨v1,lg,hm⟩:=Yb hm;refine a1q ent33 Y Y Y Y h (b2w _ _ _ lg h.sat hg0) ?_;rintro _ om _ on jo lh ⟨h0,h1,g7,rfl,rfl,li⟩;refine a0a Y Y Y (a1f Y Y Y Y (a1f Y Y Y Y (a9x ze34 Y Y Y lh ?_)));intro b1 oo lj;refine a5g sz34 Y lj Y Y Y Y (i:=0) Y Y Y Y ?_;intro op kh;refine a0c Y Y Y (a0f (a0d (a0h (a0b ?_))));obtain⟨v2,lk,hm⟩:=Yb hm;refine a1q ent33 Y Y Y Y kh (b2w _ _ _ lk kh.sat (hg0.mono jo)) ?_;rintro _ oq _ os jp ll ⟨h2,h3,h4,rfl,rfl,i6⟩;refine a0a Y Y Y (a1f Y Y Y Y (a1f Y Y Y Y (a9x ze34 Y Y Y ll ?_)));intro b2 ot lm;refine a5g sz34 Y lm Y Y Y Y (i:=0) Y Y Y Y ?_;intro ou ki;refine a0c Y Y Y (a0f (a0d (a0h (a0b ?_))));obtain⟨v3,ln,hm⟩:=Yb hm;refine a1q ent33 Y Y Y Y ki (b2w _ _ _ ln ki.sat ((hg0.mono jo).mono jp)) ?_;rintro _ i7 _ ov hk lo ⟨h5,h6,h7,rfl,rfl,i0⟩;refine a0a Y Y Y (a1f Y Y Y Y (a1f Y Y Y Y (a9x ze34 Y Y Y lo ?_)));intro b3 ow lp;refine a5g sz34 Y lp Y Y Y Y (i:=0) Y Y Y Y ?_;intro ox lq;refine a0c Y Y Y (a0f (a0d ?_));obtain⟨⟨f1,f2,f3,f4,one1⟩,M,hm⟩:=Yb hm;refine f0a (fun a w'=>∃(g8:Frz)(b4:Nat)(g9:Option Addr)(ga:Nat)(gb:Nat)(gc:Option Addr)(gd:Nat)(ge:Nat),Frz.le i7 g8/\HS F w [] g8 [.box b4 44 [.int .i64 f1,.slice g9 ga gb,.int .i64 f3,.slice gc gd ge],.box b3 34 [.slice h5 h6 h7],.box b2 34 [.slice h2 h3 h4],.box b1 34 [.slice h0 h1 g7]] w'/\(SlR (Rp.int .i64) g8 g9 ga gb f2)/\(SlR (Rp.int .i64) g8 gc gd ge f4)/\Has 112 a [(1,.pointer (some ⟨b1,0,none⟩)),(2,.int .i64 v1.2),(3,.pointer (some ⟨b2,0,none⟩)),(4,.int .i64 v2.2),(5,.pointer (some ⟨b3,0,none⟩)),(6,.int .i64 v3.2),(7,.pointer (some ⟨b4,0,none⟩)),(8,.bool one1)]) ?_ ?_
 ·rintro a m8 ⟨g8,b4,g9,ga,gb,gc,gd,ge,hd,kp,lr,ls,kq⟩;refine a4m kq ?_;obtain⟨⟨f5,f6,f7,f8,two1⟩,N,hm⟩:=Yb hm;refine f0a (fun a w'=>∃(i8:Frz)(b5:Nat)(he:Option Addr)(hf:Nat)(hg:Nat)(hh:Option Addr)(hi:Nat)(hj:Nat),Frz.le g8 i8/\HS F w [] i8 [.box b5 44 [.int .i64 f5,.slice he hf hg,.int .i64 f7,.slice hh hi hj],.box b4 44 [.int .i64 f1,.slice g9 ga gb,.int .i64 f3,.slice gc gd ge],.box b3 34 [.slice h5 h6 h7],.box b2 34 [.slice h2 h3 h4],.box b1 34 [.slice h0 h1 g7]] w'/\(SlR (Rp.int .i64) i8 he hf hg f6)/\(SlR (Rp.int .i64) i8 hh hi hj f8)/\Has 112 a [(1,.pointer (some ⟨b1,0,none⟩)),(2,.int .i64 v1.2),(3,.pointer (some ⟨b2,0,none⟩)),(4,.int .i64 v2.2),(5,.pointer (some ⟨b3,0,none⟩)),(6,.int .i64 v3.2),(7,.pointer (some ⟨b4,0,none⟩)),(8,.bool one1),(9,.pointer (some ⟨b5,0,none⟩)),(10,.bool two1)]) ?_ ?_
  ·rintro a m9 ⟨i8,b5,he,hf,hg,hh,hi,hj,i9,iq,lt,lu,kr⟩;refine a4m kr (a0h (a0b (b5n (v:= .agg #[.slice none 0 0]) Y Y Y (fun _=>by kernel_rfl) ?_)));obtain⟨v4,lv,hm⟩:=Yb hm;refine a1q ent13 Y Y Y Y iq (a4p _ _ _ _ lv iq.sat (hg0.mono iq.le) (SlR.nil _ _) (SlR.nil _ _)) ?_;rintro _ oy _ ma i1 ks ⟨ia,ib,ic,id,ie,ig,rfl,rfl,oz,p0⟩;refine a0a Y Y Y (a1f Y Y Y Y (a1f Y Y Y Y (a9x ze44 Y Y Y ks ?_)));intro b6 mb kt;refine a5g sz44 Y kt Y Y Y Y (i:=0) Y Y Y Y ?_;intro mc jq;refine a0c Y Y Y (a0f (a0d (a0h (a0b ?_))));have lw:=((((jo.trans jp).trans hk).trans hd).trans i9).trans i1;obtain⟨v5,lx,hm⟩:=Yb hm;refine a1q ent33 Y Y Y Y jq (b2w _ _ _ lx jq.sat (hg0.mono lw)) ?_;rintro _ jr _ md ih ku ⟨hn,ho,hp,rfl,rfl,me⟩;refine a0a Y Y Y (a1f Y Y Y Y (a1f Y Y Y Y (a9x ze34 Y Y Y ku ?_)));intro b7 mf kv;refine a5g sz34 Y kv Y Y Y Y (i:=0) Y Y Y Y ?_;intro gf ir;refine a0c Y Y Y (a0f (a0d (a0h (a0h (a0b (a0a Y Y Y (a1b Y Y Y Y Y (a0a Y Y Y ?_))))))));obtain⟨v6,ii,hm⟩:=Yb hm;refine b0r 3 (fun a w'=>gf=w'/\Has 112 a [(1,.pointer (some ⟨b1,0,none⟩)),(3,.pointer (some ⟨b2,0,none⟩)),(5,.pointer (some ⟨b3,0,none⟩)),(6,.int .i64 v3.2),(7,.pointer (some ⟨b4,0,none⟩)),(8,.bool one1),(9,.pointer (some ⟨b5,0,none⟩)),(10,.bool two1),(12,.bool v4.2),(14,.int .i64 v5.2),(55,.bool v6)]) ?_ ?_
   ·rintro a mg ⟨rfl,kw⟩;refine a2s kw (a0a Y Y Y ?_);obtain⟨v7,ij,hm⟩:=Yb hm;refine b0r 3 (fun a w'=>gf=w'/\Has 112 a [(1,.pointer (some ⟨b1,0,none⟩)),(3,.pointer (some ⟨b2,0,none⟩)),(5,.pointer (some ⟨b3,0,none⟩)),(7,.pointer (some ⟨b4,0,none⟩)),(8,.bool one1),(9,.pointer (some ⟨b5,0,none⟩)),(10,.bool two1),(12,.bool v4.2),(14,.int .i64 v5.2),(59,.bool v7)]) ?_ ?_
    ·rintro a mh ⟨rfl,kx⟩;refine a2s kx (a0a Y Y Y ?_);obtain⟨v8,ik,hm⟩:=Yb hm;refine b0r 3 (fun a w'=>gf=w'/\Has 112 a [(1,.pointer (some ⟨b1,0,none⟩)),(3,.pointer (some ⟨b2,0,none⟩)),(5,.pointer (some ⟨b3,0,none⟩)),(7,.pointer (some ⟨b4,0,none⟩)),(8,.bool one1),(9,.pointer (some ⟨b5,0,none⟩)),(10,.bool two1),(12,.bool v4.2),(63,.bool v8)]) ?_ ?_
     ·rintro a mi ⟨rfl,ky⟩;refine a2s ky (a0a Y Y Y ?_);obtain⟨v9,il,hm⟩:=Yb hm;refine b0r 3 (fun a w'=>gf=w'/\Has 112 a [(1,.pointer (some ⟨b1,0,none⟩)),(3,.pointer (some ⟨b2,0,none⟩)),(5,.pointer (some ⟨b3,0,none⟩)),(7,.pointer (some ⟨b4,0,none⟩)),(9,.pointer (some ⟨b5,0,none⟩)),(10,.bool two1),(12,.bool v4.2),(67,.bool v9)]) ?_ ?_
      ·rintro a mj ⟨rfl,kz⟩;refine a2s kz (a0a Y Y Y ?_);obtain⟨v10,im,hm⟩:=Yb hm;refine b0r 3 (fun a w'=>gf=w'/\Has 112 a [(1,.pointer (some ⟨b1,0,none⟩)),(3,.pointer (some ⟨b2,0,none⟩)),(5,.pointer (some ⟨b3,0,none⟩)),(7,.pointer (some ⟨b4,0,none⟩)),(9,.pointer (some ⟨b5,0,none⟩)),(12,.bool v4.2),(71,.bool v10)]) ?_ ?_
       ·rintro a mk ⟨rfl,l0⟩;refine a2s l0 (a0a Y Y Y ?_);obtain⟨v11,io,hm⟩:=Yb hm;refine b0r 2 (fun a w'=>gf=w'/\Has 112 a [(1,.pointer (some ⟨b1,0,none⟩)),(3,.pointer (some ⟨b2,0,none⟩)),(5,.pointer (some ⟨b3,0,none⟩)),(7,.pointer (some ⟨b4,0,none⟩)),(9,.pointer (some ⟨b5,0,none⟩)),(74,.bool v11)]) ?_ ?_
        ·rintro a ml ⟨rfl,l1⟩;refine a2s l1 (a0a Y Y Y ?_);obtain⟨v12,ip,hm⟩:=Yb hm;refine b0r 5 (fun a w'=>gf=w'/\Has 112 a [(1,.pointer (some ⟨b1,0,none⟩)),(3,.pointer (some ⟨b2,0,none⟩)),(5,.pointer (some ⟨b3,0,none⟩)),(7,.pointer (some ⟨b4,0,none⟩)),(9,.pointer (some ⟨b5,0,none⟩)),(80,.bool v12)]) ?_ ?_
         ·rintro a mm ⟨rfl,l2⟩;refine a2s l2 (a0f (a0d ?_));rcases a0g hm with⟨it,hm⟩|⟨it,hm⟩
          ·refine a2p 80 rfl it ?_;refine a3p Y (a0h (a0b (a0c Y Y Y (a0f (a0d (a7f (a1g (b1h Y Y ?_))))))));obtain rfl:=Yo hm;exact⟨_,_,_,Y,ir.Yp [] Y Y,Y,Y⟩
          refine a2p 80 rfl it ?_;refine a2e Y (a4q (a0d ?_));obtain⟨v13,H,hm⟩:=Yb hm;refine f0a (fun a w'=>∃(js:Frz),Frz.le jr js/\HS F w [] js [.box b7 34 [.slice hn ho hp],.box b6 44 [.int .i64 v4.1.P.Sign,.slice ia ib ic,.int .i64 v4.1.Q.Sign,.slice id ie ig],.box b5 44 [.int .i64 f5,.slice he hf hg,.int .i64 f7,.slice hh hi hj],.box b4 44 [.int .i64 f1,.slice g9 ga gb,.int .i64 f3,.slice gc gd ge],.box b3 34 [.slice h5 h6 h7],.box b2 34 [.slice h2 h3 h4],.box b1 34 [.slice h0 h1 g7]] w'/\Has 112 a [(0,.bool v13)]) ?_ ?_
          ·rintro a mn ⟨js,p1,l3,kb⟩;refine a4m kb (a7f (b1h Y Y ?_));obtain rfl:=Yo hm;exact⟨_,_,_,Y,l3.Yp [] Y Y,Y,Y⟩
          clear hm;refine c0j (SH jr [.box b7 34 [.slice hn ho hp],.box b6 44 [.int .i64 v4.1.P.Sign,.slice ia ib ic,.int .i64 v4.1.Q.Sign,.slice id ie ig],.box b5 44 [.int .i64 f5,.slice he hf hg,.int .i64 f7,.slice hh hi hj],.box b4 44 [.int .i64 f1,.slice g9 ga gb,.int .i64 f3,.slice gc gd ge],.box b3 34 [.slice h5 h6 h7],.box b2 34 [.slice h2 h3 h4],.box b1 34 [.slice h0 h1 g7]]) 32 Y (by kernel_rfl) ir ?_;intro mo jt;refine d_tk 0 Y (by kernel_rfl) Y Y Y Y (jt.Ys Yf [0,1,2,3,4,5,6] Y Y) (fun _ _ _ _ hq=>b7w ag34 sz34 Y Y hq Y (i:=6) Y Y Yn) (a3w 1 Y (by kernel_rfl) (a1n (e:=3) (cs:= [.int .i64 11,.int .i64 0,.int .i64 0]) (q:=1) Y Y jt Y (fun _=>by kernel_rfl) Y Y ?_));intro b8 mp ju;refine a2k (ju.Ys Yf [1,2,3,4,5,6,7] Y Y) (a3w 2 Y (by kernel_rfl) ?_);obtain⟨ly,x,l4,hsx1⟩:=a1v ju (i:=0) Y ((show RowN (Rp.int .i64) jr 3 [.int .i64 11,.int .i64 0,.int .i64 0] [11,0,0]from⟨Y,⟨_,_,Y,Y,⟨_,_,Y,Y,⟨_,_,Y,Y,(Y:RowR (Rp.int .i64) _ [] [])⟩⟩⟩⟩));refine a1n (e:=28) (cs:= [.slice (some ⟨b8,0,none⟩) 3 3]) (q:=1) Y Y l4 Y (fun _=>by kernel_rfl) Y Y ?_;intro b9 mq jv;refine a2k (jv.Ys x [1,2,3,4,5,6,7] Y Y) (a3w 3 Y (by kernel_rfl) ?_);obtain⟨mr,g,iu,hsx2⟩:=a1v jv (i:=0) Y ((show RowN (Rp.sl (Rp.int .i64)) ly 1 [.slice (some ⟨b8,0,none⟩) 3 3] [[11,0,0]]from⟨Y,⟨_,_,Y,⟨(some ⟨b8,0,none⟩),3,3,Y,hsx1⟩,(Y:RowR (Rp.sl (Rp.int .i64)) _ [] [])⟩⟩));have lz:=((((((jp.trans hk).trans hd).trans i9).trans i1).trans ih).trans x).trans g;obtain⟨v14,m0,H⟩:=Yb H;refine a1q ent34 Y Y Y Y iu (c3c _ _ _ _ m0 iu.sat (hg0.mono iu.le) (li.mono lz) hsx2) ?_;rintro _ jw _ ms s iv ⟨rfl,rfl⟩;have S0:=iv.Ys ((x.trans g).trans s) [0,1,2,3,4,5,6] Y Y;refine a2k S0 (d_tk 4 Y (by kernel_rfl) Y Y Y Y S0 (fun _ _ _ _ _=>a0a Y Y Y Yn) ?_);obtain⟨v15,gg,H⟩:=Yb H;refine e6f (fuel':=19) (listed':= #[true,true,true,true,true,true,true,true,true,true,true,true,true,false,false,false,false,false,false,false,false,false,false,false,false,false,false,false,false,false,false,false]) (fun a w'=>∃(i2:Frz),Frz.le jw i2/\HS F w [] i2 [.box b7 34 [.slice hn ho hp],.box b6 44 [.int .i64 v4.1.P.Sign,.slice ia ib ic,.int .i64 v4.1.Q.Sign,.slice id ie ig],.box b5 44 [.int .i64 f5,.slice he hf hg,.int .i64 f7,.slice hh hi hj],.box b4 44 [.int .i64 f1,.slice g9 ga gb,.int .i64 f3,.slice gc gd ge],.box b3 34 [.slice h5 h6 h7],.box b2 34 [.slice h2 h3 h4],.box b1 34 [.slice h0 h1 g7]] w'/\Has 112 a [(5,.pointer (some ⟨b3,0,none⟩)),(7,.pointer (some ⟨b4,0,none⟩)),(9,.pointer (some ⟨b5,0,none⟩)),(93,.bool v15)]) ?_ (fun kj=> ?_)
          ·rintro a l5 ⟨i2,G,hr,kc⟩;refine c4j kc ?_;have S1:=hr.Ys (((x.trans g).trans s).trans G) [0,1,2,3,4,5,6] Y Y;refine d_tk 13 Y (by kernel_rfl) Y Y Y Y S1 (fun _ _ _ _ _=>a0a Y Y Y Yn) ?_;obtain⟨v16,gh,H⟩:=Yb H;refine e6f (fuel':=11) (listed':= #[true,true,true,true,true,true,true,true,true,true,true,true,true,true,true,true,true,true,true,true,true,false,false,false,false,false,false,false,false,false,false,false]) (fun a w'=>l5=w'/\Has 112 a [(7,.pointer (some ⟨b4,0,none⟩)),(9,.pointer (some ⟨b5,0,none⟩)),(101,.bool v16)]) ?_ (fun kk=> ?_)
           ·rintro a mt ⟨rfl,kd⟩;refine c4j kd (d_tk 21 Y (by kernel_rfl) Y Y Y Y S1 (fun _ _ _ _ _=>a0a Y Y Y Yn) ?_);obtain⟨v17,g3,H⟩:=Yb H;refine e6f (fuel':=6) (listed':= #[true,true,true,true,true,true,true,true,true,true,true,true,true,true,true,true,true,true,true,true,true,true,true,true,true,true,false,false,false,false,false,false]) (fun a w'=>∃(i3:Frz),Frz.le i2 i3/\HS F w [] i3 [.box b7 34 [.slice hn ho hp],.box b6 44 [.int .i64 v4.1.P.Sign,.slice ia ib ic,.int .i64 v4.1.Q.Sign,.slice id ie ig],.box b5 44 [.int .i64 f5,.slice he hf hg,.int .i64 f7,.slice hh hi hj],.box b4 44 [.int .i64 f1,.slice g9 ga gb,.int .i64 f3,.slice gc gd ge],.box b3 34 [.slice h5 h6 h7],.box b2 34 [.slice h2 h3 h4],.box b1 34 [.slice h0 h1 g7]] w'/\Has 112 a [(9,.pointer (some ⟨b5,0,none⟩)),(106,.bool v17)]) ?_ (fun kl=> ?_)
            ·rintro a mu ⟨i3,R,g2,ke⟩;refine c4j ke (d_tk 26 Y (by kernel_rfl) Y Y Y Y (g2.sh ((((x.trans g).trans s).trans G).trans R) [0,1,2,3,4,5,6] (by decide) Y) (fun _ _ _ _ _=>a0a Y Y Y Yn) ?_);obtain⟨v18,g4,H⟩:=Yb H;refine e6f (fuel':=1) (listed':= #[true,true,true,true,true,true,true,true,true,true,true,true,true,true,true,true,true,true,true,true,true,true,true,true,true,true,true,true,true,true,true,false]) (fun a w'=>∃(iw:Frz),Frz.le i3 iw/\HS F w [] iw [.box b7 34 [.slice hn ho hp],.box b6 44 [.int .i64 v4.1.P.Sign,.slice ia ib ic,.int .i64 v4.1.Q.Sign,.slice id ie ig],.box b5 44 [.int .i64 f5,.slice he hf hg,.int .i64 f7,.slice hh hi hj],.box b4 44 [.int .i64 f1,.slice g9 ga gb,.int .i64 f3,.slice gc gd ge],.box b3 34 [.slice h5 h6 h7],.box b2 34 [.slice h2 h3 h4],.box b1 34 [.slice h0 h1 g7]] w'/\Has 112 a [(111,.bool v18)]) ?_ (fun km=> ?_)
             ·rintro a mv ⟨iw,jx,jy,kf⟩;refine c4j kf (d_tk 31 Y (by kernel_rfl) Y Y Y Y (jy.sh (((((x.trans g).trans s).trans G).trans R).trans jx) [0,1,2,3,4,5,6] (by decide) Y) (fun _ _ _ _ _=>a0c Y Y Y Yn) (b8l (by kernel_rfl) (a0w (fun a ha=> ?_))));cases H;exact⟨_,(((((x.trans g).trans s).trans G).trans R).trans jx),jy.Yp [0,1,2,3,4,5,6] Y Y,ha.cut (l:= [0]) Y⟩
             clear H;rcases a0g g4 with⟨ix,g4⟩|⟨ix,g4⟩
             ·refine d0b 107 rfl ix ?_;refine d_tk 27 Y (by kernel_rfl) Y Y Y Y (g2.sh ((((x.trans g).trans s).trans G).trans R) [0,1,2,3,4,5,6] (by decide) Y) (fun _ _ _ _ hq=>b7w ag44 sz44 Y Y hq Y (i:=2) Y Y Yn) (a3w 28 Y (by kernel_rfl) ?_);obtain⟨v19,m1,g4⟩:=Yb g4;refine a1q ent26 Y Y Y Y g2 (c0l _ _ _ m1 g2.sat (hg0.mono g2.le)) ?_;rintro _ mw _ mx ht i4 ⟨my,mz,o0,o2,o3,o4,rfl,rfl,l6,l7⟩;refine a2k (i4.sh (((((x.trans g).trans s).trans G).trans R).trans ht) [0,1,2,3,4,5,6] (by decide) Y) (a3w 29 Y (by kernel_rfl) ?_);have kn:=((((((i1.trans ih).trans x).trans g).trans s).trans G).trans R).trans ht;obtain⟨v20,m2,g4⟩:=Yb g4;refine a1q ent16 Y Y Y Y i4 (b8n _ _ _ _ m2 i4.sat (hg0.mono i4.le) (lt.mono kn) (lu.mono kn) l6 l7) ?_;rintro _ o5 _ o6 iy iz ⟨rfl,rfl⟩;refine a2k (iz.sh ((((((x.trans g).trans s).trans G).trans R).trans ht).trans iy) [0,1,2,3,4,5,6] (by decide) Y) (d_tk 30 Y (by kernel_rfl) Y Y Y Y (iz.sh ((((((x.trans g).trans s).trans G).trans R).trans ht).trans iy) [0,1,2,3,4,5,6] (by decide) Y) (fun _ _ _ _ _=>a0q Y Y Y Y Yn) (d2j km (by kernel_rfl) (fun a ha=> ?_)));cases g4;exact⟨_,(ht.trans iy),iz.Yp [0,1,2,3,4,5,6] Y Y,ha.cut (l:= [111]) Y⟩
             refine d0b 107 rfl ix ?_;refine d_of 27 Y (by kernel_rfl) Y Y Y (g2.sh ((((x.trans g).trans s).trans G).trans R) [0,1,2,3,4,5,6] (by decide) Y) (d_of 28 Y (by kernel_rfl) Y Y Y (g2.sh ((((x.trans g).trans s).trans G).trans R) [0,1,2,3,4,5,6] (by decide) Y) (d_of 29 Y (by kernel_rfl) Y Y Y (g2.sh ((((x.trans g).trans s).trans G).trans R) [0,1,2,3,4,5,6] (by decide) Y) (d_tk 30 Y (by kernel_rfl) Y Y Y Y (g2.sh ((((x.trans g).trans s).trans G).trans R) [0,1,2,3,4,5,6] (by decide) Y) (fun _ _ _ _ _=>a0l Y Y Y Y Yn) (d2j km (by kernel_rfl) (fun a ha=> ?_)))));cases g4;exact⟨_,Yf,g2.Yp [0,1,2,3,4,5,6] Y Y,ha.cut (l:= [111]) Y⟩
            clear H;rcases a0g g3 with⟨j0,g3⟩|⟨j0,g3⟩
            ·refine d0b 102 rfl j0 ?_;refine d_tk 22 Y (by kernel_rfl) Y Y Y Y S1 (fun _ _ _ _ hq=>b7w ag44 sz44 Y Y hq Y (i:=3) Y Y Yn) (a3w 23 Y (by kernel_rfl) ?_);obtain⟨v21,m3,g3⟩:=Yb g3;refine a1q ent26 Y Y Y Y hr (c0l _ _ _ m3 hr.sat (hg0.mono hr.le)) ?_;rintro _ o7 _ o8 hu i5 ⟨o9,oa,ob,oc,od,oe,rfl,rfl,l8,l9⟩;refine a2k (i5.sh ((((x.trans g).trans s).trans G).trans hu) [0,1,2,3,4,5,6] (by decide) Y) (a3w 24 Y (by kernel_rfl) ?_);have ko:=((((((i9.trans i1).trans ih).trans x).trans g).trans s).trans G).trans hu;obtain⟨v22,la,g3⟩:=Yb g3;refine a1q ent16 Y Y Y Y i5 (b8n _ _ _ _ la i5.sat (hg0.mono i5.le) (lr.mono ko) (ls.mono ko) l8 l9) ?_;rintro _ of _ og j1 j2 ⟨rfl,rfl⟩;refine a2k (j2.sh (((((x.trans g).trans s).trans G).trans hu).trans j1) [0,1,2,3,4,5,6] (by decide) Y) (d_tk 25 Y (by kernel_rfl) Y Y Y Y (j2.sh (((((x.trans g).trans s).trans G).trans hu).trans j1) [0,1,2,3,4,5,6] (by decide) Y) (fun _ _ _ _ _=>a0q Y Y Y Y Yn) (d2j kl (by kernel_rfl) (fun a ha=> ?_)));cases g3;exact⟨_,(hu.trans j1),j2.Yp [0,1,2,3,4,5,6] Y Y,ha.cut (l:= [9,106]) Y⟩
            refine d0b 102 rfl j0 ?_;refine d_of 22 Y (by kernel_rfl) Y Y Y S1 (d_of 23 Y (by kernel_rfl) Y Y Y S1 (d_of 24 Y (by kernel_rfl) Y Y Y S1 (d_tk 25 Y (by kernel_rfl) Y Y Y Y S1 (fun _ _ _ _ _=>a0l Y Y Y Y Yn) (d2j kl (by kernel_rfl) (fun a ha=> ?_)))));cases g3;exact⟨_,Yf,hr.Yp [0,1,2,3,4,5,6] Y Y,ha.cut (l:= [9,106]) Y⟩
           clear H;rcases a0g gh with⟨j3,gh⟩|⟨j3,gh⟩
           ·refine d0b 94 rfl j3 ?_;refine d_tk 14 Y (by kernel_rfl) Y Y Y Y S1 (fun _ _ _ _ _=>c6y fa34_0 Y Y Y Yn) (d_tk 15 Y (by kernel_rfl) Y Y Y Y S1 (fun _ _ _ _ hq=>d6i ag32 Y Y hq Y (i:=4) Y Y Yn) ?_);obtain⟨ex1,m4,gh⟩:=Yb gh;obtain⟨b10,o1,g7,m5,m6,kg⟩:=b5z (P:=Tryz.prog) (r:=(Rp.sl rp_Affine)) u32 sz57 ((((i0.mono hd).mono i9).mono i1).mono ih) m4;obtain⟨oh,oi,oj,m7,lb⟩:=m6;subst m7;refine e6b 16 Y (by kernel_rfl) (by kernel_rfl) (by kernel_rfl) Y Y Y Y kg S1 (d_tk 17 Y (by kernel_rfl) Y Y Y Y S1 (fun _ _ _ hleq hq=>a8g (j:=0) ag57 Y Y hq (m5.mono (hleq)) Y Y Yn) (d_tk 18 Y (by kernel_rfl) Y Y Y Y S1 (fun _ _ _ _ _=>a8j lb.len u57 Y Y Y Yn) (d_tk 19 Y (by kernel_rfl) Y Y Y Y S1 (fun _ _ _ _ _=>a1b Y Y Y Y Y Yn) (d_tk 20 Y (by kernel_rfl) Y Y Y Y S1 (fun _ _ _ _ _=>a0q Y Y Y Y Yn) (d2j kk (by kernel_rfl) (fun a ha=> ?_))))));cases gh;exact⟨Y,ha.cut (l:= [7,9,101]) Y⟩
           refine d0b 94 rfl j3 ?_;refine d_of 14 Y (by kernel_rfl) Y Y Y S1 (d_of 15 Y (by kernel_rfl) Y Y Y S1 (d_of 16 Y (by kernel_rfl) Y Y Y S1 (d_of 17 Y (by kernel_rfl) Y Y Y S1 (d_of 18 Y (by kernel_rfl) Y Y Y S1 (d_of 19 Y (by kernel_rfl) Y Y Y S1 (d_tk 20 Y (by kernel_rfl) Y Y Y Y S1 (fun _ _ _ _ _=>a0l Y Y Y Y Yn) ?_))))));refine d2j kk (by kernel_rfl) (fun a ha=> ?_);cases gh;exact⟨Y,ha.cut (l:= [7,9,101]) Y⟩
          clear H;rcases a0g gg with⟨j4,gg⟩|⟨j4,gg⟩
          ·refine d0b 85 rfl j4 ?_;refine d_tk 5 Y (by kernel_rfl) Y Y Y Y S0 (fun _ _ _ _ hq=>b7w ag34 sz34 Y Y hq Y (i:=5) Y Y Yn) ?_;have hz:=iv;have hl:=Frz.refl jw;refine d2k [6,7,8,9] (by kernel_rfl) Y (a3j Y ?_ (a3j Y ?_ (a3j Y ?_ (a3j Y ?_ (steps_nil)))));all_goals repeat' first
            |(refine a1n (e:=3) (vl:= [(0,.int .i64 0),(1,.int .i64 1),(2,.int .i64 (-1))]) (cs:= [.int .i64 0,.int .i64 1,.int .i64 (-1)]) (q:=1) rfl rfl hz rfl (fun _=>by kernel_rfl) rfl rfl ?_;intro p6 wz hz;obtain⟨Fz,hF,hz,s6⟩:=a1v hz (i:=0) rfl (show RowN (Rp.int .i64) _ 3 [.int .i64 0,.int .i64 1,.int .i64 (-1)] [0,1,(-1)]from⟨rfl,⟨_,_,rfl,rfl,⟨_,_,rfl,rfl,⟨_,_,rfl,rfl,(rfl:RowR (Rp.int .i64) _ [] [])⟩⟩⟩⟩);replace hl:=hl.trans hF;(try replace s7:=s7.mono hF);(try replace s8:=s8.mono hF);(try replace s9:=s9.mono hF);refine a2k (hz.Ys (((x.trans g).trans s).trans hl) [0,1,2,3,4,5,6] Y Y) ?_)
            |(refine a1n (e:=3) (vl:= [(0,.int .i64 (-1)),(1,.int .i64 1),(2,.int .i64 0)]) (cs:= [.int .i64 (-1),.int .i64 1,.int .i64 0]) (q:=1) rfl rfl hz rfl (fun _=>by kernel_rfl) rfl rfl ?_;intro p7 wz hz;obtain⟨Fz,hF,hz,s7⟩:=a1v hz (i:=0) rfl (show RowN (Rp.int .i64) _ 3 [.int .i64 (-1),.int .i64 1,.int .i64 0] [(-1),1,0]from⟨rfl,⟨_,_,rfl,rfl,⟨_,_,rfl,rfl,⟨_,_,rfl,rfl,(rfl:RowR (Rp.int .i64) _ [] [])⟩⟩⟩⟩);replace hl:=hl.trans hF;(try replace s6:=s6.mono hF);(try replace s8:=s8.mono hF);(try replace s9:=s9.mono hF);refine a2k (hz.Ys (((x.trans g).trans s).trans hl) [0,1,2,3,4,5,6] Y Y) ?_)
            |(refine a1n (e:=3) (vl:= [(0,.int .i64 10),(1,.int .i64 0),(2,.int .i64 (-1))]) (cs:= [.int .i64 10,.int .i64 0,.int .i64 (-1)]) (q:=1) rfl rfl hz rfl (fun _=>by kernel_rfl) rfl rfl ?_;intro p8 wz hz;obtain⟨Fz,hF,hz,s8⟩:=a1v hz (i:=0) rfl (show RowN (Rp.int .i64) _ 3 [.int .i64 10,.int .i64 0,.int .i64 (-1)] [10,0,(-1)]from⟨rfl,⟨_,_,rfl,rfl,⟨_,_,rfl,rfl,⟨_,_,rfl,rfl,(rfl:RowR (Rp.int .i64) _ [] [])⟩⟩⟩⟩);replace hl:=hl.trans hF;(try replace s6:=s6.mono hF);(try replace s7:=s7.mono hF);(try replace s9:=s9.mono hF);refine a2k (hz.Ys (((x.trans g).trans s).trans hl) [0,1,2,3,4,5,6] Y Y) ?_)
            |(refine a1n (e:=3) (vl:= [(0,.int .i64 9),(1,.int .i64 0),(2,.int .i64 0)]) (cs:= [.int .i64 9,.int .i64 0,.int .i64 0]) (q:=1) rfl rfl hz rfl (fun _=>by kernel_rfl) rfl rfl ?_;intro p9 wz hz;obtain⟨Fz,hF,hz,s9⟩:=a1v hz (i:=0) rfl (show RowN (Rp.int .i64) _ 3 [.int .i64 9,.int .i64 0,.int .i64 0] [9,0,0]from⟨rfl,⟨_,_,rfl,rfl,⟨_,_,rfl,rfl,⟨_,_,rfl,rfl,(rfl:RowR (Rp.int .i64) _ [] [])⟩⟩⟩⟩);replace hl:=hl.trans hF;(try replace s6:=s6.mono hF);(try replace s7:=s7.mono hF);(try replace s8:=s8.mono hF);refine a2k (hz.Ys (((x.trans g).trans s).trans hl) [0,1,2,3,4,5,6] Y Y) ?_)
            |refine d2k [6,7,8] (by decide+kernel) rfl (a3j rfl ?_ (a3j rfl ?_ (a3j rfl ?_ (steps_nil))))
            |refine d2k [6,7,9] (by decide+kernel) rfl (a3j rfl ?_ (a3j rfl ?_ (a3j rfl ?_ (steps_nil))))
            |refine d2k [6,8,9] (by decide+kernel) rfl (a3j rfl ?_ (a3j rfl ?_ (a3j rfl ?_ (steps_nil))))
            |refine d2k [7,8,9] (by decide+kernel) rfl (a3j rfl ?_ (a3j rfl ?_ (a3j rfl ?_ (steps_nil))))
            |refine c3m 6 7 rfl rfl (by decide+kernel) ?_ ?_
            |refine c3m 6 8 rfl rfl (by decide+kernel) ?_ ?_
            |refine c3m 6 9 rfl rfl (by decide+kernel) ?_ ?_
            |refine c3m 7 8 rfl rfl (by decide+kernel) ?_ ?_
            |refine c3m 7 9 rfl rfl (by decide+kernel) ?_ ?_
            |refine c3m 8 9 rfl rfl (by decide+kernel) ?_ ?_
            |refine a3w 6 rfl (by decide+kernel) ?_
            |refine a3w 7 rfl (by decide+kernel) ?_
            |refine a3w 8 rfl (by decide+kernel) ?_
            |refine a3w 9 rfl (by decide+kernel) ?_
            |fail
           all_goals
            refine a3w 10 Y (by kernel_rfl) (a1n (e:=28) (cs:= [.slice (some ⟨p6,0,none⟩) 3 3,.slice (some ⟨p7,0,none⟩) 3 3,.slice (some ⟨p8,0,none⟩) 3 3,.slice (some ⟨p9,0,none⟩) 3 3]) (q:=1) Y Y hz Y (fun _=>by kernel_rfl) Y Y ?_);intro p10 wz hz;obtain⟨Fz,hF,hz,s10⟩:=a1v hz (i:=0) Y (show RowN (Rp.sl (Rp.int .i64)) _ 4 [.slice (some ⟨p6,0,none⟩) 3 3,.slice (some ⟨p7,0,none⟩) 3 3,.slice (some ⟨p8,0,none⟩) 3 3,.slice (some ⟨p9,0,none⟩) 3 3] [[0,1,(-1)],[(-1),1,0],[10,0,(-1)],[9,0,0]]from⟨Y,⟨_,_,Y,⟨(some ⟨p6,0,none⟩),3,3,Y,s6⟩,⟨_,_,Y,⟨(some ⟨p7,0,none⟩),3,3,Y,s7⟩,⟨_,_,Y,⟨(some ⟨p8,0,none⟩),3,3,Y,s8⟩,⟨_,_,Y,⟨(some ⟨p9,0,none⟩),3,3,Y,s9⟩,(Y:RowR (Rp.sl (Rp.int .i64)) _ [] [])⟩⟩⟩⟩⟩)
            replace hl:=hl.trans hF
            refine a2k (hz.Ys (((x.trans g).trans s).trans hl) [0,1,2,3,4,5,6] Y Y) (a3w 11 Y (by kernel_rfl) ?_);obtain⟨v23,lc,gg⟩:=Yb gg;refine a1q ent34 Y Y Y Y hz (c3c _ _ _ _ lc hz.sat (hg0.mono hz.le) (i6.mono ((((((hk.trans hd).trans i9).trans i1).trans ih).trans (((x.trans g).trans s).trans hl)))) s10) ?_;rintro _ Fz _ wz hF hz ⟨rfl,rfl⟩
            replace hl:=hl.trans hF
            refine a2k (hz.Ys (((x.trans g).trans s).trans hl) [0,1,2,3,4,5,6] Y Y) (d_tk 12 Y (by kernel_rfl) Y Y Y Y (hz.Ys (((x.trans g).trans s).trans hl) [0,1,2,3,4,5,6] Y Y) (fun _ _ _ _ _=>a0q Y Y Y Y Yn) (d2j kj (by kernel_rfl) (fun a ha=> ?_)));cases gg;exact⟨_,hl,hz.Yp [0,1,2,3,4,5,6] Y Y,ha.cut (l:= [5,7,9,93]) Y⟩
          refine d0b 85 rfl j4 ?_;refine d_of 5 Y (by kernel_rfl) Y Y Y S0 (d_of 6 Y (by kernel_rfl) Y Y Y S0 (d_of 7 Y (by kernel_rfl) Y Y Y S0 (d_of 8 Y (by kernel_rfl) Y Y Y S0 (d_of 9 Y (by kernel_rfl) Y Y Y S0 (d_of 10 Y (by kernel_rfl) Y Y Y S0 (d_of 11 Y (by kernel_rfl) Y Y Y S0 ?_))))));refine d_tk 12 Y (by kernel_rfl) Y Y Y Y S0 (fun _ _ _ _ _=>a0l Y Y Y Y Yn) (d2j kj (by kernel_rfl) (fun a ha=> ?_));cases gg;exact⟨_,Yf,iv.Yp [0,1,2,3,4,5,6] Y Y,ha.cut (l:= [5,7,9,93]) Y⟩
         clear hm;rcases a0g ip with⟨j5,ip⟩|⟨j5,ip⟩
         ·refine a4a 75 rfl j5 ?_;refine a1o Y (by decide) Y (a1o Y (by decide) Y (a1o Y (by decide) Y (a1o Y (by decide) Y (a0q Y Y Y Y (a0f (a0w (fun a ha=> ?_)))))));cases ip;exact⟨Y,ha.cut (l:= [1,3,5,7,9,80]) Y⟩
         refine a4a 75 rfl j5 ?_;refine c6y fa34_0 Y Y Y (d6i ag32 Y Y ir Y (i:=4) Y Y (a8j i0.len u32 Y Y Y (a1b Y Y Y Y Y (a0l Y Y Y Y (a0f (a0w (fun a ha=> ?_)))))));cases ip;exact⟨Y,ha.cut (l:= [1,3,5,7,9,80]) Y⟩
        clear hm;rcases a0g io with⟨j6,io⟩|⟨j6,io⟩
        ·refine a4a 72 rfl j6 ?_;refine a1o Y (by decide) Y (a0q Y Y Y Y (a0f (a0w (fun a ha=> ?_))));cases io;exact⟨Y,ha.cut (l:= [1,3,5,7,9,74]) Y⟩
        refine a4a 72 rfl j6 ?_;refine a0a Y Y Y (a0l Y Y Y Y (a0f (a0w (fun a ha=> ?_))));cases io;exact⟨Y,ha.cut (l:= [1,3,5,7,9,74]) Y⟩
       clear hm;rcases a0g im with⟨j7,im⟩|⟨j7,im⟩
       ·refine a4a 68 rfl j7 ?_;refine a1o Y (by decide) Y (a1o Y (by decide) Y (a0q Y Y Y Y (a0f (a0w (fun a ha=> ?_)))));cases im;exact⟨Y,ha.cut (l:= [1,3,5,7,9,12,71]) Y⟩
       refine a4a 68 rfl j7 ?_;refine a0a Y Y Y (e1g Y Y Y (a0l Y Y Y Y (a0f (a0w (fun a ha=> ?_)))));cases im;exact⟨Y,ha.cut (l:= [1,3,5,7,9,12,71]) Y⟩
      clear hm;rcases a0g il with⟨j8,il⟩|⟨j8,il⟩
      ·refine a4a 64 rfl j8 ?_;refine a1o Y (by decide) Y (a1o Y (by decide) Y (a0q Y Y Y Y (a0f (a0w (fun a ha=> ?_)))));cases il;exact⟨Y,ha.cut (l:= [1,3,5,7,9,10,12,67]) Y⟩
      refine a4a 64 rfl j8 ?_;refine a0a Y Y Y (e1g Y Y Y (a0l Y Y Y Y (a0f (a0w (fun a ha=> ?_)))));cases il;exact⟨Y,ha.cut (l:= [1,3,5,7,9,10,12,67]) Y⟩
     clear hm;rcases a0g ik with⟨j9,ik⟩|⟨j9,ik⟩
     ·refine a4a 60 rfl j9 ?_;refine a1o Y (by decide) Y (a1o Y (by decide) Y (a0q Y Y Y Y (a0f (a0w (fun a ha=> ?_)))));cases ik;exact⟨Y,ha.cut (l:= [1,3,5,7,8,9,10,12,63]) Y⟩
     refine a4a 60 rfl j9 ?_;refine a0a Y Y Y (a1b Y Y Y Y Y (a0l Y Y Y Y (a0f (a0w (fun a ha=> ?_)))));cases ik;exact⟨Y,ha.cut (l:= [1,3,5,7,8,9,10,12,63]) Y⟩
    clear hm;rcases a0g ij with⟨ja,ij⟩|⟨ja,ij⟩
    ·refine a4a 56 rfl ja ?_;refine a1o Y (by decide) Y (a1o Y (by decide) Y (a0q Y Y Y Y (a0f (a0w (fun a ha=> ?_)))));cases ij;exact⟨Y,ha.cut (l:= [1,3,5,7,8,9,10,12,14,59]) Y⟩
    refine a4a 56 rfl ja ?_;refine a0a Y Y Y (a1b Y Y Y Y Y (a0l Y Y Y Y (a0f (a0w (fun a ha=> ?_)))));cases ij;exact⟨Y,ha.cut (l:= [1,3,5,7,8,9,10,12,14,59]) Y⟩
   clear hm;rcases a0g ii with⟨jb,ii⟩|⟨jb,ii⟩
   ·refine a4a 52 rfl jb ?_;refine a1o Y (by decide) Y (a1o Y (by decide) Y (a0q Y Y Y Y (a0f (a0w (fun a ha=> ?_)))));cases ii;exact⟨Y,ha.cut (l:= [1,3,5,6,7,8,9,10,12,14,55]) Y⟩
   refine a4a 52 rfl jb ?_;refine a0a Y Y Y (a1b Y Y Y Y Y (a0l Y Y Y Y (a0f (a0w (fun a ha=> ?_)))));cases ii;exact⟨Y,ha.cut (l:= [1,3,5,6,7,8,9,10,12,14,55]) Y⟩
  clear hm;refine c0j (SH g8 [.box b4 44 [.int .i64 f1,.slice g9 ga gb,.int .i64 f3,.slice gc gd ge],.box b3 34 [.slice h5 h6 h7],.box b2 34 [.slice h2 h3 h4],.box b1 34 [.slice h0 h1 g7]]) 10 Y (by kernel_rfl) kp ?_;intro ok jc;refine d_tk 0 Y (by kernel_rfl) Y Y Y Y (jc.Ys Yf [0,1,2,3] Y Y) (fun _ _ _ _ hq=>b7w ag34 sz34 Y Y hq Y (i:=1) Y Y Yn) (c3m 1 7 Y Y (by kernel_rfl) ?_ ?_)
  ·refine a1n (e:=3) (cs:= [.int .i64 12,.int .i64 3]) (q:=1) rfl rfl jc rfl (fun _=>by kernel_rfl) rfl rfl ?_;intro b16 ld h8;refine a2k (h8.Ys Yf [1,2,3,4] Y Y) (c3m 2 7 Y Y (by kernel_rfl) ?_ ?_)
   ·obtain⟨jz,k,g5,hsx8⟩:=a1v h8 (i:=0) rfl ((show RowN (Rp.int .i64) g8 2 [.int .i64 12,.int .i64 3] [12,3]from⟨rfl,⟨_,_,rfl,rfl,⟨_,_,rfl,rfl,(rfl:RowR (Rp.int .i64) _ [] [])⟩⟩⟩));obtain⟨v24,hv,N⟩:=Yb N;refine a1q ent25 Y Y Y Y g5 (a7a _ _ _ hv g5.sat (hg0.mono g5.le) hsx8) ?_;rintro _ k0 _ k1 m V ⟨k2,k3,k4,xss16,rfl,rfl,h9⟩;refine a2k (V.Ys (k.trans m) [1,2,3,4] Y Y) (c3m 3 7 Y Y (by kernel_rfl) ?_ ?_)
    ·obtain⟨jd,t,T,hsx9⟩:=a1v V (i:=0) rfl h9;have hw:=((hd.trans k).trans m).trans t;obtain⟨v25,gi,N⟩:=Yb N;refine a1q ent13 Y Y Y Y T (a4p _ _ _ _ gi T.sat (hg0.mono T.le) (i0.mono hw) hsx9) ?_;rintro _ je _ jf y K ⟨gj,gk,gl,gm,gn,go,rfl,rfl,gp,gq⟩;have S2:=K.Ys (((k.trans m).trans t).trans y) [0,1,2,3] Y Y;refine a2k S2 (d_tk 4 Y (by kernel_rfl) Y Y Y Y S2 (fun _ _ _ _ _=>a0a Y Y Y Yn) (d_tk 5 Y (by kernel_rfl) Y Y Y Y S2 (fun _ _ _ _ _=>a1f Y Y Y Y Yn) (d_tk 6 Y (by kernel_rfl) Y Y Y Y S2 (fun _ _ _ _ _=>a1f Y Y Y Y Yn) (a3w 7 Y (by kernel_rfl) (a9x ze44 Y Y Y K ?_)))));intro b17 jg Z;refine a2k (Z.Ys (((k.trans m).trans t).trans y) [1,2,3,4] Y Y) (a3w 8 Y (by kernel_rfl) (a5g sz44 Y Z Y Y Y Y (i:=0) Y Y Y Y ?_));intro jh I;refine a2k (I.Ys (((k.trans m).trans t).trans y) [1,2,3,4] Y Y) (d_tk 9 Y (by kernel_rfl) Y Y Y Y (I.Ys (((k.trans m).trans t).trans y) [1,2,3,4] Y Y) (fun _ _ _ _ _=>a0c Y Y Y Yn) (b8l (by kernel_rfl) (a0w (fun a ha=> ?_))));cases N;exact⟨_,b17,gj,gk,gl,gm,gn,go,(((k.trans m).trans t).trans y),I.Yp [0,1,2,3,4] Y Y,gp,gq,ha.cut (l:= [1,2,3,4,5,6,7,8,9,10]) Y⟩
    refine a9x ze44 rfl rfl rfl V ?_;intro b17 jf T;refine a2k (T.Ys (k.trans m) [2,3,4,5] Y Y) (a3w 3 Y (by kernel_rfl) ?_);obtain⟨jd,t,K,hsx9⟩:=a1v T (i:=1) Y h9;have hw:=((hd.trans k).trans m).trans t;obtain⟨v25,gi,N⟩:=Yb N;refine a1q ent13 Y Y Y Y K (a4p _ _ _ _ gi K.sat (hg0.mono K.le) (i0.mono hw) hsx9) ?_;rintro _ je _ jg y Z ⟨gj,gk,gl,gm,gn,go,rfl,rfl,gp,gq⟩;have S3:=Z.Ys (((k.trans m).trans t).trans y) [1,2,3,4] Y Y;refine a2k S3 (d_tk 4 Y (by kernel_rfl) Y Y Y Y S3 (fun _ _ _ _ _=>a0a Y Y Y Yn) (d_tk 5 Y (by kernel_rfl) Y Y Y Y S3 (fun _ _ _ _ _=>a1f Y Y Y Y Yn) (d_tk 6 Y (by kernel_rfl) Y Y Y Y S3 (fun _ _ _ _ _=>a1f Y Y Y Y Yn) (a3w 8 Y (by kernel_rfl) (a5g sz44 Y Z Y Y Y Y (i:=0) Y Y Y Y ?_)))));intro jh I;refine a2k (I.Ys (((k.trans m).trans t).trans y) [1,2,3,4] Y Y) (d_tk 9 Y (by kernel_rfl) Y Y Y Y (I.Ys (((k.trans m).trans t).trans y) [1,2,3,4] Y Y) (fun _ _ _ _ _=>a0c Y Y Y Yn) (b8l (by kernel_rfl) (a0w (fun a ha=> ?_))));cases N;exact⟨_,b17,gj,gk,gl,gm,gn,go,(((k.trans m).trans t).trans y),I.Yp [0,1,2,3,4] Y Y,gp,gq,ha.cut (l:= [1,2,3,4,5,6,7,8,9,10]) Y⟩
   refine a9x ze44 rfl rfl rfl h8 ?_;intro b17 k1 g5;refine a2k (g5.Ys Yf [2,3,4,5] Y Y) (a3w 2 Y (by kernel_rfl) ?_);obtain⟨jz,k,V,hsx8⟩:=a1v g5 (i:=1) Y ((show RowN (Rp.int .i64) g8 2 [.int .i64 12,.int .i64 3] [12,3]from⟨Y,⟨_,_,Y,Y,⟨_,_,Y,Y,(Y:RowR (Rp.int .i64) _ [] [])⟩⟩⟩));obtain⟨v24,hv,N⟩:=Yb N;refine a1q ent25 Y Y Y Y V (a7a _ _ _ hv V.sat (hg0.mono V.le) hsx8) ?_;rintro _ k0 _ jf m T ⟨k2,k3,k4,xss16,rfl,rfl,h9⟩;refine a2k (T.Ys (k.trans m) [2,3,4,5] Y Y) (a3w 3 Y (by kernel_rfl) ?_);obtain⟨jd,t,K,hsx9⟩:=a1v T (i:=0) Y h9;have hw:=((hd.trans k).trans m).trans t;obtain⟨v25,gi,N⟩:=Yb N;refine a1q ent13 Y Y Y Y K (a4p _ _ _ _ gi K.sat (hg0.mono K.le) (i0.mono hw) hsx9) ?_;rintro _ je _ jg y Z ⟨gj,gk,gl,gm,gn,go,rfl,rfl,gp,gq⟩;have S4:=Z.Ys (((k.trans m).trans t).trans y) [1,2,3,4] Y Y;refine a2k S4 (d_tk 4 Y (by kernel_rfl) Y Y Y Y S4 (fun _ _ _ _ _=>a0a Y Y Y Yn) (d_tk 5 Y (by kernel_rfl) Y Y Y Y S4 (fun _ _ _ _ _=>a1f Y Y Y Y Yn) (d_tk 6 Y (by kernel_rfl) Y Y Y Y S4 (fun _ _ _ _ _=>a1f Y Y Y Y Yn) (a3w 8 Y (by kernel_rfl) (a5g sz44 Y Z Y Y Y Y (i:=0) Y Y Y Y ?_)))));intro jh I;refine a2k (I.Ys (((k.trans m).trans t).trans y) [1,2,3,4] Y Y) (d_tk 9 Y (by kernel_rfl) Y Y Y Y (I.Ys (((k.trans m).trans t).trans y) [1,2,3,4] Y Y) (fun _ _ _ _ _=>a0c Y Y Y Yn) (b8l (by kernel_rfl) (a0w (fun a ha=> ?_))));cases N;exact⟨_,b17,gj,gk,gl,gm,gn,go,(((k.trans m).trans t).trans y),I.Yp [0,1,2,3,4] Y Y,gp,gq,ha.cut (l:= [1,2,3,4,5,6,7,8,9,10]) Y⟩
  refine a9x ze44 rfl rfl rfl jc ?_;intro b16 ld h8;refine a2k (h8.Ys Yf [1,2,3,4] Y Y) (a3w 1 Y (by kernel_rfl) (a1n (e:=3) (cs:= [.int .i64 12,.int .i64 3]) (q:=1) Y Y h8 Y (fun _=>by kernel_rfl) Y Y ?_));intro b17 k1 g5;refine a2k (g5.Ys Yf [2,3,4,5] Y Y) (a3w 2 Y (by kernel_rfl) ?_);obtain⟨jz,k,V,hsx8⟩:=a1v g5 (i:=0) Y ((show RowN (Rp.int .i64) g8 2 [.int .i64 12,.int .i64 3] [12,3]from⟨Y,⟨_,_,Y,Y,⟨_,_,Y,Y,(Y:RowR (Rp.int .i64) _ [] [])⟩⟩⟩));obtain⟨v24,hv,N⟩:=Yb N;refine a1q ent25 Y Y Y Y V (a7a _ _ _ hv V.sat (hg0.mono V.le) hsx8) ?_;rintro _ k0 _ jf m T ⟨k2,k3,k4,xss16,rfl,rfl,h9⟩;refine a2k (T.Ys (k.trans m) [2,3,4,5] Y Y) (a3w 3 Y (by kernel_rfl) ?_);obtain⟨jd,t,K,hsx9⟩:=a1v T (i:=0) Y h9;have hw:=((hd.trans k).trans m).trans t;obtain⟨v25,gi,N⟩:=Yb N;refine a1q ent13 Y Y Y Y K (a4p _ _ _ _ gi K.sat (hg0.mono K.le) (i0.mono hw) hsx9) ?_;rintro _ je _ jg y Z ⟨gj,gk,gl,gm,gn,go,rfl,rfl,gp,gq⟩;have S5:=Z.Ys (((k.trans m).trans t).trans y) [1,2,3,4] Y Y;refine a2k S5 (d_tk 4 Y (by kernel_rfl) Y Y Y Y S5 (fun _ _ _ _ _=>a0a Y Y Y Yn) (d_tk 5 Y (by kernel_rfl) Y Y Y Y S5 (fun _ _ _ _ _=>a1f Y Y Y Y Yn) (d_tk 6 Y (by kernel_rfl) Y Y Y Y S5 (fun _ _ _ _ _=>a1f Y Y Y Y Yn) (a3w 8 Y (by kernel_rfl) (a5g sz44 Y Z Y Y Y Y (i:=0) Y Y Y Y ?_)))));intro jh I;refine a2k (I.Ys (((k.trans m).trans t).trans y) [1,2,3,4] Y Y) (d_tk 9 Y (by kernel_rfl) Y Y Y Y (I.Ys (((k.trans m).trans t).trans y) [1,2,3,4] Y Y) (fun _ _ _ _ _=>a0c Y Y Y Yn) (b8l (by kernel_rfl) (a0w (fun a ha=> ?_))));cases N;exact⟨_,b16,gj,gk,gl,gm,gn,go,(((k.trans m).trans t).trans y),I.Yp [0,1,2,3,4] Y Y,gp,gq,ha.cut (l:= [1,2,3,4,5,6,7,8,9,10]) Y⟩
 clear hm;refine c0j (SH i7 [.box b3 34 [.slice h5 h6 h7],.box b2 34 [.slice h2 h3 h4],.box b1 34 [.slice h0 h1 g7]]) 10 Y (by kernel_rfl) lq ?_;intro ol ji;refine d_tk 0 Y (by kernel_rfl) Y Y Y Y (ji.Ys Yf [0,1,2] Y Y) (fun _ _ _ _ hq=>b7w ag34 sz34 Y Y hq Y (i:=1) Y Y Yn) (c3m 1 7 Y Y (by kernel_rfl) ?_ ?_)
 ·refine a1n (e:=3) (cs:= [.int .i64 12,.int .i64 3]) (q:=1) rfl rfl ji rfl (fun _=>by kernel_rfl) rfl rfl ?_;intro b18 lf hb;refine a2k (hb.Ys Yf [1,2,3] Y Y) (c3m 2 7 Y Y (by kernel_rfl) ?_ ?_)
  ·obtain⟨k5,o,g6,hsx10⟩:=a1v hb (i:=0) rfl ((show RowN (Rp.int .i64) i7 2 [.int .i64 12,.int .i64 3] [12,3]from⟨rfl,⟨_,_,rfl,rfl,⟨_,_,rfl,rfl,(rfl:RowR (Rp.int .i64) _ [] [])⟩⟩⟩));obtain⟨v26,hx,M⟩:=Yb M;refine a1q ent25 Y Y Y Y g6 (a7a _ _ _ hx g6.sat (hg0.mono g6.le) hsx10) ?_;rintro _ k6 _ k7 p g0 ⟨k8,k9,ka,xss19,rfl,rfl,hc⟩;refine a2k (g0.Ys (o.trans p) [1,2,3] Y Y) (c3m 3 7 Y Y (by kernel_rfl) ?_ ?_)
   ·obtain⟨jj,u,U,hsx11⟩:=a1v g0 (i:=0) rfl hc;have hy:=((hk.trans o).trans p).trans u;obtain⟨v27,gr,M⟩:=Yb M;refine a1q ent13 Y Y Y Y U (a4p _ _ _ _ gr U.sat (hg0.mono U.le) (i6.mono hy) hsx11) ?_;rintro _ jk _ jl z L ⟨gs,gt,gu,gv,gw,gx,rfl,rfl,gy,gz⟩;have S6:=L.Ys (((o.trans p).trans u).trans z) [0,1,2] Y Y;refine a2k S6 (d_tk 4 Y (by kernel_rfl) Y Y Y Y S6 (fun _ _ _ _ _=>a0a Y Y Y Yn) (d_tk 5 Y (by kernel_rfl) Y Y Y Y S6 (fun _ _ _ _ _=>a1f Y Y Y Y Yn) (d_tk 6 Y (by kernel_rfl) Y Y Y Y S6 (fun _ _ _ _ _=>a1f Y Y Y Y Yn) (a3w 7 Y (by kernel_rfl) (a9x ze44 Y Y Y L ?_)))));intro b19 jm g1;refine a2k (g1.Ys (((o.trans p).trans u).trans z) [1,2,3] Y Y) (a3w 8 Y (by kernel_rfl) (a5g sz44 Y g1 Y Y Y Y (i:=0) Y Y Y Y ?_));intro jn J;refine a2k (J.Ys (((o.trans p).trans u).trans z) [1,2,3] Y Y) (d_tk 9 Y (by kernel_rfl) Y Y Y Y (J.Ys (((o.trans p).trans u).trans z) [1,2,3] Y Y) (fun _ _ _ _ _=>a0c Y Y Y Yn) (b8l (by kernel_rfl) (a0w (fun a ha=> ?_))));cases M;exact⟨_,b19,gs,gt,gu,gv,gw,gx,(((o.trans p).trans u).trans z),J.Yp [0,1,2,3] Y Y,gy,gz,ha.cut (l:= [1,2,3,4,5,6,7,8]) Y⟩
   refine a9x ze44 rfl rfl rfl g0 ?_;intro b19 jl U;refine a2k (U.Ys (o.trans p) [2,3,4] Y Y) (a3w 3 Y (by kernel_rfl) ?_);obtain⟨jj,u,L,hsx11⟩:=a1v U (i:=1) Y hc;have hy:=((hk.trans o).trans p).trans u;obtain⟨v27,gr,M⟩:=Yb M;refine a1q ent13 Y Y Y Y L (a4p _ _ _ _ gr L.sat (hg0.mono L.le) (i6.mono hy) hsx11) ?_;rintro _ jk _ jm z g1 ⟨gs,gt,gu,gv,gw,gx,rfl,rfl,gy,gz⟩;have S7:=g1.Ys (((o.trans p).trans u).trans z) [1,2,3] Y Y;refine a2k S7 (d_tk 4 Y (by kernel_rfl) Y Y Y Y S7 (fun _ _ _ _ _=>a0a Y Y Y Yn) (d_tk 5 Y (by kernel_rfl) Y Y Y Y S7 (fun _ _ _ _ _=>a1f Y Y Y Y Yn) (d_tk 6 Y (by kernel_rfl) Y Y Y Y S7 (fun _ _ _ _ _=>a1f Y Y Y Y Yn) (a3w 8 Y (by kernel_rfl) (a5g sz44 Y g1 Y Y Y Y (i:=0) Y Y Y Y ?_)))));intro jn J;refine a2k (J.Ys (((o.trans p).trans u).trans z) [1,2,3] Y Y) (d_tk 9 Y (by kernel_rfl) Y Y Y Y (J.Ys (((o.trans p).trans u).trans z) [1,2,3] Y Y) (fun _ _ _ _ _=>a0c Y Y Y Yn) (b8l (by kernel_rfl) (a0w (fun a ha=> ?_))));cases M;exact⟨_,b19,gs,gt,gu,gv,gw,gx,(((o.trans p).trans u).trans z),J.Yp [0,1,2,3] Y Y,gy,gz,ha.cut (l:= [1,2,3,4,5,6,7,8]) Y⟩
  refine a9x ze44 rfl rfl rfl hb ?_;intro b19 k7 g6;refine a2k (g6.Ys Yf [2,3,4] Y Y) (a3w 2 Y (by kernel_rfl) ?_);obtain⟨k5,o,g0,hsx10⟩:=a1v g6 (i:=1) Y ((show RowN (Rp.int .i64) i7 2 [.int .i64 12,.int .i64 3] [12,3]from⟨Y,⟨_,_,Y,Y,⟨_,_,Y,Y,(Y:RowR (Rp.int .i64) _ [] [])⟩⟩⟩));obtain⟨v26,hx,M⟩:=Yb M;refine a1q ent25 Y Y Y Y g0 (a7a _ _ _ hx g0.sat (hg0.mono g0.le) hsx10) ?_;rintro _ k6 _ jl p U ⟨k8,k9,ka,xss19,rfl,rfl,hc⟩;refine a2k (U.Ys (o.trans p) [2,3,4] Y Y) (a3w 3 Y (by kernel_rfl) ?_);obtain⟨jj,u,L,hsx11⟩:=a1v U (i:=0) Y hc;have hy:=((hk.trans o).trans p).trans u;obtain⟨v27,gr,M⟩:=Yb M;refine a1q ent13 Y Y Y Y L (a4p _ _ _ _ gr L.sat (hg0.mono L.le) (i6.mono hy) hsx11) ?_;rintro _ jk _ jm z g1 ⟨gs,gt,gu,gv,gw,gx,rfl,rfl,gy,gz⟩;have S8:=g1.Ys (((o.trans p).trans u).trans z) [1,2,3] Y Y;refine a2k S8 (d_tk 4 Y (by kernel_rfl) Y Y Y Y S8 (fun _ _ _ _ _=>a0a Y Y Y Yn) (d_tk 5 Y (by kernel_rfl) Y Y Y Y S8 (fun _ _ _ _ _=>a1f Y Y Y Y Yn) (d_tk 6 Y (by kernel_rfl) Y Y Y Y S8 (fun _ _ _ _ _=>a1f Y Y Y Y Yn) (a3w 8 Y (by kernel_rfl) (a5g sz44 Y g1 Y Y Y Y (i:=0) Y Y Y Y ?_)))));intro jn J;refine a2k (J.Ys (((o.trans p).trans u).trans z) [1,2,3] Y Y) (d_tk 9 Y (by kernel_rfl) Y Y Y Y (J.Ys (((o.trans p).trans u).trans z) [1,2,3] Y Y) (fun _ _ _ _ _=>a0c Y Y Y Yn) (b8l (by kernel_rfl) (a0w (fun a ha=> ?_))));cases M;exact⟨_,b19,gs,gt,gu,gv,gw,gx,(((o.trans p).trans u).trans z),J.Yp [0,1,2,3] Y Y,gy,gz,ha.cut (l:= [1,2,3,4,5,6,7,8]) Y⟩
 refine a9x ze44 rfl rfl rfl ji ?_;intro b18 lf hb;refine a2k (hb.Ys Yf [1,2,3] Y Y) (a3w 1 Y (by kernel_rfl) (a1n (e:=3) (cs:= [.int .i64 12,.int .i64 3]) (q:=1) Y Y hb Y (fun _=>by kernel_rfl) Y Y ?_));intro b19 k7 g6;refine a2k (g6.Ys Yf [2,3,4] Y Y) (a3w 2 Y (by kernel_rfl) ?_);obtain⟨k5,o,g0,hsx10⟩:=a1v g6 (i:=0) Y ((show RowN (Rp.int .i64) i7 2 [.int .i64 12,.int .i64 3] [12,3]from⟨Y,⟨_,_,Y,Y,⟨_,_,Y,Y,(Y:RowR (Rp.int .i64) _ [] [])⟩⟩⟩));obtain⟨v26,hx,M⟩:=Yb M;refine a1q ent25 Y Y Y Y g0 (a7a _ _ _ hx g0.sat (hg0.mono g0.le) hsx10) ?_;rintro _ k6 _ jl p U ⟨k8,k9,ka,xss19,rfl,rfl,hc⟩;refine a2k (U.Ys (o.trans p) [2,3,4] Y Y) (a3w 3 Y (by kernel_rfl) ?_);obtain⟨jj,u,L,hsx11⟩:=a1v U (i:=0) Y hc;have hy:=((hk.trans o).trans p).trans u;obtain⟨v27,gr,M⟩:=Yb M;refine a1q ent13 Y Y Y Y L (a4p _ _ _ _ gr L.sat (hg0.mono L.le) (i6.mono hy) hsx11) ?_;rintro _ jk _ jm z g1 ⟨gs,gt,gu,gv,gw,gx,rfl,rfl,gy,gz⟩;have S9:=g1.Ys (((o.trans p).trans u).trans z) [1,2,3] Y Y;refine a2k S9 (d_tk 4 Y (by kernel_rfl) Y Y Y Y S9 (fun _ _ _ _ _=>a0a Y Y Y Yn) (d_tk 5 Y (by kernel_rfl) Y Y Y Y S9 (fun _ _ _ _ _=>a1f Y Y Y Y Yn) (d_tk 6 Y (by kernel_rfl) Y Y Y Y S9 (fun _ _ _ _ _=>a1f Y Y Y Y Yn) (a3w 8 Y (by kernel_rfl) (a5g sz44 Y g1 Y Y Y Y (i:=0) Y Y Y Y ?_)))));intro jn J;refine a2k (J.Ys (((o.trans p).trans u).trans z) [1,2,3] Y Y) (d_tk 9 Y (by kernel_rfl) Y Y Y Y (J.Ys (((o.trans p).trans u).trans z) [1,2,3] Y Y) (fun _ _ _ _ _=>a0c Y Y Y Yn) (b8l (by kernel_rfl) (a0w (fun a ha=> ?_))));cases M;exact⟨_,b18,gs,gt,gu,gv,gw,gx,(((o.trans p).trans u).trans z),J.Yp [0,1,2,3] Y Y,gy,gz,ha.cut (l:= [1,2,3,4,5,6,7,8]) Y⟩
theorem d2r(n:Nat):FnC Wt 8 [] (b3v n) (fun r=> .ob r):=⟨fun _ _=>by kernel_rfl,fun r hm w F hs hg us hu=>by
 obtain rfl:=hu;exact(c7m n r hm hs (hg)).mono fun e w'⟨v,F',O',e1,e2,e3⟩=>by
  obtain⟨rfl,rfl⟩:=e3;exact⟨_,F',e1,e2,rfl⟩⟩
set_option linter.unusedVariables false
def a7o(n:Nat)(t1:Tariff)(names1:(List Bs))(f1:Facts)(weights1:(List Frac))(x1:Form):Option Bool:= (b3v n).bind fun v1=> (b6c n t1 names1 f1 weights1).bind fun v2=> (bif !v2 then some true else (b0e n x1).bind fun v14=> some (!v14)).bind fun v3=> bif v3 then some v1 else (a6k n t1 names1 f1).bind fun v4=> (a8u n t1 names1 f1).bind fun v5=> (a9s n x1 weights1).bind fun v6=> (c0b n x1 weights1).bind fun v7=> (bif v1 then some (v4.2==v5.2) else some false).bind fun v8=> (bif v8 then (b4k n v4.1 v5.1).bind fun v13=> some v13 else some false).bind fun v9=> (bif v9 then some (v6.2==v7.2) else some false).bind fun v10=> (bif v10 then (a4c n v6.1 v7.1).bind fun v12=> some v12 else some false).bind fun v11=> some v11
set_option maxRecDepth 1000000
set_option maxHeartbeats 40000000
theorem c1x(n:Nat)(t1:Tariff)(names1:(List Bs))(f1:Facts)(weights1:(List Frac))(x1:Form):FnC Wt 3 [.agg [.str t1.Name,.int .i64 t1.Fee.Op,.int .i64 t1.Fee.N,.str t1.Fee.Name,.sl 0 t1.Fee.Args,.int .i64 t1.Cap],.sl 1 names1,.agg [.sl 2 f1.Lifts,.int .i64 f1.Persons,.int .i64 f1.Flats],.sl 3 weights1,.agg [.sl 4 x1.Pieces]] (a7o n t1 names1 f1 weights1 x1) (fun r=> .ob r):=by
 refine fk (n:=80) Tryz.func3 fun F0 w0 r=> ?_;unfold a7o;refine gK (d2r _) Y Y Y fun v1=> ?_;refine gK (d3i _ _ _ _ _) Y Y Y fun v2=> ?_;refine gJ 4 (fun v3=> [.v 31 (.ob v3)]) Y (fun _=>Y) (fun J1 hJ1=> ?_) (fun v3=> ?_)
 ·refine gd Y ?_ ?_
  ·exact gx hJ1
  refine gA ?_;refine gK (c4x _ _) Y Y Y fun v14=> ?_;exact gx hJ1
 refine gc Y ?_ ?_
 ·exact gr
 refine gK (c5i _ _ _ _) Y Y Y fun v4=> ?_;refine gK (d7z _ _ _ _) Y Y Y fun v5=> ?_;refine gK (c6s _ _ _) Y Y Y fun v6=> ?_;refine gK (d7n _ _ _) Y Y Y fun v7=> ?_;refine gJ 4 (fun v8=> [.v 64 (.ob v8)]) Y (fun _=>Y) (fun J2 hJ2=> ?_) (fun v8=> ?_)
 ·refine gd Y ?_ ?_
  ·exact gx hJ2
  exact gx hJ2
 refine gJ 4 (fun v9=> [.v 69 (.ob v9)]) Y (fun _=>Y) (fun J3 hJ3=> ?_) (fun v9=> ?_)
 ·refine gd Y ?_ ?_
  ·refine gA ?_;refine gK (d1b _ _ _) Y Y Y fun v13=> ?_;exact gx hJ3
  exact gx hJ3
 refine gJ 4 (fun v10=> [.v 74 (.ob v10)]) Y (fun _=>Y) (fun J4 hJ4=> ?_) (fun v10=> ?_)
 ·refine gd Y ?_ ?_
  ·exact gx hJ4
  exact gx hJ4
 refine gJ 4 (fun v11=> [.v 79 (.ob v11)]) Y (fun _=>Y) (fun J5 hJ5=> ?_) (fun v11=> ?_)
 ·refine gd Y ?_ ?_
  ·refine gA ?_;refine gK (b1c _ _ _) Y Y Y fun v12=> ?_;exact gx hJ5
  exact gx hJ5
 exact gr
theorem law37_FormTells_ok'(n:Nat)(t1:Tariff)(names1:(List Bs))(f1:Facts)(weights1:(List Frac))(x1:Form)(r:Bool)(hm:a7o n t1 names1 f1 weights1 x1=some r){w:World}{F:Frz}(hs:Sat F w){as1:Option Addr}{ns1:Nat}{cs1:Nat}{as2:Option Addr}{ns2:Nat}{cs2:Nat}{as3:Option Addr}{ns3:Nat}{cs3:Nat}{as4:Option Addr}{ns4:Nat}{cs4:Nat}{as5:Option Addr}{ns5:Nat}{cs5:Nat}(hs1:SlR rp_Expr F as1 ns1 cs1 t1.Fee.Args)(hs2:SlR Rp.str F as2 ns2 cs2 names1)(hs3:SlR (Rp.int .i64) F as3 ns3 cs3 f1.Lifts)(hs4:SlR rp_Frac F as4 ns4 cs4 weights1)(hs5:SlR (Rp.sl rp_Affine) F as5 ns5 cs5 x1.Pieces)(hg0:FX F 0 [.int .u8 40,.int .u8 41,.int .u8 44,.int .u8 59,.int .u8 58,.int .u8 61,.int .u8 60,.int .u8 43,.int .u8 45,.int .u8 42,.int .u8 47,.int .u8 123,.int .u8 125]):
 Calls Tryz.prog 3 #[.agg #[vs t1.Name,.int .i64 t1.Fee.Op,.int .i64 t1.Fee.N,vs t1.Fee.Name,.slice as1 ns1 cs1,.int .i64 t1.Cap],.slice as2 ns2 cs2,.agg #[.slice as3 ns3 cs3,.int .i64 f1.Persons,.int .i64 f1.Flats],.slice as4 ns4 cs4,.agg #[.slice as5 ns5 cs5]] w fun e w'=>∃v F' O',e= .returned v/\HS F w [] F' O' w'/\(v= .bool r/\O'= []):=
 (c1x n t1 names1 f1 weights1 x1).2 r hm w F hs hg0 _ ⟨_,_,rfl,⟨_,rfl,⟨_,_,rfl,rfl,⟨_,_,rfl,rfl,⟨_,_,rfl,rfl,⟨_,_,rfl,rfl,⟨_,_,rfl,⟨_,_,_,rfl,hs1⟩,⟨_,_,rfl,rfl,rfl⟩⟩⟩⟩⟩⟩⟩,⟨_,_,rfl,⟨_,_,_,rfl,hs2⟩,⟨_,_,rfl,⟨_,rfl,⟨_,_,rfl,⟨_,_,_,rfl,hs3⟩,⟨_,_,rfl,rfl,⟨_,_,rfl,rfl,rfl⟩⟩⟩⟩,⟨_,_,rfl,⟨_,_,_,rfl,hs4⟩,⟨_,_,rfl,⟨_,rfl,⟨_,_,rfl,⟨_,_,_,rfl,hs5⟩,rfl⟩⟩,rfl⟩⟩⟩⟩⟩|>.mono fun e w'⟨v,F',e1,e2,e3⟩=>⟨v,F',[],e1,e2,e3,rfl⟩
end M
namespace Fm
open Go
abbrev RA:=Rat×List Rat
abbrev RFm:=List (List RA)
def dot:List Rat->List Rat->Rat |c::cs,w::ws=>c*w+dot cs ws |_,_=>0
def evA(w:List Rat)(a:RA):Rat:=a.1+dot a.2 w
def IsV(f:RFm)(w:List Rat)(v:Rat):Prop:=(∀p,p∈f->∃a,a∈p/\v<=evA w a)/\∃p,p∈f/\∀a,a∈p->evA w a<=v
theorem IsV.uniq{f:RFm}{w:List Rat}{u v:Rat}(h:IsV f w u)(k:IsV f w v):u=v:=by
 have go:∀{u v:Rat},IsV f w u->IsV f w v->u<=v:=by
  intro u v ⟨h1,_⟩ ⟨_,p,hp,h2⟩;obtain⟨a,ha,h3⟩:=h1 p hp;exact Rat.le_trans h3 (h2 a ha)
 exact Rat.le_antisymm (go h k) (go k h)
def cst(n:Nat)(c:Rat):RFm:= [[(c,List.replicate n 0)]]
def wgt(n k:Nat):RFm:= [[(0,(List.replicate n 0).set k 1)]]
def mulA(c:Rat)(a:RA):RA:=(a.1*c,a.2.map (·*c))
def addA(a b:RA):RA:=(a.1+b.1,List.zipWith (·+·) a.2 b.2)
def scl(c:Rat)(f:RFm):RFm:=f.map (·.map (mulA c))
def sz:RFm->Nat | []=>0 |p::f=>p.length+sz f
def step(cs:RFm)(l:List RA):RFm:=cs.flatMap fun ch=>l.map fun a=>ch++ [mulA (-1) a]
def opp(f:RFm):RFm:=f.foldl step [[]]
def join(op:List RA->List RA->List RA)(f g:RFm):RFm:=f.flatMap fun x=>g.map fun y=>op x y
def sums(x y:List RA):List RA:=x.flatMap fun a=>y.map fun b=>addA a b
theorem dot_zero:∀(n:Nat)(w:List Rat),dot (List.replicate n 0) w=0
 |0,_=>rfl
 |n+1,[]=>rfl
 |n+1,x::w=>by
  show 0*x+dot (List.replicate n 0) w=0;rw [dot_zero n w,Rat.zero_mul,Rat.add_zero]
theorem dot_unit:∀(n k:Nat)(w:List Rat)(x:Rat),w.length=n->w[k]?=some x->dot ((List.replicate n 0).set k 1) w=x
 |0,k,[],x,_,h=>by simp at h
 |n+1,0,y::w,x,_,h=>by
  simp only [List.getElem?_cons_zero,Option.some.injEq]at h;subst h;show 1*y+dot (List.replicate n 0) w=y;rw [dot_zero,Rat.one_mul,Rat.add_zero]
 |n+1,k+1,y::w,x,hl,h=>by
  show 0*y+dot ((List.replicate n 0).set k 1) w=x;rw [dot_unit n k w x (by simpa using hl) (by simpa using h),Rat.zero_mul,Rat.zero_add]
 |0,_,_::_,_,h,_=>by simp at h
 |_+1,_,[],_,h,_=>by simp at h
theorem e2u(c:Rat):∀(a w:List Rat),dot (a.map (·*c)) w=dot a w*c
 | [],_=>by simp [dot,Rat.zero_mul]
 |_::_,[]=>by simp [dot,Rat.zero_mul]
 |x::a,y::w=>by
  show x*c*y+dot (a.map (·*c)) w=(x*y+dot a w)*c;rw [e2u c a w];grind
theorem dot_add:∀(a b w:List Rat),a.length=b.length->dot (List.zipWith (·+·) a b) w=dot a w+dot b w
 | [],[],_,_=>by simp [dot,Rat.zero_add]
 |x::a,y::b,[],_=>by simp [dot,Rat.zero_add]
 |x::a,y::b,z::w,h=>by
  show(x+y)*z+dot (List.zipWith (·+·) a b) w=(x*z+dot a w)+(y*z+dot b w)
  rw [dot_add a b w (by simpa using h)];grind
 | [],_::_,_,h=>by simp at h
 |_::_,[],_,h=>by simp at h
theorem d5u(w:List Rat)(c:Rat)(a:RA):evA w (mulA c a)=evA w a*c:=by
 unfold evA mulA;dsimp only;rw [e2u];grind
theorem e7j(w:List Rat){a b:RA}(h:a.2.length=b.2.length):evA w (addA a b)=evA w a+evA w b:=by
 unfold evA addA;dsimp only;rw [dot_add _ _ _ h];grind
theorem e9c(n:Nat)(c:Rat)(w:List Rat):IsV (cst n c) w c:=by
 have h:evA w (c,List.replicate n 0)=c:=by unfold evA;dsimp only;rw [dot_zero,Rat.add_zero]
 refine⟨fun p hp=> ?_,_,List.mem_singleton.2 rfl,fun a ha=> ?_⟩
 ·obtain rfl:=List.mem_singleton.1 hp;exact⟨_,List.mem_singleton.2 rfl,by rw [h];exact Rat.le_refl⟩
 obtain rfl:=List.mem_singleton.1 ha;rw [h];exact Rat.le_refl
theorem f1d{n k:Nat}{w:List Rat}{x:Rat}(hl:w.length=n)(hx:w[k]?=some x):IsV (wgt n k) w x:=by
 have h:evA w (0,(List.replicate n 0).set k 1)=x:=by unfold evA;dsimp only;rw [dot_unit n k w x hl hx,Rat.zero_add]
 refine⟨fun p hp=> ?_,_,List.mem_singleton.2 rfl,fun a ha=> ?_⟩
 ·obtain rfl:=List.mem_singleton.1 hp;exact⟨_,List.mem_singleton.2 rfl,by rw [h];exact Rat.le_refl⟩
 obtain rfl:=List.mem_singleton.1 ha;rw [h];exact Rat.le_refl
section
variable{f g:RFm}{w:List Rat}{u v:Rat}
theorem d4k(h:IsV f w u)(k:IsV g w v):IsV (f++g) w (if v<u then v else u):=by
 obtain⟨h1,p,hp,h2⟩:=h;obtain⟨k1,q,hq,k2⟩:=k;split
 ·rename_i hlt;refine⟨fun r hr=> ?_,q,List.mem_append_right _ hq,k2⟩;rcases List.mem_append.1 hr with hr|hr
  ·obtain⟨a,ha,h3⟩:=h1 r hr;exact⟨a,ha,Rat.le_trans (Rat.le_of_lt hlt) h3⟩
  exact k1 r hr
 rename_i hlt;refine⟨fun r hr=> ?_,p,List.mem_append_left _ hp,h2⟩;rcases List.mem_append.1 hr with hr|hr
 ·exact h1 r hr
 obtain⟨a,ha,h3⟩:=k1 r hr;exact⟨a,ha,Rat.le_trans (Rat.not_lt.1 hlt) h3⟩
theorem b2z{op:List RA->List RA->List RA}{r:List RA}:r∈join op f g↔∃x y,x∈f/\y∈g/\r=op x y:=by
 unfold join;simp only [List.mem_flatMap,List.mem_map];constructor
 ·rintro⟨x,hx,y,hy,rfl⟩;exact⟨x,y,hx,hy,rfl⟩
 rintro⟨x,y,hx,hy,rfl⟩;exact⟨x,hx,y,hy,rfl⟩
theorem f0o(h:IsV f w u)(k:IsV g w v):IsV (join (·++·) f g) w (if u<v then v else u):=by
 obtain⟨h1,p,hp,h2⟩:=h;obtain⟨k1,q,hq,k2⟩:=k;constructor
 ·intro r hr;obtain⟨x,y,hx,hy,rfl⟩:=b2z.1 hr;split
  ·obtain⟨a,ha,h3⟩:=k1 y hy;exact⟨a,List.mem_append_right _ ha,h3⟩
  obtain⟨a,ha,h3⟩:=h1 x hx;exact⟨a,List.mem_append_left _ ha,h3⟩
 refine⟨p++q,b2z.2 ⟨p,q,hp,hq,rfl⟩,fun a ha=> ?_⟩;rcases List.mem_append.1 ha with ha|ha
 ·have:=h2 a ha;split
  ·rename_i hlt;exact Rat.le_trans this (Rat.le_of_lt hlt)
  exact this
 have:=k2 a ha;split
 ·exact this
 rename_i hlt;exact Rat.le_trans this (Rat.not_lt.1 hlt)
theorem c4a{x y:List RA}{r:RA}:r∈sums x y↔∃a b,a∈x/\b∈y/\r=addA a b:=by
 unfold sums;simp only [List.mem_flatMap,List.mem_map];constructor
 ·rintro⟨x,hx,y,hy,rfl⟩;exact⟨x,y,hx,hy,rfl⟩
 rintro⟨x,y,hx,hy,rfl⟩;exact⟨x,hx,y,hy,rfl⟩
def Wide(n:Nat)(f:RFm):Prop:=∀p,p∈f->∀a,a∈p->a.2.length=n
theorem e1p{n:Nat}(hf:Wide n f)(hg:Wide n g)(h:IsV f w u)(k:IsV g w v):IsV (join sums f g) w (u+v):=by
 obtain⟨h1,p,hp,h2⟩:=h;obtain⟨k1,q,hq,k2⟩:=k;constructor
 ·intro r hr;obtain⟨x,y,hx,hy,rfl⟩:=b2z.1 hr;obtain⟨a,ha,h3⟩:=h1 x hx;obtain⟨b,hb,h4⟩:=k1 y hy;refine⟨addA a b,c4a.2 ⟨a,b,ha,hb,rfl⟩,?_⟩;rw [e7j w (by rw [hf x hx a ha,hg y hy b hb])]
  grind
 refine⟨sums p q,b2z.2 ⟨p,q,hp,hq,rfl⟩,fun r hr=> ?_⟩;obtain⟨a,b,ha,hb,rfl⟩:=c4a.1 hr;have h3:=h2 a ha;have h4:=k2 b hb;rw [e7j w (by rw [hf p hp a ha,hg q hq b hb])]
 grind
theorem d3h{c:Rat}(hc:0<c)(h:IsV f w u):IsV (scl c f) w (u*c):=by
 obtain⟨h1,p,hp,h2⟩:=h;unfold scl;constructor
 ·intro r hr;obtain⟨x,hx,rfl⟩:=List.mem_map.1 hr;obtain⟨a,ha,h3⟩:=h1 x hx;refine⟨mulA c a,List.mem_map.2 ⟨a,ha,rfl⟩,?_⟩;rw [d5u];exact Rat.mul_le_mul_of_nonneg_right h3 (Rat.le_of_lt hc)
 refine⟨_,List.mem_map.2 ⟨p,hp,rfl⟩,fun r hr=> ?_⟩;obtain⟨a,ha,rfl⟩:=List.mem_map.1 hr;rw [d5u];exact Rat.mul_le_mul_of_nonneg_right (h2 a ha) (Rat.le_of_lt hc)
inductive Ch:RFm->List RA->Prop
 |nil:Ch [] []
 |cons {l:List RA} {f:RFm} {a:RA} {d:List RA}:a∈l->Ch f d->Ch (l::f) (mulA (-1) a::d)
theorem d5y{r:List RA}:∀{f cs:RFm},r∈f.foldl step cs↔∃ch d,ch∈cs/\Ch f d/\r=ch++d
 | [],cs=>by
  constructor
  ·intro h;exact⟨r,[],h,Ch.nil,by simp⟩
  rintro⟨ch,d,h1,h2,rfl⟩;cases h2;simpa using h1
 |l::f,cs=>by
  rw [List.foldl_cons,d5y];constructor
  ·rintro⟨ch,d,h1,h2,rfl⟩;unfold step at h1;obtain⟨c0,h3,h4⟩:=List.mem_flatMap.1 h1;obtain⟨a,ha,rfl⟩:=List.mem_map.1 h4;exact⟨c0,mulA (-1) a::d,h3,Ch.cons ha h2,by simp⟩
  rintro⟨ch,d,h1,h2,rfl⟩;cases h2 with
  | @cons _ _ a d ha h2=>
   refine⟨ch++ [mulA (-1) a],d,?_,h2,by simp⟩;unfold step;exact List.mem_flatMap.2 ⟨ch,h1,List.mem_map.2 ⟨a,ha,rfl⟩⟩
theorem b9m{r:List RA}:r∈opp f↔Ch f r:=by
 unfold opp;rw [d5y];constructor
 ·rintro⟨ch,d,h1,h2,rfl⟩;obtain rfl:=List.mem_singleton.1 h1;simpa using h2
 intro h;exact⟨[],r,by simp,h,by simp⟩
theorem Ch.has{r p:List RA}(h:Ch f r)(hp:p∈f):∃a,a∈p/\mulA (-1) a∈r:=by
 induction h with
 |nil=>cases hp
 | @cons l f a d ha _ ih=>
  rcases List.mem_cons.1 hp with rfl|hp
  ·exact⟨a,ha,by simp⟩
  obtain⟨b,hb,h2⟩:=ih hp;exact⟨b,hb,by simp [h2]⟩
theorem Ch.all{r:List RA}(h:Ch f r):∀x,x∈r->∃p a,p∈f/\a∈p/\x=mulA (-1) a:=by
 induction h with
 |nil=>intro x hx;cases hx
 | @cons l f a d ha _ ih=>
  intro x hx;rcases List.mem_cons.1 hx with rfl|hx
  ·exact⟨l,a,by simp,ha,rfl⟩
  obtain⟨p,b,hp,hb,e⟩:=ih x hx;exact⟨p,b,by simp [hp],hb,e⟩
theorem Ch.pick{P:RA->Prop}:∀{f:RFm},(∀p,p∈f->∃a,a∈p/\P a)->∃r,Ch f r/\∀x,x∈r->∃a,P a/\x=mulA (-1) a
 | [],_=>⟨[],Ch.nil,by simp⟩
 |l::f,h=>by
  obtain⟨a,ha,hP⟩:=h l (by simp);obtain⟨r,hr,h2⟩:=Ch.pick (f:=f) (fun p hp=>h p (by simp [hp]));refine⟨_,Ch.cons ha hr,fun x hx=> ?_⟩;rcases List.mem_cons.1 hx with rfl|hx
  ·exact⟨a,hP,rfl⟩
  exact h2 x hx
theorem e0a(h:IsV f w u):IsV (opp f) w (-u):=by
 obtain⟨h1,p,hp,h2⟩:=h;constructor
 ·intro r hr;obtain⟨a,ha,h3⟩:=(b9m.1 hr).has hp;refine⟨_,h3,?_⟩;rw [d5u];have:=h2 a ha
  grind
 obtain⟨r,hr,h3⟩:=Ch.pick h1;refine⟨r,b9m.2 hr,fun x hx=> ?_⟩;obtain⟨a,ha,rfl⟩:=h3 x hx;rw [d5u]
 grind
theorem e6t{n:Nat}{c:Rat}(h:Wide n f):Wide n (scl c f):=by
 intro p hp a ha;unfold scl at hp;obtain⟨x,hx,rfl⟩:=List.mem_map.1 hp;obtain⟨b,hb,rfl⟩:=List.mem_map.1 ha;show(b.2.map _).length=n;rw [List.length_map];exact h x hx b hb
theorem sz_app:∀(f g:RFm),sz (f++g)=sz f+sz g
 | [],g=>by simp [sz]
 |p::f,g=>by show p.length+sz (f++g)=p.length+sz f+sz g;rw [sz_app f g];omega
theorem e7v(h:List RA->List RA)(k:Nat)(hk:∀x,(h x).length=x.length+k):∀g:RFm,sz (g.map h)=sz g+k*g.length
 | []=>by simp [sz]
 |p::g=>by
  show(h p).length+sz (g.map h)=p.length+sz g+k*(g.length+1);rw [e7v h k hk g,hk,Nat.mul_add,Nat.mul_one];omega
theorem d9i(h:List RA->List RA)(k:Nat)(hk:∀x,(h x).length=k*x.length):∀g:RFm,sz (g.map h)=k*sz g
 | []=>by simp [sz]
 |p::g=>by
  show(h p).length+sz (g.map h)=k*(p.length+sz g);rw [d9i h k hk g,hk,Nat.mul_add]
theorem c4p(op:List RA->List RA->List RA)(x:List RA)(f g:RFm):join op (x::f) g=g.map (op x)++join op f g:=rfl
theorem sz_both:∀f g:RFm,sz (join (·++·) f g)=sz f*g.length+sz g*f.length
 | [],g=>by show 0=0*g.length+sz g*0;omega
 |x::f,g=>by
  rw [c4p,sz_app,sz_both f g,e7v (x++·) x.length (fun y=>by rw [List.length_append];omega)];show sz g+x.length*g.length+(sz f*g.length+sz g*f.length)=(x.length+sz f)*g.length+sz g*(f.length+1);rw [Nat.add_mul,Nat.mul_add];omega
theorem sums_len:∀x y:List RA,(sums x y).length=x.length*y.length
 | [],y=>by simp [sums]
 |a::x,y=>by
  show(y.map (addA a)++sums x y).length=(x.length+1)*y.length;rw [List.length_append,List.length_map,sums_len x y,Nat.add_mul];omega
theorem sz_sums:∀f g:RFm,sz (join sums f g)=sz f*sz g
 | [],g=>by show 0=0*sz g;omega
 |x::f,g=>by
  rw [c4p,sz_app,sz_sums f g,d9i (sums x) x.length (fun y=>sums_len x y)];show x.length*sz g+sz f*sz g=(x.length+sz f)*sz g;rw [Nat.add_mul]
theorem d2w{c:Rat}:∀f:RFm,sz (scl c f)=sz f
 | []=>rfl
 |p::f=>by show(p.map _).length+sz (scl c f)=p.length+sz f;rw [d2w f,List.length_map]
theorem f0g{c:Rat}:(scl c f).length=f.length:=List.length_map ..
theorem c3t{op:List RA->List RA->List RA}:∀f g:RFm,(join op f g).length=f.length*g.length
 | [],g=>by simp [join]
 |x::f,g=>by rw [c4p,List.length_append,List.length_map,c3t f g,List.length_cons,Nat.add_mul];omega
theorem f1w{l:RFm}{k:Nat}(h:∀p,p∈l->p.length=k):sz l=l.length*k:=by
 induction l with
 |nil=>simp [sz]
 |cons p l ih=>
  show p.length+sz l=(l.length+1)*k;rw [ih (fun q hq=>h q (by simp [hq])),h p (by simp),Nat.add_mul];omega
theorem Ch.len{r:List RA}(h:Ch f r):r.length=f.length:=by
 induction h with
 |nil=>rfl
 |cons _ _ ih=>simp [ih]
def prd:RFm->Nat | []=>1 |p::f=>p.length*prd f
theorem c8w(cs:RFm)(l:List RA):(step cs l).length=cs.length*l.length:=by
 unfold step;induction cs with
 |nil=>simp
 |cons c cs ih=>rw [List.flatMap_cons,List.length_append,List.length_map,ih,List.length_cons,Nat.add_mul];omega
theorem fold_len:∀(f cs:RFm),(f.foldl step cs).length=cs.length*prd f
 | [],cs=>by simp [prd]
 |l::f,cs=>by
  rw [List.foldl_cons,fold_len f,c8w];show cs.length*l.length*prd f=cs.length*(l.length*prd f);rw [Nat.mul_assoc]
theorem c2d(f:RFm):(opp f).length=prd f:=by unfold opp;rw [fold_len];simp
theorem e7n(f:RFm):sz (opp f)=prd f*f.length:=by rw [f1w (k:=f.length) (fun p hp=>(b9m.1 hp).len),c2d]
theorem d7a{n:Nat}(h:Wide n f):Wide n (opp f):=by
 intro p hp a ha;obtain⟨q,b,hq,hb,rfl⟩:=(b9m.1 hp).all a ha;show(b.2.map _).length=n;rw [List.length_map];exact h q hq b hb
theorem e6q{n:Nat}(h:Wide n f)(k:Wide n g):Wide n (f++g):=by
 intro p hp;rcases List.mem_append.1 hp with hp|hp
 ·exact h p hp
 exact k p hp
theorem e0b{n:Nat}(h:Wide n f)(k:Wide n g):Wide n (join (·++·) f g):=by
 intro p hp a ha;obtain⟨x,y,hx,hy,rfl⟩:=b2z.1 hp;rcases List.mem_append.1 ha with ha|ha
 ·exact h x hx a ha
 exact k y hy a ha
theorem e4u{n:Nat}{a b:RA}(h:a.2.length=n)(k:b.2.length=n):(addA a b).2.length=n:=by
 unfold addA;simp [h,k]
theorem e2k{n:Nat}(h:Wide n f)(k:Wide n g):Wide n (join sums f g):=by
 intro p hp a ha;obtain⟨x,y,hx,hy,rfl⟩:=b2z.1 hp;obtain⟨b,c,hb,hc,rfl⟩:=c4a.1 ha;exact e4u (h x hx b hb) (k y hy c hc)
theorem e5a(n:Nat)(c:Rat):Wide n (cst n c):=by
 intro p hp a ha;obtain rfl:=List.mem_singleton.1 hp;obtain rfl:=List.mem_singleton.1 ha;simp
theorem e5t(n k:Nat):Wide n (wgt n k):=by
 intro p hp a ha;obtain rfl:=List.mem_singleton.1 hp;obtain rfl:=List.mem_singleton.1 ha;simp
end
end Fm
namespace Rt
open Go
theorem inc64{i:Nat}(h:i<4611686018427387904):iadd .i64 (i:Int) 1=((i+1:Nat):Int):=by rw [a1k (by omega) (by omega)];omega
theorem e8p{i:Nat}(h:i<4611686018427387904):isub .i64 ((i+1:Nat):Int) 1=(i:Int):=by rw [a0t (by omega) (by omega)];omega
theorem drop_cons{α:Type}{a:List α}{i:Nat}{x:α}{xs:List α}(h:a.drop i=x::xs):ix a (i:Int)=some x/\a.drop (i+1)=xs/\i<a.length:=by
 have h1:i<a.length:=by
  rcases Nat.lt_or_ge i a.length with h2|h2
  ·exact h2
  rw [List.drop_eq_nil_of_le h2]at h;cases h
 rw [List.drop_eq_getElem_cons h1]at h;injection h with h2 h3
 exact⟨by rw [a9n,List.getElem?_eq_getElem h1,h2],h3,h1⟩
theorem drop_nil{α:Type}{a:List α}{i:Nat}(h:a.drop i= []):a.length<=i:=by simpa using h
theorem a1s{α:Type}{a:List α}{i:Nat}{x:α}{xs:List α}(h:a.drop i=x::xs):decide ((i:Int)<(a.length:Int))=true:=by
 have:=(drop_cons h).2.2;exact decide_eq_true (by omega)
theorem a5b{α:Type}{a:List α}{i:Nat}(h:a.drop i= []):decide ((i:Int)<(a.length:Int))=false:=by
 have:=drop_nil h;exact decide_eq_false (by omega)
section
variable{β:Type}{r:β}{c d:Bool}{y:Nat->Option Bool}{f:Nat->Bool->Option β}
theorem guard{V:Bool}{rest:Nat->Option Bool}(h:V=false->Ev rest true):Ev (fun n=>bif V then some true else rest n) true:=by
 cases V with
 |true=>exact Ev.then rfl (Ev.pure _)
 |false=>exact Ev.else rfl (h rfl)
theorem Ev.conv{α:Type}{x y:Nat->Option α}{s:α}(e:∀n,x n=y n)(h:Ev y s):Ev x s:=by
 obtain⟨N,hN⟩:=h;exact⟨N,fun n hn=>by rw [e n];exact hN n hn⟩
end
theorem a5f{α:Type}{b:Nat}{l m:List α}(h:(l.length+m.length)*b<=140737488355328):app b l m=some (l++m):=c1k h
theorem Ev.suc{α:Type}{f g:Nat->Option α}{r:α}(e:∀n,f (n+1)=g n)(h:Ev g r):Ev f r:=by
 obtain⟨N,hN⟩:=h;refine⟨N+1,fun n hn=> ?_⟩;obtain⟨k,rfl⟩:∃k,n=k+1:=⟨n-1,by omega⟩
 rw [e];exact hN k (by omega)
def Tt{α:Type}(Q:α->Prop)(f:Nat->Option α):Prop:=∃r,Ev f r/\Q r
section
variable{α β:Type}{P:α->Prop}{Q:β->Prop}
theorem Tt.pure{r:β}(h:Q r):Tt Q (fun _=>some r):=⟨r,Ev.pure r,h⟩
theorem Tt.of{f:Nat->Option β}{r:β}(h:Ev f r)(hq:Q r):Tt Q f:=⟨r,h,hq⟩
theorem Tt.all{f:Nat->Option β}{r:β}(h:∀n,f n=some r)(hq:Q r):Tt Q f:=⟨r,Ev.all h,hq⟩
theorem Tt.bind{x:Nat->Option α}{g:Nat->α->Option β}(hx:Tt P x)(h:∀r,P r->Tt Q (fun n=>g n r)):Tt Q (fun n=>(x n).bind (g n)):=by
 obtain⟨r,h1,h2⟩:=hx;obtain⟨s,h3,h4⟩:=h r h2;exact⟨s,Ev.bind h1 h3,h4⟩
theorem Tt.evb{x:Nat->Option α}{a:α}{g:Nat->α->Option β}(hx:Ev x a)(h:Tt Q (fun n=>g n a)):Tt Q (fun n=>(x n).bind (g n)):=by
 obtain⟨s,h3,h4⟩:=h;exact⟨s,Ev.bind hx h3,h4⟩
theorem Tt.step{x:Option α}{g:Nat->α->Option β}{a:α}(hx:x=some a)(h:Tt Q (fun n=>g n a)):Tt Q (fun n=>x.bind (g n)):=by
 subst hx;exact h
theorem Tt.bif{c:Bool}{x y:Nat->Option β}(h1:c=true->Tt Q x)(h2:c=false->Tt Q y):Tt Q (fun n=>bif c then x n else y n):=by
 cases c
 ·exact h2 rfl
 exact h1 rfl
theorem Tt.weak{P':α->Prop}{x:Nat->Option α}(hx:Tt P x)(h:∀r,P r->P' r):Tt P' x:=by
 obtain⟨r,h1,h2⟩:=hx;exact⟨r,h1,h r h2⟩
theorem Tt.suc{f g:Nat->Option β}(e:∀n,f (n+1)=g n)(h:Tt Q g):Tt Q f:=by
 obtain⟨r,h1,h2⟩:=h;exact⟨r,Ev.suc e h1,h2⟩
theorem Tt.cond{c d:Bool}{g:Nat->Bool->Option β}(h:∀b,Tt Q (fun n=>g n b))(k:Bool):Tt Q (fun n=>(bif c then some k else some d).bind (g n)):=by
 cases c<;>exact h _
end
end Rt
namespace Lx
abbrev Bs:=List UInt8
def isLetter(c:UInt8):Bool:=decide ((97<=c.toNat/\c.toNat<=122)∨(65<=c.toNat/\c.toNat<=90))
def b9g(c:UInt8):Bool:=decide (48<=c.toNat/\c.toNat<=57)
def b1x(c:UInt8):Bool:=decide ((97<=c.toNat/\c.toNat<=122)∨(65<=c.toNat/\c.toNat<=90)∨(48<=c.toNat/\c.toNat<=57)∨c.toNat=95)
def f2h(c:UInt8):Bool:=decide (32<=c.toNat/\c.toNat<=126)
def c0k(p:UInt8->Bool):Bs->Nat | []=>0 |c::r=>bif p c then c0k p r+1 else 0
def name(l:Bs):Bool:= !l.isEmpty&&isLetter (l.headD 0)&&decide (l.length<=20)&&(c0k b1x l==l.length)
def dec(l:Bs):Nat:=l.foldl (fun n c=>10*n+(c.toNat-48)) 0
def maxNumber:Nat:=1099511627776
def e6e(l:Bs):Bool:= !l.isEmpty&&(c0k b9g l==l.length)&& !(l.headD 0==48&& !(l== [48]))&&decide (l.length<=13)
def number(l:Bs):Nat×Bool:=if e6e l/\dec l<=maxNumber then(dec l,true)else(0,false)
def qloop:Bs->Bs->Nat->Option (Bs×Nat)
 | [],_,_=>none
 |c::r,acc,n=>
  if f2h c=false then none
  else if c.toNat=34 then some (acc,n)
  else if c.toNat=92 then
   match r with
   | []=>none
   |d::r'=>if d.toNat=34∨d.toNat=92 then qloop r' (acc++ [d]) (n+2)else none
  else qloop r (acc++ [c]) (n+1)
def quoted(l:Bs):Bs×Nat:=
 match qloop (l.drop 1) [] 1 with
 |none=>([],0)
 |some (v,n)=>if v.length>400 then([],0)else(v,n+1)
end Lx
namespace Lx
open Rt M Go
theorem c1e{s r:Rt.Bs}{i:Nat}{c:UInt8}(h:s.drop i=c::r):sidx s (i:Int)=some (c.toNat:Int):=by
 have h1:s[i]?=some c:=by
  have:=congrArg (·[0]?) h;simpa using this
 simp [sidx,h1]
theorem d6b{s r:Rt.Bs}{i:Nat}{c:UInt8}(h:s.drop i=c::r):i+r.length+1=s.length:=by
 have:=congrArg List.length h;simp only [List.length_drop,List.length_cons]at this;omega
theorem c5j{s r:Rt.Bs}{i:Nat}{c:UInt8}(h:s.drop i=c::r):s.drop (i+1)=r:=by
 rw [<-List.drop_drop,h,List.drop_one,List.tail_cons]
theorem drop_nil{s:Rt.Bs}{i:Nat}(h:s.drop i= [])(hi:i<=s.length):i=s.length:=by
 have:=congrArg List.length h;simp only [List.length_drop,List.length_nil]at this;omega
theorem a5o(x:Int)(h1:-9223372036854775808<=x)(h2:x<9223372036854775808):IntKind.i64.wrap x=x:=by
 simp [IntKind.wrap,IntKind.signed,IntKind.bits];split<;>omega
theorem e4x(a b:Nat)(h:a+b<9223372036854775808):iadd .i64 (a:Int) (b:Int)=((a+b:Nat):Int):=by
 rw [iadd,a5o _ (by omega) (by omega)];simp
theorem d2a(a:Nat)(h:a+1<9223372036854775808):iadd .i64 (a:Int) 1=((a+1:Nat):Int):=e4x a 1 h
theorem c0a{p:UInt8->Bool}(h:(List.range 256).all (fun k=>p (UInt8.ofNat k))=true)(c:UInt8):p c=true:=by
 have:=List.all_eq_true.mp h c.toNat (by simpa using c.toNat_lt);simpa using this
theorem letter_eq(n:Nat)(c:UInt8):a5s n (c.toNat:Int)=some (isLetter c):=
 of_decide_eq_true (c0a (p:=fun c=>decide (a5s 0 (c.toNat:Int)=some (isLetter c))) (by decide+kernel) c)
theorem e6w(n:Nat)(c:UInt8):a5v n (c.toNat:Int)=some (b1x c):=
 of_decide_eq_true (c0a (p:=fun c=>decide (a5v 0 (c.toNat:Int)=some (b1x c))) (by decide+kernel) c)
theorem d2t{p:UInt8->Bool}{f:Int->Option Bool}(hf:∀c:UInt8,f c.toNat=some (p c)){s:Rt.Bs}(hs:s.length<9223372036854775807){n:Nat}{kont:Int->Option Int}:
 ∀{r:Rt.Bs}{i m:Nat},s.drop i=r->i<=s.length->r.length<m->lexer_span_L1 n s f kont m (i:Int)=kont ((i+c0k p r:Nat):Int)
 | [],i,m+1,h,hi,_=>by
  have:=drop_nil h hi;rw [lexer_span_L1_s];simp [this,c0k]
 |c::r,i,m+1,h,hi,hm=>by
  have h1:=d6b h;rw [lexer_span_L1_s,c1e h,decide_eq_true (by omega)];simp only [cond_true,b_s,hf];cases hp:p c
  ·simp [c0k,hp]
  rw [cond_true,d2a _ (by omega),d2t hf hs (c5j h) (by omega) (by simp only [List.length_cons]at hm;omega)];simp only [c0k,hp,cond_true]
  congr 2;omega
theorem e8n{p:UInt8->Bool}{f:Int->Option Bool}(hf:∀c:UInt8,f c.toNat=some (p c)){s:Rt.Bs}(hs:s.length<9223372036854775807){n:Nat}(hn:s.length<n):
 a5h n s f=some ((c0k p s:Nat):Int):=by
 have:=d2t hf hs (n:=n) (kont:=fun nx2=>some nx2) (r:=s) (i:=0) (m:=n) (by simp) (by omega) hn;simpa [a5h]using this
theorem headD_idx{s:Rt.Bs}(h:s≠ []):sidx s 0=some ((s.headD 0).toNat:Int):=by
 cases s with
 |nil=>exact absurd rfl h
 |cons c r=>exact c1e (i:=0) rfl
theorem name_eq{s:Rt.Bs}(hs:s.length<9223372036854775807){n:Nat}(hn:s.length<n):a4u n s=some (name s):=by
 cases hs0:s with
 |nil=>rfl
 |cons c r=>
  rw [<-hs0];have h0:s≠ []:=by rw [hs0];simp
  have h1:(s== [])=false:=by simp [hs0]
  simp only [a4u,h1,Bool.not_false,cond_true,headD_idx h0,b_s,letter_eq,e8n (e6w n) hs hn,name];have h2:s.isEmpty=false:=by simp [hs0]
  rw [h2];cases isLetter (s.headD 0)<;>by_cases h3:s.length<=20<;>simp [h3]
  ·rw [decide_eq_true (by omega)];simp only [cond_true,Option.some.injEq];rw [Bool.eq_iff_iff];simp;omega
  rw [decide_eq_false (by omega)];simp
end Lx
namespace Lx
open Rt M Go
def ints(l:Rt.Bs):List Int:=l.map fun c=>(c.toNat:Int)
def signs:List UInt8:= [40,41,44,59,58,61,60,43,45,42,47,123,125]
theorem d2c{c:UInt8}(h:isLetter c=true):b1x c=true:=by
 simp only [isLetter,b1x,decide_eq_true_eq]at*;omega
end Lx
namespace Ta
open Go Rt M
inductive Fit:M.Expr->Prop
 |mk {o n:Int} {s:Rt.Bs} {l:List M.Expr}:l.length<=1000000->(∀y,y∈l->Fit y)->Fit ⟨o,n,s,l⟩
theorem Fit.leaf(o n:Int)(s:Rt.Bs):Fit ⟨o,n,s,[]⟩:=Fit.mk (by simp) (by simp)
theorem Fit.one{x:M.Expr}(o n:Int)(s:Rt.Bs)(h:Fit x):Fit ⟨o,n,s,[x]⟩:=Fit.mk (by simp) (by simpa using h)
theorem Fit.two{x y:M.Expr}(o n:Int)(s:Rt.Bs)(h:Fit x)(h2:Fit y):Fit ⟨o,n,s,[x,y]⟩:=Fit.mk (by simp) (by simp [h,h2])
theorem left{k m:Nat}(h:k<m):∃j,m=j+1:=⟨m-1,by omega⟩
theorem pred{k m:Nat}(h:k+1<m):∃j,m=j+1/\k<j:=⟨m-1,by omega,by omega⟩
theorem c2j(s:Rt.Bs):Ev (fun n=>a4u n s) (Lx.name s):=by
 refine⟨21,fun n hn=> ?_⟩
 by_cases h:s.length<=20
 ·exact Lx.name_eq (by omega) (by omega)
 have h0:s≠ []:=by intro e;rw [e]at h;simp at h
 have h1:(s== [])=false:=by simpa using h0
 have h2:Lx.name s=false:=by unfold Lx.name;rw [decide_eq_false h];simp
 rw [h2];unfold a4u;dsimp only;rw [h1,Bool.not_false,cond_true,Lx.headD_idx h0,b_s,Lx.letter_eq,b_s,b_s];cases Lx.isLetter (s.headD 0)
 ·rfl
 rw [cond_true,decide_eq_false (show¬(s.length:Int)<=20 by omega)];rfl
theorem d3w(n:Nat)(l:List Rt.Bs)(s:Rt.Bs)(hl:l.length<4611686018427387904):∀(us:List Rt.Bs)(i m:Nat),l.drop i=us->us.length<m->
 slices_Index_string_string_L1 n l s (some (-1)) m (i:Int)=some (if s∈us then((i+us.idxOf s:Nat):Int)else-1)
 | [],i,m+1,hd,_=>by rw [slices_Index_string_string_L1_s,a5b hd];rfl
 |x::us,i,m+1,hd,hm=>by
  obtain⟨h1,h2,h3⟩:=drop_cons hd;have ih:=d3w n l s hl us (i+1) m h2 (by simp only [List.length_cons]at hm;omega);rw [slices_Index_string_string_L1_s,a1s hd,cond_true,h1,b_s]
  by_cases h:s=x
  ·subst h;rw [beq_self_eq_true,cond_true,if_pos (by simp)];simp
  have e:(s==x)=false:=by simpa using h
  rw [e,cond_false,inc64 (by omega),ih]
  by_cases h5:s∈us
  ·rw [if_pos h5,if_pos (List.mem_cons_of_mem _ h5),List.idxOf_cons,show(x==s)=false by simpa using fun h6=>h h6.symm];simp only [cond_false];congr 1;omega
  rw [if_neg h5,if_neg (by simp [h,h5])]
theorem b2b{l:List Rt.Bs}(s:Rt.Bs)(hl:l.length<4611686018427387904):Ev (fun n=>a0s n l s) (decide (s∈l)):=by
 refine⟨l.length+1,fun n hn=> ?_⟩;unfold a0s a0k;dsimp only;have h:slices_Index_string_string_L1 n l s (some (-1)) n 0=_:=d3w n l s hl l 0 n rfl (by omega);rw [h,b_s]
 by_cases h5:s∈l
 ·rw [if_pos h5,decide_eq_true h5,decide_eq_true (by omega)]
 rw [if_neg h5,decide_eq_false h5];rfl
def c0i(l:List Rt.Bs):Nat->List Rt.Bs->Bool |_,[]=>decide ((l.length:Int)<=6) |i,s::us=>Lx.name s&&(!decide (s∈l.take i)&&c0i l (i+1) us)
def named(l:List Rt.Bs):Bool:=c0i l 0 l
theorem e1n(l:List Rt.Bs)(hl:l.length<4611686018427387904):∀(us:List Rt.Bs)(i:Nat),l.drop i=us->∃N,∀n m,N<=n->us.length<m->
 tariff_named_L1 n l (some (decide ((l.length:Int)<=6))) m (i:Int)=some (c0i l i us)
 | [],i,hd=>by
  refine⟨0,fun n m _ hm=> ?_⟩;obtain⟨m,rfl⟩:=left hm;rw [tariff_named_L1_s,a5b hd];rfl
 |s::us,i,hd=>by
  obtain⟨h1,h2,h3⟩:=drop_cons hd;obtain⟨N,ih⟩:=e1n l hl us (i+1) h2;obtain⟨N1,e1⟩:=c2j s;obtain⟨N2,e2⟩:=b2b (l:=l.take i) s (by simp;omega);refine⟨max N (max N1 N2),fun n m hn hm=> ?_⟩;obtain⟨m,rfl,hm2⟩:=pred (by simpa using hm);have e1:a4u n s=some (Lx.name s):=e1 n (by omega);have e2:a0s n (l.take i) s=some (decide (s∈l.take i)):=e2 n (by omega);rw [tariff_named_L1_s,a1s hd,cond_true,h1,b_s,e1,b_s];unfold c0i;cases Lx.name s with
  |false=>rfl
  |true=>
   have e3:lsl l 0 (i:Int)=some (l.take i):=by
    have:=d1r (l:=l) (p:=0) (q:=i) (by omega) (by omega);simpa using this
   rw [Bool.not_true,cond_false,e3,b_s,e2,b_s,b_s,Bool.true_and];cases decide (s∈l.take i)with
   |true=>rfl
   |false=>rw [cond_false,inc64 (by omega),ih n m (by omega) hm2];rfl
theorem c0c{l:List Rt.Bs}(hl:l.length<4611686018427387904):Ev (fun n=>b1f n l) (named l):=by
 obtain⟨N,h⟩:=e1n l hl l 0 rfl;exact⟨N+l.length+1,fun n hn=>h n n (by omega) (by omega)⟩
theorem e4a(x:M.Expr)(lv:Int)(hx:x.Args.length<=1000000):∀(us:List M.Expr)(i:Nat)(lf:Int),x.Args.drop i=us->(∀y,y∈us->∀lv lf:Int,Tt (fun _=>True) (fun n=>tariff_sized n y lv lf))->
 ∃N r,∀n m,N<=n->us.length<m->tariff_sized_L1 n (tariff_sized n) x lv (fun f2=>some (f2,true)) m (i:Int) lf=some r
 | [],i,lf,hd,_=>by
  refine⟨0,(lf,true),fun n m _ hm=> ?_⟩;obtain⟨m,rfl⟩:=left hm;rw [tariff_sized_L1_s,a5b hd];rfl
 |y::us,i,lf,hd,H=>by
  obtain⟨h1,h2,h3⟩:=drop_cons hd;obtain⟨⟨l2,b⟩,⟨N1,e1⟩,_⟩:=H y (by simp) (isub .i64 lv 1) lf;obtain⟨N,r,ih⟩:=e4a x lv hx us (i+1) l2 h2 (fun z hz=>H z (by simp [hz]));refine⟨max N N1,bif b then r else(l2,false),fun n m hn hm=> ?_⟩;obtain⟨m,rfl,hm2⟩:=pred (by simpa using hm);have e1:tariff_sized n y (isub .i64 lv 1) lf=some (l2,b):=e1 n (by omega);rw [tariff_sized_L1_s,a1s hd,cond_true,h1,b_s,e1,b_s];dsimp only;cases b with
  |false=>rfl
  |true=>rw [Bool.not_true,cond_false,inc64 (by omega),ih n m (by omega) hm2];rfl
theorem sized_t{x:M.Expr}(hx:Fit x):∀lv lf:Int,Tt (fun _=>True) (fun n=>tariff_sized n x lv lf):=by
 induction hx with
 | @mk o k s l hl _ ih=>
  intro lv lf;refine Tt.suc (g:=fun n=>_) (fun n=>tariff_sized_s _ _ _ n) ?_;refine Tt.cond (fun b=> ?_) true;refine Tt.bif (fun _=>Tt.pure trivial) (fun _=> ?_);obtain⟨N,r,h⟩:=e4a ⟨o,k,s,l⟩ lv hl l 0 (isub .i64 lf 1) rfl ih;exact⟨r,⟨N+l.length+1,fun n hn=>h n n (by omega) (by omega)⟩,trivial⟩
def b9a(o:Int):Int:=if o<=4 then 0 else if o=14 then 1 else if o=11 then 3 else 2
theorem d5o(n:Nat)(o:Int):b0k n o=some (b9a o):=by
 unfold b0k b9a
 by_cases h1:o<=4
 ·rw [decide_eq_true h1,if_pos h1];rfl
 rw [decide_eq_false h1,if_neg h1,cond_false]
 by_cases h2:o=14
 ·subst h2;rfl
 rw [show(o==14)=false by simpa using h2,if_neg h2,cond_false]
 by_cases h3:o=11
 ·subst h3;rfl
 rw [show(o==11)=false by simpa using h3,if_neg h3];rfl
inductive Shp:M.Expr->Prop
 |mk {o n:Int} {s:Rt.Bs} {l:List M.Expr}:0<=o->o<=16->(l.length:Int)=b9a o->(∀y,y∈l->Shp y)->Shp ⟨o,n,s,l⟩
theorem c7b(l:List M.Expr)(hl:l.length<=1000000)(f:Nat->M.Expr->Option Bool)(Q:M.Expr->Prop):∀(us:List M.Expr)(i:Nat),l.drop i=us->(∀y,y∈us->Tt (fun b=>b=false->Q y) (fun n=>f n y))->
 ∃N r,(r=-1/\(∀y,y∈us->Q y)∨0<=r)/\∀n m,N<=n->us.length<m->slices_IndexFunc_api_Expr_api_Expr_L1 n l (f n) (some (-1)) m (i:Int)=some r
 | [],i,hd,_=>by
  refine⟨0,-1,.inl ⟨rfl,by simp⟩,fun n m _ hm=> ?_⟩;obtain⟨m,rfl⟩:=left hm;rw [slices_IndexFunc_api_Expr_api_Expr_L1_s,a5b hd];rfl
 |y::us,i,hd,H=>by
  obtain⟨h1,h2,h3⟩:=drop_cons hd;obtain⟨b,⟨N1,e1⟩,hb⟩:=H y (by simp);obtain⟨N,r,hr,ih⟩:=c7b l hl f Q us (i+1) h2 (fun z hz=>H z (by simp [hz]));cases b with
  |true=>
   refine⟨N1,(i:Int),.inr (by omega),fun n m hn hm=> ?_⟩;obtain⟨m,rfl⟩:=left hm;have e1:f n y=some true:=e1 n (by omega);rw [slices_IndexFunc_api_Expr_api_Expr_L1_s,a1s hd,cond_true,h1,b_s,e1];rfl
  |false=>
   refine⟨max N N1,r,hr.imp (fun h=>⟨h.1,by simpa using⟨hb rfl,h.2⟩⟩) id,fun n m hn hm=> ?_⟩;obtain⟨m,rfl,hm2⟩:=pred (by simpa using hm);have e1:f n y=some false:=e1 n (by omega);rw [slices_IndexFunc_api_Expr_api_Expr_L1_s,a1s hd,cond_true,h1,b_s,e1,b_s,cond_false,inc64 (by omega)];exact ih n m (by omega) hm2
theorem c7j(l:List M.Expr)(hl:l.length<=1000000)(f:Nat->M.Expr->Option Bool)(Q:M.Expr->Prop)(H:∀y,y∈l->Tt (fun b=>b=false->Q y) (fun n=>f n y)):
 Tt (fun b=>b=false->∀y,y∈l->Q y) (fun n=>a0j n l (f n)):=by
 obtain⟨N,r,hr,ih⟩:=c7b l hl f Q l 0 rfl H;refine⟨decide (0<=r),⟨N+l.length+1,fun n hn=> ?_⟩,fun hb=> ?_⟩
 ·unfold a0j a1c;dsimp only;have e:slices_IndexFunc_api_Expr_api_Expr_L1 n l (f n) (some (-1)) n 0=some r:=ih n n (by omega) (by omega);rw [e];rfl
 have:=of_decide_eq_false hb;rcases hr with h|h
 ·exact h.2
 omega
theorem e6i{x:M.Expr}(hx:Fit x):Tt (fun b=>b=true->Shp x) (fun n=>tariff_shaped n x):=by
 induction hx with
 | @mk o k s l hl _ ih=>
  refine Tt.suc (fun n=>tariff_shaped_s _ n) ?_;refine Tt.bind (P:=fun b=>b=false->0<=o/\o<=16) (Tt.bif (fun h=>Tt.pure fun h=>by cases h) (fun h=>Tt.pure fun h2=> ?_)) ?_
  ·have h1:=of_decide_eq_false h;have h3:=of_decide_eq_false h2;dsimp only at h1 h3;omega
  intro b hb;refine Tt.bind (P:=fun c=>c=false->(0<=o/\o<=16)/\(l.length:Int)=b9a o) (Tt.bif (fun h=>Tt.pure fun h=>by cases h) (fun h=> ?_)) ?_
  ·refine Tt.evb (Ev.all fun n=>d5o n _) (Tt.pure fun h2=>⟨hb h,by simpa using h2⟩)
  intro c hc;refine Tt.bif (fun _=>Tt.pure fun h=>by cases h) (fun h=> ?_);obtain⟨⟨h1,h2⟩,h3⟩:=hc h;refine Tt.bif (fun h0=> ?_) (fun h0=> ?_)
  ·have h0':o=0:=by simpa using h0
   subst h0';have hz:l= []:=by
    have:(l.length:Int)=0:=h3;exact List.length_eq_zero_iff.1 (by omega)
   subst hz;refine Tt.bind (P:=fun _=>True) (Tt.bif (fun _=>Tt.pure trivial) (fun _=>Tt.pure trivial)) fun _ _=> ?_;refine Tt.bind (P:=fun _=>True) (Tt.bif (fun _=>Tt.pure trivial) (fun _=>Tt.pure trivial)) fun _ _=> ?_;exact Tt.pure fun _=>Shp.mk h1 h2 h3 (by simp)
  refine Tt.bind (P:=fun b=>b=true->o=1∨o=4) (Tt.bif (fun h=>Tt.pure fun _=> .inl (by simpa using h)) (fun _=>Tt.pure fun h=> .inr (by simpa using h))) ?_;intro b1 hb1;refine Tt.bif (fun h4=> ?_) (fun h4=> ?_)
  ·have hz:l= []:=by
    have:(l.length:Int)=0:=by rw [h3];rcases hb1 h4 with rfl|rfl<;>rfl
    exact List.length_eq_zero_iff.1 (by omega)
   subst hz;refine Tt.bind (P:=fun _=>True) (Tt.bif (fun _=> ?_) (fun _=>Tt.pure trivial)) fun _ _=> ?_
   ·exact Tt.evb (c2j _) (Tt.pure trivial)
   exact Tt.pure fun _=>Shp.mk h1 h2 h3 (by simp)
  refine Tt.bind (P:=fun _=>True) (Tt.bif (fun _=>Tt.pure trivial) (fun _=>Tt.pure trivial)) fun _ _=> ?_;refine Tt.bind (P:=fun b=>b=true->∀y,y∈l->Shp y) (Tt.bif (fun _=> ?_) (fun _=>Tt.pure fun h=>by cases h)) ?_
  ·refine Tt.bind (c7j l hl tariff_shaped_1 Shp (fun y hy=> ?_)) ?_
   ·refine Tt.suc (fun n=>a7w n _) ?_;refine Tt.bind (ih y hy) ?_;intro b hb;exact Tt.pure fun h=>hb (by simpa using h)
   intro b hb;exact Tt.pure fun h=>hb (by simpa using h)
  intro b hb;exact Tt.pure fun h=>Shp.mk h1 h2 h3 (hb h)
end Ta
namespace Tp
open Go Rt M Ta
mutual
def cnt:M.Expr->Nat |⟨_,_,_,l⟩=>cnts l+1
def cnts:List M.Expr->Nat | []=>0 |x::l=>cnt x+cnts l end
mutual
def dep:M.Expr->Nat |⟨_,_,_,l⟩=>deps l+1
def deps:List M.Expr->Nat | []=>0 |x::l=>max (dep x) (deps l) end
theorem f1f{a:Nat}(h:1<=a)(h2:a<=1000000):isub .i64 (a:Int) 1=((a-1:Nat):Int):=by rw [a0t (by omega) (by omega)];omega
def Siz(d c lv lf:Nat)(r:Int×Bool):Prop:=(r.2=true->d<=lv/\c<=lf/\r.1=((lf-c:Nat):Int))/\(d<=lv->c<=lf->r.2=true)
theorem d6u(x:M.Expr)(lv:Nat)(hv1:1<=lv)(hv:lv<=1000000)(hx:x.Args.length<=1000000):∀(us:List M.Expr)(i lf:Nat),lf<=1000000->x.Args.drop i=us->(∀y,y∈us->∀lv lf:Nat,lv<=1000000->lf<=1000000->Tt (Siz (dep y) (cnt y) lv lf) (fun n=>tariff_sized n y lv lf))->
 ∃N r,Siz (deps us) (cnts us) (lv-1) lf r/\∀n m,N<=n->us.length<m->tariff_sized_L1 n (tariff_sized n) x (lv:Int) (fun f2=>some (f2,true)) m (i:Int) (lf:Int)=some r
 | [],i,lf,hlf,hd,_=>by
  refine⟨0,(lf,true),⟨fun _=>⟨Nat.zero_le _,Nat.zero_le _,rfl⟩,fun _ _=>rfl⟩,fun n m _ hm=> ?_⟩;obtain⟨m,rfl⟩:=left hm;rw [tariff_sized_L1_s,a5b hd];rfl
 |y::us,i,lf,hlf,hd,H=>by
  obtain⟨h1,h2,h3⟩:=drop_cons hd;obtain⟨⟨l2,b⟩,⟨N1,e1⟩,q1,q2⟩:=H y (by simp) (lv-1) lf (by omega) hlf;rw [<-f1f hv1 hv]at e1;have hcs:cnts (y::us)=cnt y+cnts us:=rfl;have hds:deps (y::us)=max (dep y) (deps us):=rfl;cases b with
  |false=>
   have h5:¬(dep y<=lv-1/\cnt y<=lf):=fun h=>by have:=q2 h.1 h.2;cases this
   refine⟨N1,(l2,false),⟨fun h=>(by cases h),fun h6 h7=>absurd ⟨by omega,by omega⟩ h5⟩,fun n m hn hm=> ?_⟩;obtain⟨m,rfl⟩:=left hm;have e1:tariff_sized n y (isub .i64 lv 1) lf=some (l2,false):=e1 n (by omega);rw [tariff_sized_L1_s,a1s hd,cond_true,h1,b_s,e1,b_s];rfl
  |true=>
   obtain⟨h5,h6,h7⟩:=q1 rfl;dsimp only at h7;subst h7;obtain⟨N,r,⟨hr1,hr2⟩,ih⟩:=d6u x lv hv1 hv hx us (i+1) (lf-cnt y) (by omega) h2 (fun z hz=>H z (by simp [hz]));refine⟨max N N1,r,⟨fun h=> ?_,fun h8 h9=>hr2 (by omega) (by omega)⟩,fun n m hn hm=> ?_⟩
   ·obtain⟨g1,g2,g3⟩:=hr1 h;exact⟨by omega,by omega,by rw [g3];congr 1;omega⟩
   obtain⟨m,rfl,hm2⟩:=pred (by simpa using hm);have e1:tariff_sized n y (isub .i64 lv 1) lf=some (((lf-cnt y:Nat):Int),true):=e1 n (by omega);rw [tariff_sized_L1_s,a1s hd,cond_true,h1,b_s,e1,b_s];dsimp only;rw [Bool.not_true,cond_false,inc64 (by omega),ih n m (by omega) hm2]
theorem e8l{x:M.Expr}(hx:Fit x):∀lv lf:Nat,lv<=1000000->lf<=1000000->Tt (Siz (dep x) (cnt x) lv lf) (fun n=>tariff_sized n x lv lf):=by
 induction hx with
 | @mk o k s l hl _ ih=>
  intro lv lf hv hf;have hd:dep ⟨o,k,s,l⟩=deps l+1:=rfl;have hc:cnt ⟨o,k,s,l⟩=cnts l+1:=rfl;refine Tt.suc (g:=fun n=>_) (fun n=>tariff_sized_s _ _ _ n) ?_;have hsub:isub .i64 (lf:Int) 1=(lf:Int)-1:=a0t (by omega) (by omega);rw [hsub];refine Tt.bind (P:=fun b=>b=true↔(lv<1∨lf<1)) (Tt.bif (fun h=>Tt.pure (by have:=of_decide_eq_true h;simp only [true_iff];omega)) (fun h=>Tt.pure ?_)) ?_
  ·have:=of_decide_eq_false h;rw [decide_eq_true_iff];omega
  intro b hb;refine Tt.bif (fun h=>Tt.pure ⟨fun h=>(by cases h),fun h1 h2=> ?_⟩) (fun h=> ?_)
  ·have:=hb.1 h;omega
  have h3:¬(lv<1∨lf<1):=fun h4=>by have:=hb.2 h4;rw [this]at h;cases h
  have e:(lf:Int)-1=((lf-1:Nat):Int):=by omega
  rw [e];obtain⟨N,r,⟨hr1,hr2⟩,hh⟩:=d6u ⟨o,k,s,l⟩ lv (by omega) hv hl l 0 (lf-1) (by omega) rfl ih;refine⟨r,⟨N+l.length+1,fun n hn=>hh n n (by omega) (by omega)⟩,fun h=> ?_,fun h4 h5=>hr2 (by omega) (by omega)⟩;obtain⟨g1,g2,g3⟩:=hr1 h;exact⟨by omega,by omega,by rw [g3];congr 1;omega⟩
def a9h(o n:Int)(s:Rt.Bs):Prop:=if o=0 then(0<=n/\n<=1099511627776)/\s= []else if o=1∨o=4 then n=0/\Lx.name s=true else n=0/\s= []
inductive Shx:M.Expr->Prop
 |mk {o n:Int} {s:Rt.Bs} {l:List M.Expr}:0<=o->o<=16->(l.length:Int)=b9a o->a9h o n s->(∀y,y∈l->Shx y)->Shx ⟨o,n,s,l⟩
theorem c2v(l:List M.Expr)(hl:l.length<=1000000)(f:Nat->M.Expr->Option Bool)(Q:M.Expr->Prop):∀(us:List M.Expr)(i:Nat),l.drop i=us->(∀y,y∈us->Tt (fun b=>b=false↔Q y) (fun n=>f n y))->
 ∃N r,(r=-1/\(∀y,y∈us->Q y)∨0<=r/\¬∀y,y∈us->Q y)/\∀n m,N<=n->us.length<m->slices_IndexFunc_api_Expr_api_Expr_L1 n l (f n) (some (-1)) m (i:Int)=some r
 | [],i,hd,_=>by
  refine⟨0,-1,.inl ⟨rfl,by simp⟩,fun n m _ hm=> ?_⟩;obtain⟨m,rfl⟩:=left hm;rw [slices_IndexFunc_api_Expr_api_Expr_L1_s,a5b hd];rfl
 |y::us,i,hd,H=>by
  obtain⟨h1,h2,h3⟩:=drop_cons hd;obtain⟨b,⟨N1,e1⟩,hb⟩:=H y (by simp);obtain⟨N,r,hr,ih⟩:=c2v l hl f Q us (i+1) h2 (fun z hz=>H z (by simp [hz]));cases b with
  |true=>
   refine⟨N1,(i:Int),.inr ⟨by omega,fun h=> ?_⟩,fun n m hn hm=> ?_⟩
   ·have:=hb.2 (h y (by simp));cases this
   obtain⟨m,rfl⟩:=left hm;have e1:f n y=some true:=e1 n (by omega);rw [slices_IndexFunc_api_Expr_api_Expr_L1_s,a1s hd,cond_true,h1,b_s,e1];rfl
  |false=>
   refine⟨max N N1,r,hr.imp (fun h=>⟨h.1,by simpa using⟨hb.1 rfl,h.2⟩⟩) (fun h=>⟨h.1,fun h5=>h.2 fun z hz=>h5 z (by simp [hz])⟩),fun n m hn hm=> ?_⟩;obtain⟨m,rfl,hm2⟩:=pred (by simpa using hm);have e1:f n y=some false:=e1 n (by omega);rw [slices_IndexFunc_api_Expr_api_Expr_L1_s,a1s hd,cond_true,h1,b_s,e1,b_s,cond_false,inc64 (by omega)];exact ih n m (by omega) hm2
theorem c4w(l:List M.Expr)(hl:l.length<=1000000)(f:Nat->M.Expr->Option Bool)(Q:M.Expr->Prop)(H:∀y,y∈l->Tt (fun b=>b=false↔Q y) (fun n=>f n y)):
 Tt (fun b=>b=false↔∀y,y∈l->Q y) (fun n=>a0j n l (f n)):=by
 obtain⟨N,r,hr,ih⟩:=c2v l hl f Q l 0 rfl H;refine⟨decide (0<=r),⟨N+l.length+1,fun n hn=> ?_⟩,?_⟩
 ·unfold a0j a1c;dsimp only;have e:slices_IndexFunc_api_Expr_api_Expr_L1 n l (f n) (some (-1)) n 0=some r:=ih n n (by omega) (by omega);rw [e];rfl
 show decide (0<=r)=false↔_;rw [decide_eq_false_iff_not];rcases hr with h|h
 ·exact⟨fun _=>h.2,fun _=>by omega⟩
 exact⟨fun h5=>absurd h.1 h5,fun h5=>absurd h5 h.2⟩
theorem Shx.inv{o n:Int}{s:Rt.Bs}{l:List M.Expr}(h:Shx ⟨o,n,s,l⟩):0<=o/\o<=16/\(l.length:Int)=b9a o/\a9h o n s/\∀y,y∈l->Shx y:=by
 cases h with
 |mk h1 h2 h3 h4 h5=>exact⟨h1,h2,h3,h4,h5⟩
theorem e5s{x:M.Expr}(hx:Fit x):Tt (fun b=>b=true↔Shx x) (fun n=>tariff_shaped n x):=by
 induction hx with
 | @mk o k s l hl _ ih=>
  refine Tt.suc (fun n=>tariff_shaped_s _ n) ?_;refine Tt.bind (P:=fun b=>b=false↔0<=o/\o<=16) (Tt.bif (fun h=>Tt.pure ?_) (fun h=>Tt.pure ?_)) ?_
  ·have h1:=of_decide_eq_true h;dsimp only at h1;exact⟨fun h=>(by cases h),fun h=>by omega⟩
  ·have h1:=of_decide_eq_false h;dsimp only at h1;rw [decide_eq_false_iff_not];dsimp only;omega
  intro b hb;refine Tt.bind (P:=fun c=>c=false↔(0<=o/\o<=16)/\(l.length:Int)=b9a o) (Tt.bif (fun h=>Tt.pure ?_) (fun h=> ?_)) ?_
  ·exact⟨fun h=>(by cases h),fun h5=>by have:=hb.2 h5.1;rw [this]at h;cases h⟩
  ·refine Tt.evb (Ev.all fun n=>d5o n _) (Tt.pure ?_);have:=hb.1 h;simp only [bne_eq_false_iff_eq,this,true_and]
  intro c hc;refine Tt.bif (fun h=>Tt.pure ⟨fun h=>(by cases h),fun h5=> ?_⟩) (fun h=> ?_)
  ·have h6:=h5.inv;have:=hc.2 ⟨⟨h6.1,h6.2.1⟩,h6.2.2.1⟩;rw [this]at h;cases h
  obtain⟨⟨h1,h2⟩,h3⟩:=hc.1 h;have fin:∀{b:Bool},(b=true↔a9h o k s/\∀y,y∈l->Shx y)->(b=true↔Shx ⟨o,k,s,l⟩):=fun{b}hb=>hb.trans ⟨fun h=>Shx.mk h1 h2 h3 h.1 h.2,fun h=>⟨h.inv.2.2.2.1,h.inv.2.2.2.2⟩⟩;refine Tt.bif (fun h0=> ?_) (fun h0=> ?_)
  ·have h0':o=0:=by simpa using h0
   subst h0';have hz:l= []:=by
    have:(l.length:Int)=0:=h3;exact List.length_eq_zero_iff.1 (by omega)
   subst hz;refine Tt.bind (P:=fun b=>b=true↔0<=k/\k<=1099511627776) (Tt.bif (fun h=>Tt.pure ?_) (fun h=>Tt.pure ?_)) fun b hb=> ?_
   ·have h5:=of_decide_eq_true h;rw [decide_eq_true_iff];exact⟨fun h6=>⟨h5,h6⟩,fun h6=>h6.2⟩
   ·have h5:=of_decide_eq_false h;exact⟨fun h6=>(by cases h6),fun h6=>absurd h6.1 h5⟩
   refine Tt.bind (P:=fun b=>b=true↔(0<=k/\k<=1099511627776)/\s= []) (Tt.bif (fun h=>Tt.pure ?_) (fun h=>Tt.pure ?_)) fun b hb2=> ?_
   ·have:=hb.1 h;simp [this]
   ·exact⟨fun h6=>(by cases h6),fun h6=>by rw [hb.2 h6.1]at h;cases h⟩
   refine Tt.pure (fin ?_);rw [hb2];exact⟨fun h=>⟨h,by simp⟩,fun h=>h.1⟩
  have hn0:o≠0:=by simpa using h0
  refine Tt.bind (P:=fun b=>b=true↔o=1∨o=4) (Tt.bif (fun h=>Tt.pure ?_) (fun h=>Tt.pure ?_)) ?_
  ·have:o=1:=by simpa using h
   exact⟨fun _=> .inl this,fun _=>rfl⟩
  ·have:o≠1:=by simpa using h
   simp [this]
  intro b1 hb1;refine Tt.bif (fun h4=> ?_) (fun h4=> ?_)
  ·have ho:=hb1.1 h4;have hz:l= []:=by
    have:(l.length:Int)=0:=by rw [h3];rcases ho with rfl|rfl<;>rfl
    exact List.length_eq_zero_iff.1 (by omega)
   subst hz;have hno:a9h o k s↔k=0/\Lx.name s=true:=by unfold a9h;rw [if_neg hn0,if_pos ho]
   refine Tt.bind (P:=fun b=>b=true↔k=0/\Lx.name s=true) (Tt.bif (fun h=> ?_) (fun h=>Tt.pure ?_)) fun b hb=> ?_
   ·have:k=0:=by simpa using h
    refine Tt.evb (c2j _) (Tt.pure ?_);simp [this]
   ·have:k≠0:=by simpa using h
    exact⟨fun h=>(by cases h),fun h=>absurd h.1 this⟩
   refine Tt.pure (fin ?_);rw [hb,hno];exact⟨fun h=>⟨h,by simp⟩,fun h=>h.1⟩
  have ho:¬(o=1∨o=4):=fun h5=>by rw [hb1.2 h5]at h4;cases h4
  have hno:a9h o k s↔k=0/\s= []:=by unfold a9h;rw [if_neg hn0,if_neg ho]
  refine Tt.bind (P:=fun b=>b=true↔k=0/\s= []) (Tt.bif (fun h=>Tt.pure ?_) (fun h=>Tt.pure ?_)) fun b hb=> ?_
  ·have:k=0:=by simpa using h
   simp [this]
  ·have:k≠0:=by simpa using h
   exact⟨fun h=>(by cases h),fun h=>absurd h.1 this⟩
  refine Tt.bind (P:=fun b=>b=true↔a9h o k s/\∀y,y∈l->Shx y) (Tt.bif (fun h=> ?_) (fun h=>Tt.pure ?_)) ?_
  ·refine Tt.bind (c4w l hl tariff_shaped_1 Shx (fun y hy=> ?_)) ?_
   ·refine Tt.suc (fun n=>a7w n _) ?_;refine Tt.bind (ih y hy) ?_;intro b hb;refine Tt.pure ?_;rw [<-hb];cases b<;>simp
   intro b2 hb2;refine Tt.pure ?_;rw [hno,<-hb,<-hb2,h];cases b2<;>simp
  ·exact⟨fun h5=>(by cases h5),fun h5=>by rw [hno,<-hb]at h5;rw [h5.1]at h;cases h⟩
  intro b hb;exact Tt.pure (fin hb)
def Frm(x:M.Expr):Prop:=(dep x<=10/\cnt x<=100)/\Shx x
theorem e2o{x:M.Expr}(hx:Fit x):Tt (fun b=>b=true↔Frm x) (fun n=>a7u n x):=by
 unfold a7u;refine Tt.bind (e8l hx 10 100 (by decide) (by decide)) fun r hr=> ?_;have h5:r.2=true↔dep x<=10/\cnt x<=100:=⟨fun h=>⟨(hr.1 h).1,(hr.1 h).2.1⟩,fun h=>hr.2 h.1 h.2⟩
 refine Tt.bind (P:=fun b=>b=true↔Frm x) (Tt.bif (fun h=> ?_) (fun h=>Tt.pure ?_)) fun b hb=>Tt.pure hb
 ·refine Tt.bind (e5s hx) fun b hb=>Tt.pure ?_;unfold Frm;rw [hb,<-h5,h];simp
 exact⟨fun h6=>(by cases h6),fun h6=>by rw [h5.2 h6.1]at h;cases h⟩
def Wrt(t:Tariff):Prop:=Lx.name t.Name=true/\Frm t.Fee/\-1<=t.Cap/\t.Cap<=1099511627776
theorem d8i{t:Tariff}(hx:Fit t.Fee):Tt (fun b=>b=true↔Wrt t) (fun n=>a5a n t):=by
 unfold a5a;refine Tt.evb (c2j _) ?_;refine Tt.bind (P:=fun b=>b=true↔Lx.name t.Name=true/\Frm t.Fee) (Tt.bif (fun h=> ?_) (fun h=>Tt.pure ?_)) fun b hb=> ?_
 ·refine Tt.bind (e2o hx) fun b hb=>Tt.pure ?_;rw [hb,h];simp
 ·exact⟨fun h6=>(by cases h6),fun h6=>by rw [h6.1]at h;cases h⟩
 refine Tt.bind (P:=fun b=>b=true↔(Lx.name t.Name=true/\Frm t.Fee)/\-1<=t.Cap) (Tt.bif (fun h=>Tt.pure ?_) (fun h=>Tt.pure ?_)) fun b hb=> ?_
 ·rw [decide_eq_true_iff,<-hb,h];simp
 ·exact⟨fun h6=>(by cases h6),fun h6=>by rw [hb.2 h6.1]at h;cases h⟩
 refine Tt.bind (P:=fun b=>b=true↔Wrt t) (Tt.bif (fun h=>Tt.pure ?_) (fun h=>Tt.pure ?_)) fun b hb=> ?_
 ·have:=hb.1 h;rw [decide_eq_true_iff];exact⟨fun h5=>⟨this.1.1,this.1.2,this.2,h5⟩,fun h5=>h5.2.2.2⟩
 ·exact⟨fun h6=>(by cases h6),fun h6=>by rw [hb.2 ⟨⟨h6.1,h6.2.1⟩,h6.2.2.1⟩]at h;cases h⟩
 exact Tt.pure hb
def wd(a b:Int):Int:=bif a==2||b==2 then 2 else 1
theorem d8c(a b:Int):wd a b≠0:=by
 unfold wd;cases a==2||b==2<;>decide
inductive Typ(nz:List Rt.Bs):M.Expr->Int->Prop
 |num {m:Int}:0<=m->m<=1099511627776->Typ nz ⟨0,m,[],[]⟩ 1
 |lifts {s:Rt.Bs}:Lx.name s=true->s∈nz->Typ nz ⟨1,0,s,[]⟩ 1
 |pers:Typ nz ⟨2,0,[],[]⟩ 1
 |flats:Typ nz ⟨3,0,[],[]⟩ 1
 |wgt {s:Rt.Bs}:Lx.name s=true->s∈nz->Typ nz ⟨4,0,s,[]⟩ 2
 |ari {o:Int} {a b:M.Expr} {p q:Int}:(o=5∨o=6∨o=9∨o=10)->Typ nz a p->Typ nz b q->p≠0->q≠0->Typ nz ⟨o,0,[],[a,b]⟩ (wd p q)
 |mul {a b:M.Expr} {p q:Int}:Typ nz a p->Typ nz b q->p≠0->q≠0->¬(p=2/\q=2)->Typ nz ⟨7,0,[],[a,b]⟩ (wd p q)
 |div {a:M.Expr} {m:Int} {p:Int}:Typ nz a p->p≠0->1<=m->m<=1099511627776->Typ nz ⟨8,0,[],[a,⟨0,m,[],[]⟩]⟩ p
 |ite {c a b:M.Expr} {p q:Int}:Typ nz c 0->Typ nz a p->Typ nz b q->p≠0->q≠0->Typ nz ⟨11,0,[],[c,a,b]⟩ (wd p q)
 |rel {o:Int} {a b:M.Expr}:(o=12∨o=13)->Typ nz a 1->Typ nz b 1->Typ nz ⟨o,0,[],[a,b]⟩ 0
 |not {a:M.Expr}:Typ nz a 0->Typ nz ⟨14,0,[],[a]⟩ 0
 |bin {o:Int} {a b:M.Expr}:(o=15∨o=16)->Typ nz a 0->Typ nz b 0->Typ nz ⟨o,0,[],[a,b]⟩ 0
theorem a8v(a b:Int):wd a b=1∨wd a b=2:=by
 unfold wd;cases a==2||b==2
 ·exact .inl rfl
 exact .inr rfl
theorem Typ.range{nz:List Rt.Bs}{x:M.Expr}{k:Int}(h:Typ nz x k):k=0∨k=1∨k=2:=by
 induction h with
 |num=>exact .inr (.inl rfl)
 |lifts=>exact .inr (.inl rfl)
 |pers=>exact .inr (.inl rfl)
 |flats=>exact .inr (.inl rfl)
 |wgt=>exact .inr (.inr rfl)
 |ari=>exact .inr (a8v _ _)
 |mul=>exact .inr (a8v _ _)
 |div _ _ _ _ ih=>exact ih
 |ite=>exact .inr (a8v _ _)
 |rel=>exact .inl rfl
 |not=>exact .inl rfl
 |bin=>exact .inl rfl
theorem Typ.args{nz:List Rt.Bs}{x:M.Expr}{k:Int}(h:Typ nz x k):∀y,y∈x.Args->∃p,Typ nz y p:=by
 cases h with
 |num=>intro y hy;cases hy
 |lifts=>intro y hy;cases hy
 |pers=>intro y hy;cases hy
 |flats=>intro y hy;cases hy
 |wgt=>intro y hy;cases hy
 |ari _ ha hb=>intro y hy;simp only [List.mem_cons,List.not_mem_nil,or_false]at hy;rcases hy with rfl|rfl<;>first|exact⟨_,ha⟩|exact⟨_,hb⟩
 |mul ha hb=>intro y hy;simp only [List.mem_cons,List.not_mem_nil,or_false]at hy;rcases hy with rfl|rfl<;>first|exact⟨_,ha⟩|exact⟨_,hb⟩
 |div ha _ h1 h2=>intro y hy;simp only [List.mem_cons,List.not_mem_nil,or_false]at hy;rcases hy with rfl|rfl<;>first|exact⟨_,ha⟩|exact⟨_,Typ.num (by omega) h2⟩
 |ite hc ha hb=>intro y hy;simp only [List.mem_cons,List.not_mem_nil,or_false]at hy;rcases hy with rfl|rfl|rfl<;>first|exact⟨_,hc⟩|exact⟨_,ha⟩|exact⟨_,hb⟩
 |rel _ ha hb=>intro y hy;simp only [List.mem_cons,List.not_mem_nil,or_false]at hy;rcases hy with rfl|rfl<;>first|exact⟨_,ha⟩|exact⟨_,hb⟩
 |not ha=>intro y hy;simp only [List.mem_cons,List.not_mem_nil,or_false]at hy;rcases hy with rfl;exact⟨_,ha⟩
 |bin _ ha hb=>intro y hy;simp only [List.mem_cons,List.not_mem_nil,or_false]at hy;rcases hy with rfl|rfl<;>first|exact⟨_,ha⟩|exact⟨_,hb⟩
theorem Typ.shx{nz:List Rt.Bs}{x:M.Expr}{k:Int}(h:Typ nz x k):Shx x:=by
 have nk:∀{o:Int},5<=o->a9h o 0 []:=fun{o}ho=>by unfold a9h;rw [if_neg (by omega),if_neg (by omega)];exact⟨rfl,rfl⟩
 have two:∀{o:Int}{a b:M.Expr},(5<=o/\o<=16/\o≠11/\o≠14)->Shx a->Shx b->Shx ⟨o,0,[],[a,b]⟩:=fun{o a b}ho ha hb=>by
  refine Shx.mk (by omega) (by omega) ?_ (nk ho.1) ?_
  ·show(2:Int)=_;unfold b9a;rw [if_neg (by omega),if_neg (by omega),if_neg (by omega)]
  intro y hy;simp only [List.mem_cons,List.not_mem_nil,or_false]at hy;rcases hy with rfl|rfl<;>first|exact ha|exact hb
 have nn:∀{m:Int},0<=m->m<=1099511627776->Shx ⟨0,m,[],[]⟩:=fun{m}h1 h2=>Shx.mk (by decide) (by decide) rfl (by unfold a9h;rw [if_pos rfl];exact⟨⟨h1,h2⟩,rfl⟩) (by intro y hy;cases hy);induction h with
 |num h1 h2=>exact nn h1 h2
 |lifts h1 _=>exact Shx.mk (by decide) (by decide) rfl (by unfold a9h;rw [if_neg (by decide),if_pos (by decide)];exact⟨rfl,h1⟩) (by intro y hy;cases hy)
 |pers=>exact Shx.mk (by decide) (by decide) rfl (by unfold a9h;rw [if_neg (by decide),if_neg (by decide)];exact⟨rfl,rfl⟩) (by intro y hy;cases hy)
 |flats=>exact Shx.mk (by decide) (by decide) rfl (by unfold a9h;rw [if_neg (by decide),if_neg (by decide)];exact⟨rfl,rfl⟩) (by intro y hy;cases hy)
 |wgt h1 _=>exact Shx.mk (by decide) (by decide) rfl (by unfold a9h;rw [if_neg (by decide),if_pos (by decide)];exact⟨rfl,h1⟩) (by intro y hy;cases hy)
 |ari ho _ _ _ _ ha hb=>exact two (by omega) ha hb
 |mul _ _ _ _ _ ha hb=>exact two (by decide) ha hb
 |div _ _ h1 h2 ha=>exact two (by decide) ha (nn (by omega) h2)
 |ite _ _ _ _ _ hc ha hb=>
  refine Shx.mk (by decide) (by decide) rfl (nk (by decide)) ?_;intro y hy;simp only [List.mem_cons,List.not_mem_nil,or_false]at hy;rcases hy with rfl|rfl|rfl<;>first|exact hc|exact ha|exact hb
 |rel ho _ _ ha hb=>exact two (by omega) ha hb
 |not _ ha=>
  refine Shx.mk (by decide) (by decide) rfl (nk (by decide)) ?_;intro y hy;simp only [List.mem_cons,List.not_mem_nil,or_false]at hy;rcases hy with rfl;exact ha
 |bin ho _ _ ha hb=>exact two (by omega) ha hb
theorem f3p(n:Nat)(a b:Int):a1e n a b=some (bif a==0||b==0 then(0,13)else(wd a b,0)):=by
 unfold a1e wd;have orT:∀c d:Bool,(bif c then some true else some d)=some (c||d):=fun c d=>by cases c<;>rfl
 rw [orT,b_s,orT,b_s];cases a==0||b==0<;>cases a==2||b==2<;>rfl
theorem f3s(k p q w:Int):Ev (fun n=>a3m n k [p,q] w) (bif p==w&&q==w then(k,0)else(0,13)):=by
 refine⟨3,fun n hn=> ?_⟩;obtain⟨n,rfl⟩:∃j,n=j+3:=⟨n-3,by omega⟩
 show((bif p !=w then some (0:Int)else bif q !=w then some 1 else some (-1)).bind fun v1=>some (decide (0<=v1))).bind (fun v1=>bif v1 then some ((0:Int),(13:Int))else some (k,0))=_;cases hp:p==w<;>cases hq:q==w<;>simp [bne,hp,hq]
theorem f5a(k p w:Int):Ev (fun n=>a3m n k [p] w) (bif p==w then(k,0)else(0,13)):=by
 refine⟨3,fun n hn=> ?_⟩;obtain⟨n,rfl⟩:∃j,n=j+3:=⟨n-3,by omega⟩
 show((bif p !=w then some (0:Int)else some (-1)).bind fun v1=>some (decide (0<=v1))).bind (fun v1=>bif v1 then some ((0:Int),(13:Int))else some (k,0))=_;cases hp:p==w<;>simp [bne,hp]
def Fnd(nz:List Rt.Bs)(x:M.Expr)(r:Int×Int):Prop:=(r.2=0->Typ nz x r.1)/\(∀k,Typ nz x k->r=(k,0))
theorem Fnd.uniq{nz:List Rt.Bs}{x:M.Expr}{p k:Int}(h:Fnd nz x (p,0))(hk:Typ nz x k):k=p:=by
 have:=h.2 k hk;exact(Prod.mk.inj this).1.symm
inductive F2(nz:List Rt.Bs):List M.Expr->List Int->Prop
 |nil:F2 nz [] []
 |cons {x:M.Expr} {p:Int} {l:List M.Expr} {ps:List Int}:Fnd nz x (p,0)->F2 nz l ps->F2 nz (x::l) (p::ps)
theorem d5h(x:M.Expr)(nz:List Rt.Bs)(hx:x.Args.length<=1000000):∀(us:List M.Expr)(i:Nat)(acc:List Int),x.Args.drop i=us->acc.length=i->i<=x.Args.length->
 (∀y,y∈us->Tt (Fnd nz y) (fun n=>tariff_typed n y nz))->
 (∃(N:Nat)(e:Int),e≠0/\(∃y,y∈us/\∀k,¬Typ nz y k)/\∀n m kont,N<=n->us.length<m->tariff_typed_L1 n (tariff_typed n) x nz kont m (i:Int) acc=some (0,e))∨
 ∃(N:Nat)(ps:List Int),F2 nz us ps/\∀n m kont,N<=n->us.length<m->tariff_typed_L1 n (tariff_typed n) x nz kont m (i:Int) acc=kont (acc++ps)
 | [],i,acc,hd,ha,hi,_=>by
  refine .inr ⟨0,[],F2.nil,fun n m kont _ hm=> ?_⟩;obtain⟨m,rfl⟩:=left hm;rw [tariff_typed_L1_s,a5b hd,List.append_nil];rfl
 |y::us,i,acc,hd,ha,hi,H=>by
  obtain⟨h1,h2,h3⟩:=drop_cons hd;obtain⟨⟨k,e⟩,⟨N1,e1⟩,hq⟩:=H y (by simp)
  by_cases he:e=0
  ·subst he;have step:∀n m kont,N1<=n->tariff_typed_L1 n (tariff_typed n) x nz kont (m+1) (i:Int) acc=tariff_typed_L1 n (tariff_typed n) x nz kont m ((i+1:Nat):Int) (acc++ [k]):=by
    intro n m kont hn;have e1:tariff_typed n y nz=some (k,0):=e1 n (by omega);rw [tariff_typed_L1_s,a1s hd,cond_true,h1,b_s,e1,b_s];show((app 8 acc [k]).bind fun l3=>_)=_;rw [a5f (by simp only [List.length_cons,List.length_nil];omega),b_s,inc64 (by omega)]
   rcases d5h x nz hx us (i+1) (acc++ [k]) h2 (by simp [ha]) (by omega) (fun z hz=>H z (by simp [hz]))with⟨N,e,he,⟨z,hz,hzk⟩,ih⟩|⟨N,ps,hp,ih⟩
   ·refine .inl ⟨max N N1,e,he,⟨z,by simp [hz],hzk⟩,fun n m kont hn hm=> ?_⟩;obtain⟨m,rfl,hm2⟩:=pred (by simpa using hm);rw [step n m kont (by omega)];exact ih n m kont (by omega) hm2
   refine .inr ⟨max N N1,k::ps,F2.cons hq hp,fun n m kont hn hm=> ?_⟩;obtain⟨m,rfl,hm2⟩:=pred (by simpa using hm);rw [step n m kont (by omega),ih n m kont (by omega) hm2,List.append_assoc];rfl
  refine .inl ⟨N1,e,he,⟨y,by simp,fun k' hk=>he (Prod.mk.inj (hq.2 k' hk)).2⟩,fun n m kont hn hm=> ?_⟩;obtain⟨m,rfl⟩:=left hm;have e1:tariff_typed n y nz=some (k,e):=e1 n (by omega);have hb:(e !=0)=true:=by simpa using he
  rw [tariff_typed_L1_s,a1s hd,cond_true,h1,b_s,e1,b_s];dsimp only;rw [hb];rfl
def d9u(nz:List Rt.Bs)(x:M.Expr)(n:Nat)(l2:List Int):Option (Int×Int):= (bif x.Op==1 then some true else some (x.Op==4)).bind fun v1=> bif v1 then (a0s n nz x.Name).bind fun v2=> bif !v2 then some (0,11) else bif x.Op==4 then some (2,0) else some (1,0) else (bif x.Op==0 then some true else bif x.Op==2 then some true else some (x.Op==3)).bind fun v3=> bif v3 then some (1,0) else (bif x.Op==12 then some true else some (x.Op==13)).bind fun v4=> bif v4 then (a3m n 0 l2 1).bind fun v5=> some (v5.1,v5.2) else (bif x.Op==14 then some true else bif x.Op==15 then some true else some (x.Op==16)).bind fun v6=> bif v6 then (a3m n 0 l2 0).bind fun v7=> some (v7.1,v7.2) else bif x.Op==11 then (ix l2 0).bind fun ex=> bif ex !=0 then some (0,13) else (ix l2 1).bind fun w2=> (ix l2 2).bind fun w3=> (a1e n w2 w3).bind fun v8=> some (v8.1,v8.2) else bif x.Op==7 then (ix l2 0).bind fun w4=> (bif w4==2 then (ix l2 1).bind fun w7=> some (w7==2) else some false).bind fun v9=> bif v9 then some (0,13) else (ix l2 0).bind fun w5=> (ix l2 1).bind fun w6=> (a1e n w5 w6).bind fun v10=> some (v10.1,v10.2) else bif x.Op==8 then (ix x.Args 1).bind fun w8=> bif w8.Op !=0 then some (0,13) else bif w8.N==0 then some (0,14) else (ix l2 0).bind fun w9=> (ix l2 1).bind fun w0=> (a1e n w9 w0).bind fun v11=> some (v11.1,v11.2) else (ix l2 0).bind fun w1=> (ix l2 1).bind fun w2=> (a1e n w1 w2).bind fun v12=> some (v12.1,v12.2)
theorem c7c(n:Nat)(x:M.Expr)(nz:List Rt.Bs):tariff_typed (n+1) x nz=tariff_typed_L1 n (tariff_typed n) x nz (d9u nz x n) n 0 []:=rfl
def c3p(p q:Int):Int×Int:=bif p==0||q==0 then(0,13)else(wd p q,0)
theorem b4z(p q:Int):Ev (fun n=>(a1e n p q).bind fun v=>some (v.1,v.2)) (c3p p q):=Ev.all fun n=>by rw [f3p];rfl
theorem e6m(p q w:Int):Ev (fun n=>(a3m n 0 [p,q] w).bind fun v5=>some (v5.1,v5.2)) (bif p==w&&q==w then(0,0)else(0,13)):=Ev.bind (f3s 0 p q w) (Ev.pure _)
theorem f5l(p w:Int):Ev (fun n=>(a3m n 0 [p] w).bind fun v5=>some (v5.1,v5.2)) (bif p==w then(0,0)else(0,13)):=Ev.bind (f5a 0 p w) (Ev.pure _)
theorem b5l(p q:Int):((p≠0/\q≠0)/\c3p p q=(wd p q,0))∨((p=0∨q=0)/\c3p p q=(0,13)):=by
 unfold c3p
 by_cases hp:p=0
 ·subst hp;exact .inr ⟨.inl rfl,rfl⟩
 by_cases hq:q=0
 ·subst hq;exact .inr ⟨.inr rfl,by rw [show((0:Int)==0)=true from rfl,Bool.or_true];rfl⟩
 exact .inl ⟨⟨hp,hq⟩,by rw [show(p==0)=false by simpa using hp,show(q==0)=false by simpa using hq];rfl⟩
theorem Fnd.no{nz:List Rt.Bs}{x:M.Expr}{p e:Int}(he:e≠0)(h:∀k,¬Typ nz x k):Fnd nz x (p,e):=⟨fun h2=>absurd h2 he,fun k hk=>absurd hk (h k)⟩
theorem Fnd.yes{nz:List Rt.Bs}{x:M.Expr}{p:Int}(h:Typ nz x p)(hu:∀k,Typ nz x k->k=p):Fnd nz x (p,0):=⟨fun _=>h,fun k hk=>by rw [hu k hk]⟩
theorem F2.len0{nz:List Rt.Bs}{l:List M.Expr}{ps:List Int}(h:F2 nz l ps)(h0:(l.length:Int)=0):l= []/\ps= []:=by
 cases h with
 |nil=>exact⟨rfl,rfl⟩
 |cons=>simp at h0;omega
theorem F2.len1{nz:List Rt.Bs}{l:List M.Expr}{ps:List Int}(h:F2 nz l ps)(h0:(l.length:Int)=1):∃a p,l= [a]/\ps= [p]/\Fnd nz a (p,0):=by
 cases h with
 |nil=>simp at h0
 |cons ha h=>
  obtain⟨rfl,rfl⟩:=h.len0 (by simp only [List.length_cons]at h0;omega);exact⟨_,_,rfl,rfl,ha⟩
theorem F2.len2{nz:List Rt.Bs}{l:List M.Expr}{ps:List Int}(h:F2 nz l ps)(h0:(l.length:Int)=2):∃a b p q,l= [a,b]/\ps= [p,q]/\Fnd nz a (p,0)/\Fnd nz b (q,0):=by
 cases h with
 |nil=>simp at h0
 |cons ha h=>
  obtain⟨b,q,rfl,rfl,hb⟩:=h.len1 (by simp only [List.length_cons]at h0;omega);exact⟨_,b,_,q,rfl,rfl,ha,hb⟩
theorem F2.len3{nz:List Rt.Bs}{l:List M.Expr}{ps:List Int}(h:F2 nz l ps)(h0:(l.length:Int)=3):∃a b c p q r,l= [a,b,c]/\ps= [p,q,r]/\Fnd nz a (p,0)/\Fnd nz b (q,0)/\Fnd nz c (r,0):=by
 cases h with
 |nil=>simp at h0
 |cons ha h=>
  obtain⟨b,c,q,r,rfl,rfl,hb,hc⟩:=h.len2 (by simp only [List.length_cons]at h0;omega);exact⟨_,b,c,_,q,r,rfl,rfl,ha,hb,hc⟩
theorem Shx.leaf{m:Int}{s:Rt.Bs}{l:List M.Expr}(h:Shx ⟨0,m,s,l⟩):(0<=m/\m<=1099511627776)/\s= []/\l= []:=by
 obtain⟨_,_,h3,h4,_⟩:=h.inv;unfold a9h at h4;rw [if_pos rfl]at h4;refine⟨h4.1,h4.2,List.length_eq_zero_iff.1 ?_⟩;have:(l.length:Int)=0:=h3;omega
theorem c9g{nz:List Rt.Bs}{o:Int}{a b:M.Expr}{p q:Int}(ho:o=5∨o=6∨o=9∨o=10)(ha:Fnd nz a (p,0))(hb:Fnd nz b (q,0)):Fnd nz ⟨o,0,[],[a,b]⟩ (c3p p q):=by
 have inv:∀k,Typ nz ⟨o,0,[],[a,b]⟩ k->(p≠0/\q≠0)/\k=wd p q:=by
  intro k hk;cases hk with
  |ari _ h1 h2 h3 h4=>obtain rfl:=ha.uniq h1;obtain rfl:=hb.uniq h2;exact⟨⟨h3,h4⟩,rfl⟩
  |mul=>omega
  |div=>omega
  |rel h=>omega
  |bin h=>omega
 rcases b5l p q with⟨h,e⟩|⟨h,e⟩
 ·rw [e];exact Fnd.yes (Typ.ari ho (ha.1 rfl) (hb.1 rfl) h.1 h.2) fun k hk=>(inv k hk).2
 rw [e];exact Fnd.no (by decide) fun k hk=>by have:=(inv k hk).1;omega
theorem f1k{nz:List Rt.Bs}{a b:M.Expr}{p q:Int}(ha:Fnd nz a (p,0))(hb:Fnd nz b (q,0)):Fnd nz ⟨7,0,[],[a,b]⟩ (bif p==2&&q==2 then(0,13)else c3p p q):=by
 have inv:∀k,Typ nz ⟨7,0,[],[a,b]⟩ k->((p≠0/\q≠0)/\¬(p=2/\q=2))/\k=wd p q:=by
  intro k hk;cases hk with
  |ari h=>omega
  |mul h1 h2 h3 h4 h5=>obtain rfl:=ha.uniq h1;obtain rfl:=hb.uniq h2;exact⟨⟨⟨h3,h4⟩,h5⟩,rfl⟩
  |rel h=>omega
  |bin h=>omega
 by_cases h2:p=2/\q=2
 ·rw [h2.1,h2.2];exact Fnd.no (by decide) fun k hk=>(inv k hk).1.2 h2
 have e2:(p==2&&q==2)=false:=by
  cases h:p==2&&q==2
  ·rfl
  rw [Bool.and_eq_true]at h;exact absurd ⟨by simpa using h.1,by simpa using h.2⟩ h2
 rw [e2];show Fnd nz _ (c3p p q);rcases b5l p q with⟨h,e⟩|⟨h,e⟩
 ·rw [e];exact Fnd.yes (Typ.mul (ha.1 rfl) (hb.1 rfl) h.1 h.2 h2) fun k hk=>(inv k hk).2
 rw [e];exact Fnd.no (by decide) fun k hk=>by have:=(inv k hk).1.1;omega
theorem f4r{nz:List Rt.Bs}{a:M.Expr}{p:Int}(h:Typ nz a p)(h0:p≠0):wd p 1=p:=by
 rcases h.range with rfl|rfl|rfl
 ·exact absurd rfl h0
 ·rfl
 rfl
theorem f0s{nz:List Rt.Bs}{a b:M.Expr}{p q:Int}(ha:Fnd nz a (p,0))(hb:Fnd nz b (q,0))(hs:Shx b):Fnd nz ⟨8,0,[],[a,b]⟩ (bif b.Op !=0 then(0,13)else bif b.N==0 then(0,14)else c3p p q):=by
 have inv:∀k,Typ nz ⟨8,0,[],[a,b]⟩ k->∃m,b=⟨0,m,[],[]⟩/\m≠0/\p≠0/\k=p:=by
  intro k hk;cases hk with
  |ari h=>omega
  |div h1 h2 h3 h4=>obtain rfl:=ha.uniq h1;exact⟨_,rfl,by omega,h2,rfl⟩
  |rel h=>omega
  |bin h=>omega
 obtain⟨o,m,s,l⟩:=b;dsimp only
 by_cases h0:o=0
 ·subst h0;obtain⟨h1,rfl,rfl⟩:=hs.leaf;have hq:q=1:=(hb.uniq (Typ.num h1.1 h1.2)).symm;subst hq;show Fnd nz _ (bif m==0 then(0,14)else c3p p 1)
  by_cases hm:m=0
  ·subst hm;exact Fnd.no (by decide) fun k hk=>by
    obtain⟨m2,h5,h6,_⟩:=inv k hk;injection h5 with _ h7
    exact h6 h7.symm
  rw [show(m==0)=false by simpa using hm];show Fnd nz _ (c3p p 1);rcases b5l p 1 with⟨h,e⟩|⟨h,e⟩
  ·rw [e,f4r (ha.1 rfl) h.1];exact Fnd.yes (Typ.div (ha.1 rfl) h.1 (by omega) h1.2) fun k hk=>by obtain⟨_,_,_,_,h⟩:=inv k hk;exact h
  rw [e];exact Fnd.no (by decide) fun k hk=>by obtain⟨_,_,_,h5,_⟩:=inv k hk;omega
 rw [show(o !=0)=true by simpa using h0];exact Fnd.no (by decide) fun k hk=>by
  obtain⟨m2,h5,_⟩:=inv k hk;injection h5 with h7
  exact h0 h7
theorem f0y{nz:List Rt.Bs}{c a b:M.Expr}{r p q:Int}(hc:Fnd nz c (r,0))(ha:Fnd nz a (p,0))(hb:Fnd nz b (q,0)):Fnd nz ⟨11,0,[],[c,a,b]⟩ (bif r !=0 then(0,13)else c3p p q):=by
 have inv:∀k,Typ nz ⟨11,0,[],[c,a,b]⟩ k->(r=0/\p≠0/\q≠0)/\k=wd p q:=by
  intro k hk;cases hk with
  |ite h0 h1 h2 h3 h4=>obtain rfl:=hc.uniq h0;obtain rfl:=ha.uniq h1;obtain rfl:=hb.uniq h2;exact⟨⟨rfl,h3,h4⟩,rfl⟩
 by_cases hr:r=0
 ·subst hr;show Fnd nz _ (c3p p q);rcases b5l p q with⟨h,e⟩|⟨h,e⟩
  ·rw [e];exact Fnd.yes (Typ.ite (hc.1 rfl) (ha.1 rfl) (hb.1 rfl) h.1 h.2) fun k hk=>(inv k hk).2
  rw [e];exact Fnd.no (by decide) fun k hk=>by have:=(inv k hk).1;omega
 rw [show(r !=0)=true by simpa using hr];exact Fnd.no (by decide) fun k hk=>hr (inv k hk).1.1
theorem e3w{nz:List Rt.Bs}{o:Int}{a b:M.Expr}{p q:Int}(ho:o=12∨o=13)(ha:Fnd nz a (p,0))(hb:Fnd nz b (q,0)):Fnd nz ⟨o,0,[],[a,b]⟩ (bif p==1&&q==1 then(0,0)else(0,13)):=by
 have inv:∀k,Typ nz ⟨o,0,[],[a,b]⟩ k->(p=1/\q=1)/\k=0:=by
  intro k hk;cases hk with
  |ari h=>omega
  |mul=>omega
  |div=>omega
  |rel _ h1 h2=>exact⟨⟨(ha.uniq h1).symm,(hb.uniq h2).symm⟩,rfl⟩
  |bin h=>omega
 by_cases h2:p=1/\q=1
 ·obtain⟨rfl,rfl⟩:=h2;exact Fnd.yes (Typ.rel ho (ha.1 rfl) (hb.1 rfl)) fun k hk=>(inv k hk).2
 have e2:(p==1&&q==1)=false:=by
  cases h:p==1&&q==1
  ·rfl
  rw [Bool.and_eq_true]at h;exact absurd ⟨by simpa using h.1,by simpa using h.2⟩ h2
 rw [e2];exact Fnd.no (by decide) fun k hk=>h2 (inv k hk).1
theorem d8x{nz:List Rt.Bs}{o:Int}{a b:M.Expr}{p q:Int}(ho:o=15∨o=16)(ha:Fnd nz a (p,0))(hb:Fnd nz b (q,0)):Fnd nz ⟨o,0,[],[a,b]⟩ (bif p==0&&q==0 then(0,0)else(0,13)):=by
 have inv:∀k,Typ nz ⟨o,0,[],[a,b]⟩ k->(p=0/\q=0)/\k=0:=by
  intro k hk;cases hk with
  |ari h=>omega
  |mul=>omega
  |div=>omega
  |rel h=>omega
  |bin _ h1 h2=>exact⟨⟨(ha.uniq h1).symm,(hb.uniq h2).symm⟩,rfl⟩
 by_cases h2:p=0/\q=0
 ·obtain⟨rfl,rfl⟩:=h2;exact Fnd.yes (Typ.bin ho (ha.1 rfl) (hb.1 rfl)) fun k hk=>(inv k hk).2
 have e2:(p==0&&q==0)=false:=by
  cases h:p==0&&q==0
  ·rfl
  rw [Bool.and_eq_true]at h;exact absurd ⟨by simpa using h.1,by simpa using h.2⟩ h2
 rw [e2];exact Fnd.no (by decide) fun k hk=>h2 (inv k hk).1
theorem f2j{nz:List Rt.Bs}{a:M.Expr}{p:Int}(ha:Fnd nz a (p,0)):Fnd nz ⟨14,0,[],[a]⟩ (bif p==0 then(0,0)else(0,13)):=by
 have inv:∀k,Typ nz ⟨14,0,[],[a]⟩ k->p=0/\k=0:=by
  intro k hk;cases hk with
  |not h1=>exact⟨(ha.uniq h1).symm,rfl⟩
 by_cases h2:p=0
 ·subst h2;exact Fnd.yes (Typ.not (ha.1 rfl)) fun k hk=>(inv k hk).2
 rw [show(p==0)=false by simpa using h2];exact Fnd.no (by decide) fun k hk=>h2 (inv k hk).1
theorem a5r{o n:Int}{s:Rt.Bs}(h:a9h o n s)(h5:o≠0/\o≠1/\o≠4):n=0/\s= []:=by
 unfold a9h at h;rw [if_neg h5.1,if_neg (by omega)]at h;exact h
theorem c8v{x:M.Expr}(hx:Fit x)(nz:List Rt.Bs)(hn:nz.length<4611686018427387904):Shx x->Tt (Fnd nz x) (fun n=>tariff_typed n x nz):=by
 induction hx with
 | @mk o k s l hl _ ih=>
  intro hs;obtain⟨h1,h2,h3,hno,h4⟩:=hs.inv;rcases d5h ⟨o,k,s,l⟩ nz hl l 0 [] rfl rfl (by simp) (fun y hy=>ih y hy (h4 y hy))with⟨N,e,he,⟨y,hy,hyk⟩,hL⟩|⟨N,ps,hp,hL⟩
  ·refine⟨(0,e),Ev.suc (fun n=>c7c n _ _) ⟨N+l.length+1,fun n hn=>hL n n _ (by omega) (by omega)⟩,Fnd.no he fun k' hk=> ?_⟩;obtain⟨p,hp⟩:=hk.args y hy;exact hyk p hp
  have out:∀r:Int×Int,Fnd nz ⟨o,k,s,l⟩ r->Ev (fun n=>d9u nz ⟨o,k,s,l⟩ n ps) r->Tt (Fnd nz ⟨o,k,s,l⟩) (fun n=>tariff_typed n ⟨o,k,s,l⟩ nz):=by
   intro r hty hf;exact⟨r,Ev.suc (fun n=>c7c n _ _) (Ev.from (N+l.length+1) (fun n hn=>hL n n _ (by omega) (by omega)) hf),hty⟩
  clear hL ih;have hc:o=0∨o=1∨o=2∨o=3∨o=4∨o=5∨o=6∨o=7∨o=8∨o=9∨o=10∨o=11∨o=12∨o=13∨o=14∨o=15∨o=16:=by omega
  rcases hc with rfl|rfl|rfl|rfl|rfl|rfl|rfl|rfl|rfl|rfl|rfl|rfl|rfl|rfl|rfl|rfl|rfl
  ·obtain⟨h5,rfl,rfl⟩:=hs.leaf;obtain⟨_,rfl⟩:=hp.len0 rfl;exact out (1,0) (Fnd.yes (Typ.num h5.1 h5.2) fun k hk=>by cases hk;rfl) (Ev.all fun n=>rfl)
  ·obtain⟨rfl,rfl⟩:=hp.len0 h3;unfold a9h at hno;rw [if_neg (by decide),if_pos (by decide)]at hno;obtain⟨rfl,hname⟩:=hno;refine out (bif !decide (s∈nz)then(0,11)else(1,0)) ?_ ?_
   ·by_cases hm:s∈nz
    ·rw [decide_eq_true hm];exact Fnd.yes (Typ.lifts hname hm) fun k hk=>by cases hk;rfl
    rw [decide_eq_false hm];exact Fnd.no (by decide) fun k hk=>by cases hk;contradiction
   exact Ev.bind (f:=fun n v2=>bif !v2 then some (0,11)else some (1,0)) (b2b s hn) (by cases decide (s∈nz)<;>exact Ev.pure _)
  ·obtain⟨rfl,rfl⟩:=hp.len0 h3;obtain⟨rfl,rfl⟩:=a5r hno (by decide);exact out (1,0) (Fnd.yes Typ.pers fun k hk=>by cases hk;rfl) (Ev.all fun n=>rfl)
  ·obtain⟨rfl,rfl⟩:=hp.len0 h3;obtain⟨rfl,rfl⟩:=a5r hno (by decide);exact out (1,0) (Fnd.yes Typ.flats fun k hk=>by cases hk;rfl) (Ev.all fun n=>rfl)
  ·obtain⟨rfl,rfl⟩:=hp.len0 h3;unfold a9h at hno;rw [if_neg (by decide),if_pos (by decide)]at hno;obtain⟨rfl,hname⟩:=hno;refine out (bif !decide (s∈nz)then(0,11)else(2,0)) ?_ ?_
   ·by_cases hm:s∈nz
    ·rw [decide_eq_true hm];exact Fnd.yes (Typ.wgt hname hm) fun k hk=>by cases hk;rfl
    rw [decide_eq_false hm];exact Fnd.no (by decide) fun k hk=>by cases hk;contradiction
   exact Ev.bind (f:=fun n v2=>bif !v2 then some (0,11)else some (2,0)) (b2b s hn) (by cases decide (s∈nz)<;>exact Ev.pure _)
  ·obtain⟨a,b,p,q,rfl,rfl,ha,hb⟩:=hp.len2 h3;obtain⟨rfl,rfl⟩:=a5r hno (by decide);exact out _ (c9g (by decide) ha hb) (b4z p q)
  ·obtain⟨a,b,p,q,rfl,rfl,ha,hb⟩:=hp.len2 h3;obtain⟨rfl,rfl⟩:=a5r hno (by decide);exact out _ (c9g (by decide) ha hb) (b4z p q)
  ·obtain⟨a,b,p,q,rfl,rfl,ha,hb⟩:=hp.len2 h3;obtain⟨rfl,rfl⟩:=a5r hno (by decide);refine out _ (f1k ha hb) ?_;show Ev (fun n=>(bif p==2 then some (q==2)else some false).bind fun v9=>bif v9 then some (0,13)else(a1e n p q).bind fun v=>some (v.1,v.2)) _;refine Ev.bind (a:=p==2&&q==2) (Ev.all fun n=>by cases p==2<;>rfl) ?_;cases p==2&&q==2
   ·exact Ev.else rfl (b4z p q)
   exact Ev.then rfl (Ev.pure _)
  ·obtain⟨a,b,p,q,rfl,rfl,ha,hb⟩:=hp.len2 h3;obtain⟨rfl,rfl⟩:=a5r hno (by decide);refine out _ (f0s ha hb (h4 b (by simp))) ?_;show Ev (fun n=>bif b.Op !=0 then some (0,13)else bif b.N==0 then some (0,14)else(a1e n p q).bind fun v=>some (v.1,v.2)) _;cases b.Op !=0
   ·cases b.N==0
    ·exact Ev.else rfl (Ev.else rfl (b4z p q))
    exact Ev.else rfl (Ev.then rfl (Ev.pure _))
   exact Ev.then rfl (Ev.pure _)
  ·obtain⟨a,b,p,q,rfl,rfl,ha,hb⟩:=hp.len2 h3;obtain⟨rfl,rfl⟩:=a5r hno (by decide);exact out _ (c9g (by decide) ha hb) (b4z p q)
  ·obtain⟨a,b,p,q,rfl,rfl,ha,hb⟩:=hp.len2 h3;obtain⟨rfl,rfl⟩:=a5r hno (by decide);exact out _ (c9g (by decide) ha hb) (b4z p q)
  ·obtain⟨c,a,b,r,p,q,rfl,rfl,hcc,ha,hb⟩:=hp.len3 h3;obtain⟨rfl,rfl⟩:=a5r hno (by decide);refine out _ (f0y hcc ha hb) ?_;show Ev (fun n=>bif r !=0 then some (0,13)else(a1e n p q).bind fun v=>some (v.1,v.2)) _;cases r !=0
   ·exact Ev.else rfl (b4z p q)
   exact Ev.then rfl (Ev.pure _)
  ·obtain⟨a,b,p,q,rfl,rfl,ha,hb⟩:=hp.len2 h3;obtain⟨rfl,rfl⟩:=a5r hno (by decide);exact out _ (e3w (by decide) ha hb) (e6m p q 1)
  ·obtain⟨a,b,p,q,rfl,rfl,ha,hb⟩:=hp.len2 h3;obtain⟨rfl,rfl⟩:=a5r hno (by decide);exact out _ (e3w (by decide) ha hb) (e6m p q 1)
  ·obtain⟨a,p,rfl,rfl,ha⟩:=hp.len1 h3;obtain⟨rfl,rfl⟩:=a5r hno (by decide);exact out _ (f2j ha) (f5l p 0)
  ·obtain⟨a,b,p,q,rfl,rfl,ha,hb⟩:=hp.len2 h3;obtain⟨rfl,rfl⟩:=a5r hno (by decide);exact out _ (d8x (by decide) ha hb) (e6m p q 0)
  obtain⟨a,b,p,q,rfl,rfl,ha,hb⟩:=hp.len2 h3;obtain⟨rfl,rfl⟩:=a5r hno (by decide);exact out _ (d8x (by decide) ha hb) (e6m p q 0)
theorem Typ.uniq{nz:List Rt.Bs}(hn:nz.length<4611686018427387904){x:M.Expr}(hx:Fit x){j k:Int}(h:Typ nz x j)(h2:Typ nz x k):j=k:=by
 obtain⟨r,_,hr⟩:=c8v hx nz hn h.shx;have e:=(hr.2 j h).symm.trans (hr.2 k h2);exact(Prod.mk.inj e).1
def Chk(nz:List Rt.Bs)(t:Tariff):Prop:=named nz=true/\Wrt t/\∃k,k≠0/\Typ nz t.Fee k
theorem d4b{t:Tariff}(hx:Fit t.Fee)(nz:List Rt.Bs)(hn:nz.length<4611686018427387904):Tt (fun e=>e=0↔Chk nz t) (fun n=>a4t n t nz):=by
 unfold a4t;refine Tt.evb (c0c hn) (Tt.bif (fun h=>Tt.pure ⟨fun h=>(by cases h),fun h5=> ?_⟩) (fun h=> ?_))
 ·rw [h5.1]at h;cases h
 have hnm:named nz=true:=by simpa using h
 refine Tt.bind (d8i hx) fun b hb=> ?_;refine Tt.bif (fun h=>Tt.pure ⟨fun h=>(by cases h),fun h5=> ?_⟩) (fun h=> ?_)
 ·rw [hb.2 h5.2.1]at h;cases h
 have hw:Wrt t:=hb.1 (by simpa using h);refine Tt.bind (c8v hx nz hn hw.2.1.2) fun r hr=> ?_;refine Tt.bind (P:=fun b=>b=true↔r.2=0/\r.1=0) (Tt.bif (fun h=>Tt.pure ?_) (fun h=>Tt.pure ?_)) fun b hb=> ?_
 ·have:r.2=0:=by simpa using h
  simp [this]
 ·have:r.2≠0:=by simpa using h
  simp [this]
 refine Tt.bif (fun h=>Tt.pure ⟨fun h=>(by cases h),fun h5=> ?_⟩) (fun h=>Tt.pure ⟨fun h5=> ?_,fun h5=> ?_⟩)
 ·obtain⟨_,_,k,hk,ht⟩:=h5;have:=hr.2 k ht;have h7:=(hb.1 h).2;rw [this]at h7;exact absurd h7 hk
 ·refine⟨hnm,hw,r.1,fun h6=> ?_,hr.1 h5⟩;rw [hb.2 ⟨h5,h6⟩]at h;cases h
 obtain⟨_,_,k,hk,ht⟩:=h5;rw [hr.2 k ht]
end Tp
namespace D
def val:List Int->Int | []=>0 |d::l=>d+1048576*val l
def valc:List Int->Int->Int | [],c=>c |d::l,c=>d+1048576*valc l c
def pw:Nat->Int |0=>1 |k+1=>1048576*pw k
def InR(l:List Int):Prop:=∀d∈l,0<=d/\d<1048576
theorem InR.nil:InR []:=by intro d hd;simp at hd
theorem InR.cons{d:Int}{l:List Int}(h0:0<=d)(h1:d<1048576)(h:InR l):InR (d::l):=by
 intro e he;rcases List.mem_cons.1 he with rfl|he
 ·exact⟨h0,h1⟩
 exact h e he
theorem InR.head{d:Int}{l:List Int}(h:InR (d::l)):0<=d/\d<1048576:=h d (by simp)
theorem InR.tail{d:Int}{l:List Int}(h:InR (d::l)):InR l:=fun e he=>h e (by simp [he])
theorem InR.append{a b:List Int}(h:InR a)(k:InR b):InR (a++b):=by
 intro e he;rcases List.mem_append.1 he with he|he
 ·exact h e he
 exact k e he
theorem InR.left{a b:List Int}(h:InR (a++b)):InR a:=fun e he=>h e (by simp [he])
theorem InR.right{a b:List Int}(h:InR (a++b)):InR b:=fun e he=>h e (by simp [he])
theorem InR.rep(k:Nat):InR (List.replicate k 0):=by
 intro e he;rw [(List.mem_replicate.1 he).2];decide
theorem InR.headD{l:List Int}(h:InR l):0<=l.headD 0/\l.headD 0<1048576:=by
 cases l with
 |nil=>simp
 |cons d l=>simpa using h.head
theorem InR.tail'{l:List Int}(h:InR l):InR l.tail:=by
 cases l with
 |nil=>exact h
 |cons d l=>exact h.tail
theorem pw_pos:∀k,0<pw k
 |0=>by decide
 |k+1=>by have:=pw_pos k;simp only [pw];omega
theorem valc_eq:∀(l:List Int)(c:Int),valc l c=val l+pw l.length*c
 | [],c=>by simp [valc,val,pw]
 |d::l,c=>by simp only [valc,val,pw,List.length_cons,valc_eq l c];grind
theorem val_append:∀(a b:List Int),val (a++b)=val a+pw a.length*val b
 | [],b=>by simp [val,pw]
 |d::a,b=>by simp only [List.cons_append,val,pw,List.length_cons,val_append a b];grind
theorem b9h(a b:List Int):valc a (val b)=val (a++b):=by rw [valc_eq,val_append]
theorem val_nonneg:∀{l:List Int},InR l->0<=val l
 | [],_=>by simp [val]
 |d::l,h=>by have:=val_nonneg h.tail;have:=h.head;simp only [val];omega
theorem val_lt:∀{l:List Int},InR l->val l<pw l.length
 | [],_=>by simp [val,pw]
 |d::l,h=>by have:=val_lt h.tail;have:=h.head;simp only [val,pw,List.length_cons];omega
theorem val_rep:∀k,val (List.replicate k 0)=0
 |0=>rfl
 |k+1=>by rw [List.replicate_succ];simp only [val,val_rep k];rfl
def dig(v:Nat):List Int:=if v=0 then []else((v %1048576:Nat):Int)::dig (v/1048576)
 termination_by v
 decreasing_by omega
theorem dig_zero:dig 0= []:=by rw [dig];simp
theorem b5i{v:Nat}(h:v≠0):dig v=((v %1048576:Nat):Int)::dig (v/1048576):=by rw [dig];simp [h]
theorem a1i(v:Nat):val (dig v)=v:=by
 induction v using Nat.strongRecOn with
 |ind v ih=>
  by_cases h:v=0
  ·subst h;rw [dig_zero];rfl
  rw [b5i h];simp only [val];rw [ih (v/1048576) (by omega)];omega
theorem a1y(v:Nat):InR (dig v):=by
 induction v using Nat.strongRecOn with
 |ind v ih=>
  by_cases h:v=0
  ·subst h;rw [dig_zero];exact InR.nil
  rw [b5i h];exact InR.cons (by omega) (by omega) (ih _ (by omega))
theorem b8x{v:Nat}(h:v≠0):dig v≠ []:=by rw [b5i h];simp
theorem c1h(v:Nat):(dig v).getLast?≠some 0:=by
 induction v using Nat.strongRecOn with
 |ind v ih=>
  by_cases h:v=0
  ·subst h;rw [dig_zero];simp
  rw [b5i h]
  by_cases h2:v/1048576=0
  ·rw [h2,dig_zero];simp;omega
  have:=ih _ (show v/1048576<v by omega);rw [List.getLast?_cons];have h3:=b8x h2;cases hg:(dig (v/1048576)).getLast? with
  |none=>rw [List.getLast?_eq_none_iff]at hg;exact absurd hg h3
  |some z=>simp [hg]at this⊢;exact this
def Canon(l:List Int):Prop:=InR l/\l.getLast?≠some 0
theorem Canon.tail{d:Int}{l:List Int}(h:Canon (d::l)):Canon l:=by
 refine⟨h.1.tail,?_⟩;cases l with
 |nil=>simp
 |cons e l=>have:=h.2;rw [List.getLast?_cons_cons]at this;exact this
theorem b1b(v:Nat):Canon (dig v):=⟨a1y v,c1h v⟩
theorem dig_val:∀{l:List Int},Canon l->dig (val l).toNat=l
 | [],_=>by simp [val,dig_zero]
 |d::l,h=>by
  have ih:=dig_val h.tail;have h0:=h.1.head;have h1:=val_nonneg h.1.tail;simp only [val];have hne:(d+1048576*val l).toNat≠0:=by
   intro e;have e1:val l=0:=by omega
   have e2:d=0:=by omega
   rw [e1]at ih;simp only [Int.toNat_zero,dig_zero]at ih;subst ih e2;exact h.2 rfl
  rw [b5i hne];have e1:(((d+1048576*val l).toNat %1048576:Nat):Int)=d:=by omega
  have e2:(d+1048576*val l).toNat/1048576=(val l).toNat:=by omega
  rw [e1,e2,ih]
theorem e8j{u v:Nat}(h:dig u=dig v):u=v:=by
 have h1:=a1i u;rw [h,a1i]at h1;omega
theorem split_dig:∀{l:List Int},InR l->∃r,l=dig (val l).toNat++List.replicate r 0
 | [],_=>⟨0,by simp [val,dig_zero]⟩
 |d::l,h=>by
  obtain⟨r,hr⟩:=split_dig h.tail;have h0:=h.head;have h1:=val_nonneg h.tail;simp only [val]
  by_cases hz:(d+1048576*val l).toNat=0
  ·have e1:val l=0:=by omega
   have e2:d=0:=by omega
   rw [e1]at hr;simp only [Int.toNat_zero,dig_zero,List.nil_append]at hr;refine⟨r+1,?_⟩;rw [hz,dig_zero,e2,hr,List.replicate_succ];simp
  refine⟨r,?_⟩;rw [b5i hz];have e1:(((d+1048576*val l).toNat %1048576:Nat):Int)=d:=by omega
  have e2:(d+1048576*val l).toNat/1048576=(val l).toNat:=by omega
  rw [e1,e2]
  conv=>lhs;rw [hr]
  simp
theorem c2n{l:List Int}(h:InR l):(dig (val l).toNat).length<=l.length:=by
 obtain⟨r,hr⟩:=split_dig h
 conv=>rhs;rw [hr]
 simp
theorem val_lt_of_len:∀{a b:List Int},InR a->Canon b->a.length<b.length->val a<val b
 | [],[],_,_,h=>by simp at h
 | [],d::l,_,hb,_=>by
  have h1:=val_nonneg hb.1;have h2:val (d::l)≠0:=by
   intro e;have:=dig_val hb;rw [e]at this;simp [dig_zero]at this
  simp only [val]at*;omega
 |x::xs,[],_,_,h=>by simp at h
 |x::xs,y::ys,ha,hb,h=>by
  have:=val_lt_of_len ha.tail hb.tail (by simpa using h);have:=ha.head;have:=hb.1.head;simp only [val];omega
theorem a4o{u v:Nat}(h:u<=v):(dig u).length<=(dig v).length:=by
 rcases Nat.lt_or_ge (dig v).length (dig u).length with h1|h1
 ·have:=val_lt_of_len (a1y v) (b1b u) h1;rw [a1i,a1i]at this;omega
 exact h1
def addD:Int->List Int->List Int->List Int×Int |c,[],_=>([],c) |c,x::xs,ys=>((c+x+ys.headD 0) %1048576::(addD ((c+x+ys.headD 0)/1048576) xs ys.tail).1,(addD ((c+x+ys.headD 0)/1048576) xs ys.tail).2)
theorem addD_val:∀(xs ys:List Int)(c:Int),ys.length<=xs.length->valc (addD c xs ys).1 (addD c xs ys).2=c+val xs+val ys
 | [],ys,c,h=>by
  have:ys= []:=List.eq_nil_of_length_eq_zero (by simpa using h);subst this;simp [addD,valc,val]
 |x::xs,ys,c,h=>by
  have ih:=addD_val xs ys.tail ((c+x+ys.headD 0)/1048576) (by simp at h⊢;omega);simp only [addD,valc,ih,val];cases ys with
  |nil=>simp [val];omega
  |cons y ys=>simp [val];omega
theorem addD_len:∀(xs ys:List Int)(c:Int),(addD c xs ys).1.length=xs.length
 | [],_,_=>rfl
 |x::xs,ys,c=>by simp [addD,addD_len xs]
theorem addD_in:∀(xs ys:List Int)(c:Int),InR (addD c xs ys).1
 | [],_,_=>InR.nil
 |x::xs,ys,c=>InR.cons (by omega) (by omega) (addD_in xs _ _)
theorem addD_carry:∀(xs ys:List Int)(c:Int),InR xs->InR ys->0<=c->c<=1->0<=(addD c xs ys).2/\(addD c xs ys).2<=1
 | [],_,c,_,_,h0,h1=>⟨h0,h1⟩
 |x::xs,ys,c,hx,hy,h0,h1=>by
  have:=hx.head;have:=hy.headD;exact addD_carry xs ys.tail _ hx.tail hy.tail' (by omega) (by omega)
def setD(g:Int):Int->List Int->List Int->List Int×Int |b,[],_=>([],b) |b,u::us,vs=>((u-b-g*vs.headD 0) %1048576::(setD g (-((u-b-g*vs.headD 0)/1048576)) us vs.tail).1,(setD g (-((u-b-g*vs.headD 0)/1048576)) us vs.tail).2)
theorem d0p(g:Int):∀(us vs:List Int)(b:Int),vs.length<=us.length->valc (setD g b us vs).1 (-(setD g b us vs).2)=val us-b-g*val vs
 | [],vs,b,h=>by
  have:vs= []:=List.eq_nil_of_length_eq_zero (by simpa using h);subst this;simp [setD,valc,val]
 |u::us,vs,b,h=>by
  have ih:=d0p g us vs.tail (-((u-b-g*vs.headD 0)/1048576)) (by simp at h⊢;omega);simp only [setD,valc,ih,val];cases vs with
  |nil=>simp [val];omega
  |cons v vs=>
   simp only [List.headD_cons,List.tail_cons,val];rw [show g*(v+1048576*val vs)=g*v+1048576*(g*val vs) by grind];generalize g*v=p;generalize g*val vs=q;omega
theorem b7t(g:Int):∀(us vs:List Int)(b:Int),(setD g b us vs).1.length=us.length
 | [],_,_=>rfl
 |x::xs,ys,c=>by simp [setD,b7t g xs]
theorem b6v(g:Int):∀(us vs:List Int)(b:Int),InR (setD g b us vs).1
 | [],_,_=>InR.nil
 |x::xs,ys,c=>InR.cons (by omega) (by omega) (b6v g xs _ _)
theorem b9v{g v:Int}(hg:0<=g)(h0:0<=v)(h1:v<1048576):0<=g*v/\g*v<=g*1048576-g:=by
 have h2:=Int.mul_nonneg hg h0;have h3:=Int.mul_le_mul_of_nonneg_left (show v<=1048575 by omega) hg;omega
theorem b9p{g:Int}(hg:0<=g):∀(us vs:List Int)(b:Int),InR us->InR vs->0<=b->b<=g->0<=(setD g b us vs).2/\(setD g b us vs).2<=g
 | [],_,b,_,_,h0,h1=>⟨h0,h1⟩
 |u::us,vs,b,hu,hv,h0,h1=>by
  have:=hu.head;have:=hv.headD;have:=b9v (g:=g) hg this.1 this.2;exact b9p hg us vs.tail _ hu.tail hv.tail' (by omega) (by omega)
def mulD(x:Int):Int->List Int->List Int->List Int×Int |c,[],_=>([],c) |c,y::ys,ws=>((ws.headD 0+x*y+c) %1048576::(mulD x ((ws.headD 0+x*y+c)/1048576) ys ws.tail).1,(mulD x ((ws.headD 0+x*y+c)/1048576) ys ws.tail).2)
theorem d7c(x:Int):∀(ys ws:List Int)(c:Int),ws.length=ys.length->valc (mulD x c ys ws).1 (mulD x c ys ws).2=val ws+x*val ys+c
 | [],ws,c,h=>by
  have:ws= []:=List.eq_nil_of_length_eq_zero (by simpa using h);subst this;simp [mulD,valc,val]
 |y::ys,[],c,h=>by simp at h
 |y::ys,w::ws,c,h=>by
  have ih:=d7c x ys ws ((w+x*y+c)/1048576) (by simpa using h);simp only [mulD,List.headD_cons,List.tail_cons,valc,ih,val];rw [show x*(y+1048576*val ys)=x*y+1048576*(x*val ys) by grind];generalize x*y=p;generalize x*val ys=q;omega
theorem c4e(x:Int):∀(ys ws:List Int)(c:Int),(mulD x c ys ws).1.length=ys.length
 | [],_,_=>rfl
 |y::ys,ws,c=>by simp [mulD,c4e x ys]
theorem d4f(x:Int):∀(ys ws:List Int)(c:Int),InR (mulD x c ys ws).1
 | [],_,_=>InR.nil
 |y::ys,ws,c=>InR.cons (by omega) (by omega) (d4f x ys _ _)
theorem c5p{x y:Int}(h0:0<=x)(h1:x<1048576)(h2:0<=y)(h3:y<1048576):0<=x*y/\x*y<=1099509530625:=by
 have h4:=b9v h0 h2 h3;omega
theorem c1t{x:Int}(h0:0<=x)(h1:x<1048576):∀(ys ws:List Int)(c:Int),InR ys->InR ws->0<=c->c<1048576->0<=(mulD x c ys ws).2/\(mulD x c ys ws).2<1048576
 | [],_,c,_,_,h2,h3=>⟨h2,h3⟩
 |y::ys,ws,c,hy,hw,h2,h3=>by
  have e1:=hy.head;have e2:=hw.headD;have e3:=c5p h0 h1 e1.1 e1.2;exact c1t h0 h1 ys ws.tail _ hy.tail hw.tail' (by omega) (by omega)
def mulF(b:List Int):List Int->List Int->List Int | [],w=>w |x::xs,w=>((mulD x 0 b w).1++ [(mulD x 0 b w).2]).headD 0::mulF b xs (((mulD x 0 b w).1++ [(mulD x 0 b w).2]).tail)
theorem d8q{l:List Int}(h:l≠ []):l.headD 0+1048576*val l.tail=val l:=by
 cases l with
 |nil=>exact absurd rfl h
 |cons d l=>rfl
theorem d0q(b:List Int):∀(xs w:List Int),w.length=b.length->val (mulF b xs w)=val w+val xs*val b
 | [],w,_=>by simp [mulF,val]
 |x::xs,w,h=>by
  have e1:=d7c x b w 0 h;have e2:=d0q b xs (((mulD x 0 b w).1++ [(mulD x 0 b w).2]).tail) (by simp [c4e]);have e3:=d8q (l:=(mulD x 0 b w).1++ [(mulD x 0 b w).2]) (by simp);have e4:val ((mulD x 0 b w).1++ [(mulD x 0 b w).2])=valc (mulD x 0 b w).1 (mulD x 0 b w).2:=by
   rw [<-b9h];simp [val]
  simp only [mulF,val,e2];rw [show(x+1048576*val xs)*val b=x*val b+1048576*(val xs*val b) by grind];generalize x*val b=p at*;generalize val xs*val b=q at*;omega
theorem c3v(b:List Int):∀(xs w:List Int),w.length=b.length->(mulF b xs w).length=xs.length+b.length
 | [],w,h=>by simp [mulF,h]
 |x::xs,w,h=>by simp [mulF,c3v b xs _ (show(((mulD x 0 b w).1++ [(mulD x 0 b w).2]).tail).length=b.length by simp [c4e])];omega
theorem d5a{b:List Int}(hb:InR b):∀(xs w:List Int),InR xs->InR w->InR (mulF b xs w)
 | [],w,_,hw=>hw
 |x::xs,w,hx,hw=>by
  have h0:=hx.head;have e1:=c1t h0.1 h0.2 b w 0 hb hw (by decide) (by decide);have e2:InR ((mulD x 0 b w).1++ [(mulD x 0 b w).2]):=(d4f x b w 0).append (InR.cons e1.1 e1.2 InR.nil);simp only [mulF];exact InR.cons e2.headD.1 e2.headD.2 (d5a hb xs _ hx.tail e2.tail')
def a6j(V:Int):List Int->Int->List Int×Int | [],r=>([],r) |x::xs,r=>(((a6j V xs r).2*1048576+x)/V::(a6j V xs r).1,((a6j V xs r).2*1048576+x) %V)
theorem c5q{V:Int}:∀(l:List Int)(r:Int),val (a6j V l r).1*V+(a6j V l r).2=valc l r
 | [],r=>by simp [a6j,val,valc]
 |x::xs,r=>by
  have ih:=c5q (V:=V) xs r;simp only [a6j,val,valc];have h1:=Int.mul_ediv_add_emod ((a6j V xs r).2*1048576+x) V;rw [Int.add_mul,Int.mul_assoc];rw [Int.mul_comm V]at h1;generalize ((a6j V xs r).2*1048576+x)/V*V=p at*;generalize val (a6j V xs r).1*V=q at*;omega
theorem c0g(V:Int):∀(l:List Int)(r:Int),(a6j V l r).1.length=l.length
 | [],_=>rfl
 |x::xs,r=>by simp [a6j,c0g V xs]
theorem c0d{V:Int}(hV:0<V):∀(l:List Int)(r:Int),0<=r->r<V->0<=(a6j V l r).2/\(a6j V l r).2<V
 | [],r,h0,h1=>⟨h0,h1⟩
 |x::xs,r,_,_=>⟨Int.emod_nonneg _ (by omega),Int.emod_lt_of_pos _ hV⟩
theorem c9z{V:Int}(hV:0<V):∀(l:List Int)(r:Int),InR l->0<=r->r<V->InR (a6j V l r).1
 | [],_,_,_,_=>InR.nil
 |x::xs,r,hl,h0,h1=>by
  have h2:=c0d hV xs r h0 h1;have h3:=hl.head;refine InR.cons (Int.ediv_nonneg (by omega) (by omega)) (Int.ediv_lt_of_lt_mul hV ?_) (c9z hV xs r hl.tail h0 h1);omega
def sg(x:Int):Int:=if x<0 then-1 else if 0<x then 1 else 0
def cmpD:List Int->List Int->Int |x::xs,y::ys=>if cmpD xs ys=0 then sg (x-y)else cmpD xs ys |_,_=>0
theorem cmpD_val:∀{a b:List Int},InR a->InR b->a.length=b.length->cmpD a b=sg (val a-val b)
 | [],[],_,_,_=>by simp [cmpD,sg,val]
 | [],_::_,_,_,h=>by simp at h
 |_::_,[],_,_,h=>by simp at h
 |x::xs,y::ys,ha,hb,h=>by
  have ih:=cmpD_val ha.tail hb.tail (by simpa using h);have h1:=ha.head;have h2:=hb.head;simp only [cmpD,val,ih];unfold sg;split<;>split<;>(try split)<;>(try split)<;>(try split)<;>omega
theorem cmpD_drop:∀(k:Nat)(a b:List Int),cmpD (a.drop k) (b.drop k)≠0->cmpD a b=cmpD (a.drop k) (b.drop k)
 |0,_,_,_=>by simp
 |k+1,[],b,h=>by simp [cmpD]at h
 |k+1,_::_,[],h=>by simp [cmpD]at h
 |k+1,x::xs,y::ys,h=>by
  simp only [List.drop_succ_cons]at h⊢;have ih:=cmpD_drop k xs ys h;simp only [cmpD,ih,if_neg h]
theorem b6g(V:Int):∀(a b:List Int)(r:Int),a6j V (a++b) r=((a6j V a (a6j V b r).2).1++(a6j V b r).1,(a6j V a (a6j V b r).2).2)
 | [],b,r=>rfl
 |x::xs,b,r=>by
  simp only [List.cons_append,a6j,b6g V xs b r]
theorem pw_mono:∀{a b:Nat},a<=b->pw a<=pw b
 |0,0,_=>Int.le_refl _
 |0,b+1,_=>by have:=pw_pos b;have:=pw_mono (Nat.zero_le b);simp only [pw]at*;omega
 |a+1,0,h=>by omega
 |a+1,b+1,h=>by have:=pw_mono (show a<=b by omega);simp only [pw];omega
theorem d8f{V1 V2 Vl P g rest T u2 Ul B:Int}(hB:B=1048576)(hT:g*V1+rest=T)(hV:0<=Vl)(hU:Ul<P)(hg:0<=g)(hbig:rest*B+u2<g*V2)(hP:0<P):
 Ul+P*(u2+B*T)<g*(Vl+P*(V2+B*V1)):=by
 have h1:Ul+P*(u2+B*T)-g*(Vl+P*(V2+B*V1))=Ul-g*Vl+P*(u2+rest*B-g*V2):=by grind
 have h2:=Int.mul_nonneg hg hV;have h3:P*(u2+rest*B-g*V2)<=P*(-1):=Int.mul_le_mul_of_nonneg_left (by omega) (by omega);omega
theorem d9p{V1 V2 Vl P g rest T u2 Ul B:Int}(hB:B=1048576)(hT:g*V1+rest=T)(hV:0<=Vl)(hVP:Vl<=P)(hU:0<=Ul)(hgB:g<=B)(hsm:g*V2<=rest*B+u2)(hP:0<P)(h1:1<=V1)(h2:0<=V2):
 (g-1)*(Vl+P*(V2+B*V1))<=Ul+P*(u2+B*T):=by
 have e1:Ul+P*(u2+B*T)-(g-1)*(Vl+P*(V2+B*V1))=Ul-g*Vl+P*(u2+rest*B-g*V2)+Vl+P*V2+P*B*V1:=by grind
 have e2:0<=P*(u2+rest*B-g*V2):=Int.mul_nonneg (by omega) (by omega);have e3:g*Vl<=B*P:=Int.mul_le_mul hgB hVP hV (by omega);have e4:P*B*1<=P*B*V1:=Int.mul_le_mul_of_nonneg_left h1 (Int.mul_nonneg (by omega) (by omega));have e5:0<=P*V2:=Int.mul_nonneg (by omega) h2;have e6:B*P=P*B:=Int.mul_comm _ _;omega
theorem d0g{U V q:Int}(hV:0<V)(h0:q*V<=U)(h1:U<(q+1)*V):U/V=q/\U %V=U-q*V:=by
 have h2:(q+1)*V=q*V+V:=by grind
 have h3:=Int.ediv_emod_unique (a:=U) (b:=V) (r:=U-q*V) (q:=q) hV;have h4:=h3.2 ⟨by rw [Int.mul_comm V q];omega,by omega,by omega⟩;exact h4
end D
namespace D
open Go Rt M
theorem inc64{i:Nat}(h:i<4611686018427387904):iadd .i64 (i:Int) 1=((i+1:Nat):Int):=by rw [a1k (by omega) (by omega)];omega
theorem e8p{i:Nat}(h:i<4611686018427387904):isub .i64 ((i+1:Nat):Int) 1=(i:Int):=by rw [a0t (by omega) (by omega)];omega
theorem drop_cons{α:Type}{a:List α}{i:Nat}{x:α}{xs:List α}(h:a.drop i=x::xs):ix a (i:Int)=some x/\a.drop (i+1)=xs/\i<a.length:=by
 have h1:a[i]?=some x:=by have:=congrArg (fun l=>l[0]?) h;simpa using this
 refine⟨by rw [a9n];exact h1,?_,(List.getElem?_eq_some_iff.1 h1).1⟩;rw [<-List.drop_drop,h];rfl
theorem drop_nil{α:Type}{a:List α}{i:Nat}(h:a.drop i= []):a.length<=i:=by simpa using h
theorem InR.drop{l:List Int}(h:InR l)(k:Nat):InR (l.drop k):=fun e he=>h e (List.mem_of_mem_drop he)
theorem InR.take{l:List Int}(h:InR l)(k:Nat):InR (l.take k):=fun e he=>h e (List.mem_of_mem_take he)
theorem e8c(n:Nat)(kont:Int->Option (List Int)):∀(r:Nat)(c:List Int)(m:Nat),Canon c->c.length+r<1099511627776->r<m->
 big_trim_L1 n (c++List.replicate r 0) kont m ((c.length+r:Nat):Int)=kont (c.length:Int)
 |0,c,m+1,hc,hl,_=>by
  rw [big_trim_L1_s];simp only [Nat.add_zero,List.replicate_zero,List.append_nil];rcases List.eq_nil_or_concat c with rfl|⟨p,d,rfl⟩
  ·rfl
  rw [List.concat_eq_append]at*;have hd:(d==0)=false:=by
   have:=hc.2;simpa using this
  have e0:isub .i64 (((p++ [d]).length:Nat):Int) 1=(p.length:Int):=by rw [List.length_append,List.length_singleton];exact e8p (by simp at hl;omega)
  have e1:decide ((0:Int)<((p++ [d]).length:Int))=true:=by rw [decide_eq_true_eq,List.length_append,List.length_singleton];omega
  rw [e1,e0,a5e p d [] rfl];simp only [cond_true,b_s,hd,cond_false]
 |r+1,c,m+1,hc,hl,hm=>by
  rw [big_trim_L1_s];have e1:decide ((0:Int)<((c.length+(r+1):Nat):Int))=true:=by simp;try omega
  have e0:isub .i64 ((c.length+(r+1):Nat):Int) 1=((c.length+r:Nat):Int):=by rw [a0t (by omega) (by omega)];omega
  have e2:ix (c++List.replicate (r+1) 0) ((c.length+r:Nat):Int)=some 0:=by
   rw [a9n,List.getElem?_append_right (by omega)];simp
  rw [e1,e0,e2];simp only [cond_true,b_s,beq_self_eq_true];have e3:∀(m:Nat)(k:Nat),k<=c.length+r->big_trim_L1 n (c++List.replicate (r+1) 0) kont m (k:Int)=big_trim_L1 n (c++List.replicate r 0) kont m (k:Int):=by
   intro m;induction m with
   |zero=>intro k _;rfl
   |succ m ih=>
    intro k hk;rw [big_trim_L1_s,big_trim_L1_s];cases k with
    |zero=>rfl
    |succ k=>
     rw [e8p (by omega)];have e4:ix (c++List.replicate (r+1) 0) (k:Int)=ix (c++List.replicate r 0) (k:Int):=by
      rw [a9n,a9n,List.replicate_succ',<-List.append_assoc,List.getElem?_append_left (by simp;omega)]
     rw [e4,ih k (by omega)]
  rw [e3 m _ (Nat.le_refl _)];exact e8c n kont r c m hc (by omega) (by omega)
 |_,_,0,_,_,h=>by omega
theorem c6j{l:List Int}(hl:InR l)(hlen:l.length<1099511627776){n:Nat}(hn:l.length<n):a2i n l=some (dig (val l).toNat):=by
 obtain⟨r,hr⟩:=split_dig hl
 have h1:l.length=(dig (val l).toNat).length+r:=by conv=>lhs;rw [hr]
                                                   simp
 unfold a2i;have h2:=e8c n (fun(nx2:Int)=>(lsl l 0 nx2).bind fun l2=>some l2) r (dig (val l).toNat) n (b1b _) (by omega) (by omega);rw [<-hr,<-h1]at h2;rw [h2];have h3:=d1r (l:=l) (p:=0) (q:=(dig (val l).toNat).length) (by omega) (by omega);rw [show((0:Nat):Int)=0 from rfl]at h3;rw [h3];simp only [b_s,List.drop_zero];have h4:∀c:List Int,l=c++List.replicate r 0->l.take c.length=c:=fun c hc=>by rw [hc];exact List.take_left
 rw [h4 _ hr]
theorem e4f{l:List Int}(hl:InR l)(hlen:l.length<1099511627776):Ev (fun n=>a2i n l) (dig (val l).toNat):=⟨l.length+1,fun _ hn=>c6j hl hlen hn⟩
theorem f4g(n:Nat)(a b:List Int)(kont:Int->List Int->Option (List Int))(ha:a.length<1099511627776)(hb:InR b):∀(us:List Int)(i:Nat)(c:Int)(pre suf:List Int)(m:Nat),a.drop i=us->InR us->0<=c->c<=1->pre.length=i->us.length<=suf.length->us.length<m->
 big_add_L1 n a b kont m c (i:Int) (pre++suf)=kont (addD c us (b.drop i)).2 (pre++((addD c us (b.drop i)).1++suf.drop us.length))
 | [],i,c,pre,suf,m+1,hd,_,_,_,_,_,_=>by
  rw [big_add_L1_s];have:=drop_nil hd;have e1:decide ((i:Int)<(a.length:Int))=false:=by simp;omega
  rw [e1];simp [addD]
 |x::xs,i,c,pre,[],m+1,_,_,_,_,_,hs,_=>by simp at hs
 |x::xs,i,c,pre,z::suf,m+1,hd,hx,h0,h1,hp,hs,hm=>by
  rw [big_add_L1_s];obtain⟨e1,e2,e3⟩:=drop_cons hd;have e4:decide ((i:Int)<(a.length:Int))=true:=by simp;omega
  have hx0:=hx.head;have hy0:=(InR.drop hb i).headD;have e5:(bif decide ((i:Int)<(b.length:Int))then(ix b (i:Int)).bind fun ex4=>some (iadd .i64 (iadd .i64 c x) ex4)else some (iadd .i64 c x))=some (c+x+(b.drop i).headD 0):=by
   cases hbd:b.drop i with
   |nil=>
    have:=drop_nil hbd;have e6:decide ((i:Int)<(b.length:Int))=false:=by simp;omega
    rw [e6,a1k (by omega) (by omega)];simp
   |cons y ys=>
    obtain⟨f1,_,f3⟩:=drop_cons hbd;have e6:decide ((i:Int)<(b.length:Int))=true:=by simp;omega
    rw [hbd]at hy0;simp only [List.headD_cons]at hy0;rw [e6,f1,a1k (x:=c) (by omega) (by omega)];simp only [cond_true,b_s,List.headD_cons];rw [a1k (by omega) (by omega)]
  rw [e4,e1];simp only [cond_true,b_s];rw [e5];simp only [b_s];rw [a5e pre z suf (by omega),b6s,a9m pre z _ suf (by omega),c5l,inc64 (by omega)];simp only [b_s];have ih:=f4g n a b kont ha hb xs (i+1) ((c+x+(b.drop i).headD 0)/1048576) (pre++ [(c+x+(b.drop i).headD 0) %1048576]) suf m e2 hx.tail (by omega) (by omega) (by simp;omega) (by simpa using hs) (by simpa using hm);rw [List.append_assoc,List.singleton_append]at ih;rw [ih];have e7:b.drop (i+1)=(b.drop i).tail:=by simp
  simp only [addD,e7,List.append_assoc,List.nil_append,List.cons_append,List.drop_succ_cons,List.length_cons]
 |_,_,_,_,_,0,_,_,_,_,_,_,h=>by omega
theorem f4h{a b:List Int}(ha:InR a)(hb:InR b)(hla:a.length<1073741824)(hlb:b.length<1073741824):Ev (fun n=>b9f n a b) (dig (val a+val b).toNat):=by
 have key:∀{a b:List Int},InR a->InR b->a.length<1073741824->b.length<=a.length->Ev (fun n=>(mks 8 (0:Int) (iadd .i64 (a.length:Int) 1)).bind fun l1=>
  big_add_L1 n a b (fun(carry2:Int)(l3:List Int)=>(ix l3 (a.length:Int)).bind fun _=>(lset l3 (a.length:Int) carry2).bind fun l4=>(a2i n l4).bind fun v1=>some v1) n 0 0 l1) (dig (val a+val b).toNat):=by
  intro a b ha hb hla hle;refine Ev.step (by rw [inc64 (by omega)];exact c7f (by omega)) ?_;refine⟨a.length+2,fun n hn=> ?_⟩;have h1:=f4g n a b (fun(carry2:Int)(l3:List Int)=>(ix l3 (a.length:Int)).bind fun _=>(lset l3 (a.length:Int) carry2).bind fun l4=>(a2i n l4).bind fun v1=>some v1) (by omega) hb a 0 0 [] (List.replicate (a.length+1) 0) n rfl ha (by decide) (by decide) rfl (by simp) (by omega);simp only [List.nil_append,List.drop_zero]at h1;rw [show((0:Nat):Int)=0 from rfl]at h1;dsimp only;rw [h1];have e1:(List.replicate (a.length+1) (0:Int)).drop a.length= [0]:=by simp
  have e2:=addD_len a b 0;have e3:=addD_carry a b 0 ha hb (by decide) (by decide);have e4:=addD_val a b 0 hle;rw [e1,a5e _ 0 [] (by rw [e2]),a9m _ 0 _ [] (by rw [e2])];simp only [b_s];have e5:InR ((addD 0 a b).1++ [(addD 0 a b).2]):=(addD_in a b 0).append (InR.cons e3.1 (by omega) InR.nil);rw [c6j e5 (by simp [e2];omega) (by simp [e2];omega)];simp only [b_s];have e6:val ((addD 0 a b).1++ [(addD 0 a b).2])=val a+val b:=by
   rw [<-b9h];simp only [val,Int.mul_zero,Int.add_zero];omega
  rw [e6]
 unfold b9f
 by_cases hlt:a.length<b.length
 ·refine Ev.step (a:=(b,a)) (by rw [show decide ((a.length:Int)<(b.length:Int))=true from by simp;omega];rfl) ?_;rw [Int.add_comm];exact key hb ha hlb (by omega)
 refine Ev.step (a:=(a,b)) (by rw [show decide ((a.length:Int)<(b.length:Int))=false from by simp;omega];rfl) ?_;exact key ha hb hla (by omega)
end D
namespace D
open Go Rt M
theorem f1v(n:Nat){a:List Int}(h:a.length<1073741824):a0o n a=some a:=by
 have h2:(([]:List Int).length+a.length)*8<=140737488355328:=by simp only [List.length_nil,Nat.zero_add];omega
 show app 8 [] a=some a;rw [c1k h2,List.nil_append]
theorem e1i{a:List Int}(h:a.length<1073741824):∀n,a0o n a=some a:=fun n=>f1v n h
theorem e2s{a:List Int}(h:∀n,a0o n a=some a):Ev (fun n=>a0o n a) a:=⟨0,fun n _=>h n⟩
theorem b4w{a:List Int}(h:a.length<1073741824):Ev (fun n=>a0o n a) a:=e2s (e1i h)
theorem e6v{x c y:Int}(h0:0<=c)(h1:c<=1)(hx0:0<=x)(hx1:x<1048576)(hy0:0<=y)(hy1:y<1048576){t:Int}(ht:t=x-c-y):t/1048576 %2=-(t/1048576)/\0<=-(t/1048576)/\-(t/1048576)<=1:=by
 subst ht;omega
theorem f4a(n:Nat)(b v:List Int)(kont:List Int->Option (List Int))(hv:v.length<1099511627776)(hb:InR b):∀(us:List Int)(i:Nat)(c:Int)(pre:List Int)(m:Nat),InR us->0<=c->c<=1->pre.length=i->i+us.length=v.length->us.length<m->
 big_sub_L1 n b v kont m c (i:Int) (pre++us)=kont (pre++(setD 1 c us (b.drop i)).1)
 | [],i,c,pre,m+1,_,_,_,_,hl,_=>by
  rw [big_sub_L1_s];simp only [List.length_nil]at hl;have e1:decide ((i:Int)<(v.length:Int))=false:=by simp;omega
  rw [e1];simp [setD]
 |x::xs,i,c,pre,m+1,hx,h0,h1,hp,hl,hm=>by
  rw [big_sub_L1_s];simp only [List.length_cons]at hl hm;have e4:decide ((i:Int)<(v.length:Int))=true:=by simp;omega
  have hx0:=hx.head;have hy0:=(InR.drop hb i).headD;have e7:b.drop (i+1)=(b.drop i).tail:=by simp
  obtain⟨t,ht⟩:∃t,t=x-c-(b.drop i).headD 0:=⟨_,rfl⟩
  have e5:(bif decide ((i:Int)<(b.length:Int))then(ix b (i:Int)).bind fun ex3=>some (isub .i64 (isub .i64 x c) ex3)else some (isub .i64 x c))=some t:=by
   rw [ht];cases hbd:b.drop i with
   |nil=>
    have:=drop_nil hbd;have e6:decide ((i:Int)<(b.length:Int))=false:=by simp;omega
    rw [e6,a0t (by omega) (by omega)];simp
   |cons y ys=>
    obtain⟨f1,_,f3⟩:=drop_cons hbd;have e6:decide ((i:Int)<(b.length:Int))=true:=by simp;omega
    rw [hbd]at hy0;simp only [List.headD_cons]at hy0;rw [e6,f1,a0t (x:=x) (by omega) (by omega)];simp only [cond_true,b_s,List.headD_cons];rw [a0t (by omega) (by omega)]
  obtain⟨b1,b2,b3⟩:=e6v h0 h1 hx0.1 hx0.2 hy0.1 hy0.2 ht;have e8:x-c-1*(b.drop i).headD 0=t:=by rw [ht,Int.one_mul]
  have e9:setD 1 c (x::xs) (b.drop i)=(t %1048576::(setD 1 (-(t/1048576)) xs (b.drop (i+1))).1,(setD 1 (-(t/1048576)) xs (b.drop (i+1))).2):=by
   rw [e7];simp only [setD,e8]
  have ih:=f4a n b v kont hv hb xs (i+1) (-(t/1048576)) (pre++ [t %1048576]) m hx.tail b2 b3 (by simp;omega) (by omega) (by omega);rw [e4,a5e pre x xs (by omega)];simp only [cond_true,b_s];rw [e5,b_s,c5l,b6s,a9m pre x _ xs (by omega),inc64 (by omega)];simp only [b_s];rw [e5y,b1,e9];rw [List.append_assoc,List.singleton_append]at ih;rw [ih,List.append_assoc,List.singleton_append]
 |_,_,_,_,0,_,_,_,_,_,h=>by omega
theorem c8o{us vs:List Int}{g:Int}(hu:InR us)(hv:InR vs)(hl:vs.length<=us.length)(hg:0<=g)(h:g*val vs<=val us):(setD g 0 us vs).2=0/\val (setD g 0 us vs).1=val us-g*val vs:=by
 have e1:=d0p g us vs 0 hl;have e2:=b9p hg us vs 0 hu hv (by decide) hg;have e3:=val_lt (b6v g us vs 0);rw [valc_eq,b7t]at e1;rw [b7t]at e3;have hb:(setD g 0 us vs).2=0:=by
  rcases(show 0<(setD g 0 us vs).2∨(setD g 0 us vs).2<=0 by omega)with h4|h4
  ·have h5:pw us.length*(-(setD g 0 us vs).2)<=pw us.length*(-1):=Int.mul_le_mul_of_nonneg_left (by omega) (by have:=pw_pos us.length;omega);omega
  omega
 refine⟨hb,?_⟩;rw [hb]at e1;simp only [Int.neg_zero,Int.mul_zero]at e1;omega
theorem f3i{a b:List Int}(ha:InR a)(hb:InR b)(hla:a.length<1073741824)(hlb:b.length<=a.length)(h:val b<=val a):Ev (fun n=>b6e n a b) (dig (val a-val b).toNat):=by
 unfold b6e;refine Ev.bind (b4w hla) ?_;refine⟨a.length+1,fun n hn=> ?_⟩;have h1:=f4a n b a (fun(l2:List Int)=>(a2i n l2).bind fun v2=>some v2) (by omega) hb a 0 0 [] n ha (by decide) (by decide) rfl (by simp) (by omega);simp only [List.nil_append,List.drop_zero]at h1;rw [show((0:Nat):Int)=0 from rfl]at h1;dsimp only;rw [h1,c6j (b6v _ _ _ _) (by rw [b7t];omega) (by rw [b7t];omega)];have h2:=c8o (g:=1) ha hb hlb (by decide) (by omega);simp only [b_s];rw [h2.2,Int.one_mul]
theorem d1i(n:Nat)(u v:List Int)(g:Int)(kont:Int->List Int->Option (List Int×Int))(hlu:u.length<1099511627776)(hv:InR v)(hg0:0<=g)(hg1:g<=1048576):∀(us:List Int)(i:Nat)(c:Int)(pre:List Int)(m:Nat),InR us->0<=c->c<=g->pre.length=i->i+us.length=u.length->us.length<m->
 big_settle_L1 n u v g kont m c (i:Int) (pre++us)=kont (setD g c us (v.drop i)).2 (pre++(setD g c us (v.drop i)).1)
 | [],i,c,pre,m+1,_,_,_,_,hl,_=>by
  rw [big_settle_L1_s];simp only [List.length_nil]at hl;have e1:decide ((i:Int)<(u.length:Int))=false:=by simp;omega
  rw [e1];simp [setD]
 |x::xs,i,c,pre,m+1,hx,h0,h1,hp,hl,hm=>by
  rw [big_settle_L1_s];simp only [List.length_cons]at hl hm;have e4:decide ((i:Int)<(u.length:Int))=true:=by simp;omega
  have hx0:=hx.head;have hy0:=(InR.drop hv i).headD;have hmul:=b9v hg0 hy0.1 hy0.2;have e5:(bif decide ((i:Int)<(v.length:Int))then(ix v (i:Int)).bind fun ex6=>some (isub .i64 (isub .i64 x c) (imul .i64 g ex6))else some (isub .i64 x c))=some (x-c-g*(v.drop i).headD 0):=by
   cases hbd:v.drop i with
   |nil=>
    have:=drop_nil hbd;have e6:decide ((i:Int)<(v.length:Int))=false:=by simp;omega
    rw [e6,a0t (by omega) (by omega)];simp
   |cons y ys=>
    obtain⟨f1,_,f3⟩:=drop_cons hbd;have e6:decide ((i:Int)<(v.length:Int))=true:=by simp;omega
    rw [hbd]at hy0 hmul;simp only [List.headD_cons]at hy0 hmul;rw [e6,f1,a0t (x:=x) (by omega) (by omega)];simp only [cond_true,b_s,List.headD_cons];rw [a7i (by omega) (by omega),a0t (by omega) (by omega)]
  rw [e4,a5e pre x xs (by omega)];simp only [cond_true,b_s];rw [e5];simp only [b_s];rw [c5l,b6s,a9m pre x _ xs (by omega),inc64 (by omega)];simp only [b_s];rw [Int.zero_sub,a5o (by omega) (by omega)];have ih:=d1i n u v g kont hlu hv hg0 hg1 xs (i+1) (-((x-c-g*(v.drop i).headD 0)/1048576)) (pre++ [(x-c-g*(v.drop i).headD 0) %1048576]) m hx.tail (by omega) (by omega) (by simp;omega) (by omega) (by omega);rw [List.append_assoc,List.singleton_append]at ih;rw [ih];have e7:v.drop (i+1)=(v.drop i).tail:=by simp
  simp only [setD,e7,List.append_assoc,List.nil_append,List.cons_append]
 |_,_,_,_,0,_,_,_,_,_,h=>by omega
theorem d1t(n:Nat)(v l0:List Int)(kont:List Int->Option (List Int×Int))(hl0:l0.length<1099511627776)(hv:InR v):∀(us:List Int)(i:Nat)(c:Int)(pre:List Int)(m:Nat),InR us->0<=c->c<=1->pre.length=i->i+us.length=l0.length->us.length<m->
 big_settle_L2 n v l0 kont m c (i:Int) (pre++us)=kont (pre++(addD c us (v.drop i)).1)
 | [],i,c,pre,m+1,_,_,_,_,hl,_=>by
  rw [big_settle_L2_s];simp only [List.length_nil]at hl;have e1:decide ((i:Int)<(l0.length:Int))=false:=by simp;omega
  rw [e1];simp [addD]
 |x::xs,i,c,pre,m+1,hx,h0,h1,hp,hl,hm=>by
  rw [big_settle_L2_s];simp only [List.length_cons]at hl hm;have e4:decide ((i:Int)<(l0.length:Int))=true:=by simp;omega
  have hx0:=hx.head;have hy0:=(InR.drop hv i).headD;have e5:(bif decide ((i:Int)<(v.length:Int))then(ix v (i:Int)).bind fun ex3=>some (iadd .i64 (iadd .i64 c x) ex3)else some (iadd .i64 c x))=some (c+x+(v.drop i).headD 0):=by
   cases hbd:v.drop i with
   |nil=>
    have:=drop_nil hbd;have e6:decide ((i:Int)<(v.length:Int))=false:=by simp;omega
    rw [e6,a1k (by omega) (by omega)];simp
   |cons y ys=>
    obtain⟨f1,_,f3⟩:=drop_cons hbd;have e6:decide ((i:Int)<(v.length:Int))=true:=by simp;omega
    rw [hbd]at hy0;simp only [List.headD_cons]at hy0;rw [e6,f1,a1k (x:=c) (by omega) (by omega)];simp only [cond_true,b_s,List.headD_cons];rw [a1k (by omega) (by omega)]
  rw [e4,a5e pre x xs (by omega)];simp only [cond_true,b_s];rw [e5];simp only [b_s];rw [c5l,b6s,a9m pre x _ xs (by omega),inc64 (by omega)];simp only [b_s];have ih:=d1t n v l0 kont hl0 hv xs (i+1) ((c+x+(v.drop i).headD 0)/1048576) (pre++ [(c+x+(v.drop i).headD 0) %1048576]) m hx.tail (by omega) (by omega) (by simp;omega) (by omega) (by omega);rw [List.append_assoc,List.singleton_append]at ih;rw [ih];have e7:v.drop (i+1)=(v.drop i).tail:=by simp
  simp only [addD,e7,List.append_assoc,List.nil_append,List.cons_append]
 |_,_,_,_,0,_,_,_,_,_,h=>by omega
theorem e4v{u v:List Int}{g:Int}(hu:InR u)(hv:InR v)(hl:v.length<=u.length)(hlu:u.length<1073741824)(hg0:0<=g)(hg1:g<=1048576)(hV:0<val v)(h1:val u<(g+1)*val v)(h2:(g-1)*val v<=val u){n:Nat}(hn:u.length<n):
 ∃r,b0i n u v g=some (r,val u/val v)/\InR r/\r.length=u.length/\val r=val u %val v:=by
 have e0:=d1i n u v g (fun(borrow2:Int)(l2:List Int)=>bif borrow2==0 then some (l2,g)else big_settle_L2 n v l2 (fun(l4:List Int)=>some (l4,isub .i64 g 1)) n 0 0 l2) (by omega) hv hg0 hg1 u 0 0 [] n hu (by decide) hg0 rfl (by simp) hn;simp only [List.nil_append,List.drop_zero]at e0;rw [show((0:Nat):Int)=0 from rfl]at e0;have e1:=b7t g u v 0
 by_cases h:g*val v<=val u
 ·obtain⟨f1,f2⟩:=c8o hu hv hl hg0 h;obtain⟨q1,q2⟩:=d0g hV h h1;refine⟨(setD g 0 u v).1,?_,b6v g u v 0,e1,by rw [f2,q2]⟩;unfold b0i;rw [e0,f1,q1];rfl
 have e2:=d0p g u v 0 hl;have e3:=b9p hg0 u v 0 hu hv (by decide) hg0;have e4:=val_lt (b6v g u v 0);have e5:=val_nonneg (b6v g u v 0);have e6:=val_lt hv;have e7:=pw_mono hl;have e8:=pw_pos u.length;rw [valc_eq,e1]at e2;rw [e1]at e4;have e9:(g-1)*val v=g*val v-val v:=by grind
 have hb:(setD g 0 u v).2=1:=by
  rcases(show 1<(setD g 0 u v).2∨(setD g 0 u v).2<=1 by omega)with h4|h4
  ·have h5:pw u.length*(-(setD g 0 u v).2)<=pw u.length*(-2):=Int.mul_le_mul_of_nonneg_left (by omega) (by omega);omega
  rcases(show 0<(setD g 0 u v).2∨(setD g 0 u v).2<=0 by omega)with h5|h5
  ·omega
  have:(setD g 0 u v).2=0:=by omega
  rw [this]at e2;simp only [Int.neg_zero,Int.mul_zero]at e2;omega
 rw [hb]at e2;have e10:=d1t n v (setD g 0 u v).1 (fun(l4:List Int)=>some (l4,isub .i64 g 1)) (by rw [e1];omega) hv (setD g 0 u v).1 0 0 [] n (b6v g u v 0) (by decide) (by decide) rfl (by simp) (by rw [e1];exact hn);simp only [List.nil_append,List.drop_zero]at e10;rw [show((0:Nat):Int)=0 from rfl]at e10;have a1:=addD_len (setD g 0 u v).1 v 0;have a2:=addD_val (setD g 0 u v).1 v 0 (by rw [e1];exact hl);have a3:=addD_carry (setD g 0 u v).1 v 0 (b6v g u v 0) hv (by decide) (by decide);have a4:=addD_in (setD g 0 u v).1 v 0;have a5:=val_lt a4;have a6:=val_nonneg a4;rw [valc_eq,a1,e1]at a2;rw [a1,e1]at a5;obtain⟨q1,q2⟩:=d0g (q:=g-1) hV h2 (by rw [show g-1+1=g by omega];omega);have hc:(addD 0 (setD g 0 u v).1 v).2=1:=by
  rcases(show 0<(addD 0 (setD g 0 u v).1 v).2∨(addD 0 (setD g 0 u v).1 v).2<=0 by omega)with h5|h5
  ·omega
  have:(addD 0 (setD g 0 u v).1 v).2=0:=by omega
  rw [this]at a2;omega
 rw [hc]at a2;refine⟨(addD 0 (setD g 0 u v).1 v).1,?_,a4,by rw [a1,e1],by rw [q2];omega⟩;unfold b0i;have hb':((setD g 0 u v).2==0)=false:=by rw [hb];rfl
 rw [e0,hb'];simp only [cond_false];rw [e10,a0t (by omega) (by omega),q1]
theorem e7u(n:Nat)(b:List Int)(i:Nat)(x:Int)(kont:Int->List Int->Option (List Int))(hlb:b.length<1073741824)(hi:i<1073741824)(hx0:0<=x)(hx1:x<1048576):∀(ys ws:List Int)(k:Nat)(c:Int)(pre rest:List Int)(m:Nat),b.drop k=ys->InR ys->InR ws->ws.length=ys.length->0<=c->c<1048576->pre.length=i+k->ys.length<m->
 big_mul_L2 n b (i:Int) x kont m c (k:Int) (pre++(ws++rest))=kont (mulD x c ys ws).2 (pre++((mulD x c ys ws).1++rest))
 | [],ws,k,c,pre,rest,m+1,hd,_,_,hw,_,_,_,_=>by
  rw [big_mul_L2_s];have:=drop_nil hd;have e1:decide ((k:Int)<(b.length:Int))=false:=by simp;omega
  have:ws= []:=List.eq_nil_of_length_eq_zero (by simpa using hw);subst this;rw [e1];simp [mulD]
 |y::ys,[],k,c,pre,rest,m+1,_,_,_,hw,_,_,_,_=>by simp at hw
 |y::ys,w::ws,k,c,pre,rest,m+1,hd,hy,hws,hw,h0,h1,hp,hm=>by
  rw [big_mul_L2_s];obtain⟨f1,f2,f3⟩:=drop_cons hd;simp only [List.length_cons]at hw hm;have e4:decide ((k:Int)<(b.length:Int))=true:=by simp;omega
  have hw0:=hws.head;have hy0:=hy.head;have hmul:=c5p hx0 hx1 hy0.1 hy0.2;have e5:iadd .i64 (i:Int) (k:Int)=(pre.length:Int):=by rw [a1k (by omega) (by omega)];omega
  rw [e4,f1,e5,List.cons_append,a5e pre w _ rfl];simp only [cond_true,b_s];rw [a7i (by omega) (by omega),a1k (x:=w) (by omega) (by omega),a1k (by omega) (by omega),b6s,a9m pre w _ _ rfl,c5l,inc64 (by omega)];simp only [b_s];have ih:=e7u n b i x kont hlb hi hx0 hx1 ys ws (k+1) ((w+x*y+c)/1048576) (pre++ [(w+x*y+c) %1048576]) rest m f2 hy.tail hws.tail (by omega) (by omega) (by omega) (by simp;omega) (by omega);rw [List.append_assoc,List.singleton_append]at ih;rw [ih];simp only [mulD,List.headD_cons,List.tail_cons,List.append_assoc,List.nil_append,List.cons_append]
 |_,_,_,_,_,_,0,_,_,_,_,_,_,_,h=>by omega
theorem e7z(n:Nat)(a b:List Int)(kont:List Int->Option (List Int))(hla:a.length<1073741824)(hlb:b.length<1073741824)(hb:InR b)(hn:b.length<n):∀(us:List Int)(w:List Int)(i:Nat)(pre:List Int)(m:Nat),a.drop i=us->InR us->InR w->w.length=b.length->pre.length=i->us.length<m->
 big_mul_L1 n a b kont m (i:Int) (pre++(w++List.replicate us.length 0))=kont (pre++mulF b us w)
 | [],w,i,pre,m+1,hd,_,_,_,_,_=>by
  rw [big_mul_L1_s];have:=drop_nil hd;have e1:decide ((i:Int)<(a.length:Int))=false:=by simp;omega
  rw [e1];simp [mulF]
 |x::xs,w,i,pre,m+1,hd,hx,hw,hwl,hp,hm=>by
  rw [big_mul_L1_s];obtain⟨f1,f2,f3⟩:=drop_cons hd;simp only [List.length_cons]at hm;have e4:decide ((i:Int)<(a.length:Int))=true:=by simp;omega
  have hx0:=hx.head;rw [e4,f1];simp only [cond_true,b_s,List.length_cons,List.replicate_succ];have h2:=e7u n b i x (fun(carry2:Int)(l5:List Int)=>
   (ix l5 (iadd .i64 (i:Int) (b.length:Int))).bind fun ex2=>
   (ix l5 (iadd .i64 (i:Int) (b.length:Int))).bind fun _=>
   (lset l5 (iadd .i64 (i:Int) (b.length:Int)) (iadd .i64 ex2 carry2)).bind fun l6=>
   big_mul_L1 n a b kont m (iadd .i64 (i:Int) 1) l6) hlb (by omega) hx0.1 hx0.2 b w 0 0 pre (0::List.replicate xs.length 0) n rfl hb hw hwl (by decide) (by decide) (by omega) hn
  rw [show((0:Nat):Int)=0 from rfl]at h2;rw [h2];have hc:=c1t hx0.1 hx0.2 b w 0 hb hw (by decide) (by decide);have hlen:=c4e x b w 0;have e5:iadd .i64 (i:Int) (b.length:Int)=(((pre++(mulD x 0 b w).1).length:Nat):Int):=by
   rw [a1k (by omega) (by omega),List.length_append,hlen];omega
  rw [e5,<-List.append_assoc,a5e _ 0 _ rfl];simp only [b_s];rw [a9m _ 0 _ _ rfl,a1k (by omega) (by omega),inc64 (by omega)];simp only [b_s,Int.zero_add];have hne:(mulD x 0 b w).1++ [(mulD x 0 b w).2]≠ []:=by simp
  obtain⟨h,t,ht⟩:=List.exists_cons_of_ne_nil hne;have e6:pre++(mulD x 0 b w).1++(mulD x 0 b w).2::List.replicate xs.length 0=(pre++ [h])++(t++List.replicate xs.length 0):=by
   rw [List.append_assoc,List.append_assoc,<-List.singleton_append (x:=(mulD x 0 b w).2),<-List.append_assoc (mulD x 0 b w).1,ht];simp
  have hin:InR ((mulD x 0 b w).1++ [(mulD x 0 b w).2]):=(d4f x b w 0).append (InR.cons hc.1 hc.2 InR.nil);rw [ht]at hin;have htl:t.length=b.length:=by
   have:=congrArg List.length ht;simp [hlen]at this;omega
  have ih:=e7z n a b kont hla hlb hb hn xs t (i+1) (pre++ [h]) m f2 hx.tail hin.tail htl (by simp;omega) (by omega);rw [e6,ih];simp only [mulF,ht,List.headD_cons,List.tail_cons,List.append_assoc,List.singleton_append]
 |_,_,_,_,0,_,_,_,_,_,h=>by omega
theorem e4e{a b:List Int}(ha:InR a)(hb:InR b)(hla:a.length<536870912)(hlb:b.length<536870912):Ev (fun n=>b1l n a b) (dig (val a*val b).toNat):=by
 unfold b1l;refine Ev.step (by rw [a1k (by omega) (by omega),show(a.length:Int)+(b.length:Int)=((a.length+b.length:Nat):Int) by omega];exact c7f (by omega)) ?_;refine⟨a.length+b.length+1,fun n hn=> ?_⟩;have h1:=e7z n a b (fun(l3:List Int)=>(a2i n l3).bind fun v1=>some v1) (by omega) (by omega) hb (by omega) a (List.replicate b.length 0) 0 [] n rfl ha (InR.rep _) (by simp) rfl (by omega);simp only [List.nil_append,List.replicate_append_replicate]at h1;rw [show((0:Nat):Int)=0 from rfl,Nat.add_comm]at h1;dsimp only;rw [h1,c6j (d5a hb _ _ ha (InR.rep _)) (by rw [c3v b a _ (by simp)];omega) (by rw [c3v b a _ (by simp)];omega)];simp only [b_s];rw [d0q b a _ (by simp),val_rep,Int.zero_add]
theorem d9a(n:Nat)(a:List Int)(d:Int)(kont:Int->List Int->Option (List Int×Int))(ha:InR a)(hla:a.length<1073741824)(hd:0<d)(hd1:d<=1048576):∀(k:Nat)(m:Nat),k<=a.length->k<m->
 big_short_L1 n a d kont m (a6j d (a.drop k) 0).2 ((k:Int)-1) (List.replicate k 0++(a6j d (a.drop k) 0).1)=kont (a6j d a 0).2 (a6j d a 0).1
 |0,m+1,_,_=>by
  rw [big_short_L1_s];have e1:decide ((0:Int)<=((0:Nat):Int)-1)=false:=by decide
  rw [e1];simp
 |k+1,m+1,hk,hm=>by
  rw [big_short_L1_s];have hk':k<a.length:=by omega
  have hdrop:a.drop k=a[k]::a.drop (k+1):=List.drop_eq_getElem_cons hk';have hx:=ha a[k] (List.getElem_mem hk');have e0:((k+1:Nat):Int)-1=(k:Int):=by omega
  have e1:decide ((0:Int)<=(k:Int))=true:=by simp
  have e2:ix a (k:Int)=some a[k]:=(drop_cons hdrop).1;have hr:=c0d hd (a.drop (k+1)) 0 (by decide) hd;rw [e0,e1,e2,c7a (by omega) (by omega)];simp only [cond_true,b_s];have e3:0<=(a6j d (a.drop (k+1)) 0).2*1048576+a[k]:=by omega
  rw [c6x hr.1 (by omega) hx.1 hx.2,c2c e3 (by omega) hd,c2h e3 hd,List.replicate_succ',List.append_assoc,List.singleton_append,a5e _ 0 _ (by simp)];simp only [b_s];rw [a9m _ 0 _ _ (by simp)];simp only [b_s];have e4:isub .i64 (k:Int) 1=(k:Int)-1:=a0t (by omega) (by omega);have ih:=d9a n a d kont ha hla hd hd1 k m (by omega) (by omega);rw [hdrop]at ih;simp only [a6j]at ih;rw [e4,ih]
 |_,0,_,h=>by omega
theorem d9z{a:List Int}{d:Int}(ha:InR a)(hla:a.length<1073741824)(hd:0<d)(hd1:d<=1048576){n:Nat}(hn:a.length<n):a8n n a d=some (dig (val a/d).toNat,val a %d):=by
 unfold a8n;rw [c7f (by omega),b_s];have h1:=d9a n a d (fun(rx2:Int)(l3:List Int)=>(a2i n l3).bind fun v1=>some (v1,rx2)) ha hla hd hd1 a.length n (by omega) (by omega);simp only [List.drop_length,a6j,List.append_nil]at h1;rw [a0t (by omega) (by omega),h1,c6j (c9z hd a 0 ha (by decide) hd) (by rw [c0g];omega) (by rw [c0g];omega)];simp only [b_s];have h2:=c5q (V:=d) a 0;have h3:=c0d hd a 0 (by decide) hd;rw [valc_eq,Int.mul_zero,Int.add_zero]at h2;have h4:((val (a6j d a 0).1)+1)*d=val (a6j d a 0).1*d+d:=by grind
 obtain⟨q1,q2⟩:=d0g (U:=val a) (q:=val (a6j d a 0).1) hd (by omega) (by omega);rw [q1,show(a6j d a 0).2=val a %d by omega]
theorem e5l{a:List Int}{d:Int}(ha:InR a)(hla:a.length<1073741824)(hd:0<d)(hd1:d<=1048576):Ev (fun n=>a8n n a d) (dig (val a/d).toNat,val a %d):=
 ⟨a.length+1,fun _ hn=>d9z ha hla hd hd1 hn⟩
theorem b9j(n:Nat)(x y:Int):a5c n x y=some (sg (x-y)):=by
 unfold a5c a9q;simp only [b_s,bne_self_eq_false,cond_false];unfold sg
 by_cases h:x<y
 ·simp only [h,decide_true,cond_true];rw [if_pos (by omega)]
 by_cases h2:y<x
 ·simp only [h,h2,decide_true,decide_false,cond_true,cond_false];rw [if_neg (by omega),if_pos (by omega)]
 simp only [h,h2,decide_false,cond_false];rw [if_neg (by omega),if_neg (by omega)]
theorem d2z(n:Nat)(a b:List Int)(hl:a.length=b.length)(hla:a.length<1099511627776):∀(k:Nat)(m:Nat),k<=a.length->k<m->cmpD (a.drop k) (b.drop k)=0->big_compare_L1 n a b (some 0) m ((k:Int)-1)=some (cmpD a b)
 |0,m+1,_,_,h=>by
  rw [big_compare_L1_s];have e1:decide ((0:Int)<=((0:Nat):Int)-1)=false:=by decide
  rw [e1];simp only [List.drop_zero]at h;rw [h];rfl
 |k+1,m+1,hk,hm,h=>by
  rw [big_compare_L1_s];have hk':k<a.length:=by omega
  have hkb:k<b.length:=by omega
  have hda:a.drop k=a[k]::a.drop (k+1):=List.drop_eq_getElem_cons hk';have hdb:b.drop k=b[k]::b.drop (k+1):=List.drop_eq_getElem_cons hkb;have e0:((k+1:Nat):Int)-1=(k:Int):=by omega
  have e1:decide ((0:Int)<=(k:Int))=true:=by simp
  rw [e0,e1,(drop_cons hda).1,(drop_cons hdb).1];simp only [cond_true,b_s,b9j];have e2:cmpD (a.drop k) (b.drop k)=sg (a[k]-b[k]):=by rw [hda,hdb];simp only [cmpD,h,if_true]
  by_cases hne:a[k]=b[k]
  ·have e3:(a[k] !=b[k])=false:=by simp [hne]
   rw [e3];simp only [cond_false];rw [a0t (by omega) (by omega)];refine d2z n a b hl hla k m (by omega) (by omega) ?_;rw [e2,hne];simp [sg]
  have e3:(a[k] !=b[k])=true:=by simpa using hne
  rw [e3];simp only [cond_true];have e4:sg (a[k]-b[k])≠0:=by unfold sg;split<;>(try split)<;>omega
  rw [cmpD_drop k a b (by rw [e2];exact e4),e2]
 |_,0,_,h,_=>by omega
theorem d2y{a b:List Int}(ha:Canon a)(hb:Canon b)(hla:a.length<1099511627776){n:Nat}(hn:a.length<n):a6q n a b=some (sg (val a-val b)):=by
 unfold a6q
 by_cases hl:a.length=b.length
 ·have e1:((a.length:Int) !=(b.length:Int))=false:=by rw [hl];simp
  rw [e1];simp only [cond_false];have h:=d2z n a b hl hla a.length n (Nat.le_refl _) hn (by rw [List.drop_length];rfl);rw [a0t (by omega) (by omega),h,cmpD_val ha.1 hb.1 hl]
 have e1:((a.length:Int) !=(b.length:Int))=true:=by simp;omega
 rw [e1];simp only [cond_true,b9j,b_s]
 congr 1
 unfold sg;rcases Nat.lt_or_ge a.length b.length with h|h
 ·have:=val_lt_of_len ha.1 hb h;rw [if_pos (by omega),if_pos (by omega)]
 have:=val_lt_of_len hb.1 ha (by omega);rw [if_neg (by omega),if_pos (by omega),if_neg (by omega),if_pos (by omega)]
theorem f4y(n:Nat)(v u:List Int)(k:Nat){vl ul lo zs:List Int}{v1 v2 t1 t0 u2:Int}(hv:v=vl++ [v2,v1])(hu:u=lo++(ul++ [u2,t0,t1])++zs)(hlo:lo.length=k)(hul:ul.length=vl.length)
 (hlv:v.length<1073741824) (hlu:u.length<1073741824) (hvi:InR v) (hui:InR (ul++ [u2,t0,t1])) (hv1:1<=v1) (hlt:val (ul++ [u2,t0,t1])<1048576*val v):
 ∀(N:Nat)(g rest:Int),g.toNat=N->0<=g->0<=rest->g*v1+rest=t1*1048576+t0->val (ul++ [u2,t0,t1])<(g+1)*val v->
  ∃g',0<=g'/\g'<=1048576/\val (ul++ [u2,t0,t1])<(g'+1)*val v/\(g'-1)*val v<=val (ul++ [u2,t0,t1])/\∀(kont:Int->Option (List Int×List Int))m,N<m->big_div_L3 n v (k:Int) u kont m g rest=kont g':=by
 have hv2:0<=v2/\v2<1048576:=hvi v2 (by rw [hv];simp);have hv1':0<=v1/\v1<1048576:=hvi v1 (by rw [hv];simp);have ht1:0<=t1/\t1<1048576:=hui t1 (by simp);have ht0:0<=t0/\t0<1048576:=hui t0 (by simp);have hu2:0<=u2/\u2<1048576:=hui u2 (by simp);have hvl:InR vl:=fun e he=>hvi e (by rw [hv];simp [he]);have hull:InR ul:=fun e he=>hui e (by simp [he]);have eV:val v=val vl+pw vl.length*(v2+1048576*v1):=by rw [hv,val_append];simp [val]
 have eU:val (ul++ [u2,t0,t1])=val ul+pw vl.length*(u2+1048576*(t1*1048576+t0)):=by
  rw [val_append,hul];simp only [val];have:t0+1048576*(t1+1048576*0)=t1*1048576+t0:=by omega
  rw [this]
 have hP:=pw_pos vl.length;have hvlP:=val_lt hvl;have hulP:=val_lt hull;rw [hul]at hulP;have hvl0:=val_nonneg hvl;have hul0:=val_nonneg hull;have hlen:v.length=vl.length+2:=by rw [hv];simp
 have hlenu:u.length=k+vl.length+3+zs.length:=by rw [hu];simp [hlo,hul];omega
 have i1:isub .i64 (v.length:Int) 2=((vl.length:Nat):Int):=by rw [a0t (by omega) (by omega)];omega
 have i2:isub .i64 (v.length:Int) 1=((vl.length+1:Nat):Int):=by rw [a0t (by omega) (by omega)];omega
 have i3:isub .i64 (iadd .i64 (k:Int) (v.length:Int)) 2=((k+vl.length:Nat):Int):=by rw [a1k (by omega) (by omega),a0t (by omega) (by omega)];omega
 have r1:ix v ((vl.length:Nat):Int)=some v2:=by rw [hv];exact a5e vl v2 [v1] rfl
 have r2:ix v ((vl.length+1:Nat):Int)=some v1:=by
  rw [hv,show vl++ [v2,v1]=(vl++ [v2])++ [v1] by simp];exact a5e (vl++ [v2]) v1 [] (by simp)
 have r3:ix u ((k+vl.length:Nat):Int)=some u2:=by
  rw [hu,show lo++(ul++ [u2,t0,t1])++zs=(lo++ul)++u2::([t0,t1]++zs) by simp];exact a5e (lo++ul) u2 _ (by simp [hlo,hul])
 intro N;induction N with
 |zero=>
  intro g rest hg h0 hr hT hq;have hg0:g=0:=by omega
  subst hg0;refine⟨0,by decide,by decide,hq,?_,fun kont m hm=> ?_⟩
  ·have:0<=val v:=val_nonneg hvi;have:=val_nonneg hui;omega
  obtain⟨m,rfl⟩:∃m',m=m'+1:=⟨m-1,by omega⟩
  rw [big_div_L3_s];have e1:decide ((1048576:Int)<=0)=false:=by decide
  rw [e1];simp only [cond_false]
  by_cases hr2:rest<1048576
  ·have e2:decide (rest<1048576)=true:=by simpa using hr2
   rw [e2,i1,r1,i3,r3,c7a (by omega) (by omega)];simp only [cond_true,b_s];rw [c6x hr (by omega) hu2.1 hu2.2,a7i (by omega) (by omega)];have e3:decide (rest*1048576+u2<0*v2)=false:=by simp;omega
   rw [e3];rfl
  have e2:decide (rest<1048576)=false:=by simpa using hr2
  rw [e2];rfl
 |succ N ih=>
  intro g rest hg h0 hr hT hq
  by_cases hbig:1048576<=g∨(rest<1048576/\rest*1048576+u2<g*v2)
  ·have hq':val (ul++ [u2,t0,t1])<(g-1+1)*val v:=by
    rw [show g-1+1=g by omega];rcases hbig with h|⟨h1,h2⟩
    ·have:1048576*val v<=g*val v:=Int.mul_le_mul_of_nonneg_right h (val_nonneg hvi);omega
    rw [eU,eV];exact d8f rfl hT hvl0 hulP h0 h2 hP
   have hT':(g-1)*v1+(rest+v1)=t1*1048576+t0:=by rw [<-hT];grind
   obtain⟨g',a1,a2,a3,a4,a5⟩:=ih (g-1) (rest+v1) (by omega) (by omega) (by omega) hT' hq';have hgv:0<=g*v1:=Int.mul_nonneg h0 (by omega);have hgle:g*1<=g*v1:=Int.mul_le_mul_of_nonneg_left hv1 h0;refine⟨g',a1,a2,a3,a4,fun kont m hm=> ?_⟩;obtain⟨m,rfl⟩:∃m',m=m'+1:=⟨m-1,by omega⟩
   rw [big_div_L3_s];have hflag:((bif decide ((1048576:Int)<=g)then some true else(bif decide (rest<1048576)then(ix v (isub .i64 (v.length:Int) 2)).bind fun ex8=>(shl .i64 rest 20).bind fun q4=>(ix u (isub .i64 (iadd .i64 (k:Int) (v.length:Int)) 2)).bind fun ex9=>some (decide ((ior .i64 q4 ex9)<(imul .i64 g ex8)))else some false).bind fun v12=>some v12):Option Bool)=some true:=by
    by_cases hgB:1048576<=g
    ·rw [show decide ((1048576:Int)<=g)=true by simpa using hgB];rfl
    rcases hbig with h|⟨h1,h2⟩
    ·exact absurd h hgB
    have hm1:=b9v (g:=g) h0 hv2.1 hv2.2;rw [show decide ((1048576:Int)<=g)=false by simpa using hgB,show decide (rest<1048576)=true by simpa using h1,i1,r1,i3,r3,c7a (by omega) (by omega)];simp only [cond_true,cond_false,b_s];rw [c6x hr (by omega) hu2.1 hu2.2,a7i (by omega) (by omega),show decide (rest*1048576+u2<g*v2)=true by simpa using h2]
   rw [hflag];simp only [b_s,cond_true];rw [i2,r2];simp only [b_s];rw [a0t (by omega) (by omega),a1k (by omega) (by omega)];exact a5 kont m (by omega)
  have hgB:g<1048576:=by omega
  have hsm:g*v2<=rest*1048576+u2:=by
   by_cases h1:rest<1048576
   ·omega
   have hm1:=b9v (g:=g) h0 hv2.1 hv2.2;omega
  refine⟨g,h0,by omega,hq,?_,fun kont m hm=> ?_⟩
  ·rw [eU,eV];exact d9p rfl hT hvl0 (by omega) hul0 (by omega) hsm hP hv1 hv2.1
  obtain⟨m,rfl⟩:∃m',m=m'+1:=⟨m-1,by omega⟩
  rw [big_div_L3_s];have hflag:((bif decide ((1048576:Int)<=g)then some true else(bif decide (rest<1048576)then(ix v (isub .i64 (v.length:Int) 2)).bind fun ex8=>(shl .i64 rest 20).bind fun q4=>(ix u (isub .i64 (iadd .i64 (k:Int) (v.length:Int)) 2)).bind fun ex9=>some (decide ((ior .i64 q4 ex9)<(imul .i64 g ex8)))else some false).bind fun v12=>some v12):Option Bool)=some false:=by
   rw [show decide ((1048576:Int)<=g)=false by simp;omega]
   by_cases h1:rest<1048576
   ·have hm1:=b9v (g:=g) h0 hv2.1 hv2.2;rw [show decide (rest<1048576)=true by simpa using h1,i1,r1,i3,r3,c7a (by omega) (by omega)];simp only [cond_true,cond_false,b_s];rw [c6x hr (by omega) hu2.1 hu2.2,a7i (by omega) (by omega),show decide (rest*1048576+u2<g*v2)=false by simp;omega]
   rw [show decide (rest<1048576)=false by simpa using h1];rfl
  rw [hflag];rfl
theorem f5q{l:List Int}(h:3<=l.length):∃ul a b c,l=ul++ [a,b,c]:=by
 refine⟨l.take (l.length-3),l[l.length-3],l[l.length-2],l[l.length-1],?_⟩;have h1:l.drop (l.length-3)= [l[l.length-3],l[l.length-2],l[l.length-1]]:=by
  rw [List.drop_eq_getElem_cons (by omega),List.drop_eq_getElem_cons (by omega),List.drop_eq_getElem_cons (by omega),List.drop_eq_nil_of_le (by omega)];simp only [show l.length-3+1=l.length-2 by omega,show l.length-2+1=l.length-1 by omega]
 rw [<-h1,List.take_append_drop]
theorem f5n{l:List Int}(h:2<=l.length):∃ul a b,l=ul++ [a,b]:=by
 refine⟨l.take (l.length-2),l[l.length-2],l[l.length-1],?_⟩;have h1:l.drop (l.length-2)= [l[l.length-2],l[l.length-1]]:=by
  rw [List.drop_eq_getElem_cons (by omega),List.drop_eq_getElem_cons (by omega),List.drop_eq_nil_of_le (by omega)];simp only [show l.length-2+1=l.length-1 by omega]
 rw [<-h1,List.take_append_drop]
theorem e5v{l:List Int}(h:1<=l.length):∃ul a,l=ul++ [a]:=
 ⟨l.take (l.length-1),l[l.length-1],by
  have h1:l.drop (l.length-1)= [l[l.length-1]]:=by
   rw [List.drop_eq_getElem_cons (by omega),List.drop_eq_nil_of_le (by omega)]
  rw [<-h1,List.take_append_drop]⟩
theorem d3l{P Ul u2 T V1 V2 Vl g:Int}(hP:0<P)(hU:Ul<P)(hu:u2<1048576)(hV:0<=Vl)(h2:0<=V2)(hg:T<(g+1)*V1)(hg0:0<=g):
 Ul+P*(u2+1048576*T)<(g+1)*(Vl+P*(V2+1048576*V1)):=by
 have e1:P*u2<=P*1048575:=Int.mul_le_mul_of_nonneg_left (by omega) (by omega);have e2:P*(T+1)<=P*((g+1)*V1):=Int.mul_le_mul_of_nonneg_left (by omega) (by omega);have e3:0<=(g+1)*Vl:=Int.mul_nonneg (by omega) hV;have e4:0<=(g+1)*(P*V2):=Int.mul_nonneg (by omega) (Int.mul_nonneg (by omega) h2);have e5:(g+1)*(Vl+P*(V2+1048576*V1))=(g+1)*Vl+(g+1)*(P*V2)+1048576*(P*((g+1)*V1)):=by grind
 have e6:Ul+P*(u2+1048576*T)=Ul+P*u2+1048576*(P*(T+1))-1048576*P:=by grind
 omega
theorem e7e(n:Nat)(v:List Int)(kont:List Int->List Int->Option (List Int×List Int))(hv:Canon v)(hl2:2<=v.length)(hlv:v.length<268435456)(hn:4398046511104<n):
 ∀(k:Nat)(lo w zs qd:List Int)(m:Nat),lo.length=k->w.length=v.length->InR lo->InR w->InR zs->val zs=0->val w<val v->k+v.length+zs.length<1073741824->k<m->
  ∃uf,big_div_L2 n v kont m ((k:Int)-1) (List.replicate k 0++qd) (lo++(w++zs))=kont ((a6j (val v) lo (val w)).1++qd) uf/\InR uf/\uf.length=k+v.length+zs.length/\val uf=(a6j (val v) lo (val w)).2
 |0,lo,w,zs,qd,m+1,hlo,hw,hil,hiw,hiz,hz,hlt,hlen,hm=>by
  have:lo= []:=List.eq_nil_of_length_eq_zero hlo;subst this;refine⟨w++zs,?_,hiw.append hiz,by simp [hw],?_⟩
  ·rw [big_div_L2_s];have e1:decide ((0:Int)<=((0:Nat):Int)-1)=false:=by decide
   rw [e1];simp [a6j]
  rw [val_append,hz];simp [a6j]
 |k+1,lo,w,zs,qd,m+1,hlo,hw,hil,hiw,hiz,hz,hlt,hlen,hm=>by
  obtain⟨lo',d,rfl⟩:=e5v (l:=lo) (by omega);obtain⟨vl,v2,v1,hvd⟩:=f5n hl2;obtain⟨ul,u2,t0,t1,hwin⟩:=f5q (l:=d::w) (by simp;omega);have hlo':lo'.length=k:=by simpa using hlo
  have hid:0<=d/\d<1048576:=hil d (by simp);have hiwin:InR (ul++ [u2,t0,t1]):=by rw [<-hwin];exact InR.cons hid.1 hid.2 hiw
  have hv1:1<=v1/\v1<1048576:=by
   have h1:=hv.1 v1 (by rw [hvd];simp);have h2:=hv.2;rw [hvd]at h2;have:v1≠0:=by simpa using h2
   omega
  have ht1:0<=t1/\t1<1048576:=hiwin t1 (by simp);have ht0:0<=t0/\t0<1048576:=hiwin t0 (by simp);have hu2:0<=u2/\u2<1048576:=hiwin u2 (by simp);have hv2:0<=v2/\v2<1048576:=hv.1 v2 (by rw [hvd];simp);have hvll:v.length=vl.length+2:=by rw [hvd];simp
  have hull:ul.length=vl.length:=by
   have:=congrArg List.length hwin;simp at this;omega
  have hV:=val_nonneg hv.1;have hU0:=val_nonneg hiwin;have hUw:val (ul++ [u2,t0,t1])=d+1048576*val w:=by rw [<-hwin];rfl
  have hw0:=val_nonneg hiw;have hult:val (ul++ [u2,t0,t1])<1048576*val v:=by omega
  have eV:val v=val vl+pw vl.length*(v2+1048576*v1):=by rw [hvd,val_append];simp [val]
  have eU:val (ul++ [u2,t0,t1])=val ul+pw vl.length*(u2+1048576*(t1*1048576+t0)):=by
   rw [val_append,hull];simp only [val];have:t0+1048576*(t1+1048576*0)=t1*1048576+t0:=by omega
   rw [this]
  obtain⟨T,hT⟩:∃T,T=t1*1048576+t0:=⟨_,rfl⟩
  have hT0:0<=T:=by omega
  have hT1:T<1099511627776:=by omega
  have hg0:0<=T/v1:=Int.ediv_nonneg hT0 (by omega);have hgT:T/v1<=T:=Int.ediv_le_self v1 hT0;have hr0:0<=T %v1:=Int.emod_nonneg _ (by omega);have hr1:T %v1<v1:=Int.emod_lt_of_pos _ (by omega);have hsum:T/v1*v1+T %v1=T:=by have:=Int.mul_ediv_add_emod T v1;rw [Int.mul_comm]at this;exact this
  have hq0:val (ul++ [u2,t0,t1])<(T/v1+1)*val v:=by
   rw [eU,eV,<-hT];have h1:=val_lt (l:=ul) (fun e he=>hiwin e (by simp [he]));rw [hull]at h1;refine d3l (pw_pos _) h1 hu2.2 (val_nonneg (fun e he=>hv.1 e (by rw [hvd];simp [he]))) hv2.1 ?_ hg0;rw [Int.add_mul,Int.one_mul];omega
  obtain⟨u,hu⟩:∃u,u=lo'++(ul++ [u2,t0,t1])++zs:=⟨_,rfl⟩
  have hu':lo'++ [d]++(w++zs)=u:=by rw [hu,<-hwin];simp
  have hulen:u.length=k+v.length+1+zs.length:=by rw [<-hu'];simp [hlo',hw];omega
  obtain⟨g',a1,a2,a3,a4,a5⟩:=f4y n v u k hvd hu hlo' hull (by omega) (by omega) hv.1 hiwin hv1.1 hult (T/v1).toNat (T/v1) (T %v1) rfl hg0 hr0 (by rw [hsum,hT]) hq0;obtain⟨r,s1,s2,s3,s4⟩:=e4v (n:=n) hiwin hv.1 (by simp;omega) (by simp;omega) a1 a2 (by omega) a3 a4 (by simp;omega);have hVpos:0<val v:=by omega
  have hrlt:val r<val v:=by rw [s4];exact Int.emod_lt_of_pos _ hVpos
  obtain⟨w'',z,hrw⟩:=e5v (l:=r) (by rw [s3];simp);have hw''l:w''.length=v.length:=by
   have:=congrArg List.length hrw;rw [s3]at this;simp at this;omega
  have hz0:z=0:=by
   have h1:=val_lt hv.1;have h2:0<=z/\z<1048576:=s2 z (by rw [hrw];simp);have h3:=val_nonneg (l:=w'') (fun e he=>s2 e (by rw [hrw];simp [he]));rw [hrw,val_append,hw''l]at hrlt;simp only [val,Int.mul_zero,Int.add_zero]at hrlt;rcases(show z=0∨1<=z by omega)with h4|h4
   ·exact h4
   have h5:pw v.length*1<=pw v.length*z:=Int.mul_le_mul_of_nonneg_left h4 (by have:=pw_pos v.length;omega);omega
  subst hz0;have hrval:val r=val w'':=by rw [hrw,val_append];simp [val]
  have hiw'':InR w'':=fun e he=>s2 e (by rw [hrw];simp [he]);have hqi:InR [val (ul++ [u2,t0,t1])/val v]:=InR.cons (Int.ediv_nonneg hU0 (by omega)) (Int.ediv_lt_of_lt_mul hVpos (by omega)) InR.nil;obtain⟨uf,b1,b2,b3,b4⟩:=e7e n v kont hv hl2 hlv hn k lo' w'' (0::zs) (val (ul++ [u2,t0,t1])/val v::qd) m hlo' hw''l (fun e he=>hil e (by simp [he])) hiw'' (InR.cons (by decide) (by decide) hiz) (by simp [val,hz]) (by omega) (by simp;omega) (by omega);refine⟨uf,?_,b2,by rw [b3];simp;omega,?_⟩
  ·rw [big_div_L2_s,hu'];have e0:((k+1:Nat):Int)-1=(k:Int):=by omega
   have e1:decide ((0:Int)<=(k:Int))=true:=by simp
   have i1:iadd .i64 (k:Int) (v.length:Int)=((k+v.length:Nat):Int):=by rw [a1k (by omega) (by omega)];omega
   have i2:isub .i64 ((k+v.length:Nat):Int) 1=((k+vl.length+1:Nat):Int):=by rw [a0t (by omega) (by omega)];omega
   have i3:isub .i64 (v.length:Int) 1=((vl.length+1:Nat):Int):=by rw [a0t (by omega) (by omega)];omega
   have r1:ix u ((k+v.length:Nat):Int)=some t1:=by
    rw [hu,show lo'++(ul++ [u2,t0,t1])++zs=(lo'++(ul++ [u2,t0]))++t1::zs by simp];exact a5e _ t1 _ (by simp [hlo',hull];omega)
   have r2:ix u ((k+vl.length+1:Nat):Int)=some t0:=by
    rw [hu,show lo'++(ul++ [u2,t0,t1])++zs=(lo'++(ul++ [u2]))++t0::(t1::zs) by simp];exact a5e _ t0 _ (by simp [hlo',hull];omega)
   have r3:ix v ((vl.length+1:Nat):Int)=some v1:=by
    rw [hvd,show vl++ [v2,v1]=(vl++ [v2])++ [v1] by simp];exact a5e (vl++ [v2]) v1 [] (by simp)
   rw [e0,e1,i1,r1,cond_true,b_s,c7a (by omega) (by omega),b_s,i2,r2,b_s,i3,r3,b_s,c6x ht1.1 (by omega) ht0.1 ht0.2,<-hT,c2c hT0 (by omega) (by omega),b_s,b_s,c2h hT0 (by omega),b_s];rw [a5 _ n (by omega)];have i4:iadd .i64 ((k+v.length:Nat):Int) 1=((k+v.length+1:Nat):Int):=inc64 (by omega);have r4:lsl u (k:Int) ((k+v.length+1:Nat):Int)=some (ul++ [u2,t0,t1]):=by
    rw [d1r (by omega) (by omega),hu]
    congr 1
    rw [List.take_append_of_le_length (by simp [hlo',hull];omega),List.take_of_length_le (by simp [hlo',hull];omega),<-hlo',List.drop_left]
   rw [i4,r4,b_s,s1,b_s,List.replicate_succ',List.append_assoc,List.singleton_append,a5e _ 0 _ (by simp),b_s,a9m _ 0 _ _ (by simp),b_s,a0t (by omega) (by omega)];have r5:lput u (k:Int) r ((k+v.length+1:Nat):Int)=lo'++(w''++0::zs):=by
    have hX:(lo'++(ul++ [u2,t0,t1])).length=k+v.length+1:=by simp [hlo',hull];omega
    have d1:u.drop (k+v.length+1)=zs:=by rw [hu,<-hX];exact List.drop_left
    have d2:u.take k=lo':=by rw [hu,List.append_assoc,<-hlo'];exact List.take_left
    unfold lput;rw [Int.toNat_natCast,Int.toNat_natCast,d1,d2,hrw];simp
   rw [r5,b1]
   congr 1
   rw [b6g];simp only [a6j];have e2:val w*1048576+d=val (ul++ [u2,t0,t1]):=by omega
   rw [e2,<-s4,hrval];simp
  rw [b4,b6g];simp only [a6j];have e2:val w*1048576+d=val (ul++ [u2,t0,t1]):=by omega
  rw [e2,<-s4,hrval]
 |_,_,_,_,_,0,_,_,_,_,_,_,_,_,h=>by omega
theorem f3c(b:List Int)(hl:1<=b.length)(hlb:b.length<1073741824){top:Int}(htop:ix b ((b.length-1:Nat):Int)=some top)(h1:1<=top)(h2:top<1048576):
 ∀(N j:Nat),j+N=19->∃s':Int,1<=s'/\s'<=524288/\∀(n:Nat)(kont:Int->Option (List Int×List Int))m,N<m->big_div_L1 n b kont m ((2^j:Nat):Int)=kont s':=by
 have i1:isub .i64 (b.length:Int) 1=((b.length-1:Nat):Int):=by rw [a0t (by omega) (by omega)];omega
 have htm:∀s:Int,1<=s->s<=524288->0<=top*s/\top*s<=549755813888:=fun s a1 a2=>
  ⟨Int.mul_nonneg (by omega) (by omega),by have:=Int.mul_le_mul (show top<=1048576 by omega) a2 (by omega) (by omega);omega⟩
 have hpow:∀j:Nat,j<=19->1<=((2^j:Nat):Int)/\((2^j:Nat):Int)<=524288:=fun j hj=>by
  have h1:=Nat.pow_le_pow_right (n:=2) (by decide) hj;have h2:=Nat.pow_pos (n:=j) (show 0<2 by decide);have h3:2^19=524288:=by decide
  omega
 intro N;induction N with
 |zero=>
  intro j hj;obtain rfl:j=19:=by omega
  have hp:=hpow 19 (by omega);refine⟨((2^19:Nat):Int),hp.1,hp.2,fun n kont m hm=> ?_⟩;obtain⟨m,rfl⟩:∃m',m=m'+1:=⟨m-1,by omega⟩
  have:=htm _ hp.1 hp.2;have hs:((2^19:Nat):Int)=524288:=by decide
  have e1:decide (top*((2^19:Nat):Int)<524288)=false:=by
   rw [hs,decide_eq_false_iff_not];omega
  rw [big_div_L1_s,i1,htop,b_s,a7i (by omega) (by omega),e1,cond_false]
 |succ N ih=>
  intro j hj;have hp:=hpow j (by omega);have hp2:=hpow (j+1) (by omega);have hm0:=htm _ hp.1 hp.2;have hdbl:((2^j:Nat):Int)*2=((2^(j+1):Nat):Int):=by rw [Nat.pow_succ];omega
  by_cases h:top*((2^j:Nat):Int)<524288
  ·obtain⟨s',a1,a2,a3⟩:=ih (j+1) (by omega);refine⟨s',a1,a2,fun n kont m hm=> ?_⟩;obtain⟨m,rfl⟩:∃m',m=m'+1:=⟨m-1,by omega⟩
   rw [big_div_L1_s,i1,htop,b_s,a7i (by omega) (by omega),show decide (top*((2^j:Nat):Int)<524288)=true by simpa using h,cond_true,a7i (by omega) (by omega),hdbl];exact a3 n kont m (by omega)
  refine⟨_,hp.1,hp.2,fun n kont m hm=> ?_⟩;obtain⟨m,rfl⟩:∃m',m=m'+1:=⟨m-1,by omega⟩
  rw [big_div_L1_s,i1,htop,b_s,a7i (by omega) (by omega),show decide (top*((2^j:Nat):Int)<524288)=false by rw [decide_eq_false_iff_not];exact h,cond_false]
theorem c9u{a b s:Nat}(hs:0<s):a*s/(b*s)=a/b/\a*s %(b*s)=a %b*s:=⟨Nat.mul_div_mul_right _ _ hs,Nat.mul_mod_mul_right _ _ _⟩
theorem e7l{x y:Nat}(hy:y≠0)(hlx:(dig x).length<16777216)(hly:(dig y).length<16777216):Ev (fun n=>b6t n (dig x) (dig y)) (dig (x/y),dig (x %y)):=by
 unfold b6t;refine Ev.bind (a:=sg ((x:Int)-y)) ⟨(dig x).length+1,fun n hn=> ?_⟩ ?_
 ·have:=d2y (n:=n) (b1b x) (b1b y) (by omega) (by omega);rw [a1i,a1i]at this;exact this
 by_cases hlt:x<y
 ·refine Ev.then (by simp [sg];omega) ?_
  refine Ev.bind (b4w (by omega)) ?_;rw [Nat.div_eq_of_lt hlt,Nat.mod_eq_of_lt hlt,dig_zero];exact Ev.pure _
 refine Ev.else (by simp [sg];split<;>(try split)<;>omega) ?_
 have hyl:1<=(dig y).length:=by
  have:=b8x hy;cases h:dig y with
  |nil=>exact absurd h this
  |cons=>simp
 by_cases h1:(dig y).length=1
 ·refine Ev.then (by simp [h1]) ?_
  obtain⟨d,hd⟩:∃d,dig y= [d]:=List.length_eq_one_iff.1 h1;have hdy:d=y:=by have:=a1i y;rw [hd]at this;simpa [val]using this
  have hd1:0<=d/\d<1048576:=a1y y d (by rw [hd];simp);refine Ev.step (a:=d) (by rw [hd];rfl) ?_;refine Ev.bind (e5l (a1y x) (by omega) (by omega) (by omega)) ?_;have hm:0<=(x:Int) %y/\(x:Int) %y<1048576:=⟨Int.emod_nonneg _ (by omega),by have:=Int.emod_lt_of_pos (x:Int) (show(0:Int)<y by omega);omega⟩
  refine Ev.bind (e4f (InR.cons (by rw [a1i,hdy];exact hm.1) (by rw [a1i,hdy];exact hm.2) InR.nil) (by simp)) ?_;refine(Ev.pure _).eq ?_;simp only [a1i,hdy,val,Int.mul_zero,Int.add_zero];rw [<-Int.natCast_ediv,<-Int.natCast_emod,Int.toNat_natCast,Int.toNat_natCast]
 refine Ev.else (by simp;omega) ?_
 obtain⟨pl,top,hpt⟩:=e5v (l:=dig y) hyl;have htop:ix (dig y) (((dig y).length-1:Nat):Int)=some top:=by
  have:∀l:List Int,l=pl++ [top]->ix l ((l.length-1:Nat):Int)=some top:=fun l hl=>by subst hl;exact a5e pl top [] (by simp)
  exact this _ hpt
 have ht1:0<=top/\top<1048576:=a1y y top (by rw [hpt];simp);have ht2:top≠0:=by have:=c1h y;rw [hpt]at this;simpa using this
 obtain⟨s,hs1,hs2,hL1⟩:=f3c (dig y) hyl (by omega) htop (by omega) ht1.2 19 0 rfl;rw [show((2^0:Nat):Int)=1 from rfl]at hL1;refine Ev.from 20 (fun n hn=>hL1 n _ n (by omega)) ?_
 obtain⟨S,rfl⟩:=Int.eq_ofNat_of_zero_le (show 0<=s by omega);have hS:0<S:=by omega
 have hSi:InR [(S:Int)]:=InR.cons (by omega) (by omega) InR.nil;have hmul:∀z:Nat,(val (dig z)*val [(S:Int)]).toNat=z*S:=fun z=>by
  rw [a1i];simp only [val,Int.mul_zero,Int.add_zero];rw [<-Int.natCast_mul,Int.toNat_natCast]
 have m1:=e4e (a1y x) hSi (by omega) (by simp);have m2:=e4e (a1y y) hSi (by omega) (by simp);rw [hmul]at m1 m2;have hxS:x<=x*S:=Nat.le_mul_of_pos_right _ hS;have hyS:y<=y*S:=Nat.le_mul_of_pos_right _ hS;have hxy:y*S<=x*S:=Nat.mul_le_mul_right _ (by omega);have l1:=a4o hxS;have l2:=a4o hyS;have l3:=a4o hxy;have l4:(dig (x*S)).length<=(dig x).length+1:=by
  have h:=c3v [(S:Int)] (dig x) [0] rfl;have h2:=c2n (d5a hSi (dig x) [0] (a1y x) (InR.rep 1));rw [d0q [(S:Int)] (dig x) [0] rfl,show val [(0:Int)]=0 from rfl,Int.zero_add,hmul,h]at h2;simpa using h2
 refine Ev.bind m1 ?_;refine Ev.step (a:=dig (x*S)++ [0]) (c1k (by simp;omega)) ?_;refine Ev.bind m2 ?_;refine Ev.step (a:=dig (x*S)++ [0]) (by
  have:(((dig (x*S)++ [(0:Int)]).length:Int)==((dig x).length:Int))=false:=by simp;omega
  rw [this,cond_false]) ?_
 obtain⟨k,hk⟩:∃k,(dig (x*S)).length+1=(dig (y*S)).length+k:=⟨(dig (x*S)).length+1-(dig (y*S)).length,by omega⟩
 have hk1:1<=k:=by omega
 have hkle:k<=(dig (x*S)).length:=by omega
 refine Ev.step (a:=List.replicate k 0) (by
  rw [a0t (by simp;omega) (by simp;omega),show(((dig (x*S)++ [(0:Int)]).length:Int)-((dig (y*S)).length:Int))=(k:Int) by simp;omega];exact c7f (by omega)) ?_
 have hyS0:y*S≠0:=by omega
 obtain⟨pl',top',hpt'⟩:=e5v (l:=dig (y*S)) (by omega);have htop':1<=top':=by
  have h1:=a1y (y*S) top' (by rw [hpt'];simp);have h2:=c1h (y*S);rw [hpt']at h2;have:top'≠0:=by simpa using h2
  omega
 have hVge:pw ((dig (y*S)).length-1)<=val (dig (y*S)):=by
  have h0:(dig (y*S)).length-1=pl'.length:=by rw [hpt'];simp
  rw [h0,hpt',val_append];have h1:=val_nonneg (l:=pl') (fun e he=>a1y (y*S) e (by rw [hpt'];simp [he]));have h2:pw pl'.length*1<=pw pl'.length*top':=Int.mul_le_mul_of_nonneg_left htop' (by have:=pw_pos pl'.length;omega);simp only [val,Int.mul_zero,Int.add_zero];omega
 have hw:(dig (x*S)++ [(0:Int)]).drop k=(dig (x*S)).drop k++ [0]:=List.drop_append_of_le_length hkle;have hwlt:val ((dig (x*S)++ [(0:Int)]).drop k)<val (dig (y*S)):=by
  rw [hw,val_append];have h1:=val_lt ((a1y (x*S)).drop k);have h2:((dig (x*S)).drop k).length=(dig (y*S)).length-1:=by simp;omega
  rw [h2]at h1;simp only [val,Int.mul_zero,Int.add_zero];omega
 have hui:InR (dig (x*S)++ [(0:Int)]):=(a1y _).append (InR.cons (by decide) (by decide) InR.nil);refine⟨4398046511105+k+(dig (x*S)).length,fun n hn=> ?_⟩;obtain⟨uf,r1,r2,r3,r4⟩:=e7e n (dig (y*S)) (fun(l6:List Int)(l7:List Int)=>(a2i n l7).bind fun v7=>(a8n n v7 (S:Int)).bind fun v8=>(a2i n l6).bind fun v9=>some (v9,v8.1)) (b1b _) (by omega) (by omega) (by omega)
  k ((dig (x*S)++ [(0:Int)]).take k) ((dig (x*S)++ [(0:Int)]).drop k) [] [] n (by simp;omega) (by simp;omega) (hui.take k) (hui.drop k) InR.nil rfl hwlt (by simp;omega) (by omega)
 simp only [List.append_nil,List.take_append_drop]at r1;have hV:(0:Int)<val (dig (y*S)):=by rw [a1i];omega
 have h0:=val_nonneg (hui.drop k);have q1:=c5q (V:=val (dig (y*S))) ((dig (x*S)++ [(0:Int)]).take k) (val ((dig (x*S)++ [(0:Int)]).drop k));have q2:=c0d hV ((dig (x*S)++ [(0:Int)]).take k) _ h0 hwlt;have q3:=c9z hV ((dig (x*S)++ [(0:Int)]).take k) _ (hui.take k) h0 hwlt;have q4:=c0g (val (dig (y*S))) ((dig (x*S)++ [(0:Int)]).take k) (val ((dig (x*S)++ [(0:Int)]).drop k));rw [b9h,List.take_append_drop]at q1;have q5:val (dig (x*S)++ [(0:Int)])=((x*S:Nat):Int):=by rw [val_append,a1i];simp [val]
 rw [q5]at q1;have hVy:val (dig (y*S))=((y*S:Nat):Int):=a1i _;rw [hVy]at q1 q2 q3 q4 r1 r4;obtain⟨g1,g2⟩:=d0g (U:=((x*S:Nat):Int)) (V:=((y*S:Nat):Int)) (q:=val (a6j ((y*S:Nat):Int) ((dig (x*S)++ [(0:Int)]).take k) (val ((dig (x*S)++ [(0:Int)]).drop k))).1) (by omega) (by omega) (by rw [Int.add_mul,Int.one_mul];omega);obtain⟨n1,n2⟩:=c9u (a:=x) (b:=y) hS;have e1:val uf=((x %y*S:Nat):Int):=by
  rw [r4,<-n2,Int.natCast_emod];omega
 have e2:val (a6j ((y*S:Nat):Int) ((dig (x*S)++ [(0:Int)]).take k) (val ((dig (x*S)++ [(0:Int)]).drop k))).1=((x/y:Nat):Int):=by
  rw [<-g1,<-n1,Int.natCast_ediv]
 have hul:uf.length<n:=by rw [r3];simp;omega
 have hlu:uf.length<1073741824:=by rw [r3];simp;omega
 have hdl:=c2n r2;rw [e1,Int.toNat_natCast]at hdl;dsimp only;rw [List.length_replicate,a0t (by omega) (by omega),r1,c6j r2 (by omega) hul,e1,Int.toNat_natCast,b_s,
  d9z (a1y _) (by omega) (by omega) (by omega) (n:=n) (by omega),b_s,
  c6j q3 (by rw [q4];simp;omega) (by rw [q4];simp;omega),b_s,e2,Int.toNat_natCast,a1i]
 have e3:((x %y*S:Nat):Int)/(S:Int)=((x %y:Nat):Int):=by
  rw [<-Int.natCast_ediv,Nat.mul_div_cancel _ hS]
 rw [e3,Int.toNat_natCast]
def toB(x:Int):Big:=⟨sg x,dig x.natAbs⟩
def Sm(k:Nat)(x:Int):Prop:=(x.natAbs:Int)<pw k
theorem a0p(x:Int):(x<0/\sg x=-1)∨(x=0/\sg x=0)∨(0<x/\sg x=1):=by
 unfold sg;split
 ·exact .inl ⟨by assumption,rfl⟩
 split
 ·exact .inr (.inr ⟨by assumption,rfl⟩)
 exact .inr (.inl ⟨by omega,rfl⟩)
theorem a3i{x:Int}(h:0<x):sg x=1:=by rcases a0p x with h1|h1|h1<;>omega
theorem a3u{x:Int}(h:x<0):sg x=-1:=by rcases a0p x with h1|h1|h1<;>omega
theorem b8o(x y:Int):sg (x*y)=sg x*sg y:=by
 rcases a0p x with⟨h1,h2⟩|⟨h1,h2⟩|⟨h1,h2⟩<;>rcases a0p y with⟨h3,h4⟩|⟨h3,h4⟩|⟨h3,h4⟩<;>rw [h2,h4]
 ·exact a3i (Int.mul_pos_of_neg_of_neg h1 h3)
 ·subst h3;rw [Int.mul_zero];decide
 ·exact a3u (Int.mul_neg_of_neg_of_pos h1 h3)
 ·subst h1;rw [Int.zero_mul];decide
 ·subst h1;rw [Int.zero_mul];decide
 ·subst h1;rw [Int.zero_mul];decide
 ·exact a3u (Int.mul_neg_of_pos_of_neg h1 h3)
 ·subst h3;rw [Int.mul_zero];decide
 exact a3i (Int.mul_pos h1 h3)
theorem c4l(x:Int):sg x*(x.natAbs:Int)=x:=by
 rcases a0p x with⟨h1,h2⟩|⟨h1,h2⟩|⟨h1,h2⟩<;>rw [h2]<;>omega
theorem c3w(x:Int):-1<=sg x/\sg x<=1:=by rcases a0p x with h|h|h<;>omega
theorem d5l(a:Nat):∀b,pw (a+b)=pw a*pw b
 |0=>by simp [pw]
 |b+1=>by rw [<-Nat.add_assoc];simp only [pw,d5l a b];grind
theorem a1d{k:Nat}{x:Int}(h:Sm k x):(dig x.natAbs).length<=k:=by
 rcases Nat.lt_or_ge k (dig x.natAbs).length with h1|h1
 ·exfalso;have h2:val (List.replicate k (1048575:Int))<val (dig x.natAbs):=val_lt_of_len (fun e he=>by rw [(List.mem_replicate.1 he).2];decide) (b1b _) (by simpa using h1);have h3:∀k,val (List.replicate k (1048575:Int))=pw k-1:=by
   intro k;induction k with
   |zero=>rfl
   |succ k ih=>rw [List.replicate_succ];simp only [val,pw,ih];omega
  rw [h3,a1i]at h2;unfold Sm at h;omega
 exact h1
theorem a6w{k:Nat}{x:Int}(h:(dig x.natAbs).length<=k):Sm k x:=by
 have h1:=val_lt (a1y x.natAbs);rw [a1i]at h1;exact Int.lt_of_lt_of_le h1 (pw_mono h)
theorem Sm.mono{k l:Nat}{x:Int}(h:Sm k x)(hkl:k<=l):Sm l x:=Int.lt_of_lt_of_le h (pw_mono hkl)
theorem Sm.add{k:Nat}{x y:Int}(h:Sm k x)(h2:Sm k y):Sm (k+1) (x+y):=by
 unfold Sm at*;simp only [pw];omega
theorem Sm.neg{k:Nat}{x:Int}(h:Sm k x):Sm k (-x):=by unfold Sm at*;omega
theorem Sm.sub{k:Nat}{x y:Int}(h:Sm k x)(h2:Sm k y):Sm (k+1) (x-y):=by rw [Int.sub_eq_add_neg];exact h.add h2.neg
theorem Sm.mul{k l:Nat}{x y:Int}(h:Sm k x)(h2:Sm l y):Sm (k+l) (x*y):=by
 unfold Sm at*;rw [d5l,Int.natAbs_mul,Int.natCast_mul];have h3:(x.natAbs:Int)*y.natAbs<=x.natAbs*pw l:=Int.mul_le_mul_of_nonneg_left (by omega) (by omega);have h4:(x.natAbs:Int)*pw l<pw k*pw l:=Int.mul_lt_mul_of_pos_right h (pw_pos l);omega
theorem Sm.le{k:Nat}{x y:Int}(h:Sm k x)(h2:y.natAbs<=x.natAbs):Sm k y:=by unfold Sm at*;omega
def okd(d:Int):Bool:=decide (0<=d)&&decide (d<1048576)
def a9w(a:Big):Bool:=a.Digits.all okd&&(if a.Digits= []then a.Sign==0 else(a.Sign==1||a.Sign==-1)&&(a.Digits.getLast?.getD 0 !=0))
theorem e2h(n:Nat)(a:Big)(kont:Option Bool)(hl:a.Digits.length<1099511627776):∀(us:List Int)(i m:Nat),a.Digits.drop i=us->us.length<m->big_Right_L1 n a kont m (i:Int)=bif us.all okd then kont else some false
 | [],i,m+1,hd,_=>by
  rw [big_Right_L1_s];have:=drop_nil hd;rw [show decide ((i:Int)<(a.Digits.length:Int))=false by simp;omega];rfl
 |x::xs,i,m+1,hd,hm=>by
  rw [big_Right_L1_s];obtain⟨f1,f2,f3⟩:=drop_cons hd;rw [show decide ((i:Int)<(a.Digits.length:Int))=true by simp;omega,cond_true,f1,b_s];have e1:((bif decide (x<0)then some true else some (decide (1048575<x))):Option Bool)=some (!okd x):=by
   unfold okd
   by_cases h:x<0
   ·rw [show decide (x<0)=true by simpa using h,show decide (0<=x)=false by simp;omega];rfl
   rw [show decide (x<0)=false by simpa using h,show decide (0<=x)=true by simp;omega,cond_false]
   by_cases h2:x<1048576
   ·rw [show decide (1048575<x)=false by simp;omega,show decide (x<1048576)=true by simpa using h2];rfl
   rw [show decide (1048575<x)=true by simp;omega,show decide (x<1048576)=false by simpa using h2];rfl
  rw [e1,b_s,List.all_cons];cases h:okd x with
  |false=>rfl
  |true=>
   rw [inc64 (by omega),e2h n a kont hl xs (i+1) m f2 (by simpa using hm)];rfl
 |_,_,0,_,h=>by omega
theorem f0b{a:Big}(hl:a.Digits.length<1099511627776){n:Nat}(hn:a.Digits.length<n):a2n n a=some (a9w a):=by
 unfold a2n;have h:=fun kont=>e2h n a kont hl a.Digits 0 n rfl hn;rw [show((0:Nat):Int)=0 from rfl]at h;rw [h];unfold a9w;cases ha:a.Digits.all okd with
 |false=>rfl
 |true=>
  rw [cond_true,Bool.true_and];rcases List.eq_nil_or_concat a.Digits with h0|⟨p,d,h0⟩
  ·rw [h0];rfl
  rw [List.concat_eq_append]at h0;have hne:a.Digits≠ []:=by rw [h0];simp
  have e1:((a.Digits.length:Int)==0)=false:=by rw [h0];simp;omega
  have e2:isub .i64 (a.Digits.length:Int) 1=(p.length:Int):=by rw [a0t (by omega) (by omega),h0];simp
  have e3:ix a.Digits (p.length:Int)=some d:=by rw [h0];exact a5e p d [] rfl
  rw [e1,cond_false,if_neg hne,e2,e3];have e4:a.Digits.getLast?.getD 0=d:=by rw [h0];simp
  rw [e4];cases h1:(a.Sign==1)<;>cases h2:(a.Sign==-1)<;>rfl
theorem c9w{a:Big}(hl:a.Digits.length<1099511627776):Ev (fun n=>a2n n a) (a9w a):=⟨a.Digits.length+1,fun _ hn=>f0b hl hn⟩
theorem b8e(x:Int):a9w (toB x)=true:=by
 unfold a9w toB;have h1:(dig x.natAbs).all okd=true:=by
  rw [List.all_eq_true];intro d hd;have:=a1y _ d hd;unfold okd;simp;omega
 simp only [h1,Bool.true_and]
 by_cases h:x=0
 ·subst h;rw [show(0:Int).natAbs=0 from rfl,dig_zero];rfl
 rw [if_neg (b8x (by omega))];have h2:(dig x.natAbs).getLast?.getD 0≠0:=by
  have h3:=c1h x.natAbs;cases h4:(dig x.natAbs).getLast? with
  |none=>rw [List.getLast?_eq_none_iff]at h4;exact absurd h4 (b8x (by omega))
  |some d=>rw [h4]at h3;simpa using h3
 rcases a0p x with⟨_,h5⟩|⟨h6,_⟩|⟨_,h5⟩
 ·rw [h5];simpa using h2
 ·exact absurd h6 h
 rw [h5];simpa using h2
theorem a9i{a:Big}(h:a9w a=true):∃x,a=toB x:=by
 obtain⟨s,l⟩:=a;unfold a9w at h;simp only [Bool.and_eq_true,List.all_eq_true]at h;obtain⟨h1,h2⟩:=h;have hi:InR l:=fun d hd=>by have:=h1 d hd;unfold okd at this;simpa using this
 by_cases hl:l= []
 ·subst hl;simp only [if_true,beq_iff_eq]at h2;subst h2;exact⟨0,by unfold toB;rw [show(0:Int).natAbs=0 from rfl,dig_zero];rfl⟩
 simp only [if_neg hl,Bool.and_eq_true,Bool.or_eq_true,beq_iff_eq,bne_iff_ne]at h2;have hc:Canon l:=by
  refine⟨hi,fun h3=> ?_⟩;rw [h3]at h2;exact h2.2 rfl
 have hv:=val_nonneg hi;have hv0:val l≠0:=fun e=>by have:=dig_val hc;rw [e,Int.toNat_zero,dig_zero]at this;exact hl this.symm
 have hd:=dig_val hc;rcases h2.1 with h3|h3
 ·refine⟨val l,?_⟩;unfold toB;rw [a3i (by omega),h3,show(val l).natAbs=(val l).toNat by omega,hd]
 refine⟨-val l,?_⟩;unfold toB;rw [a3u (by omega),h3,show(-val l).natAbs=(val l).toNat by omega,hd]
theorem d4m{x y:Int}(h:toB x=toB y):x=y:=by
 unfold toB at h;simp only [Big.mk.injEq]at h;have:=e8j h.2;have h1:=c4l x;have h2:=c4l y;rw [h.1,this]at h1;omega
theorem toB_zero:toB 0=⟨0,[]⟩:=by unfold toB;rw [show(0:Int).natAbs=0 from rfl,dig_zero];rfl
theorem a5m{x:Int}{k:Nat}(h:Sm k x)(hk:k<1099511627776):Ev (fun n=>a2n n (toB x)) true:=by
 have:=c9w (a:=toB x) (by have:=a1d h;simp only [toB];omega)
 rwa [b8e]at this
theorem a7l(s:Int){v:Nat}(h:(dig v).length<1099511627776):Ev (fun n=>a2u n s (dig v)) (if v=0 then⟨0,[]⟩else⟨s,dig v⟩):=by
 unfold a2u;have h1:=e4f (a1y v) h;rw [a1i,Int.toNat_natCast]at h1;refine Ev.bind h1 ?_
 by_cases hv:v=0
 ·rw [if_pos hv];refine Ev.then (by rw [hv,dig_zero];rfl) (Ev.pure _)
 rw [if_neg hv];refine Ev.else ?_ (Ev.pure _)
 have:=b8x hv;cases hd:dig v with
 |nil=>exact absurd hd this
 |cons a l=>simp;omega
theorem a4v{s:Int}{v:Nat}(z:Int)(hz:z.natAbs=v)(hs:v≠0->s=sg z):(if v=0 then(⟨0,[]⟩:Big)else⟨s,dig v⟩)=toB z:=by
 by_cases hv:v=0
 ·rw [if_pos hv];have:z=0:=by omega
  rw [this,toB_zero]
 rw [if_neg hv,hs hv];unfold toB;rw [hz]
theorem c8q{x:Int}{k:Nat}(h:Sm k x)(hk:k<1073741824):Ev (fun n=>b3k n (toB x)) (toB (-x)):=by
 unfold b3k;have hl:=a1d h;refine Ev.bind (a5m h (by omega)) ?_;refine Ev.else rfl ?_
 refine Ev.bind (b4w (a:=(toB x).Digits) (by simp only [toB];omega)) ?_;have hr:=c3w x;refine Ev.bind (a7l (IntKind.i64.wrap (0-(toB x).Sign)) (v:=x.natAbs) (by omega)) ?_;refine(Ev.pure _).eq ?_;rw [a4v (-x) (by omega) (fun hv=>by
  show IntKind.i64.wrap (0-sg x)=_;rw [a5o (by omega) (by omega)];rcases a0p x with⟨h1,h2⟩|⟨h1,h2⟩|⟨h1,h2⟩
  ·rw [h2,a3i (by omega)];rfl
  ·omega
  rw [h2,a3u (by omega)];rfl)]
theorem Or_n(n:Nat)(x y:Int)(hn:2<n):b4g n [x,y]=some (if x≠0 then x else y):=by
 obtain⟨n,rfl⟩:∃k,n=k+3:=⟨n-3,by omega⟩
 have h0:ix [x,y] 0=some x:=rfl;have h1:ix [x,y] 1=some y:=rfl;have a1:iadd .i64 0 1=1:=by decide
 have a2:iadd .i64 1 1=2:=by decide
 unfold b4g;rw [cmp_Or_int_L1_s,show decide ((0:Int)<(([x,y]:List Int).length:Int))=true by rfl,cond_true,h0,b_s]
 by_cases hx:x=0
 ·rw [show(x !=0)=false by simpa using hx,cond_false,a1,cmp_Or_int_L1_s,show decide ((1:Int)<(([x,y]:List Int).length:Int))=true by rfl,cond_true,h1,b_s,if_neg (by simpa using hx)]
  by_cases hy:y=0
  ·rw [show(y !=0)=false by simpa using hy,cond_false,a2,cmp_Or_int_L1_s,show decide ((2:Int)<(([x,y]:List Int).length:Int))=false by rfl,cond_false,hy]
  rw [show(y !=0)=true by simpa using hy,cond_true]
 rw [show(x !=0)=true by simpa using hx,cond_true,if_pos hx]
theorem e2y(u v:Nat)(hu:(dig u).length<1073741824)(hv:(dig v).length<1073741824):Ev (fun n=>b9f n (dig u) (dig v)) (dig (u+v)):=by
 have:=f4h (a1y u) (a1y v) hu hv
 rwa [a1i,a1i,show((u:Int)+v).toNat=u+v by omega]at this
theorem d4g(u v:Nat)(hu:(dig u).length<1073741824)(hvu:v<=u):Ev (fun n=>b6e n (dig u) (dig v)) (dig (u-v)):=by
 have:=f3i (a1y u) (a1y v) hu (a4o hvu) (by rw [a1i,a1i];omega)
 rwa [a1i,a1i,show((u:Int)-v).toNat=u-v by omega]at this
theorem f0j(u v:Nat)(hu:(dig u).length<536870912)(hv:(dig v).length<536870912):Ev (fun n=>b1l n (dig u) (dig v)) (dig (u*v)):=by
 have:=e4e (a1y u) (a1y v) hu hv
 rwa [a1i,a1i,<-Int.natCast_mul,Int.toNat_natCast]at this
theorem c5t(u v:Nat)(hu:(dig u).length<1073741824):Ev (fun n=>a6q n (dig u) (dig v)) (sg ((u:Int)-v)):=⟨(dig u).length+1,fun n hn=>by
 have:=d2y (n:=n) (b1b u) (b1b v) (by omega) (by omega)
 rwa [a1i,a1i]at this⟩
theorem b1d(n:Nat)(c:Big):a5d n true c=some (c,0):=rfl
theorem b7d(x y:Int):imul .i64 (sg x) (sg y)=sg (x*y):=by
 rw [b8o];have h1:=c3w x;have h2:=c3w y;refine a7i ?_ ?_<;>rcases a0p x with⟨_,h⟩|⟨_,h⟩|⟨_,h⟩<;>rw [h]<;>omega
theorem f4w{x y:Int}{k:Nat}(hx:Sm k x)(hy:Sm k y)(hk:k<536870912):Ev (fun n=>c5f n (toB x) (toB y)) (toB (x+y),0):=by
 have lx:=a1d hx;have ly:=a1d hy;have lxy:=a1d (hx.add hy);unfold c5f;refine Ev.bind (a5m hx (by omega)) ?_;refine Ev.bind (a:=false) (Ev.else rfl (Ev.bind (a5m hy (by omega)) (Ev.pure _))) ?_;refine Ev.else rfl ?_
 show Ev (fun n=>bif decide (0<=imul .i64 (sg x) (sg y))then _ else _) _;rw [b7d]
 by_cases hs:0<=sg (x*y)
 ·refine Ev.then (by simpa using hs) ?_
  refine Ev.bind (a:=if sg x≠0 then sg x else sg y) ⟨3,fun n hn=>Or_n n _ _ (by omega)⟩ ?_;refine Ev.bind (e2y x.natAbs y.natAbs (by omega) (by omega)) ?_;have hab:x.natAbs+y.natAbs=(x+y).natAbs:=by
   rw [b8o]at hs;rcases a0p x with⟨h1,h2⟩|⟨h1,h2⟩|⟨h1,h2⟩<;>rcases a0p y with⟨h3,h4⟩|⟨h3,h4⟩|⟨h3,h4⟩<;>rw [h2,h4]at hs<;>omega
  rw [hab];refine Ev.bind (a7l _ (by omega)) ?_;rw [a4v (x+y) rfl (fun hv=>by
   rw [b8o]at hs;rcases a0p x with⟨h1,h2⟩|⟨h1,h2⟩|⟨h1,h2⟩<;>rcases a0p y with⟨h3,h4⟩|⟨h3,h4⟩|⟨h3,h4⟩<;>rw [h2,h4]at hs⊢<;>
    first
     |omega
     |(rw [a3u (by omega)];decide)
     |(rw [a3i (by omega)];decide))]
  exact Ev.step (b1d 0 _) (Ev.pure _)
 refine Ev.else (by simpa using hs) ?_
 have hne:x≠0/\y≠0:=by
  constructor
  ·intro h;subst h;rw [Int.zero_mul]at hs;exact hs (by decide)
  intro h;subst h;rw [Int.mul_zero]at hs;exact hs (by decide)
 have hop:sg x=-sg y:=by
  rw [b8o]at hs;rcases a0p x with⟨h1,h2⟩|⟨h1,h2⟩|⟨h1,h2⟩<;>rcases a0p y with⟨h3,h4⟩|⟨h3,h4⟩|⟨h3,h4⟩<;>rw [h2,h4]at hs⊢<;>omega
 refine Ev.bind (c5t x.natAbs y.natAbs (by omega)) ?_
 by_cases hlt:x.natAbs<y.natAbs
 ·refine Ev.then (by rw [a3u (by omega)];rfl) ?_
  refine Ev.bind (d4g y.natAbs x.natAbs (by omega) (by omega)) ?_;rw [show y.natAbs-x.natAbs=(x+y).natAbs by
   rcases a0p x with⟨h1,h2⟩|⟨h1,h2⟩|⟨h1,h2⟩<;>rcases a0p y with⟨h3,h4⟩|⟨h3,h4⟩|⟨h3,h4⟩<;>omega]
  refine Ev.bind (a7l _ (by omega)) ?_;rw [a4v (x+y) rfl (fun hv=>by
   show sg y=_;rcases a0p y with⟨h3,h4⟩|⟨h3,h4⟩|⟨h3,h4⟩
   ·rw [h4,a3u (by omega)]
   ·omega
   rw [h4,a3i (by omega)])]
  exact Ev.step (b1d 0 _) (Ev.pure _)
 refine Ev.else (by
  rcases a0p ((x.natAbs:Int)-y.natAbs)with h|h|h
  ·omega
  ·rw [h.2];rfl
  rw [h.2];rfl) ?_
 refine Ev.bind (d4g x.natAbs y.natAbs (by omega) (by omega)) ?_;rw [show x.natAbs-y.natAbs=(x+y).natAbs by
  rcases a0p x with⟨h1,h2⟩|⟨h1,h2⟩|⟨h1,h2⟩<;>rcases a0p y with⟨h3,h4⟩|⟨h3,h4⟩|⟨h3,h4⟩<;>omega]
 refine Ev.bind (a7l _ (by omega)) ?_;rw [a4v (x+y) rfl (fun hv=>by
  show sg x=_;rcases a0p x with⟨h3,h4⟩|⟨h3,h4⟩|⟨h3,h4⟩
  ·rw [h4,a3u (by omega)]
  ·omega
  rw [h4,a3i (by omega)])]
 exact Ev.step (b1d 0 _) (Ev.pure _)
theorem f2t{x y:Int}{k:Nat}(hx:Sm k x)(hy:Sm k y)(hk:k<268435456):Ev (fun n=>c5x n (toB x) (toB y)) (toB (x*y),0):=by
 have lx:=a1d hx;have ly:=a1d hy;have lxy:=a1d (hx.mul hy);unfold c5x;refine Ev.bind (a5m hx (by omega)) ?_;refine Ev.bind (a:=false) (Ev.else rfl (Ev.bind (a5m hy (by omega)) (Ev.pure _))) ?_;refine Ev.else rfl ?_
 refine Ev.bind (f0j x.natAbs y.natAbs (by omega) (by omega)) ?_;rw [<-Int.natAbs_mul];refine Ev.bind (a7l (imul .i64 (sg x) (sg y)) (by omega)) ?_;rw [a4v (x*y) rfl (fun _=>b7d x y)];exact Ev.step (b1d 0 _) (Ev.pure _)
def odd(x y:Int):Bool:=decide (x*y<0)&&decide (x.natAbs %y.natAbs≠0)
def dq(x y:Int):Int:=if odd x y then-((x.natAbs/y.natAbs:Nat)+1:Int)else sg (x*y)*(x.natAbs/y.natAbs:Nat)
def dr(x y:Int):Int:=if odd x y then sg y*((y.natAbs-x.natAbs %y.natAbs:Nat):Int)else sg x*((x.natAbs %y.natAbs:Nat):Int)
theorem b5m{x y:Int}:x*y<0↔(x<0/\0<y)∨(0<x/\y<0):=by
 rcases a0p x with⟨h1,h2⟩|⟨h1,h2⟩|⟨h1,h2⟩<;>rcases a0p y with⟨h3,h4⟩|⟨h3,h4⟩|⟨h3,h4⟩
 ·have:=Int.mul_pos_of_neg_of_neg h1 h3;omega
 ·subst h3;simp
 ·have:=Int.mul_neg_of_neg_of_pos h1 h3;omega
 ·subst h1;simp
 ·subst h1;simp
 ·subst h1;simp
 ·have:=Int.mul_neg_of_pos_of_neg h1 h3;omega
 ·subst h3;simp
 have:=Int.mul_pos h1 h3;omega
theorem f5e{x y:Int}(hy:y≠0):dq x y*y+dr x y=x/\(dr x y=0∨sg (dr x y)=sg y)/\(dr x y).natAbs<y.natAbs:=by
 have hyn:0<y.natAbs:=by omega
 have h1:=Nat.div_add_mod x.natAbs y.natAbs;have h2:=Nat.mod_lt x.natAbs hyn;have h1':(y.natAbs:Int)*((x.natAbs/y.natAbs:Nat):Int)+((x.natAbs %y.natAbs:Nat):Int)=x.natAbs:=by rw [<-Int.natCast_mul];omega
 generalize hq:x.natAbs/y.natAbs=q at*;generalize hr:x.natAbs %y.natAbs=r at*;unfold dq dr odd;rw [hq,hr]
 by_cases ho:x*y<0
 ·by_cases hr0:r=0
  ·rw [show(decide (x*y<0)&&decide (r≠0))=false by simp [hr0]];simp only [if_neg Bool.false_ne_true];rw [hr0]at h1'⊢;rw [a3u ho];simp only [Int.natCast_zero,Int.mul_zero,Int.add_zero]at h1'⊢;refine⟨?_,.inl trivial,by omega⟩;rcases b5m.1 ho with⟨a,b⟩|⟨a,b⟩
   ·have e:(y.natAbs:Int)=y:=by omega
    rw [e]at h1';have:-1*(q:Int)*y=-(y*q):=by grind
    omega
   have e:(y.natAbs:Int)=-y:=by omega
   rw [e]at h1';have:-1*(q:Int)*y=-y*q:=by grind
   omega
  rw [show(decide (x*y<0)&&decide (r≠0))=true by simp [hr0,ho]];simp only [if_true];rcases b5m.1 ho with⟨a,b⟩|⟨a,b⟩
  ·have e:(y.natAbs:Int)=y:=by omega
   rw [e]at h1';rw [a3i b];have:-((q:Int)+1)*y=-(y*q)-y:=by grind
   exact⟨by omega,.inr (by rw [a3i (by omega)]),by omega⟩
  have e:(y.natAbs:Int)=-y:=by omega
  rw [e]at h1';rw [a3u b];have:-((q:Int)+1)*y=-y*q-y:=by grind
  exact⟨by omega,.inr (by rw [a3u (by omega)]),by omega⟩
 rw [show(decide (x*y<0)&&decide (r≠0))=false by simp [ho]];simp only [if_neg Bool.false_ne_true];rcases a0p x with⟨a,b⟩|⟨a,b⟩|⟨a,b⟩<;>rcases a0p y with⟨c,d⟩|⟨c,d⟩|⟨c,d⟩
 ·rw [b8o,b,d];have e:(y.natAbs:Int)=-y:=by omega
  rw [e]at h1';have:-1*-1*(q:Int)*y=-(-y*q):=by grind
  refine⟨by omega,?_,by omega⟩
  by_cases hr0:r=0
  ·left;omega
  right;rw [a3u (by omega)]
 ·exact absurd c hy
 ·exact absurd (b5m.2 (.inl ⟨a,c⟩)) ho
 ·rw [b8o,b];subst a;have:r=0:=by rw [<-hr];simp
  refine⟨?_,.inl (by omega),by omega⟩;simp
 ·exact absurd c hy
 ·rw [b8o,b];subst a;refine⟨?_,.inl (by omega),by omega⟩;simp
 ·exact absurd (b5m.2 (.inr ⟨a,c⟩)) ho
 ·exact absurd c hy
 rw [b8o,b,d];have e:(y.natAbs:Int)=y:=by omega
 rw [e]at h1';have:1*1*(q:Int)*y=y*q:=by grind
 refine⟨by omega,?_,by omega⟩
 by_cases hr0:r=0
 ·left;omega
 right;rw [a3i (by omega)]
theorem d6a{x y:Int}(ho:odd x y=true):(dq x y).natAbs=x.natAbs/y.natAbs+1/\sg (dq x y)=-1:=by
 unfold dq;rw [if_pos ho];generalize x.natAbs/y.natAbs=q;exact⟨by omega,a3u (by omega)⟩
theorem d6k{x y:Int}(hy:y≠0)(ho:odd x y=true):(dr x y).natAbs=y.natAbs-x.natAbs %y.natAbs/\sg (dr x y)=sg y:=by
 unfold dr;rw [if_pos ho];have h:=Nat.mod_lt x.natAbs (show y.natAbs>0 by omega);generalize x.natAbs %y.natAbs=r at*;rcases a0p y with⟨h1,h2⟩|⟨h1,h2⟩|⟨h1,h2⟩<;>rw [h2]
 ·exact⟨by omega,a3u (by omega)⟩
 ·exact absurd h1 hy
 exact⟨by omega,a3i (by omega)⟩
theorem d0u{x y:Int}(hy:y≠0)(ho:¬odd x y=true):(dq x y).natAbs=x.natAbs/y.natAbs/\(x.natAbs/y.natAbs≠0->sg (x*y)=sg (dq x y)):=by
 unfold dq;rw [if_neg ho];rcases a0p (x*y)with⟨h1,h2⟩|⟨h1,h2⟩|⟨h1,h2⟩<;>rw [h2]
 ·generalize x.natAbs/y.natAbs=q;exact⟨by omega,fun _=>by rw [a3u (by omega)]⟩
 ·have h3:x=0:=by
   rcases Int.mul_eq_zero.1 h1 with h4|h4
   ·exact h4
   exact absurd h4 hy
  subst h3;rw [show(0:Int).natAbs=0 from rfl,Nat.zero_div];exact⟨rfl,fun h=>absurd rfl h⟩
 generalize x.natAbs/y.natAbs=q;exact⟨by omega,fun _=>by rw [a3i (by omega)]⟩
theorem d0n{x y:Int}(ho:¬odd x y=true):(dr x y).natAbs=x.natAbs %y.natAbs/\(x.natAbs %y.natAbs≠0->sg x=sg (dr x y)):=by
 unfold dr;rw [if_neg ho];rcases a0p x with⟨h1,h2⟩|⟨h1,h2⟩|⟨h1,h2⟩<;>rw [h2]
 ·generalize x.natAbs %y.natAbs=r;exact⟨by omega,fun _=>by rw [a3u (by omega)]⟩
 ·subst h1;rw [show(0:Int).natAbs=0 from rfl,Nat.zero_mod];exact⟨rfl,fun h=>absurd rfl h⟩
 generalize x.natAbs %y.natAbs=r;exact⟨by omega,fun _=>by rw [a3i (by omega)]⟩
theorem dig_one:dig 1= [1]:=by rw [b5i (by decide),show 1/1048576=0 from rfl,dig_zero];rfl
theorem e7s{x y:Int}{k:Nat}(hx:Sm k x)(hy:Sm k y)(hk:k<8388608)(hy0:y≠0):Ev (fun n=>b3r n (toB x) (toB y)) (toB (dq x y),toB (dr x y),0):=by
 have lx:=a1d hx;have ly:=a1d hy;have hyn:y.natAbs≠0:=by omega
 have hmod:=Nat.mod_lt x.natAbs (show y.natAbs>0 by omega);have hdivle:x.natAbs/y.natAbs<=x.natAbs:=Nat.div_le_self _ _;have lq:=a4o hdivle;have lr:=a4o (Nat.le_of_lt hmod);have lq1:(dig (x.natAbs/y.natAbs+1)).length<=k+1:=by
  have h:Sm (k+1) ((x.natAbs/y.natAbs+1:Nat):Int):=by
   generalize x.natAbs/y.natAbs=q at*;unfold Sm at*;rw [Int.natAbs_natCast];simp only [pw];have:=pw_pos k;omega
  have:=a1d h
  rwa [Int.natAbs_natCast]at this
 have ls:=a4o (show y.natAbs-x.natAbs %y.natAbs<=y.natAbs by omega);unfold b3r;refine Ev.bind (a5m hx (by omega)) ?_;refine Ev.bind (a:=false) (Ev.else rfl (Ev.bind (a5m hy (by omega)) (Ev.pure _))) ?_;refine Ev.else rfl ?_
 refine Ev.else (by show(sg y==0)=false;rcases a0p y with h|h|h<;>first|(rw [h.2];rfl)|omega) ?_
 refine Ev.bind (e7l (x:=x.natAbs) (y:=y.natAbs) hyn (by omega) (by omega)) ?_;refine Ev.step (a:=odd x y) (by
  show(bif decide (imul .i64 (sg x) (sg y)<0)then some (decide (0<((dig (x.natAbs %y.natAbs)).length:Int)))else some false)=_;rw [b7d];unfold odd;have e1:decide (sg (x*y)<0)=decide (x*y<0):=by
   rcases a0p (x*y)with⟨h1,h2⟩|⟨h1,h2⟩|⟨h1,h2⟩<;>rw [h2]<;>simp<;>omega
  have e2:decide (0<((dig (x.natAbs %y.natAbs)).length:Int))=decide (x.natAbs %y.natAbs≠0):=by
   by_cases h:x.natAbs %y.natAbs=0
   ·rw [h,dig_zero];rfl
   have:=b8x h;have h3:0<(dig (x.natAbs %y.natAbs)).length:=List.length_pos_iff.2 this;simp [h];omega
  rw [e1,e2];cases decide (x*y<0)<;>rfl) ?_
 by_cases ho:odd x y=true
 ·refine Ev.then ho ?_
  refine Ev.bind (a:=dig (x.natAbs/y.natAbs+1)) (by
   have:=e2y (x.natAbs/y.natAbs) 1 (by omega) (by rw [dig_one];simp)
   rwa [dig_one]at this) ?_
  refine Ev.bind (a7l (-1) (by omega)) ?_;refine Ev.bind (d4g y.natAbs (x.natAbs %y.natAbs) (by omega) (by omega)) ?_;refine Ev.bind (a7l (sg y) (by omega)) ?_;refine(Ev.pure _).eq ?_;rw [a4v (dq x y) (d6a ho).1 (fun _=>(d6a ho).2.symm),a4v (dr x y) (d6k hy0 ho).1 (fun _=>(d6k hy0 ho).2.symm)]
 refine Ev.else (by simpa using ho) ?_
 refine Ev.bind (a7l (imul .i64 (sg x) (sg y)) (by omega)) ?_;refine Ev.bind (a7l (sg x) (by omega)) ?_;refine(Ev.pure _).eq ?_;rw [b7d,a4v (dq x y) (d0u hy0 ho).1 (d0u hy0 ho).2,a4v (dr x y) (d0n ho).1 (d0n ho).2]
theorem f5u(v:Nat):∀(u:Nat),(dig u).length<16777216->(dig v).length<16777216->∃N,∀n,N<=n->∀(kont:List Int->Option (Big×Int))m,v<m->big_Gcd_L1 n kont m (dig u) (dig v)=kont (dig (Nat.gcd u v)):=by
 induction v using Nat.strongRecOn with
 |ind v ih=>
  intro u hu hv
  by_cases h:v=0
  ·subst h;refine⟨0,fun n _ kont m hm=> ?_⟩;obtain⟨m,rfl⟩:∃m',m=m'+1:=⟨m-1,by omega⟩
   rw [big_Gcd_L1_s,dig_zero,Nat.gcd_zero_right];rfl
  have hlt:=Nat.mod_lt u (show v>0 by omega);obtain⟨N1,h1⟩:=e7l (x:=u) (y:=v) h hu hv;obtain⟨N2,h2⟩:=ih (u %v) hlt v hv (by have:=a4o (Nat.le_of_lt hlt);omega);refine⟨max N1 N2,fun n hn kont m hm=> ?_⟩;obtain⟨m,rfl⟩:∃m',m=m'+1:=⟨m-1,by omega⟩
  have h3:0<(dig v).length:=List.length_pos_iff.2 (b8x h);rw [big_Gcd_L1_s,show decide (0<((dig v).length:Int))=true by simp;omega,cond_true,(show b6t n (dig u) (dig v)=_ from h1 n (by omega)),b_s];show big_Gcd_L1 n kont m (dig v) (dig (u %v))=_;rw [h2 n (by omega) kont m (by omega),Nat.gcd_comm v,<-Nat.gcd_rec,Nat.gcd_comm]
theorem e7r{x y:Int}{k:Nat}(hx:Sm k x)(hy:Sm k y)(hk:k<8388608):Ev (fun n=>b6q n (toB x) (toB y)) (toB (Nat.gcd x.natAbs y.natAbs:Nat),0):=by
 have lx:=a1d hx;have ly:=a1d hy;have lg:(dig (Nat.gcd x.natAbs y.natAbs)).length<16777216:=by
  by_cases h:x.natAbs=0
  ·rw [h,Nat.gcd_zero_left];omega
  have:=a4o (Nat.gcd_le_left y.natAbs (show 0<x.natAbs by omega));omega
 unfold b6q;refine Ev.bind (a5m hx (by omega)) ?_;refine Ev.bind (a:=false) (Ev.else rfl (Ev.bind (a5m hy (by omega)) (Ev.pure _))) ?_;refine Ev.else rfl ?_
 refine Ev.bind (b4w (a:=(toB x).Digits) (by simp only [toB];omega)) ?_;obtain⟨N,hN⟩:=f5u y.natAbs x.natAbs (by omega) (by omega);refine Ev.from (max N (y.natAbs+1)) (fun n hn=>hN n (by omega) _ n (by omega)) ?_
 refine Ev.bind (b4w (by omega)) ?_;refine Ev.bind (a7l 1 (by omega)) ?_;rw [a4v ((Nat.gcd x.natAbs y.natAbs:Nat):Int) (Int.natAbs_natCast _) (fun hv=>by rw [a3i (by omega)])];exact Ev.step (b1d 0 _) (Ev.pure _)
theorem d8o{x y:Int}{k:Nat}(hx:Sm k x)(hy:Sm k y)(hk:k<536870912):Ev (fun n=>b2f n (toB x) (toB y)) (sg (x-y)):=by
 have lx:=a1d hx;unfold b2f;refine Ev.bind (a5m hx (by omega)) ?_;refine Ev.bind (a:=false) (Ev.else rfl (Ev.bind (a5m hy (by omega)) (Ev.pure _))) ?_;refine Ev.else rfl ?_
 by_cases h:sg x=sg y
 ·refine Ev.else (by show(sg x !=sg y)=false;rw [h];simp) ?_
  refine Ev.bind (c5t x.natAbs y.natAbs (by omega)) ?_;refine(Ev.pure _).eq ?_;show imul .i64 (sg x) _=_;rw [b7d];rcases a0p x with⟨a,b⟩|⟨a,b⟩|⟨a,b⟩<;>rcases a0p y with⟨c,d⟩|⟨c,d⟩|⟨c,d⟩<;>rw [b,d]at h<;>(try omega)
  ·rw [b8o,b];rcases a0p (x-y)with⟨e,f⟩|⟨e,f⟩|⟨e,f⟩
   ·rw [f,a3i (by omega)];rfl
   ·rw [f,show(x.natAbs:Int)-y.natAbs=0 by omega];rfl
   rw [f,a3u (by omega)];rfl
  ·subst a c;rfl
  rw [b8o,b,Int.one_mul,show(x.natAbs:Int)-y.natAbs=x-y by omega]
 refine Ev.then (by show(sg x !=sg y)=true;simpa using h) ?_
 refine Ev.step (a:=sg (sg x-sg y)) (b9j 0 _ _) ?_;refine(Ev.pure _).eq ?_;rcases a0p x with⟨a,b⟩|⟨a,b⟩|⟨a,b⟩<;>rcases a0p y with⟨c,d⟩|⟨c,d⟩|⟨c,d⟩<;>rw [b,d]at h⊢<;>first
  |(exfalso;omega)
  |(rw [a3u (x:=x-y) (by omega)];decide)
  |(rw [a3i (x:=x-y) (by omega)];decide)
theorem e6x(x y:Int)(xs ys:List Int):decide (x::xs=y::ys)=(decide (x=y)&&decide (xs=ys)):=by
 by_cases h:x=y<;>by_cases h2:xs=ys<;>simp [h,h2]
theorem Of_L(n:Nat)(kont:List Int->Option Big):∀(u m:Nat)(acc:List Int),u<18446744073709551616->(dig u).length<m->acc.length+(dig u).length<1099511627776->big_Of_L1 n kont m (u:Int) acc=kont (acc++dig u):=by
 intro u;induction u using Nat.strongRecOn with
 |ind u ih=>
  intro m acc hu hm ha;obtain⟨m,rfl⟩:∃m',m=m'+1:=⟨m-1,by omega⟩
  rw [big_Of_L1_s]
  by_cases h:u=0
  ·subst h;rw [dig_zero,List.append_nil];rfl
  have hd:=b5i h;rw [hd]at hm ha;simp only [List.length_cons]at hm ha;rw [show decide (0<(u:Int))=true by simp;omega,cond_true,d7r (by omega) (by omega),a5o (by omega) (by omega),c1k (by simp;omega),b_s,f0x,b_s];have e1:(u:Int)/1048576=((u/1048576:Nat):Int):=by omega
  have e2:(u:Int) %1048576=((u %1048576:Nat):Int):=by omega
  rw [e1,e2,ih (u/1048576) (by omega) m _ (by omega) (by omega) (by simp;omega),hd];simp
theorem d1m{u:Nat}(h:u<18446744073709551616):(dig u).length<=4:=by
 have h1:Sm 4 (u:Int):=by unfold Sm;rw [Int.natAbs_natCast,show pw 4=1208925819614629174706176 by decide];omega
 have h2:=a1d h1
 rwa [Int.natAbs_natCast]at h2
theorem f0l{x:Int}(h1:-9223372036854775808<=x)(h2:x<=9223372036854775807):Ev (fun n=>b7e n x) (toB x):=by
 have hl:=d1m (u:=x.natAbs) (by omega);have hs:∀s:Int,Ev (fun n=>(a2u n s (dig x.natAbs)).bind fun v1=>some (⟨v1.Sign,v1.Digits⟩:Big)) (if x.natAbs=0 then⟨0,[]⟩else⟨s,dig x.natAbs⟩):=fun s=>
  Ev.bind (a7l s (by omega)) (Ev.pure _)
 by_cases hx:x<0
 ·refine Ev.from (g:=fun n=>(a2u n (-1) (dig x.natAbs)).bind fun v1=>some (⟨v1.Sign,v1.Digits⟩:Big)) 5 (fun n hn=> ?_) ((hs (-1)).eq (a4v x rfl (fun _=>(a3u hx).symm)))
  unfold b7e;rw [show decide (x<0)=true by simpa using hx,cond_true,b_s];have e:IntKind.u64.wrap (0-IntKind.u64.wrap x)=(x.natAbs:Int):=by rw [b6n,b6n];omega
  show big_Of_L1 n _ n (IntKind.u64.wrap (0-IntKind.u64.wrap x)) []=_;rw [e,Of_L n _ x.natAbs n [] (by omega) (by omega) (by simp;omega),List.nil_append]
 refine Ev.from (g:=fun n=>(a2u n 1 (dig x.natAbs)).bind fun v1=>some (⟨v1.Sign,v1.Digits⟩:Big)) 5 (fun n hn=> ?_) ((hs 1).eq (a4v x rfl (fun h=>(a3i (by omega)).symm)))
 unfold b7e;rw [show decide (x<0)=false by simpa using hx,cond_false,b_s];have e:IntKind.u64.wrap x=(x.natAbs:Int):=by rw [b6n];omega
 show big_Of_L1 n _ n (IntKind.u64.wrap x) []=_;rw [e,Of_L n _ x.natAbs n [] (by omega) (by omega) (by simp;omega),List.nil_append]
theorem e8k{x:Int}{i:Nat}(hi:i<=60)(h0:0<=x)(h1:x*2^i<18446744073709551616):shl .u64 x (i:Int)=some (x*2^i):=by
 unfold shl;have h3:0<=x*2^i:=Int.mul_nonneg h0 (Int.le_of_lt (Int.pow_pos (by decide)));rw [if_neg (by omega),show min (i:Int).toNat IntKind.u64.bits=i by simp [IntKind.bits];omega,b6n]
 congr 1
 omega
theorem f1a{x y:Int}{i:Nat}(h0:0<=x)(h1:x<2^i)(h2:0<=y)(h3:x+y*2^i<18446744073709551616):ior .u64 x (y*2^i)=x+y*2^i:=by
 obtain⟨p,rfl⟩:=Int.eq_ofNat_of_zero_le h0;obtain⟨q,rfl⟩:=Int.eq_ofNat_of_zero_le h2
 have h1':p<2^i:=by have:((p:Nat):Int)<((2^i:Nat):Int):=by simpa using h1
                    exact Int.ofNat_lt.1 this
 have e:(q:Int)*2^i=((2^i*q:Nat):Int):=by rw [Int.natCast_mul,Int.mul_comm];simp
 rw [e]at h3⊢;unfold ior;rw [BitVec.toNat_or,BitVec.toNat_ofInt,BitVec.toNat_ofInt,show IntKind.u64.bits=64 from rfl];have e1:((p:Int) %((2^64:Nat):Int)).toNat=p:=by omega
 have e2:(((2^i*q:Nat):Int) %((2^64:Nat):Int)).toNat=2^i*q:=by omega
 rw [e1,e2,Nat.or_comm,<-Nat.two_pow_add_eq_or_of_lt h1',b6n];omega
theorem pw_two:∀i,pw i=2^(20*i)
 |0=>rfl
 |i+1=>by rw [pw,pw_two i,Nat.mul_add,Int.pow_add,Int.mul_comm];rfl
theorem f2s(n:Nat)(a:Big)(kont:Int->Option (Int×Bool))(hr:InR a.Digits)(h4:a.Digits.length<=4):∀(us:List Int)(i m:Nat)(u:Int),a.Digits.drop i=us->us.length<m->0<=u->u<pw i->u<10376293541461622784->
 big_Int_L1 n a kont m u (i:Int)=if u+pw i*val us<10376293541461622784 then kont (u+pw i*val us)else some (0,false)
 | [],i,m+1,u,hd,_,h0,h1,h2=>by
  have hi:a.Digits.length<=i:=by simpa using hd
  rw [big_Int_L1_s,show decide ((i:Int)<(a.Digits.length:Int))=false by simp;omega,cond_false];simp only [val,Int.mul_zero,Int.add_zero];rw [if_pos h2]
 |d::us,i,m+1,u,hd,hm,h0,h1,h2=>by
  obtain⟨hix,hdt,hi⟩:=drop_cons hd;have hdr:=hr d (List.mem_of_mem_drop (by rw [hd];simp:d∈a.Digits.drop i));have hir:InR us:=fun e he=>hr e (by rw [<-List.take_append_drop (i+1) a.Digits,hdt];exact List.mem_append_right _ he);rw [big_Int_L1_s,show decide ((i:Int)<(a.Digits.length:Int))=true by simp;omega,cond_true,hix,b_s];have hp:=pw_pos i;have hval:u+pw i*val (d::us)=(u+d*pw i)+pw (i+1)*val us:=by simp only [val,pw];grind
  have hvus:0<=pw (i+1)*val us:=Int.mul_nonneg (Int.le_of_lt (pw_pos _)) (val_nonneg hir);have hpi:pw i<=pw 3:=pw_mono (by omega);rw [show pw 3=1152921504606846976 by decide]at hpi
  by_cases h8:i=3/\8<d
  ·obtain⟨rfl,h8⟩:=h8;rw [show((((3:Nat):Int))==3)=true from rfl,cond_true,b_s,show decide (8<d)=true by simpa using h8,cond_true,hval,if_neg];rw [show pw 3=1152921504606846976 by decide];omega
  have e1:(bif((i:Int)==3)then some (decide (8<d))else some false)=some false:=by
   by_cases h3:i=3
   ·subst h3;rw [show((((3:Nat):Int))==3)=true from rfl,cond_true,show decide (8<d)=false by simp;omega]
   rw [show((i:Int)==3)=false by simp;omega,cond_false]
  rw [e1,b_s,cond_false];have hq:u+d*pw i<10376293541461622784:=by
   rcases Nat.lt_or_ge i 3 with h3|h3
   ·have h5:pw (i+1)<=pw 3:=pw_mono (by omega);rw [show pw 3=1152921504606846976 by decide]at h5;have h6:(d+1)*pw i<=1048576*pw i:=Int.mul_le_mul_of_nonneg_right (by omega) (Int.le_of_lt hp);simp only [pw]at h5;rw [Int.add_mul,Int.one_mul]at h6;omega
   have:i=3:=by omega
   subst this;rw [show pw 3=1152921504606846976 by decide]at h1⊢;omega
  have hq1:u+d*pw i<pw (i+1):=by
   have h6:(d+1)*pw i<=1048576*pw i:=Int.mul_le_mul_of_nonneg_right (by omega) (Int.le_of_lt hp);simp only [pw];rw [Int.add_mul,Int.one_mul]at h6;omega
  have hq0:0<=d*pw i:=Int.mul_nonneg hdr.1 (Int.le_of_lt hp);have e2:imul .i64 20 (i:Int)=((20*i:Nat):Int):=by rw [a7i (by omega) (by omega)];omega
  have e3:IntKind.u64.wrap d=d:=by rw [b6n];omega
  rw [e2,e3,e8k (by omega) hdr.1 (by rw [<-pw_two];omega),b_s,f1a h0 (by rw [<-pw_two];exact h1) hdr.1 (by rw [<-pw_two];omega),<-pw_two];have e4:iadd .i64 (i:Int) 1=((i+1:Nat):Int):=by rw [a1k (by omega) (by omega)];omega
  rw [e4,f2s n a kont hr h4 us (i+1) m (u+d*pw i) hdt (by simp only [List.length_cons]at hm;omega) (by omega) hq1 hq,hval]
theorem f4z{x:Int}{k:Nat}(h:Sm k x)(hk:k<1099511627776):Ev (fun n=>c5c n (toB x)) (if-9223372036854775808<=x/\x<=9223372036854775807 then(x,true)else(0,false)):=by
 unfold c5c;refine Ev.bind (a5m h hk) ?_
 by_cases hl:(dig x.natAbs).length<=4
 ·refine Ev.bind (a:=false) (Ev.else rfl ((Ev.pure _).eq (by show decide (4<((dig x.natAbs).length:Int))=false;simp;omega))) ?_;refine Ev.else rfl ?_
  refine Ev.from (g:=fun _=>some (if-9223372036854775808<=x/\x<=9223372036854775807 then(x,true)else(0,false))) 5 (fun n hn=> ?_) (Ev.pure _)
  have h1:=f2s n (toB x) (fun(u2:Int)=>
   (bif decide ((toB x).Sign<0)then
    some (decide (u2<=9223372036854775808))
   else
    some false).bind fun v3=>
   bif v3 then
    some (IntKind.i64.wrap (IntKind.u64.wrap (0-u2)),true)
   else
    (bif decide (0<=(toB x).Sign)then
     some (decide (u2<9223372036854775808))
    else
     some false).bind fun v4=>
    bif v4 then
     some (IntKind.i64.wrap u2,true)
    else
     some (0,false)) (a1y x.natAbs) hl (dig x.natAbs) 0 n 0 rfl (by omega) (by decide) (by decide) (by decide)
  refine h1.trans ?_;rw [a1i,show pw 0=1 from rfl,Int.one_mul,Int.zero_add]
  by_cases hb:(x.natAbs:Int)<10376293541461622784
  ·rw [if_pos hb];have hsx:(toB x).Sign=sg x:=rfl;rw [hsx];rcases a0p x with⟨a,b⟩|⟨a,b⟩|⟨a,b⟩<;>rw [b]
   ·rw [show decide ((-1:Int)<0)=true from rfl,cond_true,b_s]
    by_cases hc:(x.natAbs:Int)<=9223372036854775808
    ·rw [show decide ((x.natAbs:Int)<=9223372036854775808)=true by simpa using hc,cond_true,if_pos (by omega)]
     congr 2
     rw [e7k,b6n];split<;>omega
    rw [show decide ((x.natAbs:Int)<=9223372036854775808)=false by simpa using hc,cond_false,if_neg (by omega)];rfl
   ·subst a;rfl
   rw [show decide ((1:Int)<0)=false from rfl,cond_false,b_s,cond_false,show decide ((0:Int)<=1)=true from rfl,cond_true,b_s]
   by_cases hc:(x.natAbs:Int)<9223372036854775808
   ·rw [show decide ((x.natAbs:Int)<9223372036854775808)=true by simpa using hc,cond_true,if_pos (by omega)]
    congr 2
    rw [a5o (by omega) (by omega)];omega
   rw [show decide ((x.natAbs:Int)<9223372036854775808)=false by simpa using hc,cond_false,if_neg (by omega)]
  rw [if_neg hb,if_neg (by omega)]
 refine Ev.bind (a:=true) (Ev.else rfl ((Ev.pure _).eq (by show decide (4<((dig x.natAbs).length:Int))=true;simp;omega))) ?_;refine Ev.then rfl ((Ev.pure _).eq ?_)
 rw [if_neg];intro hx;exact hl (d1m (by omega))
end D
end Go.Proofs.YthaegflpecbfgaaGreatDoor
