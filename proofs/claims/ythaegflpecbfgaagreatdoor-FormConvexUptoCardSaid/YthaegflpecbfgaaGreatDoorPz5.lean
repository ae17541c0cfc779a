/- Several texts in one, for FormConvex.card: what the theorem leans on. -/
import Derived.Laws.CopyRow
import Derived.Shelf.Spec.SlicesGrow
import Derived.Test.YthaegflpecbfgaaGreatDoorPz4
set_option maxHeartbeats 1000000
set_option maxRecDepth 1000000
namespace Go.Proofs.YthaegflpecbfgaaGreatDoor.M
open Go Go.RowKit Rt
set_option maxRecDepth 1000000
set_option maxHeartbeats 40000000
theorem c2w(n:Nat)(ax1:(List Int))(b1:(List Int))(r:Int)(hm:a6l n ax1 b1=some r){w:World}{F:Frz}(hs:Sat F w)(hg0:FX F 0 [.int .u8 40,.int .u8 41,.int .u8 44,.int .u8 59,.int .u8 58,.int .u8 61,.int .u8 60,.int .u8 43,.int .u8 45,.int .u8 42,.int .u8 47,.int .u8 123,.int .u8 125]){as1:Option Addr}{ns1:Nat}{cs1:Nat}{as2:Option Addr}{ns2:Nat}{cs2:Nat}(hs1:SlR (Rp.int .i64) F as1 ns1 cs1 ax1)(hs2:SlR (Rp.int .i64) F as2 ns2 cs2 b1):
 Calls Tryz.prog 169 #[.slice as1 ns1 cs1,.slice as2 ns2 cs2] w fun e w'=>∃v F' O',e= .returned v/\HS F w [] F' O' w'/\(v= .int .i64 r/\O'= []):=
 (b3n n ax1 b1).2 r hm w F hs hg0 _ ⟨_,_,rfl,⟨_,_,_,rfl,hs1⟩,⟨_,_,rfl,⟨_,_,_,rfl,hs2⟩,rfl⟩⟩|>.mono fun e w'⟨v,F',e1,e2,e3⟩=>by
  obtain rfl:=e3
  exact⟨_,F',[],e1,e2,⟨rfl,rfl⟩⟩
theorem c9a(n:Nat)(ax1:(List Int))(b1:(List Int))(r:((List Int)×(List Int)))(hm:b4r n ax1 b1=some r){w:World}{F:Frz}(hs:Sat F w)(hg0:FX F 0 [.int .u8 40,.int .u8 41,.int .u8 44,.int .u8 59,.int .u8 58,.int .u8 61,.int .u8 60,.int .u8 43,.int .u8 45,.int .u8 42,.int .u8 47,.int .u8 123,.int .u8 125]){gp gq:Option Addr}{gr g4 gs g5:Nat}(gc:SlR (Rp.int .i64) F gp gr g4 ax1)(g6:SlR (Rp.int .i64) F gq gs g5 b1):
 Calls Tryz.prog 162 #[.slice gp gr g4,.slice gq gs g5] w fun e w'=>∃v F' O',e= .returned v/\HS F w [] F' O' w'/\(∃(a0_0:Option Addr)(n0_0:Nat)(c0_0:Nat)(a1_0:Option Addr)(n1_0:Nat)(c1_0:Nat)(xs1_0:List Value),v= .tuple #[.slice a0_0 n0_0 c0_0,.slice a1_0 n1_0 c1_0]/\O'= [.row 3 1 a1_0 n1_0 c1_0 xs1_0]/\SlR (Rp.int .i64) F' a0_0 n0_0 c0_0 r.1/\RowN (Rp.int .i64) F' n1_0 xs1_0 r.2):=by
 unfold b4r at hm
 have h:=HS.init hs
 refine a1v 170 Tryz.func162 Y Y Y (a0f (a0a (a0c Y Y Y (a0c Y Y Y (a0e (a0d (a0f (a0f (a0a (a0b Y Y Y (a0b Y Y Y ?_)))))))))))
 obtain⟨v1,k3,hm⟩:=Yb hm
 refine a1s ent169 Y Y Y Y h (c2w _ _ _ _ k3 h.sat (hg0.mono h.le) gc g6) ?_
 rintro _ k4 _ i7 g7 R ⟨rfl,rfl⟩
 refine a0n Y Y Y Y Y (a0e (a0d ?_))
 rcases a0g hm with⟨gx,hm⟩|⟨gx,hm⟩
 refine a0v 22 Y gx (a1l Y (a0f (a0a (a0b Y Y Y ?_))))
 obtain⟨v2,k5,hm⟩:=Yb hm
 refine a1s ent110 Y Y Y Y R (a9o _ _ _ k5 R.sat (gc.mono g7)) ?_
 rintro _ mp _ mq mr k6 ⟨i8,i9,gt,xss3,rfl,rfl,k7⟩
 refine a0c Y Y Y (a0c Y Y Y (a0e (a0d (a3b (a0l (a6h (vl:= [.slice none 0 0,.slice i8 i9 gt]) Y ⟨a3u Y,a3u Y,trivial⟩ (by simp) ?_))))))
 obtain rfl:=Yo hm
 exact⟨_,_,_,Y,k6.Yp [0] Y Y,none,0,0,i8,i9,gt,xss3,Y,Y,SlR.nil _ _,k7⟩
 refine a0v 22 Y gx (a0q Y (a1y (a0d (a0f (a0f (a0a (a0b Y Y Y (a6c g6.len u28 Y Y Y (a0n Y Y Y Y Y (a0e (a0d ?_)))))))))))
 rcases a0g hm with⟨gy,hm⟩|⟨gy,hm⟩
 refine a0v 27 Y gy (a1l Y (a0f (a0a (a0b Y Y Y (a0b Y Y Y ?_)))))
 obtain⟨ex1,k8,hm⟩:=Yb hm
 refine a9j (r:=(Rp.int .i64)) u28 sz3 Y Y Y Y (g6.mono g7) k8 ?_
 intro b2 o1 g4 k9 ka
 have kb:g4= [.int .i64 ex1]:=ka
 subst kb
 refine a6k (j:=0) ag3 Y Y R k9 Y Y ?_
 obtain⟨v3,kc,hm⟩:=Yb hm
 refine a1s ent206 Y Y Y Y R (c0c _ _ _ _ kc R.sat (gc.mono g7)) ?_
 rintro _ ia _ ms mt kd ⟨ib,ic,gu,xss4,rfl,rfl,ke⟩
 refine a0b Y Y Y (a1a Y Y Y Y (a1a Y Y Y Y (a0c Y Y Y (a0c Y Y Y (a0e (a0d (a0f (a0a (a0b Y Y Y (a0b Y Y Y (a0i (e:=3) (cs:= [.int .i64 v3.2]) (q:=1) Y Y kd Y (fun _=>by kernel_rfl) Y Y ?_)))))))))))
 intro b3 mu ie
 obtain⟨v4,kf,hm⟩:=Yb hm
 refine c3o ent191 Y Y Y Y (b1u _ _ _ kf (b8c _) (ie.viewRow (p:=0) Y Y ((show RowN (Rp.int .i64) ia 1 [.int .i64 v3.2] [v3.2]from⟨Y,⟨_,_,Y,Y,(Y:RowR (Rp.int .i64) _ [] [])⟩⟩)))) ?_
 intro gz hles5 hvs5
 obtain⟨kg,ig⟩:=ie.cutN (p:=0) Y ((show RowN (Rp.int .i64) ia 1 [.int .i64 v3.2] [v3.2]from⟨Y,⟨_,_,Y,Y,(Y:RowR (Rp.int .i64) _ [] [])⟩⟩)) hles5
 rw [<-hvs5]at ig
 refine a0c Y Y Y (a0c Y Y Y (a0e (a0d (a3b (a0l ?_)))))
 obtain⟨mv,kh,ki,hsx1⟩:=a1n kg (i:=1) Y ke
 refine a6h (vl:= [.slice ib ic gu,.slice (some ⟨b3,0,none⟩) gz 1]) Y ⟨a3u Y,a3u Y,trivial⟩ (by simp) ?_
 obtain rfl:=Yo hm
 exact⟨_,_,_,Y,ki.Yp [0] Y Y,ib,ic,gu,(some ⟨b3,0,none⟩),gz,1,([.int .i64 v3.2].take (gz*((Rp.int .i64)).k)),Y,Y,hsx1,(ig.mono kh)⟩
 refine a0v 27 Y gy (a0q Y (a1y (a0d (a0f (a0a (a0c Y Y Y (a0e (a0d (a0f (a2c ?_))))))))))
 intro a ht
 obtain⟨kont3,hkont3⟩:∃kont3:Int->Option ((List Int)×(List Int)),kont3=(fun(shift2:Int)=>(b0v n ax1 [shift2]).bind fun v5=>(app 8 v5 [0]).bind fun l1=>(b0v n b1 [shift2]).bind fun v6=>(bif(l1.length:Int)==(ax1.length:Int)then(app 8 l1 [0]).bind fun l10=>some l10 else some l1).bind fun l2=>(mks 8 0 (isub .i64 (l2.length:Int) (v6.length:Int))).bind fun l3=>big_div_L2 n v6 (fun(l6:List Int)(l7:List Int)=>(a2r n l7).bind fun v7=>(a8b n v7 shift2).bind fun v8=>(a2r n l6).bind fun v9=>some (v9,v8.1)) n (isub .i64 (l3.length:Int) 1) l3 l2):=⟨_,Y⟩
 replace hm:(fun m(s:Int)=>big_div_L1 n b1 kont3 m s) n 1=some r:=by rw [hkont3];exact hm
 refine b5h (id:=0) (fun m(s:Int)=>big_div_L1 n b1 kont3 m s) (fun(y:Int)=>kont3 y) r (fun(s:Int)a w'=>i7=w'/\Has 170 a [(0,.slice gp gr g4),(1,.slice gq gs g5),(8,.int .i64 s)]) (fun(y:Int)a w'=>i7=w'/\Has 170 a [(0,.slice gp gr g4),(1,.slice gq gs g5),(8,.int .i64 y)]) (fun _=>Y) ?_ ?_ hm ⟨Y,ht.cut (l:= [0,1,8]) Y⟩
 clear hm;rintro shift2 a mw hm ⟨rfl,iw⟩
 rw [hkont3]at hm
 replace hm:=hm
 refine a5a (e:= .exit 0) iw (a2m (a0d (a0f (a0a (a0b Y Y Y (a0b Y Y Y (a0i (e:=3) (cs:= [.int .i64 shift2]) (q:=1) Y Y R Y (fun _=>by kernel_rfl) Y Y ?_)))))))
 intro b4 mx kj
 obtain⟨my,ih,ii,hsx2⟩:=a1n kj (i:=0) Y ((show RowN (Rp.int .i64) k4 1 [.int .i64 shift2] [shift2]from⟨Y,⟨_,_,Y,Y,(Y:RowR (Rp.int .i64) _ [] [])⟩⟩))
 obtain⟨v5,kk,hm⟩:=Yb hm
 refine a1s ent207 Y Y Y Y ii (c4i _ _ _ _ kk ii.sat ((gc.mono g7).mono ih) hsx2) ?_
 rintro _ ij _ mz kl km ⟨o0,ik,il,xss6,rfl,rfl,kn⟩
 refine a0i (e:=3) (cs:= [.int .i64 0]) (q:=1) Y Y km Y (fun _=>by kernel_rfl) Y Y ?_
 intro b5 oa iy
 obtain⟨l1,ko,hm⟩:=Yb hm
 refine a6q (r:=(Rp.int .i64)) ap28 Y Y iy Y Y (i:=1) (j:=0) Y Y kn ((show RowN (Rp.int .i64) ij 1 [.int .i64 0] [0]from⟨Y,⟨_,_,Y,Y,(Y:RowR (Rp.int .i64) _ [] [])⟩⟩)) ko ?_
 intro kp h0 ob iz h1
 refine a0b Y Y Y (a0b Y Y Y (a0i (e:=3) (cs:= [.int .i64 shift2]) (q:=1) Y Y iz Y (fun _=>by kernel_rfl) Y Y ?_))
 intro b6 lx j0
 obtain⟨oc,h2,h3,hsx3⟩:=a1n j0 (i:=0) Y ((show RowN (Rp.int .i64) ij 1 [.int .i64 shift2] [shift2]from⟨Y,⟨_,_,Y,Y,(Y:RowR (Rp.int .i64) _ [] [])⟩⟩))
 have kq:=((g7.trans ih).trans kl).trans h2
 obtain⟨v6,kr,hm⟩:=Yb hm
 refine a1s ent207 Y Y Y Y h3 (c4i _ _ _ _ kr h3.sat (g6.mono kq) hsx3) ?_
 rintro _ im _ ly io h4 ⟨T,U,L,xss8,rfl,rfl,ip⟩
 refine a0c Y Y Y (a0c Y Y Y (a0e (a0d (a0f (a0f (a0a (a0b Y Y Y (a6c h1.len u28 Y Y Y (a0b Y Y Y (a6c gc.len u28 Y Y Y (a0n Y Y Y Y Y (a0e (a0d ?_)))))))))))))
 obtain⟨l2,V,hm⟩:=Yb hm
 refine b5l (fun a w'=>∃(gv:Frz)(gw:Option Addr)(gd:Nat)(g8:Nat)(xss9:List Value),Frz.le im gv/\HS F w [] gv [.row 3 1 T U L xss8,.row 3 1 (some ⟨b5,0,none⟩) 1 1 [.int .i64 0],.row 3 1 gw gd g8 xss9] w'/\(RowN (Rp.int .i64) gv gd xss9 l2)/\Has 170 a [(8,.int .i64 shift2),(9,.slice gw gd g8),(10,.slice T U L)]) ?_ ?_
 rintro a lz ⟨gv,gw,gd,g8,xss9,ks,j1,iq,j2⟩
 refine a2a j2 (a0f (a0a (a0b Y Y Y (a6c ip.len u28 Y Y Y (a0c Y Y Y (a0e (a0d (a0f (a0a (a0b Y Y Y (a6c iq.len u28 Y Y Y (a0b Y Y Y (a0n Y Y Y Y Y ?_)))))))))))))
 obtain⟨l3,kt,hm⟩:=Yb hm
 refine d1e (r:=(Rp.int .i64)) ap28 zi3 (fun _=>Y) Y Y Y j1 Y Y kt ?_
 intro b7 m0 xs1 j3 ir
 refine a0c Y Y Y (a0e (a0d (a0f (a0f (a0a (a0b Y Y Y (a6c ir.len u28 Y Y Y (a0n Y Y Y Y Y (a0c Y Y Y (a0e (a0d (a2c ?_))))))))))))
 obtain⟨h5,h6,j4,hsx4⟩:=a1n j3 (i:=1) Y (ip.mono ks)
 intro a hu
 obtain⟨kont1,hkont1⟩:∃kont1:(List Int)->(List Int)->Option ((List Int)×(List Int)),kont1=(fun(l6:List Int)(l7:List Int)=>(a2r n l7).bind fun v7=>(a8b n v7 shift2).bind fun v8=>(a2r n l6).bind fun v9=>some (v9,v8.1)):=⟨_,Y⟩
 replace hm:(fun m(s:Int×List Int×List Int)=>big_div_L2 n v6 kont1 m s.1 s.2.1 s.2.2) n ((isub .i64 (l3.length:Int) 1),l3,l2)=some r:=by rw [hkont1];exact hm
 refine b5h (id:=2) (fun m(s:Int×List Int×List Int)=>big_div_L2 n v6 kont1 m s.1 s.2.1 s.2.2) (fun(y:List Int×List Int)=>kont1 y.1 y.2) r (fun(s:Int×List Int×List Int)a w'=>∃(Z:Frz)(u:Option Addr)(o:Nat)(g:Nat)(xss10:List Value)(x:Option Addr)(t:Nat)(z:Nat)(xss11:List Value),Frz.le h5 Z/\HS F w [] Z [.row 3 1 u o g xss10,.row 3 1 x t z xss11] w'/\(RowN (Rp.int .i64) Z o xss10 s.2.1)/\(RowN (Rp.int .i64) Z t xss11 s.2.2)/\Has 170 a [(8,.int .i64 shift2),(9,.slice x t z),(10,.slice T U L),(11,.int .i64 (v6.length:Int)),(12,.slice u o g),(13,.int .i64 s.1)]) (fun(y:List Int×List Int)a w'=>∃(g0:Frz)(g1:Option Addr)(g9:Nat)(g2:Nat)(xss12:List Value)(ge:Option Addr)(ga:Nat)(gf:Nat)(xss13:List Value),Frz.le h5 g0/\HS F w [] g0 [.row 3 1 g1 g9 g2 xss12,.row 3 1 ge ga gf xss13] w'/\(RowN (Rp.int .i64) g0 g9 xss12 y.1)/\(RowN (Rp.int .i64) g0 ga xss13 y.2)/\Has 170 a [(8,.int .i64 shift2),(9,.slice ge ga gf),(12,.slice g1 g9 g2)]) (fun _=>Y) ?_ ?_ hm ⟨_,(some ⟨b7,0,none⟩),((isub .i64 (l2.length:Int) (v6.length:Int)).toNat),((isub .i64 (l2.length:Int) (v6.length:Int)).toNat),xs1,gw,gd,g8,xss9,Yf,j4.Yp [0,2] Y Y,(ir.mono h6),(iq.mono h6),hu.cut (l:= [8,9,10,11,12,13]) Y⟩
 clear hm;rintro⟨l6,l7⟩ a m1 hm ⟨g0,g1,g9,g2,xss12,ge,ga,gf,xss13,m2,h7,h8,h9,j5⟩
 rw [hkont1]at hm
 replace hm:=hm
 refine a5a (e:= .exit 2) j5 (a2m (a0d (a0f (a0a (a0b Y Y Y ?_)))))
 obtain⟨v7,ku,hm⟩:=Yb hm
 refine c3o ent191 Y Y Y Y (b1u _ _ _ ku (b8c _) (h7.viewRow (p:=1) Y Y h9)) ?_
 intro m3 hles14 hvs14
 obtain⟨j6,it⟩:=h7.cutN (p:=1) Y h9 hles14
 rw [<-hvs14]at it
 refine a0b Y Y Y ?_
 obtain⟨m4,hb,hc,hsx5⟩:=a1n j6 (i:=1) Y it
 obtain⟨v8,kv,hm⟩:=Yb hm
 refine a1s ent206 Y Y Y Y hc (c0c _ _ _ _ kv hc.sat hsx5) ?_
 rintro _ m5 _ m6 hd he ⟨hf,hg,hh,xss15,rfl,rfl,j7⟩
 refine a0b Y Y Y (a1a Y Y Y Y (a1a Y Y Y Y (a0c Y Y Y (a0c Y Y Y (a0e (a0d (a0f (a0a (a0b Y Y Y ?_)))))))))
 obtain⟨v9,kw,hm⟩:=Yb hm
 refine c3o ent191 Y Y Y Y (b1u _ _ _ kw (b8c _) (he.viewRow (p:=1) Y Y ((h8.mono hb).mono hd))) ?_
 intro hi hles16 hvs16
 obtain⟨j8,iu⟩:=he.cutN (p:=1) Y ((h8.mono hb).mono hd) hles16
 rw [<-hvs16]at iu
 refine a0b Y Y Y (a0c Y Y Y (a0c Y Y Y (a0e (a0d (a3b ?_)))))
 obtain⟨m7,j9,ja,hsx6⟩:=a1n j8 (i:=1) Y iu
 refine a6h (vl:= [.slice g1 hi g2,.slice hf hg hh]) Y ⟨a3u Y,a3u Y,trivial⟩ (by simp) ?_
 obtain rfl:=Yo hm
 exact⟨_,_,_,Y,ja.Yp [0] Y Y,g1,hi,g2,hf,hg,hh,xss15,Y,Y,hsx6,(j7.mono j9)⟩
 clear hm hkont1;intro hk1 mx1 K ihx1
 rintro⟨i1,l4,l5⟩ a m8 hm ⟨Z,u,o,g,xss10,x,t,z,xss11,J,gb,gg,M,jb⟩
 simp only [big_div_L2_s]at hm
 refine a2a jb (a0f (a0f (a0a (a0b Y Y Y (a0n Y Y Y Y Y (a0e (a0d ?_)))))))
 rcases a0g hm with⟨hj,hm⟩|⟨hj,hm⟩
 refine a0v 80 Y hj (a1l Y (a1y (a0d (a0f (a2c (a0f (b5i (by kernel_rfl) (by kernel_rfl) gb (a2w Y Y Y Y (fun _ _ _ _=>a0b Y Y Y Yn) (a2w Y Y Y Y (fun _ _ _ _=>a0b Y Y Y Yn) (a2w Y Y Y Y (fun _ _ _ _=>a0b Y Y Y Yn) (a2w Y Y Y Y (fun _ _ _ _=>a0n Y Y Y Y Y Yn) ?_)))))))))))
 obtain⟨ex2,kx,hm⟩:=Yb hm
 obtain⟨b8,o2,g5,jc,ho1,ky,hp1,hv⟩:=c1r (P:=Tryz.prog) (r:=(Rp.int .i64)) u28 sz3 gb (p:=1) Y Y M kx
 have kz:g5= [.int .i64 ex2]:=ky
 subst kz
 refine b5z Y Y Y Y hv (a2w Y Y Y Y (fun _ _ _ hq=>b3z (j:=0) ag3 Y Y hq Y (p:=1) Y Y jc ho1 hp1 Y Yn) ?_)
 obtain⟨q1,hq1,hm⟩:=Yb hm
 refine a2w Y Y Y Y (fun _ _ _ _=>e2g Y Y Y Y hq1 Yn) (a2w Y Y Y Y (fun _ _ _ _=>a0b Y Y Y Yn) (a2w Y Y Y Y (fun _ _ _ _=>a0b Y Y Y Yn) (a2w Y Y Y Y (fun _ _ _ _=>a0b Y Y Y Yn) (a2w Y Y Y Y (fun _ _ _ _=>a0n Y Y Y Y Y Yn) (a2w Y Y Y Y (fun _ _ _ _=>a0n Y Y Y Y Y Yn) ?_)))))
 obtain⟨ex3,l0,hm⟩:=Yb hm
 obtain⟨b9,o3,gt,jd,ho2,la,hp2,hw⟩:=c1r (P:=Tryz.prog) (r:=(Rp.int .i64)) u28 sz3 gb (p:=1) Y Y M l0
 have lb:gt= [.int .i64 ex3]:=la
 subst lb
 refine b5z Y Y Y Y hw (a2w Y Y Y Y (fun _ _ _ hq=>b3z (j:=0) ag3 Y Y hq Y (p:=1) Y Y jd ho2 hp2 Y Yn) (a2w Y Y Y Y (fun _ _ _ _=>a0n Y Y Y Y Y Yn) (a2w Y Y Y Y (fun _ _ _ _=>a0c Y Y Y Yn) (d7x ?_))))
 rintro m9 ⟨ma,G,je⟩
 refine a0d (a0f (b5i (by kernel_rfl) (by kernel_rfl) je (a2w Y Y Y Y (fun _ _ _ _=>a0b Y Y Y Yn) (a2w Y Y Y Y (fun _ _ _ _=>a0b Y Y Y Yn) (a2w Y Y Y Y (fun _ _ _ _=>a0b Y Y Y Yn) (a2w Y Y Y Y (fun _ _ _ _=>a0n Y Y Y Y Y Yn) ?_))))))
 obtain⟨ex4,lc,hm⟩:=Yb hm
 obtain⟨b10,o4,gu,ld,lf,hx⟩:=b1e (P:=Tryz.prog) (r:=(Rp.int .i64)) u28 sz3 ((hsx4.mono J).mono G) lc
 have lg:gu= [.int .i64 ex4]:=lf
 subst lg
 refine b5z Y Y Y Y hx (a2w Y Y Y Y (fun _ _ hleq hq=>a6k (j:=0) ag3 Y Y hq (ld.mono hleq) Y Y Yn) ?_)
 obtain⟨q2,hq2,hm⟩:=Yb hm
 refine a2w Y Y Y Y (fun _ _ _ _=>e4i Y Y Y Y hq2 Yn) (a2w Y Y Y Y (fun _ _ _ _=>a0b Y Y Y Yn) (a2w Y Y Y Y (fun _ _ _ _=>a0b Y Y Y Yn) (a2w Y Y Y Y (fun _ _ _ _=>a0b Y Y Y Yn) (a2w Y Y Y Y (fun _ _ _ _=>a0n Y Y Y Y Y Yn) ?_))))
 obtain⟨ex5,lh,hm⟩:=Yb hm
 obtain⟨b11,o5,li,lj,jf,hy⟩:=b1e (P:=Tryz.prog) (r:=(Rp.int .i64)) u28 sz3 ((hsx4.mono J).mono G) lh
 have lk:li= [.int .i64 ex5]:=jf
 subst lk
 refine b5z Y Y Y Y hy (a2w Y Y Y Y (fun _ _ hleq hq=>a6k (j:=0) ag3 Y Y hq (lj.mono hleq) Y Y Yn) ?_)
 obtain⟨q3,hq3,hm⟩:=Yb hm
 refine a2w Y Y Y Y (fun _ _ _ _=>e4o Y Y Y Y hq3 Yn) (a2w Y Y Y Y (fun _ _ _ _=>a0c Y Y Y Yn) (a2w Y Y Y Y (fun _ _ _ _=>a0c Y Y Y Yn) (d7x ?_)))
 rintro mb ⟨hk,H,jg⟩
 refine a0d (a0f (a2c ?_))
 intro a hz
 obtain⟨kont2,hkont2⟩:∃kont2:Int->Option ((List Int)×(List Int)),kont2=(fun(guess2:Int)=>(lsl l5 i1 (iadd .i64 (iadd .i64 i1 (v6.length:Int)) 1)).bind fun l8=>(b0c n l8 v6 guess2).bind fun v10=>(ix l4 i1).bind fun ex6=>(lset l4 i1 v10.2).bind fun l9=>big_div_L2 n v6 kont1 mx1 (isub .i64 i1 1) l9 (lput l5 i1 v10.1 (iadd .i64 (iadd .i64 i1 (v6.length:Int)) 1))):=⟨_,Y⟩
 replace hm:(fun m(s:Int×Int)=>big_div_L3 n v6 i1 l5 kont2 m s.1 s.2) n (q2,q3)=some r:=by rw [hkont2];exact hm
 refine b5h (id:=4) (fun m(s:Int×Int)=>big_div_L3 n v6 i1 l5 kont2 m s.1 s.2) (fun(y:Int)=>kont2 y) r (fun(s:Int×Int)a w'=>∃(gh:Frz),Frz.le hk gh/\HS F w [] gh [.row 3 1 u o g xss10,.row 3 1 x t z xss11] w'/\Has 170 a [(8,.int .i64 shift2),(9,.slice x t z),(10,.slice T U L),(11,.int .i64 (v6.length:Int)),(12,.slice u o g),(13,.int .i64 i1),(15,.int .i64 s.1),(16,.int .i64 s.2)]) (fun(y:Int)a w'=>∃(gi:Frz),Frz.le hk gi/\HS F w [] gi [.row 3 1 u o g xss10,.row 3 1 x t z xss11] w'/\Has 170 a [(8,.int .i64 shift2),(9,.slice x t z),(10,.slice T U L),(11,.int .i64 (v6.length:Int)),(12,.slice u o g),(13,.int .i64 i1),(15,.int .i64 y)]) (fun _=>Y) ?_ ?_ hm ⟨_,Yf,jg.Yp [0,1] Y Y,hz.cut (l:= [8,9,10,11,12,13,15,16]) Y⟩
 clear hm;rintro guess2 a mc hm ⟨gi,N,gj,jh⟩
 rw [hkont2]at hm
 replace hm:=hm
 refine a5a (e:= .exit 4) jh (a2m (a0d (a0a (a0b Y Y Y (a0b Y Y Y (a0b Y Y Y (a0b Y Y Y (a0b Y Y Y (a0b Y Y Y (a0n Y Y Y Y Y (a0n Y Y Y Y Y ?_)))))))))))
 obtain⟨l8,iv,hm⟩:=Yb hm
 refine d8v u28 (r:=(Rp.int .i64)) sz3 Y Y gj Y Y Y (p:=1) Y Y (((M.mono G).mono H).mono N) iv ?_
 intro md me mf ji
 refine a0b Y Y Y (a0b Y Y Y ?_)
 have ll:=((J.trans G).trans H).trans N
 obtain⟨v10,jj,hm⟩:=Yb hm
 refine e1i (r:=(Rp.int .i64)) ent208 Y Y Y Y gj (p:=1) Y Y (((M.mono G).mono H).mono N) ji (fun pre1 mid1 post1 hw1 hwf1 hwr1=>c5o _ _ _ _ _ jj gj.sat hw1 hwf1 (by rw [show l8=_ from(b6e iv).2.2.2];exact hwr1) (hsx4.mono ll)) ?_
 rintro _ mg _ _ mh xs2 gk hl hxx1 ⟨rfl,rfl,jk⟩
 obtain⟨ex6,lm,hm⟩:=Yb hm
 refine b0i (r:=(Rp.int .i64)) u28 sz3 Y Y hl Y Y (p:=0) Y Y ((((gg.mono G).mono H).mono N).mono gk) lm ?_
 intro b12 o6 il jl ho3 jm hp3
 have ln:il= [.int .i64 ex6]:=jm
 subst ln
 obtain⟨l9,lo,hm⟩:=Yb hm
 refine b3b (r:=(Rp.int .i64)) sz3 Y hl Y Y Y Y Y (p:=0) Y Y jl ho3 ((((gg.mono G).mono H).mono N).mono gk) Y Y lo ?_
 intro mi xs3 jn jo
 refine a0e (a3v (a0d (a0a (a0b Y Y Y (a0n Y Y Y Y Y (a0c Y Y Y (a0e (a0k (fun a ha=>ihx1 ((isub .i64 i1 1),l9,(lput l5 i1 v10.1 (iadd .i64 (iadd .i64 i1 (v6.length:Int)) 1))) a _ hm ?_)))))))))
 exact⟨_,u,o,g,xs3,x,t,z,xs2,((((J.trans G).trans H).trans N).trans gk),jn.Yp [0,1] Y Y,jo,((hxx1 _ jk)),ha.cut (l:= [8,9,10,11,12,13]) Y⟩
 clear hm hkont2;intro hk2 mx2 K ihx2
 rintro⟨guess1,rest1⟩ a mj hm ⟨gh,g3,hn,jp⟩
 simp only [big_div_L3_s]at hm
 refine a2a jp (a0f (a0f (b5i (by kernel_rfl) (by kernel_rfl) hn (a2w Y Y Y Y (fun _ _ _ _=>a0b Y Y Y Yn) (a2w Y Y Y Y (fun _ _ _ _=>a0n Y Y Y Y Y Yn) (a2w Y Y Y Y (fun _ _ _ _=>a0b Y Y Y Yn) ?_))))))
 obtain⟨v11,Q,hm⟩:=Yb hm
 refine e2n 23 (fun a=>Has 170 a [(8,.int .i64 shift2),(9,.slice x t z),(10,.slice T U L),(11,.int .i64 (v6.length:Int)),(12,.slice u o g),(13,.int .i64 i1),(15,.int .i64 guess1),(16,.int .i64 rest1),(137,.bool v11)]) ?_ ?_
 intro a i0
 refine c5c i0 (d7x ?_)
 rintro mk ⟨ml,gl,gm⟩
 refine a0d ?_
 rcases a0g hm with⟨ho,hm⟩|⟨ho,hm⟩
 refine a0v 137 Y ho (a1l Y (a1y (a0d (a2c (a0f (a0a (a0b Y Y Y (a0n Y Y Y Y Y (a0c Y Y Y (a0e (a0d (a0a (a0b Y Y Y (a0b Y Y Y (a0b Y Y Y (a0n Y Y Y Y Y ?_))))))))))))))))
 obtain⟨ex7,lp,hm⟩:=Yb hm
 refine a9j (r:=(Rp.int .i64)) u28 sz3 Y Y Y Y (((((hsx4.mono J).mono G).mono H).mono g3).mono gl) lp ?_
 intro b13 o7 h0 lq jq
 have lr:h0= [.int .i64 ex7]:=jq
 subst lr
 refine a6k (j:=0) ag3 Y Y gm lq Y Y (a0n Y Y Y Y Y (a0c Y Y Y (a0e (a3v (a0k (fun a ha=>ihx2 ((isub .i64 guess1 1),(iadd .i64 rest1 ex7)) a _ hm ?_))))))
 exact⟨_,(g3.trans gl),gm.Yp [0,1] Y Y,ha.cut (l:= [8,9,10,11,12,13,15,16]) Y⟩
 refine a0v 137 Y ho (a0q Y (a9q (a0p (a0p (fun a ha=>hk2 guess1 a _ hm ?_)))))
 exact⟨_,(g3.trans gl),gm.Yp [0,1] Y Y,ha.cut (l:= [8,9,10,11,12,13,15]) Y⟩
 clear hm
 rcases a0g Q with⟨hp,Q⟩|⟨hp,Q⟩
 refine d0e 114 Y hp (a4h Y Y Y (a4h Y Y Y (a4h Y Y Y (a4h Y Y Y (a4h Y Y Y (a4h Y Y Y (a4h Y Y Y (a4h Y Y Y (a4h Y Y Y (a4h Y Y Y (a4h Y Y Y (a4h Y Y Y (a4h Y Y Y (a4h Y Y Y (a4h Y Y Y (a4h Y Y Y (a4h Y Y Y (a4h Y Y Y (a4h Y Y Y (a4h Y Y Y (a4h Y Y Y (a4h Y Y Y (a2w Y Y Y Y (fun _ _ _ _=>a0m Y Y Y Y Yn) (c9f (fun a ha=> ?_)))))))))))))))))))))))))
 cases Q
 exact ha.cut (l:= [8,9,10,11,12,13,15,16,137]) Y
 refine d0e 114 Y hp (a2w Y Y Y Y (fun _ _ _ _=>a0b Y Y Y Yn) (a2w Y Y Y Y (fun _ _ _ _=>a0n Y Y Y Y Y Yn) (a2w Y Y Y Y (fun _ _ _ _=>a0b Y Y Y Yn) ?_)))
 obtain⟨v12,I,Q⟩:=Yb Q
 refine e2n 19 (fun a=>Has 170 a [(8,.int .i64 shift2),(9,.slice x t z),(10,.slice T U L),(11,.int .i64 (v6.length:Int)),(12,.slice u o g),(13,.int .i64 i1),(15,.int .i64 guess1),(16,.int .i64 rest1),(114,.bool false),(136,.bool v12)]) ?_ ?_
 intro a i2
 refine c5c i2 (a2w Y Y Y Y (fun _ _ _ _=>a0j Y Y Y Y Yn) (c9f (fun a ha=> ?_)))
 cases Q
 exact ha.cut (l:= [8,9,10,11,12,13,15,16,137]) Y
 clear Q
 rcases a0g I with⟨hr,I⟩|⟨hr,I⟩
 refine d0e 117 Y hr (a2w Y Y Y Y (fun _ _ _ _=>a0b Y Y Y Yn) (a2w Y Y Y Y (fun _ _ _ _=>a0b Y Y Y Yn) (a2w Y Y Y Y (fun _ _ _ _=>a0b Y Y Y Yn) (a2w Y Y Y Y (fun _ _ _ _=>a0n Y Y Y Y Y Yn) ?_))))
 obtain⟨ex8,ls,I⟩:=Yb I
 obtain⟨b14,o8,L,lt,jr,i3⟩:=b1e (P:=Tryz.prog) (r:=(Rp.int .i64)) u28 sz3 ((((hsx4.mono J).mono G).mono H).mono g3) ls
 have lu:L= [.int .i64 ex8]:=jr
 subst lu
 refine b5z Y Y Y Y i3 (a2w Y Y Y Y (fun _ _ hleq hq=>a6k (j:=0) ag3 Y Y hq (lt.mono hleq) Y Y Yn) (a2w Y Y Y Y (fun _ _ _ _=>a0n Y Y Y Y Y Yn) (a2w Y Y Y Y (fun _ _ _ _=>a0b Y Y Y Yn) ?_)))
 obtain⟨q4,hq4,I⟩:=Yb I
 refine a2w Y Y Y Y (fun _ _ _ _=>e2g Y Y Y Y hq4 Yn) (a2w Y Y Y Y (fun _ _ _ _=>a0b Y Y Y Yn) (a2w Y Y Y Y (fun _ _ _ _=>a0b Y Y Y Yn) (a2w Y Y Y Y (fun _ _ _ _=>a0b Y Y Y Yn) (a2w Y Y Y Y (fun _ _ _ _=>a0n Y Y Y Y Y Yn) (a2w Y Y Y Y (fun _ _ _ _=>a0n Y Y Y Y Y Yn) ?_)))))
 obtain⟨ex9,lv,I⟩:=Yb I
 obtain⟨b15,o9,g8,i4,ho4,js,hp4,i5⟩:=c1r (P:=Tryz.prog) (r:=(Rp.int .i64)) u28 sz3 hn (p:=1) Y Y (((M.mono G).mono H).mono g3) lv
 have jt:g8= [.int .i64 ex9]:=js
 subst jt
 refine b5z Y Y Y Y i5 (a2w Y Y Y Y (fun _ _ _ hq=>b3z (j:=0) ag3 Y Y hq Y (p:=1) Y Y i4 ho4 hp4 Y Yn) (a2w Y Y Y Y (fun _ _ _ _=>a0n Y Y Y Y Y Yn) (a2w Y Y Y Y (fun _ _ _ _=>a0n Y Y Y Y Y Yn) (a2w Y Y Y Y (fun _ _ _ _=>a0m Y Y Y Y Yn) (c9f (fun a ha=> ?_))))))
 cases I
 exact ha.cut (l:= [8,9,10,11,12,13,15,16,114,136]) Y
 refine d0e 117 Y hr (a4h Y Y Y (a4h Y Y Y (a4h Y Y Y (a4h Y Y Y (a4h Y Y Y (a4h Y Y Y (a4h Y Y Y (a4h Y Y Y (a4h Y Y Y (a4h Y Y Y (a4h Y Y Y (a4h Y Y Y (a4h Y Y Y (a4h Y Y Y (a4h Y Y Y (a4h Y Y Y (a4h Y Y Y (a4h Y Y Y (a2w Y Y Y Y (fun _ _ _ _=>a0j Y Y Y Y Yn) (c9f (fun a ha=> ?_)))))))))))))))))))))
 cases I
 exact ha.cut (l:= [8,9,10,11,12,13,15,16,114,136]) Y
 refine a0v 80 Y hj (a0q Y (a9q (a0p (a0p (fun a ha=>hk1 (l4,l5) a _ hm ?_)))))
 exact⟨_,u,o,g,xss10,x,t,z,xss11,J,gb.Yp [0,1] Y Y,gg,M,ha.cut (l:= [8,9,12]) Y⟩
 clear hm
 rcases a0g V with⟨gn,V⟩|⟨gn,V⟩
 refine a0v 65 Y gn (a1l Y (a0a (a0b Y Y Y (a0i (e:=3) (cs:= [.int .i64 0]) (q:=1) Y Y h4 Y (fun _=>by kernel_rfl) Y Y ?_))))
 intro b16 mm ju
 obtain⟨l10,jv,V⟩:=Yb V
 refine a6q (r:=(Rp.int .i64)) ap28 Y Y ju Y Y (i:=3) (j:=0) Y Y ((h1.mono h2).mono io) ((show RowN (Rp.int .i64) im 1 [.int .i64 0] [0]from⟨Y,⟨_,_,Y,Y,(Y:RowR (Rp.int .i64) _ [] [])⟩⟩)) jv ?_
 intro jw jx mn jy jz
 refine a0c Y Y Y (a0e (a0k (fun a ha=> ?_)))
 cases V
 exact⟨_,jw,((ik+1)+1),jx,((xss6++ [.int .i64 0])++ [.int .i64 0]),Yf,jy.Yp [1,2,3] Y Y,jz,ha.cut (l:= [8,9,10]) Y⟩
 refine a0v 65 Y gn (a0q Y (a1y (a0k (fun a ha=> ?_))))
 cases V
 exact⟨_,kp,(ik+1),h0,(xss6++ [.int .i64 0]),Yf,h4.Yp [0,1,2] Y Y,((h1.mono h2).mono io),ha.cut (l:= [8,9,10]) Y⟩
 clear hm hkont3;intro hk3 mx3 K ihx3
 rintro shift1 a mo hm ⟨rfl,i6⟩
 simp only [big_div_L1_s]at hm
 refine a2a i6 (a0f (a0f (a0a (a0b Y Y Y (a0b Y Y Y (a6c g6.len u28 Y Y Y (a0n Y Y Y Y Y ?_)))))))
 obtain⟨ex10,k0,hm⟩:=Yb hm
 refine a9j (r:=(Rp.int .i64)) u28 sz3 Y Y Y Y (g6.mono g7) k0 ?_
 intro b17 o10 g lw k1
 have k2:g= [.int .i64 ex10]:=k1
 subst k2
 refine a6k (j:=0) ag3 Y Y R lw Y Y (a0b Y Y Y (a0n Y Y Y Y Y (a0n Y Y Y Y Y (a0e (a0d ?_)))))
 rcases a0g hm with⟨go,hm⟩|⟨go,hm⟩
 refine a0v 48 Y go (a1l Y (a1y (a0d (a2c (a0a (a0b Y Y Y (a0n Y Y Y Y Y (a0c Y Y Y (a0e (a3v (a0k (fun a ha=>ihx3 (imul .i64 shift1 2) a _ hm ?_))))))))))))
 exact⟨Y,ha.cut (l:= [0,1,8]) Y⟩
 refine a0v 48 Y go (a0q Y (a9q (a0p (a0p (fun a ha=>hk3 shift1 a _ hm ?_)))))
 exact⟨Y,ha.cut (l:= [0,1,8]) Y⟩
theorem c8u(n:Nat)(ax1:(List Int))(b1:(List Int)):FnC Wt 162 [.sl 2 ax1,.sl 2 b1] (b4r n ax1 b1) (fun r=> .tup [.sl 2 r.1,.sl 2 r.2]):=⟨fun _ _=>by kernel_rfl,fun r hm w F hs hg us hu=>by
 obtain⟨_,_,rfl,⟨_,_,_,rfl,hs0⟩,⟨_,_,rfl,⟨_,_,_,rfl,hs1⟩,rfl⟩⟩:=hu
 exact(c9a n ax1 b1 r hm hs (hg) hs0 hs1).mono fun e w'⟨v,F',O',e1,e2,e3⟩=>by
  obtain⟨a0_0,n0_0,c0_0,a1_0,n1_0,c1_0,xs1_0,rfl,rfl,g0,g1⟩:=e3
  obtain⟨F2,hz,h2,g1'⟩:=frzO e2 g1
  exact⟨_,F2,e1,h2,⟨_,rfl,⟨_,_,rfl,⟨_,_,_,rfl,(g0.mono hz)⟩,⟨_,_,rfl,⟨_,_,_,rfl,g1'⟩,rfl⟩⟩⟩⟩⟩
theorem a5d(n:Nat)(right1:Bool)(c1:Big):FnC Wt 161 [.ob right1,.agg [.int .i64 c1.Sign,.sl 2 c1.Digits]] (a4u n right1 c1) (fun r=> .tup [.agg [.int .i64 r.1.Sign,.sl 2 r.1.Digits],.int .i64 r.2]):=by
 refine a1i (n:=10) Tryz.func161 rfl rfl rfl (fun _ _=>by kernel_rfl) fun F0 w0 r=> ?_
 unfold a4u
 refine gC rfl (fun _=> ?_) (fun _=> ?_)
 ·
  exact gR rfl rfl rfl
 ·
  exact gR rfl rfl rfl
theorem c7y(n:Nat)(vals1:(List Int)):FnC Wt 209 [.sl 2 vals1] (b3e n vals1) (fun r=> .int .i64 r):=by
 refine a1i (n:=18) Tryz.func209 rfl rfl rfl (fun _ _=>by kernel_rfl) fun F0 w0 r=> ?_
 unfold b3e
 refine a3c ((fun k0 m(s:Int)=>cmp_Or_int_L1 n vals1 k0 m s) _) (fun(s:Int)=> [.v 8 (.int .i64 s)]) (fun _=>rfl) _ rfl rfl (fun _=>rfl) rfl fun K1 m1 hK1 i1=> ?_
 refine gC rfl (fun _=> ?_) (fun _=> ?_)
 ·
  refine gV rfl fun ex1=> ?_
  refine gC rfl (fun _=> ?_) (fun _=> ?_)
  ·
   exact gR rfl rfl rfl
  ·
   exact gE hK1 _ rfl (by kernel_rfl)
 ·
  exact gR rfl rfl rfl
theorem d3k(n:Nat)(ax1:Big)(b1:Big):FnC Wt 166 [.agg [.int .i64 ax1.Sign,.sl 2 ax1.Digits],.agg [.int .i64 b1.Sign,.sl 2 b1.Digits]] (c2b n ax1 b1) (fun r=> .tup [.agg [.int .i64 r.1.Sign,.sl 2 r.1.Digits],.int .i64 r.2]):=by
 refine a1i (n:=69) Tryz.func166 rfl rfl rfl (fun _ _=>by kernel_rfl) fun F0 w0 r=> ?_
 unfold c2b
 refine gK (a2z _ _) rfl rfl rfl fun v1=> ?_
 refine gJ 4 (fun v2=> [.v 13 (.ob v2)]) rfl (fun _=>rfl) (fun J1 hJ1=> ?_) (fun v2=> ?_)
 ·
  refine gD rfl (fun _=> ?_) (fun _=> ?_)
  ·
   exact gX hJ1 rfl (by kernel_rfl)
  ·
   refine gA ?_
   refine gK (a2z _ _) rfl rfl rfl fun v15=> ?_
   exact gX hJ1 rfl (by kernel_rfl)
 refine gC rfl (fun _=> ?_) (fun _=> ?_)
 ·
  refine gK (a5d _ _ _) rfl rfl rfl fun v3=> ?_
  exact gR rfl rfl rfl
 ·
  refine gC rfl (fun _=> ?_) (fun _=> ?_)
  ·
   refine gHs [(4,(pL [0,2,4,6,12,14,16,18,9,11,21,23,25,26,29,31,33] .nil)),(6,(pL [0,2,4,6,8,10,13,15,17,18,21,23,25] .nil)),(7,(pL [0,2,4,6,8,10,13,15,17,18,21,23,25] .nil))] rfl (by kernel_rfl) rfl rfl fun Ky=> ?_
   refine gK (c7y _ _) rfl rfl rfl fun v4=> ?_
   refine gK (c8b _ _ _) rfl rfl rfl fun v5=> ?_
   refine gK (a4b _ _ _) rfl rfl rfl fun v6=> ?_
   refine gK (a5d _ _ _) rfl rfl rfl fun v7=> ?_
   refine gHe rfl ?_
   exact gR rfl rfl rfl
  ·
   refine gK (b3n _ _ _) rfl rfl rfl fun v8=> ?_
   refine gC rfl (fun _=> ?_) (fun _=> ?_)
   ·
    refine gHs [(4,(pL [0,2,4,6,12,14,16,18,9,11,21,23,25,26,29,31,33] .nil)),(6,(pL [0,2,4,6,8,10,13,15,17,18,21,23,25] .nil)),(7,(pL [0,2,4,6,8,10,13,15,17,18,21,23,25] .nil))] rfl (by kernel_rfl) rfl rfl fun Ky=> ?_
    refine gK (c1t _ _ _) rfl rfl rfl fun v9=> ?_
    refine gK (a4b _ _ _) rfl rfl rfl fun v10=> ?_
    refine gK (a5d _ _ _) rfl rfl rfl fun v11=> ?_
    refine gHe rfl ?_
    exact gR rfl rfl rfl
   ·
    refine gHs [(4,(pL [0,2,4,6,12,14,16,18,9,11,21,23,25,26,29,31,33] .nil)),(6,(pL [0,2,4,6,8,10,13,15,17,18,21,23,25] .nil)),(7,(pL [0,2,4,6,8,10,13,15,17,18,21,23,25] .nil))] rfl (by kernel_rfl) rfl rfl fun Ky=> ?_
    refine gK (c1t _ _ _) rfl rfl rfl fun v12=> ?_
    refine gK (a4b _ _ _) rfl rfl rfl fun v13=> ?_
    refine gK (a5d _ _ _) rfl rfl rfl fun v14=> ?_
    refine gHe rfl ?_
    exact gR rfl rfl rfl
theorem d4n(n:Nat)(ax1:Big)(b1:Big):FnC Wt 170 [.agg [.int .i64 ax1.Sign,.sl 2 ax1.Digits],.agg [.int .i64 b1.Sign,.sl 2 b1.Digits]] (c2t n ax1 b1) (fun r=> .tup [.agg [.int .i64 r.1.Sign,.sl 2 r.1.Digits],.int .i64 r.2]):=by
 refine a1i (n:=32) Tryz.func170 rfl rfl rfl (fun _ _=>by kernel_rfl) fun F0 w0 r=> ?_
 unfold c2t
 refine gK (a2z _ _) rfl rfl rfl fun v1=> ?_
 refine gJ 4 (fun v2=> [.v 13 (.ob v2)]) rfl (fun _=>rfl) (fun J1 hJ1=> ?_) (fun v2=> ?_)
 ·
  refine gD rfl (fun _=> ?_) (fun _=> ?_)
  ·
   exact gX hJ1 rfl (by kernel_rfl)
  ·
   refine gA ?_
   refine gK (a2z _ _) rfl rfl rfl fun v7=> ?_
   exact gX hJ1 rfl (by kernel_rfl)
 refine gC rfl (fun _=> ?_) (fun _=> ?_)
 ·
  refine gK (a5d _ _ _) rfl rfl rfl fun v3=> ?_
  exact gR rfl rfl rfl
 ·
  refine gHs [(3,(pL [0,2,4,6,8,10,12,14,16,19,21,23,24,27,29,31] .nil))] rfl (by kernel_rfl) rfl rfl fun Ky=> ?_
  refine gK (d6q _ _ _) rfl rfl rfl fun v4=> ?_
  refine gK (a4b _ _ _) rfl rfl rfl fun v5=> ?_
  refine gK (a5d _ _ _) rfl rfl rfl fun v6=> ?_
  refine gHe rfl ?_
  exact gR rfl rfl rfl
theorem b8l(n:Nat)(ax1:Big)(b1:Big):FnC Wt 193 [.agg [.int .i64 ax1.Sign,.sl 2 ax1.Digits],.agg [.int .i64 b1.Sign,.sl 2 b1.Digits]] (b2r n ax1 b1) (fun r=> .tup [.agg [.int .i64 r.1.Sign,.sl 2 r.1.Digits],.agg [.int .i64 r.2.1.Sign,.sl 2 r.2.1.Digits],.int .i64 r.2.2]):=by
 refine a1i (n:=67) Tryz.func193 rfl rfl rfl (fun _ _=>by kernel_rfl) fun F0 w0 r=> ?_
 unfold b2r
 refine gK (a2z _ _) rfl rfl rfl fun v1=> ?_
 refine gJ 4 (fun v2=> [.v 17 (.ob v2)]) rfl (fun _=>rfl) (fun J1 hJ1=> ?_) (fun v2=> ?_)
 ·
  refine gD rfl (fun _=> ?_) (fun _=> ?_)
  ·
   exact gX hJ1 rfl (by kernel_rfl)
  ·
   refine gA ?_
   refine gK (a2z _ _) rfl rfl rfl fun v11=> ?_
   exact gX hJ1 rfl (by kernel_rfl)
 refine gC rfl (fun _=> ?_) (fun _=> ?_)
 ·
  exact gR rfl rfl rfl
 ·
  refine gC rfl (fun _=> ?_) (fun _=> ?_)
  ·
   exact gR rfl rfl rfl
  ·
   refine gK (c8u _ _ _) rfl rfl rfl fun v3=> ?_
   refine gJ 4 (fun v4=> [.v 44 (.ob v4)]) rfl (fun _=>rfl) (fun J2 hJ2=> ?_) (fun v4=> ?_)
   ·
    refine gD rfl (fun _=> ?_) (fun _=> ?_)
    ·
     exact gX hJ2 rfl (by kernel_rfl)
    ·
     exact gX hJ2 rfl (by kernel_rfl)
   refine gC rfl (fun _=> ?_) (fun _=> ?_)
   ·
    refine gHs [(7,(pL [0,8,10,12,14,16,3,5,7,19,21,23,25,27] .nil)),(8,(pL [0,2,4,6,8,10,14,16,18,13,21,23,25,27] .nil))] rfl (by kernel_rfl) rfl rfl fun Ky=> ?_
    refine gK (c8b _ _ _) rfl rfl rfl fun v5=> ?_
    refine gK (a4b _ _ _) rfl rfl rfl fun v6=> ?_
    refine gK (c1t _ _ _) rfl rfl rfl fun v7=> ?_
    refine gK (a4b _ _ _) rfl rfl rfl fun v8=> ?_
    refine gHe rfl ?_
    exact gR rfl rfl rfl
   ·
    refine gHs [(7,(pL [0,8,10,12,14,16,3,5,7,19,21,23,25,27] .nil)),(8,(pL [0,2,4,6,8,10,14,16,18,13,21,23,25,27] .nil))] rfl (by kernel_rfl) rfl rfl fun Ky=> ?_
    refine gK (a4b _ _ _) rfl rfl rfl fun v9=> ?_
    refine gK (a4b _ _ _) rfl rfl rfl fun v10=> ?_
    refine gHe rfl ?_
    exact gR rfl rfl rfl
theorem c1l(n:Nat)(ax1:Big)(b1:Big):FnC Wt 92 [.agg [.int .i64 ax1.Sign,.sl 2 ax1.Digits],.agg [.int .i64 b1.Sign,.sl 2 b1.Digits]] (b5f n ax1 b1) (fun r=> .tup [.agg [.int .i64 r.1.Sign,.sl 2 r.1.Digits],.int .i64 r.2]):=by
 refine a1i (n:=44) Tryz.func92 rfl rfl rfl (fun _ _=>by kernel_rfl) fun F0 w0 r=> ?_
 unfold b5f
 refine gK (a2z _ _) rfl rfl rfl fun v1=> ?_
 refine gJ 4 (fun v2=> [.v 17 (.ob v2)]) rfl (fun _=>rfl) (fun J1 hJ1=> ?_) (fun v2=> ?_)
 ·
  refine gD rfl (fun _=> ?_) (fun _=> ?_)
  ·
   exact gX hJ1 rfl (by kernel_rfl)
  ·
   refine gA ?_
   refine gK (a2z _ _) rfl rfl rfl fun v9=> ?_
   exact gX hJ1 rfl (by kernel_rfl)
 refine gC rfl (fun _=> ?_) (fun _=> ?_)
 ·
  refine gK (a5d _ _ _) rfl rfl rfl fun v3=> ?_
  exact gR rfl rfl rfl
 ·
  refine gHs [(3,(pL [0,2,6,8,5,11,13] .nil))] rfl (by kernel_rfl) rfl rfl fun Ky=> ?_
  refine gO (a3f _ _) rfl rfl rfl fun v4=> ?_
  refine gHe rfl ?_
  refine gFr 6 rfl ?_
  refine a3c ((fun k0 m(s:(List Int)×(List Int))=>big_Gcd_L1 n k0 m s.1 s.2) _) (fun(s:(List Int)×(List Int))=> [.v 6 (.sl 2 s.1),.v 7 (.sl 2 s.2)]) (fun _=>rfl) (_,_) rfl rfl (fun _=>rfl) rfl fun K2 m2 hK2 z2=> ?_
  obtain⟨x1,y1⟩:=z2;dsimp only
  refine gC rfl (fun _=> ?_) (fun _=> ?_)
  ·
   refine gK (c8u _ _ _) rfl rfl rfl fun v8=> ?_
   exact gE hK2 (_,_) rfl (by kernel_rfl)
  ·
   refine gO (a3f _ _) rfl rfl rfl fun v5=> ?_
   refine gK (a4b _ _ _) rfl rfl rfl fun v6=> ?_
   refine gK (a5d _ _ _) rfl rfl rfl fun v7=> ?_
   exact gR rfl rfl rfl
theorem c1b(n:Nat)(nx1:Int):FnC Wt 72 [.int .i64 nx1] (c4w n nx1) (fun r=> .agg [.int .i64 r.Sign,.sl 2 r.Digits]):=by
 refine a1i (n:=25) Tryz.func72 rfl rfl rfl (fun _ _=>by kernel_rfl) fun F0 w0 r=> ?_
 unfold c4w
 refine gM (fun j1=> [.v 3 (.int .i64 j1.1),.v 4 (.int .u64 j1.2)]) rfl (fun _=>rfl) (fun J1 hJ1=> ?_) (fun j1=> ?_)
 ·
  refine gD rfl (fun _=> ?_) (fun _=> ?_)
  ·
   exact gX hJ1 rfl (by kernel_rfl)
  ·
   exact gX hJ1 rfl (by kernel_rfl)
 obtain⟨sign1,u1⟩:=j1;dsimp only
 refine a3c ((fun k0 m(s:Int×List Int)=>c2s n k0 m s.1 s.2) _) (fun(s:Int×List Int)=> [.v 4 (.int .u64 s.1),.r 5 2 s.2]) (fun _=>rfl) (_,_) rfl rfl (fun _=>rfl) rfl fun K2 m2 hK2 z2=> ?_
 obtain⟨u2,l1⟩:=z2;dsimp only
 refine gC rfl (fun _=> ?_) (fun _=> ?_)
 ·
  refine gP rfl fun l3=> ?_
  refine gV rfl fun q1=> ?_
  exact gE hK2 (_,_) rfl (by kernel_rfl)
 ·
  refine gK (a4b _ _ _) rfl rfl rfl fun v1=> ?_
  exact gR rfl rfl rfl
theorem d5r(n:Nat)(ax1:Big):FnC Wt 163 [.agg [.int .i64 ax1.Sign,.sl 2 ax1.Digits]] (c2y n ax1) (fun r=> .tup [.int .i64 r.1,.ob r.2]):=by
 refine a1i (n:=59) Tryz.func163 rfl rfl rfl (fun _ _=>by kernel_rfl) fun F0 w0 r=> ?_
 unfold c2y
 refine gK (a2z _ _) rfl rfl rfl fun v1=> ?_
 refine gJ 5 (fun v2=> [.v 15 (.ob v2)]) rfl (fun _=>rfl) (fun J1 hJ1=> ?_) (fun v2=> ?_)
 ·
  refine gD rfl (fun _=> ?_) (fun _=> ?_)
  ·
   exact gX hJ1 rfl (by kernel_rfl)
  ·
   exact gX hJ1 rfl (by kernel_rfl)
 refine gC rfl (fun _=> ?_) (fun _=> ?_)
 ·
  exact gR rfl rfl rfl
 ·
  refine a3c ((fun k0 m(s:Int×Int)=>big_Int_L1 n ax1 k0 m s.1 s.2) _) (fun(s:Int×Int)=> [.v 4 (.int .u64 s.1),.v 19 (.int .i64 s.2)]) (fun _=>rfl) (_,_) rfl rfl (fun _=>rfl) rfl fun K2 m2 hK2 z2=> ?_
  obtain⟨u1,i1⟩:=z2;dsimp only
  refine gC rfl (fun _=> ?_) (fun _=> ?_)
  ·
   refine gV rfl fun ex1=> ?_
   refine gJ 3 (fun v5=> [.v 29 (.ob v5)]) rfl (fun _=>rfl) (fun J3 hJ3=> ?_) (fun v5=> ?_)
   ·
    refine gD rfl (fun _=> ?_) (fun _=> ?_)
    ·
     exact gX hJ3 rfl (by kernel_rfl)
    ·
     exact gX hJ3 rfl (by kernel_rfl)
   refine gC rfl (fun _=> ?_) (fun _=> ?_)
   ·
    exact gR rfl rfl rfl
   ·
    refine gV rfl fun q1=> ?_
    exact gE hK2 (_,_) rfl (by kernel_rfl)
  ·
   refine gJ 3 (fun v3=> [.v 45 (.ob v3)]) rfl (fun _=>rfl) (fun J4 hJ4=> ?_) (fun v3=> ?_)
   ·
    refine gD rfl (fun _=> ?_) (fun _=> ?_)
    ·
     exact gX hJ4 rfl (by kernel_rfl)
    ·
     exact gX hJ4 rfl (by kernel_rfl)
   refine gC rfl (fun _=> ?_) (fun _=> ?_)
   ·
    exact gR rfl rfl rfl
   ·
    refine gJ 3 (fun v4=> [.v 56 (.ob v4)]) rfl (fun _=>rfl) (fun J5 hJ5=> ?_) (fun v4=> ?_)
    ·
     refine gD rfl (fun _=> ?_) (fun _=> ?_)
     ·
      exact gX hJ5 rfl (by kernel_rfl)
     ·
      exact gX hJ5 rfl (by kernel_rfl)
    refine gC rfl (fun _=> ?_) (fun _=> ?_)
    ·
     exact gR rfl rfl rfl
    ·
     exact gR rfl rfl rfl
end Go.Proofs.YthaegflpecbfgaaGreatDoor.M
namespace Go.Proofs.YthaegflpecbfgaaGreatDoor.M
open Go Go.RowKit Rt
set_option maxRecDepth 1000000
set_option maxHeartbeats 40000000
theorem b5r(n:Nat)(ax1:Big)(b1:Big):FnC Wt 50 [.agg [.int .i64 ax1.Sign,.sl 2 ax1.Digits],.agg [.int .i64 b1.Sign,.sl 2 b1.Digits]] (a7l n ax1 b1) (fun r=> .ob r):=by
 refine a1i (n:=38) Tryz.func50 rfl rfl rfl (fun _ _=>by kernel_rfl) fun F0 w0 r=> ?_
 unfold a7l
 refine gJ 8 (fun v1=> [.v 19 (.ob v1)]) rfl (fun _=>rfl) (fun J1 hJ1=> ?_) (fun v1=> ?_)
 ·
  refine gD rfl (fun _=> ?_) (fun _=> ?_)
  ·
   exact gX hJ1 rfl (by kernel_rfl)
  ·
   exact gX hJ1 rfl (by kernel_rfl)
 refine gC rfl (fun _=> ?_) (fun _=> ?_)
 ·
  exact gR rfl rfl rfl
 ·
  refine a3c ((fun k0 m(s:Int)=>ref05_SameBig_L1 n ax1 b1 k0 m s) _) (fun(s:Int)=> [.v 5 (.int .i64 s)]) (fun _=>rfl) _ rfl rfl (fun _=>rfl) rfl fun K2 m2 hK2 i1=> ?_
  refine gC rfl (fun _=> ?_) (fun _=> ?_)
  ·
   refine gG rfl (by kernel_rfl) ?_
   refine gV rfl fun ex1=> ?_
   refine gV rfl fun ex2=> ?_
   refine gC rfl (fun _=> ?_) (fun _=> ?_)
   ·
    exact gR rfl rfl rfl
   ·
    exact gE hK2 _ rfl (by kernel_rfl)
  ·
   exact gR rfl rfl rfl
theorem b2l(n:Nat)(ax1:Frac)(b1:Frac):FnC Wt 16 [.agg [.int .i64 ax1.P.Sign,.sl 2 ax1.P.Digits,.int .i64 ax1.Q.Sign,.sl 2 ax1.Q.Digits],.agg [.int .i64 b1.P.Sign,.sl 2 b1.P.Digits,.int .i64 b1.Q.Sign,.sl 2 b1.Q.Digits]] (a4s n ax1 b1) (fun r=> .ob r):=by
 refine a1i (n:=17) Tryz.func16 rfl rfl rfl (fun _ _=>by kernel_rfl) fun F0 w0 r=> ?_
 unfold a4s
 refine gK (b5r _ _ _) rfl rfl rfl fun v1=> ?_
 refine gJ 6 (fun v2=> [.v 16 (.ob v2)]) rfl (fun _=>rfl) (fun J1 hJ1=> ?_) (fun v2=> ?_)
 ·
  refine gD rfl (fun _=> ?_) (fun _=> ?_)
  ·
   refine gA ?_
   refine gK (b5r _ _ _) rfl rfl rfl fun v3=> ?_
   exact gX hJ1 rfl (by kernel_rfl)
  ·
   exact gX hJ1 rfl (by kernel_rfl)
 exact gR rfl rfl rfl
theorem b3p(n:Nat)(f1:Frac)(nx1:Int):FnC Wt 20 [.agg [.int .i64 f1.P.Sign,.sl 2 f1.P.Digits,.int .i64 f1.Q.Sign,.sl 2 f1.Q.Digits],.int .i64 nx1] (a9l n f1 nx1) (fun r=> .ob r):=by
 refine a1i (n:=19) Tryz.func20 rfl rfl rfl (fun _ _=>by kernel_rfl) fun F0 w0 r=> ?_
 unfold a9l
 refine gJ 7 (fun v1=> [.v 18 (.ob v1)]) rfl (fun _=>rfl) (fun J1 hJ1=> ?_) (fun v1=> ?_)
 ·
  refine gD rfl (fun _=> ?_) (fun _=> ?_)
  ·
   exact gX hJ1 rfl (by kernel_rfl)
  ·
   exact gX hJ1 rfl (by kernel_rfl)
 exact gR rfl rfl rfl
theorem d2u(n:Nat)(ax1:Big):FnC Wt 93 [.agg [.int .i64 ax1.Sign,.sl 2 ax1.Digits]] (b8t n ax1) (fun r=> .ob r):=by
 refine a1i (n:=15) Tryz.func93 rfl rfl rfl (fun _ _=>by kernel_rfl) fun F0 w0 r=> ?_
 unfold b8t
 refine gK (d5r _ _) rfl rfl rfl fun v1=> ?_
 refine gJ 3 (fun v2=> [.v 14 (.ob v2)]) rfl (fun _=>rfl) (fun J1 hJ1=> ?_) (fun v2=> ?_)
 ·
  refine gD rfl (fun _=> ?_) (fun _=> ?_)
  ·
   exact gX hJ1 rfl (by kernel_rfl)
  ·
   exact gX hJ1 rfl (by kernel_rfl)
 exact gR rfl rfl rfl
theorem a2f(n:Nat)(f1:Frac):FnC Wt 44 [.agg [.int .i64 f1.P.Sign,.sl 2 f1.P.Digits,.int .i64 f1.Q.Sign,.sl 2 f1.Q.Digits]] (a2h n f1) (fun r=> .ob r):=by
 refine a1i (n:=35) Tryz.func44 rfl rfl rfl (fun _ _=>by kernel_rfl) fun F0 w0 r=> ?_
 unfold a2h
 refine gK (a2z _ _) rfl rfl rfl fun v1=> ?_
 refine gJ 5 (fun v2=> [.v 14 (.ob v2)]) rfl (fun _=>rfl) (fun J1 hJ1=> ?_) (fun v2=> ?_)
 ·
  refine gD rfl (fun _=> ?_) (fun _=> ?_)
  ·
   exact gX hJ1 rfl (by kernel_rfl)
  ·
   refine gA ?_
   refine gK (a2z _ _) rfl rfl rfl fun v7=> ?_
   exact gX hJ1 rfl (by kernel_rfl)
 refine gJ 5 (fun v3=> [.v 20 (.ob v3)]) rfl (fun _=>rfl) (fun J2 hJ2=> ?_) (fun v3=> ?_)
 ·
  refine gD rfl (fun _=> ?_) (fun _=> ?_)
  ·
   exact gX hJ2 rfl (by kernel_rfl)
  ·
   exact gX hJ2 rfl (by kernel_rfl)
 refine gC rfl (fun _=> ?_) (fun _=> ?_)
 ·
  exact gR rfl rfl rfl
 ·
  refine gK (c1l _ _ _) rfl rfl rfl fun v4=> ?_
  refine gJ 3 (fun v5=> [.v 34 (.ob v5)]) rfl (fun _=>rfl) (fun J3 hJ3=> ?_) (fun v5=> ?_)
  ·
   refine gD rfl (fun _=> ?_) (fun _=> ?_)
   ·
    refine gA ?_
    refine gK (d2u _ _) rfl rfl rfl fun v6=> ?_
    exact gX hJ3 rfl (by kernel_rfl)
   ·
    exact gX hJ3 rfl (by kernel_rfl)
  exact gR rfl rfl rfl
theorem b6c(n:Nat)(p1:Big)(q1:Big):FnC Wt 141 [.agg [.int .i64 p1.Sign,.sl 2 p1.Digits],.agg [.int .i64 q1.Sign,.sl 2 q1.Digits]] (b2d n p1 q1) (fun r=> .tup [.agg [.int .i64 r.1.P.Sign,.sl 2 r.1.P.Digits,.int .i64 r.1.Q.Sign,.sl 2 r.1.Q.Digits],.int .i64 r.2]):=by
 refine a1i (n:=60) Tryz.func141 rfl rfl rfl (fun _ _=>by kernel_rfl) fun F0 w0 r=> ?_
 unfold b2d
 refine gK (a2z _ _) rfl rfl rfl fun v1=> ?_
 refine gJ 4 (fun v2=> [.v 22 (.ob v2)]) rfl (fun _=>rfl) (fun J1 hJ1=> ?_) (fun v2=> ?_)
 ·
  refine gD rfl (fun _=> ?_) (fun _=> ?_)
  ·
   exact gX hJ1 rfl (by kernel_rfl)
  ·
   refine gA ?_
   refine gK (a2z _ _) rfl rfl rfl fun v11=> ?_
   exact gX hJ1 rfl (by kernel_rfl)
 refine gC rfl (fun _=> ?_) (fun _=> ?_)
 ·
  exact gR rfl rfl rfl
 ·
  refine gC rfl (fun _=> ?_) (fun _=> ?_)
  ·
   exact gR rfl rfl rfl
  ·
   refine gC rfl (fun _=> ?_) (fun _=> ?_)
   ·
    refine gHs [(6,(pL [] (.two 0 2 (pL [] (.two 1 2 (pL [5,7,9,11] .nil) (pL [3,7,9,11] .nil))) (pL [1,3,7,9,11] .nil))))] rfl (by kernel_rfl) rfl rfl fun Ky=> ?_
    refine gH2 rfl ?_ ?_
    all_goals
     try refine gH2 rfl ?_ ?_
     all_goals
      refine gK (b3g _ _) rfl rfl rfl fun v3=> ?_
      refine gK (b3g _ _) rfl rfl rfl fun v4=> ?_
      refine gHe rfl ?_
      refine gK (c1l _ _ _) rfl rfl rfl fun v5=> ?_
      refine gK (b8l _ _ _) rfl rfl rfl fun v6=> ?_
      refine gK (b8l _ _ _) rfl rfl rfl fun v7=> ?_
      exact gR rfl rfl rfl
   ·
    refine gK (c1l _ _ _) rfl rfl rfl fun v8=> ?_
    refine gK (b8l _ _ _) rfl rfl rfl fun v9=> ?_
    refine gK (b8l _ _ _) rfl rfl rfl fun v10=> ?_
    exact gR rfl rfl rfl
theorem d6i(n:Nat)(p1:Int)(q1:Int):FnC Wt 78 [.int .i64 p1,.int .i64 q1] (d0o n p1 q1) (fun r=> .tup [.agg [.int .i64 r.1.P.Sign,.sl 2 r.1.P.Digits,.int .i64 r.1.Q.Sign,.sl 2 r.1.Q.Digits],.int .i64 r.2]):=by
 refine a1i (n:=13) Tryz.func78 rfl rfl rfl (fun _ _=>by kernel_rfl) fun F0 w0 r=> ?_
 unfold d0o
 refine gK (c1b _ _) rfl rfl rfl fun v1=> ?_
 refine gK (c1b _ _) rfl rfl rfl fun v2=> ?_
 refine gK (b6c _ _ _) rfl rfl rfl fun v3=> ?_
 exact gR rfl rfl rfl
theorem a5z(n:Nat)(nx1:Int):FnC Wt 38 [.int .i64 nx1] (a5s n nx1) (fun r=> .agg [.int .i64 r.P.Sign,.sl 2 r.P.Digits,.int .i64 r.Q.Sign,.sl 2 r.Q.Digits]):=by
 refine a1i (n:=7) Tryz.func38 rfl rfl rfl (fun _ _=>by kernel_rfl) fun F0 w0 r=> ?_
 unfold a5s
 refine gK (c1b _ _) rfl rfl rfl fun v1=> ?_
 refine gK (c1b _ _) rfl rfl rfl fun v2=> ?_
 exact gR rfl rfl rfl
theorem a5e(n:Nat)(ax1:Big)(b1:Big):FnC Wt 104 [.agg [.int .i64 ax1.Sign,.sl 2 ax1.Digits],.agg [.int .i64 b1.Sign,.sl 2 b1.Digits]] (a3o n ax1 b1) (fun r=> .agg [.int .i64 r.Sign,.sl 2 r.Digits]):=by
 refine a1i (n:=14) Tryz.func104 rfl rfl rfl (fun _ _=>by kernel_rfl) fun F0 w0 r=> ?_
 unfold a3o
 refine gK (d4n _ _ _) rfl rfl rfl fun v1=> ?_
 exact gR rfl rfl rfl
theorem b6b(n:Nat)(ax1:Frac)(b1:Frac):FnC Wt 101 [.agg [.int .i64 ax1.P.Sign,.sl 2 ax1.P.Digits,.int .i64 ax1.Q.Sign,.sl 2 ax1.Q.Digits],.agg [.int .i64 b1.P.Sign,.sl 2 b1.P.Digits,.int .i64 b1.Q.Sign,.sl 2 b1.Q.Digits]] (b0h n ax1 b1) (fun r=> .tup [.agg [.int .i64 r.1.P.Sign,.sl 2 r.1.P.Digits,.int .i64 r.1.Q.Sign,.sl 2 r.1.Q.Digits],.int .i64 r.2]):=by
 refine a1i (n:=40) Tryz.func101 rfl rfl rfl (fun _ _=>by kernel_rfl) fun F0 w0 r=> ?_
 unfold b0h
 refine gK (a2f _ _) rfl rfl rfl fun v1=> ?_
 refine gJ 4 (fun v2=> [.v 15 (.ob v2)]) rfl (fun _=>rfl) (fun J1 hJ1=> ?_) (fun v2=> ?_)
 ·
  refine gD rfl (fun _=> ?_) (fun _=> ?_)
  ·
   exact gX hJ1 rfl (by kernel_rfl)
  ·
   refine gA ?_
   refine gK (a2f _ _) rfl rfl rfl fun v8=> ?_
   exact gX hJ1 rfl (by kernel_rfl)
 refine gC rfl (fun _=> ?_) (fun _=> ?_)
 ·
  exact gR rfl rfl rfl
 ·
  refine gA ?_
  refine gHs [(3,(pL [0,2,4,6,10,12,14,16] (.two 4 14 (pL [] (.two 9 14 (pL [] (.two 10 14 (pL [22,24,26,29,31,33] .nil) (pL [21,23,24,26,31,33] .nil))) (pL [19,21,23,24,26,31,33] .nil))) (pL [9,19,21,23,24,26,31,33] .nil)))),(4,(pL [0,2,4,6,8,11,13,14,17,19,21] .nil))] rfl (by kernel_rfl) rfl rfl fun Ky=> ?_
  refine gH2 rfl ?_ ?_
  all_goals
   refine gK (a5e _ _ _) rfl rfl rfl fun v5=> ?_
   refine gA ?_
   try refine gH2 rfl ?_ ?_
   all_goals
    refine gK (a5e _ _ _) rfl rfl rfl fun v6=> ?_
    refine gA ?_
    try refine gH2 rfl ?_ ?_
    all_goals
     refine gK (d3k _ _ _) rfl rfl rfl fun v7=> ?_
     refine gB ?_
     refine gHe rfl ?_
     refine gHs [(3,(pL [0,2,4,6,10,12,14,16] (.two 4 14 (pL [] (.two 9 14 (pL [] (.two 10 14 (pL [22,24,26,29,31,33] .nil) (pL [21,23,24,26,31,33] .nil))) (pL [19,21,23,24,26,31,33] .nil))) (pL [9,19,21,23,24,26,31,33] .nil)))),(4,(pL [0,2,4,6,8,11,13,14,17,19,21] .nil))] rfl (by kernel_rfl) rfl rfl fun Ky=> ?_
     refine gK (a5e _ _ _) rfl rfl rfl fun v3=> ?_
     refine gK (b6c _ _ _) rfl rfl rfl fun v4=> ?_
     refine gHe rfl ?_
     exact gR rfl rfl rfl
theorem d2r(n:Nat)(ax1:Frac)(b1:Frac):FnC Wt 172 [.agg [.int .i64 ax1.P.Sign,.sl 2 ax1.P.Digits,.int .i64 ax1.Q.Sign,.sl 2 ax1.Q.Digits],.agg [.int .i64 b1.P.Sign,.sl 2 b1.P.Digits,.int .i64 b1.Q.Sign,.sl 2 b1.Q.Digits]] (c5r n ax1 b1) (fun r=> .tup [.agg [.int .i64 r.1.P.Sign,.sl 2 r.1.P.Digits,.int .i64 r.1.Q.Sign,.sl 2 r.1.Q.Digits],.int .i64 r.2]):=by
 refine a1i (n:=25) Tryz.func172 rfl rfl rfl (fun _ _=>by kernel_rfl) fun F0 w0 r=> ?_
 unfold c5r
 refine gK (a2f _ _) rfl rfl rfl fun v1=> ?_
 refine gJ 4 (fun v2=> [.v 13 (.ob v2)]) rfl (fun _=>rfl) (fun J1 hJ1=> ?_) (fun v2=> ?_)
 ·
  refine gD rfl (fun _=> ?_) (fun _=> ?_)
  ·
   exact gX hJ1 rfl (by kernel_rfl)
  ·
   refine gA ?_
   refine gK (a2f _ _) rfl rfl rfl fun v5=> ?_
   exact gX hJ1 rfl (by kernel_rfl)
 refine gC rfl (fun _=> ?_) (fun _=> ?_)
 ·
  exact gR rfl rfl rfl
 ·
  refine gHs [(3,(pL [0,2,4,8,10,7,13,15,16,19,21,23] .nil))] rfl (by kernel_rfl) rfl rfl fun Ky=> ?_
  refine gK (b3g _ _) rfl rfl rfl fun v3=> ?_
  refine gK (b6b _ _ _) rfl rfl rfl fun v4=> ?_
  refine gHe rfl ?_
  exact gR rfl rfl rfl
theorem b9g(n:Nat)(ax1:Frac)(b1:Frac):FnC Wt 100 [.agg [.int .i64 ax1.P.Sign,.sl 2 ax1.P.Digits,.int .i64 ax1.Q.Sign,.sl 2 ax1.Q.Digits],.agg [.int .i64 b1.P.Sign,.sl 2 b1.P.Digits,.int .i64 b1.Q.Sign,.sl 2 b1.Q.Digits]] (b2i n ax1 b1) (fun r=> .tup [.agg [.int .i64 r.1.P.Sign,.sl 2 r.1.P.Digits,.int .i64 r.1.Q.Sign,.sl 2 r.1.Q.Digits],.int .i64 r.2]):=by
 refine a1i (n:=28) Tryz.func100 rfl rfl rfl (fun _ _=>by kernel_rfl) fun F0 w0 r=> ?_
 unfold b2i
 refine gK (a2f _ _) rfl rfl rfl fun v1=> ?_
 refine gJ 4 (fun v2=> [.v 13 (.ob v2)]) rfl (fun _=>rfl) (fun J1 hJ1=> ?_) (fun v2=> ?_)
 ·
  refine gD rfl (fun _=> ?_) (fun _=> ?_)
  ·
   exact gX hJ1 rfl (by kernel_rfl)
  ·
   refine gA ?_
   refine gK (a2f _ _) rfl rfl rfl fun v6=> ?_
   exact gX hJ1 rfl (by kernel_rfl)
 refine gC rfl (fun _=> ?_) (fun _=> ?_)
 ·
  exact gR rfl rfl rfl
 ·
  refine gHs [(3,(pL [0,2,4,6,10,12,14,16,9,19,21,22,25,27,29] .nil))] rfl (by kernel_rfl) rfl rfl fun Ky=> ?_
  refine gK (a5e _ _ _) rfl rfl rfl fun v3=> ?_
  refine gK (a5e _ _ _) rfl rfl rfl fun v4=> ?_
  refine gK (b6c _ _ _) rfl rfl rfl fun v5=> ?_
  refine gHe rfl ?_
  exact gR rfl rfl rfl
theorem d3g(n:Nat)(ax1:Frac)(b1:Frac):FnC Wt 173 [.agg [.int .i64 ax1.P.Sign,.sl 2 ax1.P.Digits,.int .i64 ax1.Q.Sign,.sl 2 ax1.Q.Digits],.agg [.int .i64 b1.P.Sign,.sl 2 b1.P.Digits,.int .i64 b1.Q.Sign,.sl 2 b1.Q.Digits]] (c6x n ax1 b1) (fun r=> .tup [.agg [.int .i64 r.1.P.Sign,.sl 2 r.1.P.Digits,.int .i64 r.1.Q.Sign,.sl 2 r.1.Q.Digits],.int .i64 r.2]):=by
 refine a1i (n:=35) Tryz.func173 rfl rfl rfl (fun _ _=>by kernel_rfl) fun F0 w0 r=> ?_
 unfold c6x
 refine gK (a2f _ _) rfl rfl rfl fun v1=> ?_
 refine gJ 4 (fun v2=> [.v 14 (.ob v2)]) rfl (fun _=>rfl) (fun J1 hJ1=> ?_) (fun v2=> ?_)
 ·
  refine gD rfl (fun _=> ?_) (fun _=> ?_)
  ·
   exact gX hJ1 rfl (by kernel_rfl)
  ·
   refine gA ?_
   refine gK (a2f _ _) rfl rfl rfl fun v6=> ?_
   exact gX hJ1 rfl (by kernel_rfl)
 refine gC rfl (fun _=> ?_) (fun _=> ?_)
 ·
  exact gR rfl rfl rfl
 ·
  refine gC rfl (fun _=> ?_) (fun _=> ?_)
  ·
   exact gR rfl rfl rfl
  ·
   refine gHs [(5,(pL [0,2,4,6,10,12,14,16,9,19,21,22,25,27,29] .nil))] rfl (by kernel_rfl) rfl rfl fun Ky=> ?_
   refine gK (a5e _ _ _) rfl rfl rfl fun v3=> ?_
   refine gK (a5e _ _ _) rfl rfl rfl fun v4=> ?_
   refine gK (b6c _ _ _) rfl rfl rfl fun v5=> ?_
   refine gHe rfl ?_
   exact gR rfl rfl rfl
theorem b7j(n:Nat)(ax1:Big):FnC Wt 167 [.agg [.int .i64 ax1.Sign,.sl 2 ax1.Digits]] (b1y n ax1) (fun r=> .agg [.int .i64 r.Sign,.sl 2 r.Digits]):=by
 refine a1i (n:=6) Tryz.func167 rfl rfl rfl (fun _ _=>by kernel_rfl) fun F0 w0 r=> ?_
 unfold b1y
 refine gK (b3g _ _) rfl rfl rfl fun v1=> ?_
 refine gK (b3g _ _) rfl rfl rfl fun v2=> ?_
 exact gR rfl rfl rfl
theorem d2s(n:Nat)(f1:Frac):FnC Wt 144 [.agg [.int .i64 f1.P.Sign,.sl 2 f1.P.Digits,.int .i64 f1.Q.Sign,.sl 2 f1.Q.Digits]] (c5m n f1) (fun r=> .agg [.int .i64 r.P.Sign,.sl 2 r.P.Digits,.int .i64 r.Q.Sign,.sl 2 r.Q.Digits]):=by
 refine a1i (n:=14) Tryz.func144 rfl rfl rfl (fun _ _=>by kernel_rfl) fun F0 w0 r=> ?_
 unfold c5m
 refine gK (a2f _ _) rfl rfl rfl fun v1=> ?_
 refine gC rfl (fun _=> ?_) (fun _=> ?_)
 ·
  exact gR rfl rfl rfl
 ·
  refine gHs [(3,(pL [0,2,6,8,5,11,13,15] .nil))] rfl (by kernel_rfl) rfl rfl fun Ky=> ?_
  refine gK (b3g _ _) rfl rfl rfl fun v2=> ?_
  refine gK (b7j _ _) rfl rfl rfl fun v3=> ?_
  refine gHe rfl ?_
  exact gR rfl rfl rfl
theorem b7m(n:Nat)(f1:Frac):FnC Wt 108 [.agg [.int .i64 f1.P.Sign,.sl 2 f1.P.Digits,.int .i64 f1.Q.Sign,.sl 2 f1.Q.Digits]] (b4t n f1) (fun r=> .int .i64 r):=by
 refine a1i (n:=9) Tryz.func108 rfl rfl rfl (fun _ _=>by kernel_rfl) fun F0 w0 r=> ?_
 unfold b4t
 refine gK (a2f _ _) rfl rfl rfl fun v1=> ?_
 refine gC rfl (fun _=> ?_) (fun _=> ?_)
 ·
  exact gR rfl rfl rfl
 ·
  exact gR rfl rfl rfl
theorem b2q(n:Nat)(ax1:Frac)(b1:Frac):FnC Wt 49 [.agg [.int .i64 ax1.P.Sign,.sl 2 ax1.P.Digits,.int .i64 ax1.Q.Sign,.sl 2 ax1.Q.Digits],.agg [.int .i64 b1.P.Sign,.sl 2 b1.P.Digits,.int .i64 b1.Q.Sign,.sl 2 b1.Q.Digits]] (a4e n ax1 b1) (fun r=> .int .i64 r):=by
 refine a1i (n:=24) Tryz.func49 rfl rfl rfl (fun _ _=>by kernel_rfl) fun F0 w0 r=> ?_
 unfold a4e
 refine gK (a2f _ _) rfl rfl rfl fun v1=> ?_
 refine gJ 4 (fun v2=> [.v 12 (.ob v2)]) rfl (fun _=>rfl) (fun J1 hJ1=> ?_) (fun v2=> ?_)
 ·
  refine gD rfl (fun _=> ?_) (fun _=> ?_)
  ·
   exact gX hJ1 rfl (by kernel_rfl)
  ·
   refine gA ?_
   refine gK (a2f _ _) rfl rfl rfl fun v6=> ?_
   exact gX hJ1 rfl (by kernel_rfl)
 refine gC rfl (fun _=> ?_) (fun _=> ?_)
 ·
  exact gR rfl rfl rfl
 ·
  refine gHs [(3,(pL [0,2,4,6,10,12,14,16,9,19,21,23] .nil))] rfl (by kernel_rfl) rfl rfl fun Ky=> ?_
  refine gK (a5e _ _ _) rfl rfl rfl fun v3=> ?_
  refine gK (a5e _ _ _) rfl rfl rfl fun v4=> ?_
  refine gK (c5j _ _ _) rfl rfl rfl fun v5=> ?_
  refine gHe rfl ?_
  exact gR rfl rfl rfl
theorem b8w(n:Nat)(ax1:Frac)(b1:Frac)(sign1:Int):FnC Wt 102 [.agg [.int .i64 ax1.P.Sign,.sl 2 ax1.P.Digits,.int .i64 ax1.Q.Sign,.sl 2 ax1.Q.Digits],.agg [.int .i64 b1.P.Sign,.sl 2 b1.P.Digits,.int .i64 b1.Q.Sign,.sl 2 b1.Q.Digits],.int .i64 sign1] (b0d n ax1 b1 sign1) (fun r=> .tup [.agg [.int .i64 r.1.P.Sign,.sl 2 r.1.P.Digits,.int .i64 r.1.Q.Sign,.sl 2 r.1.Q.Digits],.int .i64 r.2]):=by
 refine a1i (n:=31) Tryz.func102 rfl rfl rfl (fun _ _=>by kernel_rfl) fun F0 w0 r=> ?_
 unfold b0d
 refine gK (a2f _ _) rfl rfl rfl fun v1=> ?_
 refine gJ 4 (fun v2=> [.v 15 (.ob v2)]) rfl (fun _=>rfl) (fun J1 hJ1=> ?_) (fun v2=> ?_)
 ·
  refine gD rfl (fun _=> ?_) (fun _=> ?_)
  ·
   exact gX hJ1 rfl (by kernel_rfl)
  ·
   refine gA ?_
   refine gK (a2f _ _) rfl rfl rfl fun v6=> ?_
   exact gX hJ1 rfl (by kernel_rfl)
 refine gC rfl (fun _=> ?_) (fun _=> ?_)
 ·
  exact gR rfl rfl rfl
 ·
  refine gK (b2q _ _ _) rfl rfl rfl fun v3=> ?_
  refine gM (fun j2=> [.b 3 [.int .i64 j2.1,.sl 2 j2.2.1,.int .i64 j2.2.2.1,.sl 2 j2.2.2.2]]) rfl (fun _=>rfl) (fun J2 hJ2=> ?_) (fun j2=> ?_)
  ·
   refine gD rfl (fun _=> ?_) (fun _=> ?_)
   ·
    exact gX hJ2 rfl (by kernel_rfl)
   ·
    exact gX hJ2 rfl (by kernel_rfl)
  obtain⟨f1,f2,f3,f4⟩:=j2;dsimp only
  refine gHs [(5,(pL [0,2,6,8,5,11,13,15,17] .nil))] rfl (by kernel_rfl) rfl rfl fun Ky=> ?_
  refine gK (b7j _ _) rfl rfl rfl fun v4=> ?_
  refine gK (b7j _ _) rfl rfl rfl fun v5=> ?_
  refine gHe rfl ?_
  exact gR rfl rfl rfl
theorem d3b(n:Nat)(ax1:Frac)(b1:Frac):FnC Wt 174 [.agg [.int .i64 ax1.P.Sign,.sl 2 ax1.P.Digits,.int .i64 ax1.Q.Sign,.sl 2 ax1.Q.Digits],.agg [.int .i64 b1.P.Sign,.sl 2 b1.P.Digits,.int .i64 b1.Q.Sign,.sl 2 b1.Q.Digits]] (c5e n ax1 b1) (fun r=> .tup [.agg [.int .i64 r.1.P.Sign,.sl 2 r.1.P.Digits,.int .i64 r.1.Q.Sign,.sl 2 r.1.Q.Digits],.int .i64 r.2]):=by
 refine a1i (n:=11) Tryz.func174 rfl rfl rfl (fun _ _=>by kernel_rfl) fun F0 w0 r=> ?_
 unfold c5e
 refine gK (b8w _ _ _ _) rfl rfl rfl fun v1=> ?_
 exact gR rfl rfl rfl
theorem c4r(n:Nat)(ax1:Frac)(b1:Frac):FnC Wt 48 [.agg [.int .i64 ax1.P.Sign,.sl 2 ax1.P.Digits,.int .i64 ax1.Q.Sign,.sl 2 ax1.Q.Digits],.agg [.int .i64 b1.P.Sign,.sl 2 b1.P.Digits,.int .i64 b1.Q.Sign,.sl 2 b1.Q.Digits]] (b3w n ax1 b1) (fun r=> .tup [.agg [.int .i64 r.1.P.Sign,.sl 2 r.1.P.Digits,.int .i64 r.1.Q.Sign,.sl 2 r.1.Q.Digits],.int .i64 r.2]):=by
 refine a1i (n:=11) Tryz.func48 rfl rfl rfl (fun _ _=>by kernel_rfl) fun F0 w0 r=> ?_
 unfold b3w
 refine gK (b8w _ _ _ _) rfl rfl rfl fun v1=> ?_
 exact gR rfl rfl rfl
theorem c4a(n:Nat):∀(x1:Expr)(levels1:Int)(left1:Int),FnL Wt 129 3 [.int .i64 left1] [.agg [.int .i64 x1.Op,.int .i64 x1.N,.str x1.Name,.sl 0 x1.Args],.int .i64 levels1,.bx 0 0] (tariff_sized n x1 levels1 left1) (fun r=> [.int .i64 r.1]) (fun r=> .ob r.2):=by
 induction n with
 |zero=>exact fun _ _ _=>d2n (fun _ _=>by kernel_rfl)
 |succ n ih=>
  intro x1 levels1 left1
  refine b6o (n:=36) Tryz.func129 rfl rfl rfl (fun _ _=>by kernel_rfl) fun F0 w0 b r=> ?_
  rw [tariff_sized_s]
  refine gJ 5 (fun v1=> [.v 21 (.ob v1)]) rfl (fun _=>rfl) (fun J1 hJ1=> ?_) (fun v1=> ?_)
  ·
   refine gD rfl (fun _=> ?_) (fun _=> ?_)
   ·
    exact gX hJ1 rfl (by kernel_rfl)
   ·
    exact gX hJ1 rfl (by kernel_rfl)
  refine gC rfl (fun _=> ?_) (fun _=> ?_)
  ·
   exact gRL rfl rfl rfl rfl rfl
  ·
   refine a3c ((fun k0 m(s:Int×Int)=>tariff_sized_L1 n (tariff_sized n) x1 levels1 k0 m s.1 s.2) _) (fun(s:Int×Int)=> [.b 2 [.int .i64 s.2],.v 25 (.int .i64 s.1)]) (fun _=>rfl) (_,_) rfl rfl (fun _=>rfl) rfl fun K2 m2 hK2 z2=> ?_
   obtain⟨i1,f1⟩:=z2;dsimp only
   refine gC rfl (fun _=> ?_) (fun _=> ?_)
   ·
    refine gV rfl fun ex1=> ?_
    refine gN (ih _ _ _) rfl rfl rfl rfl rfl fun v2=> ?_
    refine gC rfl (fun _=> ?_) (fun _=> ?_)
    ·
     exact gRL rfl rfl rfl rfl rfl
    ·
     exact gE hK2 (_,_) rfl (by kernel_rfl)
   ·
    exact gRL rfl rfl rfl rfl rfl
theorem a4m(n:Nat)(s1:(List Bs))(v1:Bs):FnC Wt 76 [.sl 1 s1,.str v1] (a1g n s1 v1) (fun r=> .int .i64 r):=by
 refine a1i (n:=19) Tryz.func76 rfl rfl rfl (fun _ _=>by kernel_rfl) fun F0 w0 r=> ?_
 unfold a1g
 refine a3c ((fun k0 m(s:Int)=>slices_Index_string_string_L1 n s1 v1 k0 m s) _) (fun(s:Int)=> [.v 8 (.int .i64 s)]) (fun _=>rfl) _ rfl rfl (fun _=>rfl) rfl fun K1 m1 hK1 i1=> ?_
 refine gC rfl (fun _=> ?_) (fun _=> ?_)
 ·
  refine gV rfl fun ex1=> ?_
  refine gC rfl (fun _=> ?_) (fun _=> ?_)
  ·
   exact gR rfl rfl rfl
  ·
   exact gE hK1 _ rfl (by kernel_rfl)
 ·
  exact gR rfl rfl rfl
theorem a3w(n:Nat)(s1:(List Bs))(v1:Bs):FnC Wt 114 [.sl 1 s1,.str v1] (a0z n s1 v1) (fun r=> .ob r):=by
 refine a1i (n:=9) Tryz.func114 rfl rfl rfl (fun _ _=>by kernel_rfl) fun F0 w0 r=> ?_
 unfold a0z
 refine gK (a4m _ _ _) rfl rfl rfl fun v2=> ?_
 exact gR rfl rfl rfl
theorem b6m(n:Nat)(l1:(List Bs)):FnC Wt 54 [.sl 1 l1] (b0n n l1) (fun r=> .ob r):=by
 refine a1i (n:=26) Tryz.func54 rfl rfl rfl (fun _ _=>by kernel_rfl) fun F0 w0 r=> ?_
 unfold b0n
 refine a3c ((fun k0 m(s:Int)=>tariff_named_L1 n l1 k0 m s) _) (fun(s:Int)=> [.v 7 (.int .i64 s)]) (fun _=>rfl) _ rfl rfl (fun _=>rfl) rfl fun K1 m1 hK1 i1=> ?_
 refine gC rfl (fun _=> ?_) (fun _=> ?_)
 ·
  refine gV rfl fun ex1=> ?_
  refine gK (b2k _ _) rfl rfl rfl fun v1=> ?_
  refine gJ 6 (fun v2=> [.v 21 (.ob v2)]) rfl (fun _=>rfl) (fun J2 hJ2=> ?_) (fun v2=> ?_)
  ·
   refine gD rfl (fun _=> ?_) (fun _=> ?_)
   ·
    exact gX hJ2 rfl (by kernel_rfl)
   ·
    refine gA ?_
    refine gV rfl fun l2=> ?_
    refine gA ?_
    refine gK (a3w _ _ _) rfl rfl rfl fun v3=> ?_
    exact gX hJ2 rfl (by kernel_rfl)
  refine gC rfl (fun _=> ?_) (fun _=> ?_)
  ·
   exact gR rfl rfl rfl
  ·
   exact gE hK1 _ rfl (by kernel_rfl)
 ·
  exact gR rfl rfl rfl
theorem b0y(n:Nat)(ax1:Int)(b1:Int):FnC Wt 116 [.int .i64 ax1,.int .i64 b1] (a1j n ax1 b1) (fun r=> .tup [.int .i64 r.1,.int .i64 r.2]):=by
 refine a1i (n:=20) Tryz.func116 rfl rfl rfl (fun _ _=>by kernel_rfl) fun F0 w0 r=> ?_
 unfold a1j
 refine gJ 3 (fun v1=> [.v 12 (.ob v1)]) rfl (fun _=>rfl) (fun J1 hJ1=> ?_) (fun v1=> ?_)
 ·
  refine gD rfl (fun _=> ?_) (fun _=> ?_)
  ·
   exact gX hJ1 rfl (by kernel_rfl)
  ·
   exact gX hJ1 rfl (by kernel_rfl)
 refine gC rfl (fun _=> ?_) (fun _=> ?_)
 ·
  exact gR rfl rfl rfl
 ·
  refine gJ 3 (fun v2=> [.v 19 (.ob v2)]) rfl (fun _=>rfl) (fun J2 hJ2=> ?_) (fun v2=> ?_)
  ·
   refine gD rfl (fun _=> ?_) (fun _=> ?_)
   ·
    exact gX hJ2 rfl (by kernel_rfl)
   ·
    exact gX hJ2 rfl (by kernel_rfl)
  refine gC rfl (fun _=> ?_) (fun _=> ?_)
  ·
   exact gR rfl rfl rfl
  ·
   exact gR rfl rfl rfl
theorem c6o(n:Nat)(op1:Int):FnC Wt 183 [.int .i64 op1] (a9z n op1) (fun r=> .int .i64 r):=by
 refine a1i (n:=12) Tryz.func183 rfl rfl rfl (fun _ _=>by kernel_rfl) fun F0 w0 r=> ?_
 unfold a9z
 refine gC rfl (fun _=> ?_) (fun _=> ?_)
 ·
  exact gR rfl rfl rfl
 ·
  refine gC rfl (fun _=> ?_) (fun _=> ?_)
  ·
   exact gR rfl rfl rfl
  ·
   refine gC rfl (fun _=> ?_) (fun _=> ?_)
   ·
    exact gR rfl rfl rfl
   ·
    exact gR rfl rfl rfl
theorem c3y(n:Nat)(nx1:Int)(cap1:Int):FnC Wt 178 [.int .i64 nx1,.fb [.int .i64 cap1] 0] (b2h n nx1 cap1) (fun r=> .ob r):=by
 refine a1i (n:=7) Tryz.func178 rfl rfl rfl (fun _ _=>by kernel_rfl) fun F0 w0 r=> ?_
 unfold b2h
 exact gR rfl rfl rfl
theorem b1z(n:Nat)(s1:(List Int))(f1:(Int->Option Bool)):FnH Wt 171 [.sl 2 s1] ⟨Int,Bool,fun q=> [.int .i64 q],fun q=>f1 q,fun r=> .ob r⟩ (a6e n s1 f1) (fun r=> .int .i64 r):=by
 refine b3d (n:=19) Tryz.func171 rfl rfl rfl (fun _ _=>by kernel_rfl) fun F0 w0 r u=> ?_
 unfold a6e
 refine a3c ((fun k0 m(s:Int)=>a4w n s1 f1 k0 m s) _) (fun(s:Int)=> [.v 8 (.int .i64 s)]) (fun _=>rfl) _ rfl rfl (fun _=>rfl) rfl fun K1 m1 hK1 i1=> ?_
 refine gC rfl (fun _=> ?_) (fun _=> ?_)
 ·
  refine gV rfl fun ex1=> ?_
  refine gKv (T:=Wt) (Φ:=⟨Int,Bool,fun q=> [.int .i64 q],fun q=>f1 q,fun r=> .ob r⟩) (u:=u) ex1 rfl rfl rfl fun v1=> ?_
  refine gC rfl (fun _=> ?_) (fun _=> ?_)
  ·
   exact gR rfl rfl rfl
  ·
   exact gE hK1 _ rfl (by kernel_rfl)
 ·
  exact gR rfl rfl rfl
theorem a6r(n:Nat)(s1:(List Int))(f1:(Int->Option Bool)):FnH Wt 109 [.sl 2 s1] ⟨Int,Bool,fun q=> [.int .i64 q],fun q=>f1 q,fun r=> .ob r⟩ (a3k n s1 f1) (fun r=> .ob r):=by
 refine b3d (n:=9) Tryz.func109 rfl rfl rfl (fun _ _=>by kernel_rfl) fun F0 w0 r u=> ?_
 unfold a3k
 refine gKh (FnH.up (b1z n _ f1)) rfl rfl rfl b5w fun v1=> ?_
 exact gR rfl rfl rfl
theorem b0k(n:Nat)(k1:Int)(l1:(List Int))(want1:Int):FnC Wt 115 [.int .i64 k1,.sl 2 l1,.int .i64 want1] (a3q n k1 l1 want1) (fun r=> .tup [.int .i64 r.1,.int .i64 r.2]):=by
 refine a1i (n:=12) Tryz.func115 rfl rfl rfl (fun _ _=>by kernel_rfl) fun F0 w0 r=> ?_
 unfold a3q
 refine gFc rfl rfl ?_
 refine gKh (a6r n _ (fun(q0:Int)=>b2h n q0 want1)) rfl rfl rfl (fvA rfl rfl (fun q=>c3y n q want1) default) fun v1=> ?_
 refine gC rfl (fun _=> ?_) (fun _=> ?_)
 ·
  exact gR rfl rfl rfl
 ·
  exact gR rfl rfl rfl
theorem b6u(n:Nat):∀(x1:Expr)(names1:(List Bs)),FnC Wt 56 [.agg [.int .i64 x1.Op,.int .i64 x1.N,.str x1.Name,.sl 0 x1.Args],.sl 1 names1] (tariff_typed n x1 names1) (fun r=> .tup [.int .i64 r.1,.int .i64 r.2]):=by
 induction n with
 |zero=>exact fun _ _=>c2f (fun _ _=>by kernel_rfl)
 |succ n ih=>
  intro x1 names1
  refine a1i (n:=113) Tryz.func56 rfl rfl rfl (fun _ _=>by kernel_rfl) fun F0 w0 r=> ?_
  rw [tariff_typed_s]
  refine a3c ((fun k0 m(s:Int×List Int)=>tariff_typed_L1 n (tariff_typed n) x1 names1 k0 m s.1 s.2) _) (fun(s:Int×List Int)=> [.r 6 2 s.2,.v 15 (.int .i64 s.1)]) (fun _=>rfl) (_,_) rfl rfl (fun _=>rfl) rfl fun K1 m1 hK1 z1=> ?_
  obtain⟨i1,l1⟩:=z1;dsimp only
  refine gC rfl (fun _=> ?_) (fun _=> ?_)
  ·
   refine gV rfl fun ex13=> ?_
   refine gK (ih _ _) rfl rfl rfl fun v13=> ?_
   refine gC rfl (fun _=> ?_) (fun _=> ?_)
   ·
    exact gR rfl rfl rfl
   ·
    refine gP rfl fun l3=> ?_
    exact gE hK1 (_,_) rfl (by kernel_rfl)
  ·
   refine gD rfl (fun _=> ?_) (fun _=> ?_)
   ·
    refine gB ?_
    refine gT ?_
    refine gK (a3w _ _ _) rfl rfl rfl fun v2=> ?_
    refine gC rfl (fun _=> ?_) (fun _=> ?_)
    ·
     exact gR rfl rfl rfl
    ·
     refine gC rfl (fun _=> ?_) (fun _=> ?_)
     ·
      exact gR rfl rfl rfl
     ·
      exact gR rfl rfl rfl
   ·
    refine gB ?_
    refine gC rfl (fun _=> ?_) (fun _=> ?_)
    ·
     refine gK (a3w _ _ _) rfl rfl rfl fun v2=> ?_
     refine gC rfl (fun _=> ?_) (fun _=> ?_)
     ·
      exact gR rfl rfl rfl
     ·
      refine gC rfl (fun _=> ?_) (fun _=> ?_)
      ·
       exact gR rfl rfl rfl
      ·
       exact gR rfl rfl rfl
    ·
     refine gD rfl (fun _=> ?_) (fun _=> ?_)
     ·
      refine gB ?_
      refine gT ?_
      exact gR rfl rfl rfl
     ·
      refine gD rfl (fun _=> ?_) (fun _=> ?_)
      ·
       refine gB ?_
       refine gT ?_
       exact gR rfl rfl rfl
      ·
       refine gB ?_
       refine gC rfl (fun _=> ?_) (fun _=> ?_)
       ·
        exact gR rfl rfl rfl
       ·
        refine gD rfl (fun _=> ?_) (fun _=> ?_)
        ·
         refine gB ?_
         refine gT ?_
         refine gK (b0k _ _ _ _) rfl rfl rfl fun v5=> ?_
         exact gR rfl rfl rfl
        ·
         refine gB ?_
         refine gC rfl (fun _=> ?_) (fun _=> ?_)
         ·
          refine gK (b0k _ _ _ _) rfl rfl rfl fun v5=> ?_
          exact gR rfl rfl rfl
         ·
          refine gD rfl (fun _=> ?_) (fun _=> ?_)
          ·
           refine gB ?_
           refine gT ?_
           refine gK (b0k _ _ _ _) rfl rfl rfl fun v7=> ?_
           exact gR rfl rfl rfl
          ·
           refine gD rfl (fun _=> ?_) (fun _=> ?_)
           ·
            refine gB ?_
            refine gT ?_
            refine gK (b0k _ _ _ _) rfl rfl rfl fun v7=> ?_
            exact gR rfl rfl rfl
           ·
            refine gB ?_
            refine gC rfl (fun _=> ?_) (fun _=> ?_)
            ·
             refine gK (b0k _ _ _ _) rfl rfl rfl fun v7=> ?_
             exact gR rfl rfl rfl
            ·
             refine gC rfl (fun _=> ?_) (fun _=> ?_)
             ·
              refine gV rfl fun ex1=> ?_
              refine gC rfl (fun _=> ?_) (fun _=> ?_)
              ·
               exact gR rfl rfl rfl
              ·
               refine gG rfl (by kernel_rfl) ?_
               refine gV rfl fun ex2=> ?_
               refine gV rfl fun ex3=> ?_
               refine gQ (b0y _ _ _) rfl rfl rfl (fun _=>rfl) fun v8=> ?_
               exact gR rfl rfl rfl
             ·
              refine gC rfl (fun _=> ?_) (fun _=> ?_)
              ·
               refine gV rfl fun ex4=> ?_
               refine gJ 5 (fun v9=> [.v 91 (.ob v9)]) rfl (fun _=>rfl) (fun J2 hJ2=> ?_) (fun v9=> ?_)
               ·
                refine gD rfl (fun _=> ?_) (fun _=> ?_)
                ·
                 refine gA ?_
                 refine gV rfl fun ex7=> ?_
                 exact gX hJ2 rfl (by kernel_rfl)
                ·
                 exact gX hJ2 rfl (by kernel_rfl)
               refine gC rfl (fun _=> ?_) (fun _=> ?_)
               ·
                exact gR rfl rfl rfl
               ·
                refine gG rfl (by kernel_rfl) ?_
                refine gV rfl fun ex5=> ?_
                refine gV rfl fun ex6=> ?_
                refine gQ (b0y _ _ _) rfl rfl rfl (fun _=>rfl) fun v10=> ?_
                exact gR rfl rfl rfl
              ·
               refine gC rfl (fun _=> ?_) (fun _=> ?_)
               ·
                refine gV rfl fun ex8=> ?_
                refine gC rfl (fun _=> ?_) (fun _=> ?_)
                ·
                 exact gR rfl rfl rfl
                ·
                 refine gC rfl (fun _=> ?_) (fun _=> ?_)
                 ·
                  exact gR rfl rfl rfl
                 ·
                  refine gG rfl (by kernel_rfl) ?_
                  refine gV rfl fun ex9=> ?_
                  refine gV rfl fun ex10=> ?_
                  refine gQ (b0y _ _ _) rfl rfl rfl (fun _=>rfl) fun v11=> ?_
                  exact gR rfl rfl rfl
               ·
                refine gG rfl (by kernel_rfl) ?_
                refine gV rfl fun ex11=> ?_
                refine gV rfl fun ex12=> ?_
                refine gQ (b0y _ _ _) rfl rfl rfl (fun _=>rfl) fun v12=> ?_
                exact gR rfl rfl rfl
theorem a8c(n:Nat)(s1:(List Expr))(f1:(Expr->Option Bool)):FnH Wt 215 [.sl 0 s1] ⟨Expr,Bool,fun q=> [.agg [.int .i64 q.Op,.int .i64 q.N,.str q.Name,.sl 0 q.Args]],fun q=>f1 q,fun r=> .ob r⟩ (a1t n s1 f1) (fun r=> .int .i64 r):=by
 refine b3d (n:=19) Tryz.func215 rfl rfl rfl (fun _ _=>by kernel_rfl) fun F0 w0 r u=> ?_
 unfold a1t
 refine a3c ((fun k0 m(s:Int)=>slices_IndexFunc_api_Expr_api_Expr_L1 n s1 f1 k0 m s) _) (fun(s:Int)=> [.v 8 (.int .i64 s)]) (fun _=>rfl) _ rfl rfl (fun _=>rfl) rfl fun K1 m1 hK1 i1=> ?_
 refine gC rfl (fun _=> ?_) (fun _=> ?_)
 ·
  refine gV rfl fun ex1=> ?_
  refine gKv (T:=Wt) (Φ:=⟨Expr,Bool,fun q=> [.agg [.int .i64 q.Op,.int .i64 q.N,.str q.Name,.sl 0 q.Args]],fun q=>f1 q,fun r=> .ob r⟩) (u:=u) ex1 rfl rfl rfl fun v1=> ?_
  refine gC rfl (fun _=> ?_) (fun _=> ?_)
  ·
   exact gR rfl rfl rfl
  ·
   exact gE hK1 _ rfl (by kernel_rfl)
 ·
  exact gR rfl rfl rfl
theorem a7d(n:Nat)(s1:(List Expr))(f1:(Expr->Option Bool)):FnH Wt 184 [.sl 0 s1] ⟨Expr,Bool,fun q=> [.agg [.int .i64 q.Op,.int .i64 q.N,.str q.Name,.sl 0 q.Args]],fun q=>f1 q,fun r=> .ob r⟩ (a0s n s1 f1) (fun r=> .ob r):=by
 refine b3d (n:=9) Tryz.func184 rfl rfl rfl (fun _ _=>by kernel_rfl) fun F0 w0 r u=> ?_
 unfold a0s
 refine gKh (FnH.up (a8c n _ f1)) rfl rfl rfl b5w fun v1=> ?_
 exact gR rfl rfl rfl
theorem c0n(n:Nat):(∀(x1:Expr),FnC Wt 130 [.agg [.int .i64 x1.Op,.int .i64 x1.N,.str x1.Name,.sl 0 x1.Args]] (tariff_shaped n x1) (fun r=> .ob r))/\(∀(ax1:Expr),FnC Wt 185 [.agg [.int .i64 ax1.Op,.int .i64 ax1.N,.str ax1.Name,.sl 0 ax1.Args]] (tariff_shaped_1 n ax1) (fun r=> .ob r)):=by
 induction n with
 |zero=>exact⟨fun _=>c2f (fun _ _=>by kernel_rfl),fun _=>c2f (fun _ _=>by kernel_rfl)⟩
 |succ n ih=>
  refine⟨?_,?_⟩
  ·intro x1
   refine a1i (n:=62) Tryz.func130 rfl rfl rfl (fun _ _=>by kernel_rfl) fun F0 w0 r=> ?_
   rw [tariff_shaped_s]
   refine gG rfl (by kernel_rfl) ?_
   refine gD rfl (fun _=> ?_) (fun _=> ?_)
   ·
    refine gB ?_
    refine gTb ?_
    refine gB ?_
    refine gT ?_
    exact gR rfl rfl rfl
   ·
    refine gB ?_
    refine gD rfl (fun _=> ?_) (fun _=> ?_)
    ·
     refine gB ?_
     refine gT ?_
     exact gR rfl rfl rfl
    ·
     refine gA ?_
     refine gQ (c6o _ _) rfl rfl rfl (fun _=>rfl) fun v11=> ?_
     refine gB ?_
     refine gC rfl (fun _=> ?_) (fun _=> ?_)
     ·
      exact gR rfl rfl rfl
     ·
      refine gC rfl (fun _=> ?_) (fun _=> ?_)
      ·
       refine gJ 4 (fun v3=> [.v 31 (.ob v3)]) rfl (fun _=>rfl) (fun J1 hJ1=> ?_) (fun v3=> ?_)
       ·
        refine gD rfl (fun _=> ?_) (fun _=> ?_)
        ·
         exact gX hJ1 rfl (by kernel_rfl)
        ·
         exact gX hJ1 rfl (by kernel_rfl)
       refine gJ 4 (fun v4=> [.v 36 (.ob v4)]) rfl (fun _=>rfl) (fun J2 hJ2=> ?_) (fun v4=> ?_)
       ·
        refine gD rfl (fun _=> ?_) (fun _=> ?_)
        ·
         exact gX hJ2 rfl (by kernel_rfl)
        ·
         exact gX hJ2 rfl (by kernel_rfl)
       exact gR rfl rfl rfl
      ·
       refine gD rfl (fun _=> ?_) (fun _=> ?_)
       ·
        refine gB ?_
        refine gT ?_
        refine gJ 4 (fun v6=> [.v 47 (.ob v6)]) rfl (fun _=>rfl) (fun J3 hJ3=> ?_) (fun v6=> ?_)
        ·
         refine gD rfl (fun _=> ?_) (fun _=> ?_)
         ·
          refine gA ?_
          refine gK (b2k _ _) rfl rfl rfl fun v7=> ?_
          exact gX hJ3 rfl (by kernel_rfl)
         ·
          exact gX hJ3 rfl (by kernel_rfl)
        exact gR rfl rfl rfl
       ·
        refine gB ?_
        refine gC rfl (fun _=> ?_) (fun _=> ?_)
        ·
         refine gJ 4 (fun v6=> [.v 47 (.ob v6)]) rfl (fun _=>rfl) (fun J4 hJ4=> ?_) (fun v6=> ?_)
         ·
          refine gD rfl (fun _=> ?_) (fun _=> ?_)
          ·
           refine gA ?_
           refine gK (b2k _ _) rfl rfl rfl fun v7=> ?_
           exact gX hJ4 rfl (by kernel_rfl)
          ·
           exact gX hJ4 rfl (by kernel_rfl)
         exact gR rfl rfl rfl
        ·
         refine gJ 4 (fun v8=> [.v 55 (.ob v8)]) rfl (fun _=>rfl) (fun J5 hJ5=> ?_) (fun v8=> ?_)
         ·
          refine gD rfl (fun _=> ?_) (fun _=> ?_)
          ·
           exact gX hJ5 rfl (by kernel_rfl)
          ·
           exact gX hJ5 rfl (by kernel_rfl)
         refine gJ 5 (fun v9=> [.v 61 (.ob v9)]) rfl (fun _=>rfl) (fun J6 hJ6=> ?_) (fun v9=> ?_)
         ·
          refine gD rfl (fun _=> ?_) (fun _=> ?_)
          ·
           refine gA ?_
           refine gKh (a7d n _ (tariff_shaped_1 n)) rfl rfl rfl (fvA rfl rfl (fun q=>ih.2 q) default) fun v10=> ?_
           exact gX hJ6 rfl (by kernel_rfl)
          ·
           exact gX hJ6 rfl (by kernel_rfl)
         exact gR rfl rfl rfl
  ·intro ax1
   refine a1i (n:=6) Tryz.func185 rfl rfl rfl (fun _ _=>by kernel_rfl) fun F0 w0 r=> ?_
   rw [b0g]
   refine gK (ih.1 _) rfl rfl rfl fun v1=> ?_
   exact gR rfl rfl rfl
theorem c2g(n:Nat)(x1:Expr):FnC Wt 130 [.agg [.int .i64 x1.Op,.int .i64 x1.N,.str x1.Name,.sl 0 x1.Args]] (tariff_shaped n x1) (fun r=> .ob r):=(c0n n).1 x1
theorem b8e(n:Nat)(x1:Expr):FnC Wt 69 [.agg [.int .i64 x1.Op,.int .i64 x1.N,.str x1.Name,.sl 0 x1.Args]] (a9v n x1) (fun r=> .ob r):=by
 refine a1i (n:=10) Tryz.func69 rfl rfl rfl (fun _ _=>by kernel_rfl) fun F0 w0 r=> ?_
 unfold a9v
 refine gN (c4a _ _ _ _) rfl rfl rfl rfl rfl fun v1=> ?_
 refine gJ 3 (fun v2=> [.v 9 (.ob v2)]) rfl (fun _=>rfl) (fun J1 hJ1=> ?_) (fun v2=> ?_)
 ·
  refine gD rfl (fun _=> ?_) (fun _=> ?_)
  ·
   refine gA ?_
   refine gK (c2g _ _) rfl rfl rfl fun v3=> ?_
   exact gX hJ1 rfl (by kernel_rfl)
  ·
   exact gX hJ1 rfl (by kernel_rfl)
 exact gR rfl rfl rfl
theorem b9d(n:Nat)(t1:Tariff):FnC Wt 55 [.agg [.str t1.Name,.int .i64 t1.Fee.Op,.int .i64 t1.Fee.N,.str t1.Fee.Name,.sl 0 t1.Fee.Args,.int .i64 t1.Cap]] (a7c n t1) (fun r=> .ob r):=by
 refine a1i (n:=21) Tryz.func55 rfl rfl rfl (fun _ _=>by kernel_rfl) fun F0 w0 r=> ?_
 unfold a7c
 refine gK (b2k _ _) rfl rfl rfl fun v1=> ?_
 refine gJ 4 (fun v2=> [.v 10 (.ob v2)]) rfl (fun _=>rfl) (fun J1 hJ1=> ?_) (fun v2=> ?_)
 ·
  refine gD rfl (fun _=> ?_) (fun _=> ?_)
  ·
   refine gA ?_
   refine gK (b8e _ _) rfl rfl rfl fun v5=> ?_
   exact gX hJ1 rfl (by kernel_rfl)
  ·
   exact gX hJ1 rfl (by kernel_rfl)
 refine gJ 4 (fun v3=> [.v 15 (.ob v3)]) rfl (fun _=>rfl) (fun J2 hJ2=> ?_) (fun v3=> ?_)
 ·
  refine gD rfl (fun _=> ?_) (fun _=> ?_)
  ·
   exact gX hJ2 rfl (by kernel_rfl)
  ·
   exact gX hJ2 rfl (by kernel_rfl)
 refine gJ 4 (fun v4=> [.v 20 (.ob v4)]) rfl (fun _=>rfl) (fun J3 hJ3=> ?_) (fun v4=> ?_)
 ·
  refine gD rfl (fun _=> ?_) (fun _=> ?_)
  ·
   exact gX hJ3 rfl (by kernel_rfl)
  ·
   exact gX hJ3 rfl (by kernel_rfl)
 exact gR rfl rfl rfl
theorem b6n(n:Nat)(t1:Tariff)(names1:(List Bs)):FnC Wt 18 [.agg [.str t1.Name,.int .i64 t1.Fee.Op,.int .i64 t1.Fee.N,.str t1.Fee.Name,.sl 0 t1.Fee.Args,.int .i64 t1.Cap],.sl 1 names1] (b0j n t1 names1) (fun r=> .int .i64 r):=by
 refine a1i (n:=29) Tryz.func18 rfl rfl rfl (fun _ _=>by kernel_rfl) fun F0 w0 r=> ?_
 unfold b0j
 refine gK (b6m _ _) rfl rfl rfl fun v1=> ?_
 refine gC rfl (fun _=> ?_) (fun _=> ?_)
 ·
  exact gR rfl rfl rfl
 ·
  refine gK (b9d _ _) rfl rfl rfl fun v2=> ?_
  refine gC rfl (fun _=> ?_) (fun _=> ?_)
  ·
   exact gR rfl rfl rfl
  ·
   refine gK (b6u _ _ _) rfl rfl rfl fun v3=> ?_
   refine gJ 3 (fun v4=> [.v 27 (.ob v4)]) rfl (fun _=>rfl) (fun J1 hJ1=> ?_) (fun v4=> ?_)
   ·
    refine gD rfl (fun _=> ?_) (fun _=> ?_)
    ·
     exact gX hJ1 rfl (by kernel_rfl)
    ·
     exact gX hJ1 rfl (by kernel_rfl)
   refine gC rfl (fun _=> ?_) (fun _=> ?_)
   ·
    exact gR rfl rfl rfl
   ·
    exact gR rfl rfl rfl
theorem c5i(n:Nat)(x1:Expr)(names1:(List Bs)):FnC Wt 32 [.agg [.int .i64 x1.Op,.int .i64 x1.N,.str x1.Name,.sl 0 x1.Args],.sl 1 names1] (b7l n x1 names1) (fun r=> .tup [.int .i64 r.1,.int .i64 r.2]):=by
 refine a1i (n:=19) Tryz.func32 rfl rfl rfl (fun _ _=>by kernel_rfl) fun F0 w0 r=> ?_
 unfold b7l
 refine gK (b6m _ _) rfl rfl rfl fun v1=> ?_
 refine gC rfl (fun _=> ?_) (fun _=> ?_)
 ·
  exact gR rfl rfl rfl
 ·
  refine gK (b8e _ _) rfl rfl rfl fun v2=> ?_
  refine gC rfl (fun _=> ?_) (fun _=> ?_)
  ·
   exact gR rfl rfl rfl
  ·
   refine gK (b6u _ _ _) rfl rfl rfl fun v3=> ?_
   exact gR rfl rfl rfl
end Go.Proofs.YthaegflpecbfgaaGreatDoor.M
namespace Go.Proofs.YthaegflpecbfgaaGreatDoor.M
open Go Go.RowKit Rt
set_option maxRecDepth 1000000
set_option maxHeartbeats 40000000
theorem c7u(n:Nat)(ax1:Big)(b1:Big):FnC Wt 122 [.agg [.int .i64 ax1.Sign,.sl 2 ax1.Digits],.agg [.int .i64 b1.Sign,.sl 2 b1.Digits]] (b1b n ax1 b1) (fun r=> .ob r):=by
 refine a1i (n:=38) Tryz.func122 rfl rfl rfl (fun _ _=>by kernel_rfl) fun F0 w0 r=> ?_
 unfold b1b
 refine gJ 8 (fun v1=> [.v 19 (.ob v1)]) rfl (fun _=>rfl) (fun J1 hJ1=> ?_) (fun v1=> ?_)
 ·
  refine gD rfl (fun _=> ?_) (fun _=> ?_)
  ·
   exact gX hJ1 rfl (by kernel_rfl)
  ·
   exact gX hJ1 rfl (by kernel_rfl)
 refine gC rfl (fun _=> ?_) (fun _=> ?_)
 ·
  exact gR rfl rfl rfl
 ·
  refine a3c ((fun k0 m(s:Int)=>ref04_Same_L1 n ax1 b1 k0 m s) _) (fun(s:Int)=> [.v 5 (.int .i64 s)]) (fun _=>rfl) _ rfl rfl (fun _=>rfl) rfl fun K2 m2 hK2 i1=> ?_
  refine gC rfl (fun _=> ?_) (fun _=> ?_)
  ·
   refine gG rfl (by kernel_rfl) ?_
   refine gV rfl fun ex1=> ?_
   refine gV rfl fun ex2=> ?_
   refine gC rfl (fun _=> ?_) (fun _=> ?_)
   ·
    exact gR rfl rfl rfl
   ·
    exact gE hK2 _ rfl (by kernel_rfl)
  ·
   exact gR rfl rfl rfl
theorem a2i(n:Nat)(ax1:Big):FnC Wt 117 [.agg [.int .i64 ax1.Sign,.sl 2 ax1.Digits]] (a1x n ax1) (fun r=> .ob r):=by
 refine a1i (n:=56) Tryz.func117 rfl rfl rfl (fun _ _=>by kernel_rfl) fun F0 w0 r=> ?_
 unfold a1x
 refine a3c ((fun k0 m(s:Int)=>a6x n ax1 k0 m s) _) (fun(s:Int)=> [.v 3 (.int .i64 s)]) (fun _=>rfl) _ rfl rfl (fun _=>rfl) rfl fun K1 m1 hK1 i1=> ?_
 refine gC rfl (fun _=> ?_) (fun _=> ?_)
 ·
  refine gV rfl fun ex2=> ?_
  refine gJ 7 (fun v4=> [.v 25 (.ob v4)]) rfl (fun _=>rfl) (fun J2 hJ2=> ?_) (fun v4=> ?_)
  ·
   refine gD rfl (fun _=> ?_) (fun _=> ?_)
   ·
    exact gX hJ2 rfl (by kernel_rfl)
   ·
    refine gA ?_
    refine gV rfl fun ex3=> ?_
    exact gX hJ2 rfl (by kernel_rfl)
  refine gC rfl (fun _=> ?_) (fun _=> ?_)
  ·
   exact gR rfl rfl rfl
  ·
   exact gE hK1 _ rfl (by kernel_rfl)
 ·
  refine gJ 4 (fun v1=> [.v 36 (.ob v1)]) rfl (fun _=>rfl) (fun J3 hJ3=> ?_) (fun v1=> ?_)
  ·
   refine gD rfl (fun _=> ?_) (fun _=> ?_)
   ·
    exact gX hJ3 rfl (by kernel_rfl)
   ·
    exact gX hJ3 rfl (by kernel_rfl)
  refine gJ 7 (fun v2=> [.v 44 (.ob v2)]) rfl (fun _=>rfl) (fun J4 hJ4=> ?_) (fun v2=> ?_)
  ·
   refine gD rfl (fun _=> ?_) (fun _=> ?_)
   ·
    exact gX hJ4 rfl (by kernel_rfl)
   ·
    exact gX hJ4 rfl (by kernel_rfl)
  refine gC rfl (fun _=> ?_) (fun _=> ?_)
  ·
   exact gR rfl rfl rfl
  ·
   refine gJ 8 (fun v3=> [.v 55 (.ob v3)]) rfl (fun _=>rfl) (fun J5 hJ5=> ?_) (fun v3=> ?_)
   ·
    refine gD rfl (fun _=> ?_) (fun _=> ?_)
    ·
     exact gX hJ5 rfl (by kernel_rfl)
    ·
     refine gA ?_
     refine gV rfl fun ex1=> ?_
     exact gX hJ5 rfl (by kernel_rfl)
   exact gR rfl rfl rfl
theorem a7f(n:Nat)(l1:(List Int)):FnO Wt 180 [.sl 2 l1] (a2d n l1) 3 1 2 (fun r=>r):=by
 refine b4y (n:=23) Tryz.func180 rfl rfl rfl (fun _ _=>by kernel_rfl) fun F0 w0 r=> ?_
 unfold a2d
 refine a3c ((fun k0 m(s:Int)=>a7k n l1 k0 m s) _) (fun(s:Int)=> [.v 3 (.int .i64 s)]) (fun _=>rfl) _ rfl rfl (fun _=>rfl) rfl fun K1 m1 hK1 nx1=> ?_
 refine gJ 7 (fun v1=> [.v 15 (.ob v1)]) rfl (fun _=>rfl) (fun J2 hJ2=> ?_) (fun v1=> ?_)
 ·
  refine gD rfl (fun _=> ?_) (fun _=> ?_)
  ·
   refine gA ?_
   refine gV rfl fun ex1=> ?_
   exact gX hJ2 rfl (by kernel_rfl)
  ·
   exact gX hJ2 rfl (by kernel_rfl)
 refine gC rfl (fun _=> ?_) (fun _=> ?_)
 ·
  exact gE hK1 _ rfl (by kernel_rfl)
 ·
  refine gV rfl fun l2=> ?_
  refine gP rfl fun l3=> ?_
  exact gRO rfl
theorem a3s(n:Nat)(sign1:Int)(l1:(List Int)):FnC Wt 120 [.int .i64 sign1,.sl 2 l1] (a1z n sign1 l1) (fun r=> .agg [.int .i64 r.Sign,.sl 2 r.Digits]):=by
 refine a1i (n:=15) Tryz.func120 rfl rfl rfl (fun _ _=>by kernel_rfl) fun F0 w0 r=> ?_
 unfold a1z
 refine gO (a7f _ _) rfl rfl rfl fun v1=> ?_
 refine gC rfl (fun _=> ?_) (fun _=> ?_)
 ·
  exact gR rfl rfl rfl
 ·
  exact gR rfl rfl rfl
theorem b9i(n:Nat)(nx1:Int):FnC Wt 119 [.int .i64 nx1] (b2a n nx1) (fun r=> .agg [.int .i64 r.Sign,.sl 2 r.Digits]):=by
 refine a1i (n:=28) Tryz.func119 rfl rfl rfl (fun _ _=>by kernel_rfl) fun F0 w0 r=> ?_
 unfold b2a
 refine gC rfl (fun _=> ?_) (fun _=> ?_)
 ·
  exact gR rfl rfl rfl
 ·
  refine gD rfl (fun _=> ?_) (fun _=> ?_)
  ·
   refine gB ?_
   refine a3c ((fun k0 m(s:Int×List Int)=>b0e n k0 m s.1 s.2) _) (fun(s:Int×List Int)=> [.v 0 (.int .i64 s.1),.r 4 2 s.2]) (fun _=>rfl) (_,_) rfl rfl (fun _=>rfl) rfl fun K1 m1 hK1 z1=> ?_
   obtain⟨nx2,l1⟩:=z1;dsimp only
   refine gC rfl (fun _=> ?_) (fun _=> ?_)
   ·
    refine gV rfl fun q1=> ?_
    refine gD rfl (fun _=> ?_) (fun _=> ?_)
    ·
     refine gB ?_
     refine gP rfl fun l3=> ?_
     refine gV rfl fun q2=> ?_
     exact gE hK1 (_,_) rfl (by kernel_rfl)
    ·
     refine gB ?_
     refine gP rfl fun l3=> ?_
     refine gV rfl fun q2=> ?_
     exact gE hK1 (_,_) rfl (by kernel_rfl)
   ·
    refine gK (a3s _ _ _) rfl rfl rfl fun v1=> ?_
    exact gR rfl rfl rfl
  ·
   refine gB ?_
   refine a3c ((fun k0 m(s:Int×List Int)=>b0e n k0 m s.1 s.2) _) (fun(s:Int×List Int)=> [.v 0 (.int .i64 s.1),.r 4 2 s.2]) (fun _=>rfl) (_,_) rfl rfl (fun _=>rfl) rfl fun K2 m2 hK2 z2=> ?_
   obtain⟨nx2,l1⟩:=z2;dsimp only
   refine gC rfl (fun _=> ?_) (fun _=> ?_)
   ·
    refine gV rfl fun q1=> ?_
    refine gD rfl (fun _=> ?_) (fun _=> ?_)
    ·
     refine gB ?_
     refine gP rfl fun l3=> ?_
     refine gV rfl fun q2=> ?_
     exact gE hK2 (_,_) rfl (by kernel_rfl)
    ·
     refine gB ?_
     refine gP rfl fun l3=> ?_
     refine gV rfl fun q2=> ?_
     exact gE hK2 (_,_) rfl (by kernel_rfl)
   ·
    refine gK (a3s _ _ _) rfl rfl rfl fun v1=> ?_
    exact gR rfl rfl rfl
theorem a5i(n:Nat)(l1:(List Int))(i1:Int):FnC Wt 181 [.sl 2 l1,.int .i64 i1] (a4i n l1 i1) (fun r=> .int .i64 r):=by
 refine a1i (n:=13) Tryz.func181 rfl rfl rfl (fun _ _=>by kernel_rfl) fun F0 w0 r=> ?_
 unfold a4i
 refine gC rfl (fun _=> ?_) (fun _=> ?_)
 ·
  refine gV rfl fun ex1=> ?_
  exact gR rfl rfl rfl
 ·
  exact gR rfl rfl rfl
theorem b4s(n:Nat)(ax1:(List Int))(b1:(List Int)):FnC Wt 123 [.sl 2 ax1,.sl 2 b1] (a6a n ax1 b1) (fun r=> .ob r):=by
 refine a1i (n:=30) Tryz.func123 rfl rfl rfl (fun _ _=>by kernel_rfl) fun F0 w0 r=> ?_
 unfold a6a
 refine a3c ((fun k0 m(s:Int)=>a7v n ax1 b1 k0 m s) _) (fun(s:Int)=> [.v 5 (.int .i64 s)]) (fun _=>rfl) _ rfl rfl (fun _=>rfl) rfl fun K1 m1 hK1 i1=> ?_
 refine gC rfl (fun _=> ?_) (fun _=> ?_)
 ·
  refine gK (a5i _ _ _) rfl rfl rfl fun v1=> ?_
  refine gK (a5i _ _ _) rfl rfl rfl fun v2=> ?_
  refine gC rfl (fun _=> ?_) (fun _=> ?_)
  ·
   refine gK (a5i _ _ _) rfl rfl rfl fun v3=> ?_
   refine gK (a5i _ _ _) rfl rfl rfl fun v4=> ?_
   exact gR rfl rfl rfl
  ·
   exact gE hK1 _ rfl (by kernel_rfl)
 ·
  exact gR rfl rfl rfl
theorem c0g(n:Nat)(ax1:(List Int))(b1:(List Int)):FnO Wt 127 [.sl 2 ax1,.sl 2 b1] (a7j n ax1 b1) 3 1 2 (fun r=>r):=by
 refine b4y (n:=43) Tryz.func127 rfl rfl rfl (fun _ _=>by kernel_rfl) fun F0 w0 r=> ?_
 unfold a7j
 refine a3c ((fun k0 m(s:Int×Int×List Int)=>a9m n ax1 b1 k0 m s.1 s.2.1 s.2.2) _) (fun(s:Int×Int×List Int)=> [.r 5 2 s.2.2,.v 6 (.int .i64 s.1),.v 7 (.int .i64 s.2.1)]) (fun _=>rfl) (_,_,_) rfl rfl (fun _=>rfl) rfl fun K1 m1 hK1 z1=> ?_
 obtain⟨carry1,i1,l1⟩:=z1;dsimp only
 refine gJ 5 (fun v2=> [.v 18 (.ob v2)]) rfl (fun _=>rfl) (fun J2 hJ2=> ?_) (fun v2=> ?_)
 ·
  refine gD rfl (fun _=> ?_) (fun _=> ?_)
  ·
   exact gX hJ2 rfl (by kernel_rfl)
  ·
   exact gX hJ2 rfl (by kernel_rfl)
 refine gJ 3 (fun v3=> [.v 22 (.ob v3)]) rfl (fun _=>rfl) (fun J3 hJ3=> ?_) (fun v3=> ?_)
 ·
  refine gD rfl (fun _=> ?_) (fun _=> ?_)
  ·
   exact gX hJ3 rfl (by kernel_rfl)
  ·
   exact gX hJ3 rfl (by kernel_rfl)
 refine gC rfl (fun _=> ?_) (fun _=> ?_)
 ·
  refine gK (a5i _ _ _) rfl rfl rfl fun v4=> ?_
  refine gK (a5i _ _ _) rfl rfl rfl fun v5=> ?_
  refine gV rfl fun q1=> ?_
  refine gP rfl fun l3=> ?_
  refine gV rfl fun q2=> ?_
  exact gE hK1 (_,_,_) rfl (by kernel_rfl)
 ·
  refine gO (a7f _ _) rfl rfl rfl fun v1=> ?_
  exact gRO rfl
theorem b1a(n:Nat)(ax1:(List Int))(b1:(List Int)):FnO Wt 128 [.sl 2 ax1,.sl 2 b1] (a3a n ax1 b1) 3 1 2 (fun r=>r):=by
 refine b4y (n:=35) Tryz.func128 rfl rfl rfl (fun _ _=>by kernel_rfl) fun F0 w0 r=> ?_
 unfold a3a
 refine a3c ((fun k0 m(s:Int×Int×List Int)=>a5o n ax1 b1 k0 m s.1 s.2.1 s.2.2) _) (fun(s:Int×Int×List Int)=> [.r 5 2 s.2.2,.v 6 (.int .i64 s.1),.v 7 (.int .i64 s.2.1)]) (fun _=>rfl) (_,_,_) rfl rfl (fun _=>rfl) rfl fun K1 m1 hK1 z1=> ?_
 obtain⟨borrow1,i1,l1⟩:=z1;dsimp only
 refine gC rfl (fun _=> ?_) (fun _=> ?_)
 ·
  refine gG rfl (by kernel_rfl) ?_
  refine gV rfl fun ex1=> ?_
  refine gQ (a5i _ _ _) rfl rfl rfl (fun _=>rfl) fun v2=> ?_
  refine gM (fun j2=> [.v 6 (.int .i64 j2.1),.v 8 (.int .i64 j2.2)]) rfl (fun _=>rfl) (fun J2 hJ2=> ?_) (fun j2=> ?_)
  ·
   refine gD rfl (fun _=> ?_) (fun _=> ?_)
   ·
    exact gX hJ2 rfl (by kernel_rfl)
   ·
    exact gX hJ2 rfl (by kernel_rfl)
  obtain⟨borrow2,nx1⟩:=j2;dsimp only
  refine gP rfl fun l3=> ?_
  exact gE hK1 (_,_,_) rfl (by kernel_rfl)
 ·
  refine gO (a7f _ _) rfl rfl rfl fun v1=> ?_
  exact gRO rfl
theorem b3r(n:Nat)(ax1:(List Int))(b1:(List Int)):FnO Wt 121 [.sl 2 ax1,.sl 2 b1] (a4j n ax1 b1) 3 1 2 (fun r=>r):=by
 refine b4y (n:=60) Tryz.func121 rfl rfl rfl (fun _ _=>by kernel_rfl) fun F0 w0 r=> ?_
 unfold a4j
 refine gMk wzOk rfl fun l1=> ?_
 refine a3c ((fun k0 m(s:Int×List Int)=>a4o n ax1 b1 k0 m s.1 s.2) _) (fun(s:Int×List Int)=> [.r 5 2 s.2,.v 6 (.int .i64 s.1)]) (fun _=>rfl) (_,_) rfl rfl (fun _=>rfl) rfl fun K1 m1 hK1 z1=> ?_
 obtain⟨i1,l2⟩:=z1;dsimp only
 refine gC rfl (fun _=> ?_) (fun _=> ?_)
 ·
  refine a3c ((fun k0 m(s:Int×Int×List Int)=>a8e n ax1 b1 i1 k0 m s.1 s.2.1 s.2.2) _) (fun(s:Int×Int×List Int)=> [.r 5 2 s.2.2,.v 7 (.int .i64 s.1),.v 8 (.int .i64 s.2.1)]) (fun _=>rfl) (_,_,_) rfl rfl (fun _=>rfl) rfl fun K2 m2 hK2 z2=> ?_
  obtain⟨carry1,k1,l4⟩:=z2;dsimp only
  refine gJ 3 (fun v2=> [.v 29 (.ob v2)]) rfl (fun _=>rfl) (fun J3 hJ3=> ?_) (fun v2=> ?_)
  ·
   refine gD rfl (fun _=> ?_) (fun _=> ?_)
   ·
    exact gX hJ3 rfl (by kernel_rfl)
   ·
    exact gX hJ3 rfl (by kernel_rfl)
  refine gC rfl (fun _=> ?_) (fun _=> ?_)
  ·
   refine gG rfl (by kernel_rfl) ?_
   refine gV rfl fun ex1=> ?_
   refine gV rfl fun ex2=> ?_
   refine gQ (a5i _ _ _) rfl rfl rfl (fun _=>rfl) fun v3=> ?_
   refine gV rfl fun q1=> ?_
   refine gV rfl fun _=> ?_
   refine gW rfl rfl fun l6=> ?_
   refine gV rfl fun q2=> ?_
   exact gE hK2 (_,_,_) rfl (by kernel_rfl)
  ·
   exact gE hK1 (_,_) rfl (by kernel_rfl)
 ·
  refine gO (a7f _ _) rfl rfl rfl fun v1=> ?_
  exact gRO rfl
theorem c0d(n:Nat)(ax1:(List Int))(b1:(List Int)):FnC Wt 179 [.sl 2 ax1,.sl 2 b1] (a8v n ax1 b1) (fun r=> .tup [.sl 2 r.1,.sl 2 r.2]):=by
 refine a1i (n:=60) Tryz.func179 rfl rfl rfl (fun _ _=>by kernel_rfl) fun F0 w0 r=> ?_
 unfold a8v
 refine gMk wzOk rfl fun l1=> ?_
 refine a3c ((fun k0 m(s:(List Int)×Int×List Int)=>a6i n ax1 b1 k0 m s.1 s.2.1 s.2.2) _) (fun(s:(List Int)×Int×List Int)=> [.r 6 2 s.2.2,.v 7 (.sl 2 s.1),.v 8 (.int .i64 s.2.1)]) (fun _=>rfl) (_,_,_) rfl rfl (fun _=>rfl) rfl fun K1 m1 hK1 z1=> ?_
 obtain⟨rx1,i1,l2⟩:=z1;dsimp only
 refine gC rfl (fun _=> ?_) (fun _=> ?_)
 ·
  refine gV rfl fun ex1=> ?_
  refine gP rfl fun l4=> ?_
  refine gO (a7f _ _) rfl rfl rfl fun v2=> ?_
  refine gFr 7 rfl ?_
  refine a3c ((fun k0 m(s:Int×Int)=>a7o n b1 v2 k0 m s.1 s.2) _) (fun(s:Int×Int)=> [.v 9 (.int .i64 s.1),.v 10 (.int .i64 s.2)]) (fun _=>rfl) (_,_) rfl rfl (fun _=>rfl) rfl fun K2 m2 hK2 z2=> ?_
  obtain⟨lo1,hi1⟩:=z2;dsimp only
  refine gC rfl (fun _=> ?_) (fun _=> ?_)
  ·
   refine gV rfl fun q1=> ?_
   refine gO (b3r _ _ _) rfl rfl rfl fun v6=> ?_
   refine gK (b4s _ _ _) rfl rfl rfl fun v7=> ?_
   refine gC rfl (fun _=> ?_) (fun _=> ?_)
   ·
    exact gE hK2 (_,_) rfl (by kernel_rfl)
   ·
    exact gE hK2 (_,_) rfl (by kernel_rfl)
  ·
   refine gV rfl fun _=> ?_
   refine gW rfl rfl fun l5=> ?_
   refine gO (a7f _ _) rfl rfl rfl fun v3=> ?_
   refine gO (b3r _ _ _) rfl rfl rfl fun v4=> ?_
   refine gO (b1a _ _ _) rfl rfl rfl fun v5=> ?_
   refine gFr 7 rfl ?_
   exact gE hK1 (_,_,_) rfl (by kernel_rfl)
 ·
  refine gO (a7f _ _) rfl rfl rfl fun v1=> ?_
  exact gR rfl rfl rfl
theorem b5m(n:Nat)(ax1:Big)(b1:Big):FnC Wt 63 [.agg [.int .i64 ax1.Sign,.sl 2 ax1.Digits],.agg [.int .i64 b1.Sign,.sl 2 b1.Digits]] (a7s n ax1 b1) (fun r=> .int .i64 r):=by
 refine a1i (n:=37) Tryz.func63 rfl rfl rfl (fun _ _=>by kernel_rfl) fun F0 w0 r=> ?_
 unfold a7s
 refine gK (a2i _ _) rfl rfl rfl fun v1=> ?_
 refine gJ 4 (fun v2=> [.v 12 (.ob v2)]) rfl (fun _=>rfl) (fun J1 hJ1=> ?_) (fun v2=> ?_)
 ·
  refine gD rfl (fun _=> ?_) (fun _=> ?_)
  ·
   exact gX hJ1 rfl (by kernel_rfl)
  ·
   refine gA ?_
   refine gK (a2i _ _) rfl rfl rfl fun v6=> ?_
   exact gX hJ1 rfl (by kernel_rfl)
 refine gJ 4 (fun v3=> [.v 17 (.ob v3)]) rfl (fun _=>rfl) (fun J2 hJ2=> ?_) (fun v3=> ?_)
 ·
  refine gD rfl (fun _=> ?_) (fun _=> ?_)
  ·
   exact gX hJ2 rfl (by kernel_rfl)
  ·
   refine gA ?_
   refine gK (c7u _ _ _) rfl rfl rfl fun v5=> ?_
   exact gX hJ2 rfl (by kernel_rfl)
 refine gC rfl (fun _=> ?_) (fun _=> ?_)
 ·
  exact gR rfl rfl rfl
 ·
  refine gC rfl (fun _=> ?_) (fun _=> ?_)
  ·
   refine gC rfl (fun _=> ?_) (fun _=> ?_)
   ·
    exact gR rfl rfl rfl
   ·
    exact gR rfl rfl rfl
  ·
   refine gG rfl (by kernel_rfl) ?_
   refine gQ (b4s _ _ _) rfl rfl rfl (fun _=>rfl) fun v4=> ?_
   refine gC rfl (fun _=> ?_) (fun _=> ?_)
   ·
    exact gR rfl rfl rfl
   ·
    exact gR rfl rfl rfl
theorem c2i(n:Nat)(ax1:Big):FnC Wt 125 [.agg [.int .i64 ax1.Sign,.sl 2 ax1.Digits]] (b2w n ax1) (fun r=> .agg [.int .i64 r.Sign,.sl 2 r.Digits]):=by
 refine a1i (n:=13) Tryz.func125 rfl rfl rfl (fun _ _=>by kernel_rfl) fun F0 w0 r=> ?_
 unfold b2w
 refine gK (a2i _ _) rfl rfl rfl fun v1=> ?_
 refine gC rfl (fun _=> ?_) (fun _=> ?_)
 ·
  exact gR rfl rfl rfl
 ·
  refine gK (a3s _ _ _) rfl rfl rfl fun v2=> ?_
  exact gR rfl rfl rfl
theorem d0c(n:Nat)(ax1:Big)(b1:Big):FnC Wt 68 [.agg [.int .i64 ax1.Sign,.sl 2 ax1.Digits],.agg [.int .i64 b1.Sign,.sl 2 b1.Digits]] (b5b n ax1 b1) (fun r=> .tup [.agg [.int .i64 r.1.Sign,.sl 2 r.1.Digits],.int .i64 r.2]):=by
 refine a1i (n:=62) Tryz.func68 rfl rfl rfl (fun _ _=>by kernel_rfl) fun F0 w0 r=> ?_
 unfold b5b
 refine gK (a2i _ _) rfl rfl rfl fun v1=> ?_
 refine gJ 4 (fun v2=> [.v 13 (.ob v2)]) rfl (fun _=>rfl) (fun J1 hJ1=> ?_) (fun v2=> ?_)
 ·
  refine gD rfl (fun _=> ?_) (fun _=> ?_)
  ·
   exact gX hJ1 rfl (by kernel_rfl)
  ·
   refine gA ?_
   refine gK (a2i _ _) rfl rfl rfl fun v12=> ?_
   exact gX hJ1 rfl (by kernel_rfl)
 refine gC rfl (fun _=> ?_) (fun _=> ?_)
 ·
  exact gR rfl rfl rfl
 ·
  refine gJ 4 (fun v3=> [.v 22 (.ob v3)]) rfl (fun _=>rfl) (fun J2 hJ2=> ?_) (fun v3=> ?_)
  ·
   refine gD rfl (fun _=> ?_) (fun _=> ?_)
   ·
    exact gX hJ2 rfl (by kernel_rfl)
   ·
    exact gX hJ2 rfl (by kernel_rfl)
  refine gJ 6 (fun v4=> [.v 29 (.ob v4)]) rfl (fun _=>rfl) (fun J3 hJ3=> ?_) (fun v4=> ?_)
  ·
   refine gD rfl (fun _=> ?_) (fun _=> ?_)
   ·
    exact gX hJ3 rfl (by kernel_rfl)
   ·
    exact gX hJ3 rfl (by kernel_rfl)
  refine gC rfl (fun _=> ?_) (fun _=> ?_)
  ·
   refine gHs [(4,(pL [0,2,4,6,8,10,12,14,16,19,21,23,25] .nil)),(6,(pL [0,2,4,6,8,10,13,15,17,19] .nil)),(7,(pL [0,2,4,6,8,10,13,15,17,19] .nil))] rfl (by kernel_rfl) rfl rfl fun Ky=> ?_
   refine gO (c0g _ _ _) rfl rfl rfl fun v5=> ?_
   refine gK (a3s _ _ _) rfl rfl rfl fun v6=> ?_
   refine gHe rfl ?_
   exact gR rfl rfl rfl
  ·
   refine gK (b4s _ _ _) rfl rfl rfl fun v7=> ?_
   refine gC rfl (fun _=> ?_) (fun _=> ?_)
   ·
    refine gHs [(4,(pL [0,2,4,6,8,10,12,14,16,19,21,23,25] .nil)),(6,(pL [0,2,4,6,8,10,13,15,17,19] .nil)),(7,(pL [0,2,4,6,8,10,13,15,17,19] .nil))] rfl (by kernel_rfl) rfl rfl fun Ky=> ?_
    refine gO (b1a _ _ _) rfl rfl rfl fun v8=> ?_
    refine gK (a3s _ _ _) rfl rfl rfl fun v9=> ?_
    refine gHe rfl ?_
    exact gR rfl rfl rfl
   ·
    refine gHs [(4,(pL [0,2,4,6,8,10,12,14,16,19,21,23,25] .nil)),(6,(pL [0,2,4,6,8,10,13,15,17,19] .nil)),(7,(pL [0,2,4,6,8,10,13,15,17,19] .nil))] rfl (by kernel_rfl) rfl rfl fun Ky=> ?_
    refine gO (b1a _ _ _) rfl rfl rfl fun v10=> ?_
    refine gK (a3s _ _ _) rfl rfl rfl fun v11=> ?_
    refine gHe rfl ?_
    exact gR rfl rfl rfl
theorem a8l(n:Nat)(ax1:Big)(b1:Big):FnC Wt 62 [.agg [.int .i64 ax1.Sign,.sl 2 ax1.Digits],.agg [.int .i64 b1.Sign,.sl 2 b1.Digits]] (a5g n ax1 b1) (fun r=> .tup [.agg [.int .i64 r.1.Sign,.sl 2 r.1.Digits],.int .i64 r.2]):=by
 refine a1i (n:=26) Tryz.func62 rfl rfl rfl (fun _ _=>by kernel_rfl) fun F0 w0 r=> ?_
 unfold a5g
 refine gK (a2i _ _) rfl rfl rfl fun v1=> ?_
 refine gJ 4 (fun v2=> [.v 13 (.ob v2)]) rfl (fun _=>rfl) (fun J1 hJ1=> ?_) (fun v2=> ?_)
 ·
  refine gD rfl (fun _=> ?_) (fun _=> ?_)
  ·
   exact gX hJ1 rfl (by kernel_rfl)
  ·
   refine gA ?_
   refine gK (a2i _ _) rfl rfl rfl fun v5=> ?_
   exact gX hJ1 rfl (by kernel_rfl)
 refine gC rfl (fun _=> ?_) (fun _=> ?_)
 ·
  exact gR rfl rfl rfl
 ·
  refine gHs [(3,(pL [0,2,4,6,8,10,12,14,16,19,21,23,25] .nil))] rfl (by kernel_rfl) rfl rfl fun Ky=> ?_
  refine gO (b3r _ _ _) rfl rfl rfl fun v3=> ?_
  refine gK (a3s _ _ _) rfl rfl rfl fun v4=> ?_
  refine gHe rfl ?_
  exact gR rfl rfl rfl
theorem c1q(n:Nat)(ax1:Big)(b1:Big):FnC Wt 126 [.agg [.int .i64 ax1.Sign,.sl 2 ax1.Digits],.agg [.int .i64 b1.Sign,.sl 2 b1.Digits]] (b0m n ax1 b1) (fun r=> .tup [.agg [.int .i64 r.1.Sign,.sl 2 r.1.Digits],.agg [.int .i64 r.2.1.Sign,.sl 2 r.2.1.Digits],.int .i64 r.2.2]):=by
 refine a1i (n:=65) Tryz.func126 rfl rfl rfl (fun _ _=>by kernel_rfl) fun F0 w0 r=> ?_
 unfold b0m
 refine gK (a2i _ _) rfl rfl rfl fun v1=> ?_
 refine gJ 4 (fun v2=> [.v 16 (.ob v2)]) rfl (fun _=>rfl) (fun J1 hJ1=> ?_) (fun v2=> ?_)
 ·
  refine gD rfl (fun _=> ?_) (fun _=> ?_)
  ·
   exact gX hJ1 rfl (by kernel_rfl)
  ·
   refine gA ?_
   refine gK (a2i _ _) rfl rfl rfl fun v11=> ?_
   exact gX hJ1 rfl (by kernel_rfl)
 refine gC rfl (fun _=> ?_) (fun _=> ?_)
 ·
  exact gR rfl rfl rfl
 ·
  refine gC rfl (fun _=> ?_) (fun _=> ?_)
  ·
   exact gR rfl rfl rfl
  ·
   refine gK (c0d _ _ _) rfl rfl rfl fun v3=> ?_
   refine gJ 4 (fun v4=> [.v 42 (.ob v4)]) rfl (fun _=>rfl) (fun J2 hJ2=> ?_) (fun v4=> ?_)
   ·
    refine gD rfl (fun _=> ?_) (fun _=> ?_)
    ·
     exact gX hJ2 rfl (by kernel_rfl)
    ·
     exact gX hJ2 rfl (by kernel_rfl)
   refine gC rfl (fun _=> ?_) (fun _=> ?_)
   ·
    refine gHs [(7,(pL [0,2,4,6,8,10,14,16,18,13,21,23,25,27] .nil)),(8,(pL [0,8,10,12,14,16,3,5,7,19,21,23,25,27] .nil))] rfl (by kernel_rfl) rfl rfl fun Ky=> ?_
    refine gK (a3s _ _ _) rfl rfl rfl fun v5=> ?_
    refine gK (a3s _ _ _) rfl rfl rfl fun v6=> ?_
    refine gHe rfl ?_
    exact gR rfl rfl rfl
   ·
    refine gHs [(7,(pL [0,2,4,6,8,10,14,16,18,13,21,23,25,27] .nil)),(8,(pL [0,8,10,12,14,16,3,5,7,19,21,23,25,27] .nil))] rfl (by kernel_rfl) rfl rfl fun Ky=> ?_
    refine gO (c0g _ _ _) rfl rfl rfl fun v7=> ?_
    refine gK (a3s _ _ _) rfl rfl rfl fun v8=> ?_
    refine gO (b1a _ _ _) rfl rfl rfl fun v9=> ?_
    refine gK (a3s _ _ _) rfl rfl rfl fun v10=> ?_
    refine gHe rfl ?_
    exact gR rfl rfl rfl
theorem c1g(n:Nat)(ax1:Big)(b1:Big):FnC Wt 118 [.agg [.int .i64 ax1.Sign,.sl 2 ax1.Digits],.agg [.int .i64 b1.Sign,.sl 2 b1.Digits]] (b1h n ax1 b1) (fun r=> .tup [.agg [.int .i64 r.1.Sign,.sl 2 r.1.Digits],.int .i64 r.2]):=by
 refine a1i (n:=36) Tryz.func118 rfl rfl rfl (fun _ _=>by kernel_rfl) fun F0 w0 r=> ?_
 unfold b1h
 refine gK (a2i _ _) rfl rfl rfl fun v1=> ?_
 refine gJ 4 (fun v2=> [.v 17 (.ob v2)]) rfl (fun _=>rfl) (fun J1 hJ1=> ?_) (fun v2=> ?_)
 ·
  refine gD rfl (fun _=> ?_) (fun _=> ?_)
  ·
   exact gX hJ1 rfl (by kernel_rfl)
  ·
   refine gA ?_
   refine gK (a2i _ _) rfl rfl rfl fun v5=> ?_
   exact gX hJ1 rfl (by kernel_rfl)
 refine gC rfl (fun _=> ?_) (fun _=> ?_)
 ·
  exact gR rfl rfl rfl
 ·
  refine a3c ((fun k0 m(s:(List Int)×(List Int))=>a8q n k0 m s.1 s.2) _) (fun(s:(List Int)×(List Int))=> [.v 6 (.sl 2 s.1),.v 7 (.sl 2 s.2)]) (fun _=>rfl) (_,_) rfl rfl (fun _=>rfl) rfl fun K2 m2 hK2 z2=> ?_
  obtain⟨x1,y1⟩:=z2;dsimp only
  refine gC rfl (fun _=> ?_) (fun _=> ?_)
  ·
   refine gK (c0d _ _ _) rfl rfl rfl fun v4=> ?_
   exact gE hK2 (_,_) rfl (by kernel_rfl)
  ·
   refine gK (a3s _ _ _) rfl rfl rfl fun v3=> ?_
   exact gR rfl rfl rfl
end Go.Proofs.YthaegflpecbfgaaGreatDoor.M
namespace Go.Proofs.YthaegflpecbfgaaGreatDoor.M
open Go Go.RowKit Rt
set_option maxRecDepth 1000000
set_option maxHeartbeats 40000000
theorem a3m(n:Nat)(f1:Frac):FnC Wt 57 [.agg [.int .i64 f1.P.Sign,.sl 2 f1.P.Digits,.int .i64 f1.Q.Sign,.sl 2 f1.Q.Digits]] (a2j n f1) (fun r=> .ob r):=by
 refine a1i (n:=33) Tryz.func57 rfl rfl rfl (fun _ _=>by kernel_rfl) fun F0 w0 r=> ?_
 unfold a2j
 refine gK (a2i _ _) rfl rfl rfl fun v1=> ?_
 refine gJ 5 (fun v2=> [.v 14 (.ob v2)]) rfl (fun _=>rfl) (fun J1 hJ1=> ?_) (fun v2=> ?_)
 ·
  refine gD rfl (fun _=> ?_) (fun _=> ?_)
  ·
   exact gX hJ1 rfl (by kernel_rfl)
  ·
   refine gA ?_
   refine gK (a2i _ _) rfl rfl rfl fun v7=> ?_
   exact gX hJ1 rfl (by kernel_rfl)
 refine gJ 5 (fun v3=> [.v 20 (.ob v3)]) rfl (fun _=>rfl) (fun J2 hJ2=> ?_) (fun v3=> ?_)
 ·
  refine gD rfl (fun _=> ?_) (fun _=> ?_)
  ·
   exact gX hJ2 rfl (by kernel_rfl)
  ·
   exact gX hJ2 rfl (by kernel_rfl)
 refine gC rfl (fun _=> ?_) (fun _=> ?_)
 ·
  exact gR rfl rfl rfl
 ·
  refine gK (c1g _ _ _) rfl rfl rfl fun v4=> ?_
  refine gHs [(4,(pL [0,3,5,7,9] .nil))] rfl (by kernel_rfl) rfl rfl fun Ky=> ?_
  refine gK (b9i _ _) rfl rfl rfl fun v5=> ?_
  refine gK (b5m _ _ _) rfl rfl rfl fun v6=> ?_
  refine gHe rfl ?_
  exact gR rfl rfl rfl
theorem b6z(n:Nat)(p1:Big)(q1:Big):FnC Wt 66 [.agg [.int .i64 p1.Sign,.sl 2 p1.Digits],.agg [.int .i64 q1.Sign,.sl 2 q1.Digits]] (b1g n p1 q1) (fun r=> .tup [.agg [.int .i64 r.1.P.Sign,.sl 2 r.1.P.Digits,.int .i64 r.1.Q.Sign,.sl 2 r.1.Q.Digits],.int .i64 r.2]):=by
 refine a1i (n:=57) Tryz.func66 rfl rfl rfl (fun _ _=>by kernel_rfl) fun F0 w0 r=> ?_
 unfold b1g
 refine gK (a2i _ _) rfl rfl rfl fun v1=> ?_
 refine gJ 4 (fun v2=> [.v 21 (.ob v2)]) rfl (fun _=>rfl) (fun J1 hJ1=> ?_) (fun v2=> ?_)
 ·
  refine gD rfl (fun _=> ?_) (fun _=> ?_)
  ·
   exact gX hJ1 rfl (by kernel_rfl)
  ·
   refine gA ?_
   refine gK (a2i _ _) rfl rfl rfl fun v8=> ?_
   exact gX hJ1 rfl (by kernel_rfl)
 refine gC rfl (fun _=> ?_) (fun _=> ?_)
 ·
  exact gR rfl rfl rfl
 ·
  refine gC rfl (fun _=> ?_) (fun _=> ?_)
  ·
   exact gR rfl rfl rfl
  ·
   refine gM (fun j2=> [.b 2 [.int .i64 j2.2.2.1,.sl 2 j2.2.2.2],.b 3 [.int .i64 j2.1,.sl 2 j2.2.1]]) rfl (fun _=>rfl) (fun J2 hJ2=> ?_) (fun j2=> ?_)
   ·
    refine gD rfl (fun _=> ?_) (fun _=> ?_)
    ·
     refine gA ?_
     refine gK (c2i _ _) rfl rfl rfl fun v6=> ?_
     refine gA ?_
     refine gK (c2i _ _) rfl rfl rfl fun v7=> ?_
     exact gX hJ2 rfl (by kernel_rfl)
    ·
     exact gX hJ2 rfl (by kernel_rfl)
   obtain⟨f1,f2,f3,f4⟩:=j2;dsimp only
   refine gK (c1g _ _ _) rfl rfl rfl fun v3=> ?_
   refine gK (c1q _ _ _) rfl rfl rfl fun v4=> ?_
   refine gK (c1q _ _ _) rfl rfl rfl fun v5=> ?_
   exact gR rfl rfl rfl
theorem b9l(n:Nat)(p1:Int)(q1:Int):FnC Wt 59 [.int .i64 p1,.int .i64 q1] (b3t n p1 q1) (fun r=> .tup [.agg [.int .i64 r.1.P.Sign,.sl 2 r.1.P.Digits,.int .i64 r.1.Q.Sign,.sl 2 r.1.Q.Digits],.int .i64 r.2]):=by
 refine a1i (n:=13) Tryz.func59 rfl rfl rfl (fun _ _=>by kernel_rfl) fun F0 w0 r=> ?_
 unfold b3t
 refine gK (b9i _ _) rfl rfl rfl fun v1=> ?_
 refine gK (b9i _ _) rfl rfl rfl fun v2=> ?_
 refine gK (b6z _ _ _) rfl rfl rfl fun v3=> ?_
 exact gR rfl rfl rfl
theorem c3k(n:Nat)(ax1:Frac)(b1:Frac):FnC Wt 31 [.agg [.int .i64 ax1.P.Sign,.sl 2 ax1.P.Digits,.int .i64 ax1.Q.Sign,.sl 2 ax1.Q.Digits],.agg [.int .i64 b1.P.Sign,.sl 2 b1.P.Digits,.int .i64 b1.Q.Sign,.sl 2 b1.Q.Digits]] (a7h n ax1 b1) (fun r=> .tup [.agg [.int .i64 r.1.P.Sign,.sl 2 r.1.P.Digits,.int .i64 r.1.Q.Sign,.sl 2 r.1.Q.Digits],.int .i64 r.2]):=by
 refine a1i (n:=58) Tryz.func31 rfl rfl rfl (fun _ _=>by kernel_rfl) fun F0 w0 r=> ?_
 unfold a7h
 refine gK (a3m _ _) rfl rfl rfl fun v1=> ?_
 refine gJ 4 (fun v2=> [.v 21 (.ob v2)]) rfl (fun _=>rfl) (fun J1 hJ1=> ?_) (fun v2=> ?_)
 ·
  refine gD rfl (fun _=> ?_) (fun _=> ?_)
  ·
   exact gX hJ1 rfl (by kernel_rfl)
  ·
   refine gA ?_
   refine gK (a3m _ _) rfl rfl rfl fun v8=> ?_
   exact gX hJ1 rfl (by kernel_rfl)
 refine gC rfl (fun _=> ?_) (fun _=> ?_)
 ·
  exact gR rfl rfl rfl
 ·
  refine gK (a8l _ _ _) rfl rfl rfl fun v3=> ?_
  refine gK (a8l _ _ _) rfl rfl rfl fun v4=> ?_
  refine gK (a8l _ _ _) rfl rfl rfl fun v5=> ?_
  refine gK (d0c _ _ _) rfl rfl rfl fun v6=> ?_
  refine gK (b6z _ _ _) rfl rfl rfl fun v7=> ?_
  exact gR rfl rfl rfl
theorem b7v(n:Nat)(ax1:Frac)(b1:Frac):FnC Wt 60 [.agg [.int .i64 ax1.P.Sign,.sl 2 ax1.P.Digits,.int .i64 ax1.Q.Sign,.sl 2 ax1.Q.Digits],.agg [.int .i64 b1.P.Sign,.sl 2 b1.P.Digits,.int .i64 b1.Q.Sign,.sl 2 b1.Q.Digits]] (a8g n ax1 b1) (fun r=> .tup [.agg [.int .i64 r.1.P.Sign,.sl 2 r.1.P.Digits,.int .i64 r.1.Q.Sign,.sl 2 r.1.Q.Digits],.int .i64 r.2]):=by
 refine a1i (n:=40) Tryz.func60 rfl rfl rfl (fun _ _=>by kernel_rfl) fun F0 w0 r=> ?_
 unfold a8g
 refine gK (a3m _ _) rfl rfl rfl fun v1=> ?_
 refine gJ 4 (fun v2=> [.v 17 (.ob v2)]) rfl (fun _=>rfl) (fun J1 hJ1=> ?_) (fun v2=> ?_)
 ·
  refine gD rfl (fun _=> ?_) (fun _=> ?_)
  ·
   exact gX hJ1 rfl (by kernel_rfl)
  ·
   refine gA ?_
   refine gK (a3m _ _) rfl rfl rfl fun v6=> ?_
   exact gX hJ1 rfl (by kernel_rfl)
 refine gC rfl (fun _=> ?_) (fun _=> ?_)
 ·
  exact gR rfl rfl rfl
 ·
  refine gK (a8l _ _ _) rfl rfl rfl fun v3=> ?_
  refine gK (a8l _ _ _) rfl rfl rfl fun v4=> ?_
  refine gK (b6z _ _ _) rfl rfl rfl fun v5=> ?_
  exact gR rfl rfl rfl
theorem b7c(n:Nat)(nx1:Int):FnC Wt 26 [.int .i64 nx1] (b1w n nx1) (fun r=> .agg [.int .i64 r.P.Sign,.sl 2 r.P.Digits,.int .i64 r.Q.Sign,.sl 2 r.Q.Digits]):=by
 refine a1i (n:=11) Tryz.func26 rfl rfl rfl (fun _ _=>by kernel_rfl) fun F0 w0 r=> ?_
 unfold b1w
 refine gK (b9l _ _ _) rfl rfl rfl fun v1=> ?_
 exact gR rfl rfl rfl
theorem c7f(n:Nat)(f1:Frac):FnC Wt 58 [.agg [.int .i64 f1.P.Sign,.sl 2 f1.P.Digits,.int .i64 f1.Q.Sign,.sl 2 f1.Q.Digits]] (b3c n f1) (fun r=> .int .i64 r):=by
 refine a1i (n:=9) Tryz.func58 rfl rfl rfl (fun _ _=>by kernel_rfl) fun F0 w0 r=> ?_
 unfold b3c
 refine gK (a3m _ _) rfl rfl rfl fun v1=> ?_
 refine gC rfl (fun _=> ?_) (fun _=> ?_)
 ·
  exact gR rfl rfl rfl
 ·
  exact gR rfl rfl rfl
theorem b1p(n:Nat)(ax1:Frac)(b1:Frac):FnC Wt 23 [.agg [.int .i64 ax1.P.Sign,.sl 2 ax1.P.Digits,.int .i64 ax1.Q.Sign,.sl 2 ax1.Q.Digits],.agg [.int .i64 b1.P.Sign,.sl 2 b1.P.Digits,.int .i64 b1.Q.Sign,.sl 2 b1.Q.Digits]] (a3l n ax1 b1) (fun r=> .int .i64 r):=by
 refine a1i (n:=36) Tryz.func23 rfl rfl rfl (fun _ _=>by kernel_rfl) fun F0 w0 r=> ?_
 unfold a3l
 refine gK (a3m _ _) rfl rfl rfl fun v1=> ?_
 refine gJ 4 (fun v2=> [.v 16 (.ob v2)]) rfl (fun _=>rfl) (fun J1 hJ1=> ?_) (fun v2=> ?_)
 ·
  refine gD rfl (fun _=> ?_) (fun _=> ?_)
  ·
   exact gX hJ1 rfl (by kernel_rfl)
  ·
   refine gA ?_
   refine gK (a3m _ _) rfl rfl rfl fun v6=> ?_
   exact gX hJ1 rfl (by kernel_rfl)
 refine gC rfl (fun _=> ?_) (fun _=> ?_)
 ·
  exact gR rfl rfl rfl
 ·
  refine gK (a8l _ _ _) rfl rfl rfl fun v3=> ?_
  refine gK (a8l _ _ _) rfl rfl rfl fun v4=> ?_
  refine gK (b5m _ _ _) rfl rfl rfl fun v5=> ?_
  exact gR rfl rfl rfl
end Go.Proofs.YthaegflpecbfgaaGreatDoor.M
namespace Go.Proofs.YthaegflpecbfgaaGreatDoor.M
open Go Go.RowKit Rt
set_option maxRecDepth 1000000
set_option maxHeartbeats 40000000
theorem c6j(n:Nat)(nx1:Int)(high1:Int):FnC Wt 106 [.int .i64 nx1,.int .i64 high1] (c8r n nx1 high1) (fun r=> .ob r):=by
 refine a1i (n:=12) Tryz.func106 rfl rfl rfl (fun _ _=>by kernel_rfl) fun F0 w0 r=> ?_
 unfold c8r
 refine gJ 4 (fun v1=> [.v 11 (.ob v1)]) rfl (fun _=>rfl) (fun J1 hJ1=> ?_) (fun v1=> ?_)
 ·
  refine gD rfl (fun _=> ?_) (fun _=> ?_)
  ·
   exact gX hJ1 rfl (by kernel_rfl)
  ·
   exact gX hJ1 rfl (by kernel_rfl)
 exact gR rfl rfl rfl
theorem c5u(n:Nat)(k1:Int):FnC Wt 105 [.int .i64 k1] (b4a n k1) (fun r=> .ob r):=by
 refine a1i (n:=6) Tryz.func105 rfl rfl rfl (fun _ _=>by kernel_rfl) fun F0 w0 r=> ?_
 unfold b4a
 refine gK (c6j _ _ _) rfl rfl rfl fun v1=> ?_
 exact gR rfl rfl rfl
theorem c6e(n:Nat)(wx1:Frac):FnC Wt 107 [.agg [.int .i64 wx1.P.Sign,.sl 2 wx1.P.Digits,.int .i64 wx1.Q.Sign,.sl 2 wx1.Q.Digits]] (b3v n wx1) (fun r=> .ob r):=by
 refine a1i (n:=11) Tryz.func107 rfl rfl rfl (fun _ _=>by kernel_rfl) fun F0 w0 r=> ?_
 unfold b3v
 refine gK (a2f _ _) rfl rfl rfl fun v1=> ?_
 refine gJ 4 (fun v2=> [.v 10 (.ob v2)]) rfl (fun _=>rfl) (fun J1 hJ1=> ?_) (fun v2=> ?_)
 ·
  refine gD rfl (fun _=> ?_) (fun _=> ?_)
  ·
   exact gX hJ1 rfl (by kernel_rfl)
  ·
   refine gA ?_
   refine gK (b7m _ _) rfl rfl rfl fun v3=> ?_
   exact gX hJ1 rfl (by kernel_rfl)
 exact gR rfl rfl rfl
theorem a8f(n:Nat)(s1:(List Frac))(f1:(Frac->Option Bool)):FnH Wt 94 [.sl 3 s1] ⟨Frac,Bool,fun q=> [.agg [.int .i64 q.P.Sign,.sl 2 q.P.Digits,.int .i64 q.Q.Sign,.sl 2 q.Q.Digits]],fun q=>f1 q,fun r=> .ob r⟩ (a2l n s1 f1) (fun r=> .int .i64 r):=by
 refine b3d (n:=19) Tryz.func94 rfl rfl rfl (fun _ _=>by kernel_rfl) fun F0 w0 r u=> ?_
 unfold a2l
 refine a3c ((fun k0 m(s:Int)=>slices_IndexFunc_api_Frac_api_Frac_L1 n s1 f1 k0 m s) _) (fun(s:Int)=> [.v 8 (.int .i64 s)]) (fun _=>rfl) _ rfl rfl (fun _=>rfl) rfl fun K1 m1 hK1 i1=> ?_
 refine gC rfl (fun _=> ?_) (fun _=> ?_)
 ·
  refine gV rfl fun ex1=> ?_
  refine gKv (T:=Wt) (Φ:=⟨Frac,Bool,fun q=> [.agg [.int .i64 q.P.Sign,.sl 2 q.P.Digits,.int .i64 q.Q.Sign,.sl 2 q.Q.Digits]],fun q=>f1 q,fun r=> .ob r⟩) (u:=u) ex1 rfl rfl rfl fun v1=> ?_
  refine gC rfl (fun _=> ?_) (fun _=> ?_)
  ·
   exact gR rfl rfl rfl
  ·
   exact gE hK1 _ rfl (by kernel_rfl)
 ·
  exact gR rfl rfl rfl
theorem a2s(n:Nat)(s1:(List Frac))(f1:(Frac->Option Bool)):FnH Wt 45 [.sl 3 s1] ⟨Frac,Bool,fun q=> [.agg [.int .i64 q.P.Sign,.sl 2 q.P.Digits,.int .i64 q.Q.Sign,.sl 2 q.Q.Digits]],fun q=>f1 q,fun r=> .ob r⟩ (a0t n s1 f1) (fun r=> .ob r):=by
 refine b3d (n:=9) Tryz.func45 rfl rfl rfl (fun _ _=>by kernel_rfl) fun F0 w0 r u=> ?_
 unfold a0t
 refine gKh (FnH.up (a8f n _ f1)) rfl rfl rfl b5w fun v1=> ?_
 exact gR rfl rfl rfl
theorem c9d(n:Nat)(f1:Facts)(weights1:(List Frac))(nx1:Int):FnC Wt 51 [.agg [.sl 2 f1.Lifts,.int .i64 f1.Persons,.int .i64 f1.Flats],.sl 3 weights1,.int .i64 nx1] (c2h n f1 weights1 nx1) (fun r=> .ob r):=by
 refine a1i (n:=43) Tryz.func51 rfl rfl rfl (fun _ _=>by kernel_rfl) fun F0 w0 r=> ?_
 unfold c2h
 refine gJ 5 (fun v1=> [.v 19 (.ob v1)]) rfl (fun _=>rfl) (fun J1 hJ1=> ?_) (fun v1=> ?_)
 ·
  refine gD rfl (fun _=> ?_) (fun _=> ?_)
  ·
   exact gX hJ1 rfl (by kernel_rfl)
  ·
   exact gX hJ1 rfl (by kernel_rfl)
 refine gJ 4 (fun v2=> [.v 24 (.ob v2)]) rfl (fun _=>rfl) (fun J2 hJ2=> ?_) (fun v2=> ?_)
 ·
  refine gD rfl (fun _=> ?_) (fun _=> ?_)
  ·
   refine gA ?_
   refine gK (c6j _ _ _) rfl rfl rfl fun v9=> ?_
   exact gX hJ2 rfl (by kernel_rfl)
  ·
   exact gX hJ2 rfl (by kernel_rfl)
 refine gJ 4 (fun v3=> [.v 29 (.ob v3)]) rfl (fun _=>rfl) (fun J3 hJ3=> ?_) (fun v3=> ?_)
 ·
  refine gD rfl (fun _=> ?_) (fun _=> ?_)
  ·
   refine gA ?_
   refine gK (c6j _ _ _) rfl rfl rfl fun v8=> ?_
   exact gX hJ3 rfl (by kernel_rfl)
  ·
   exact gX hJ3 rfl (by kernel_rfl)
 refine gJ 6 (fun v4=> [.v 36 (.ob v4)]) rfl (fun _=>rfl) (fun J4 hJ4=> ?_) (fun v4=> ?_)
 ·
  refine gD rfl (fun _=> ?_) (fun _=> ?_)
  ·
   refine gA ?_
   refine gKh (a6r n _ (b4a n)) rfl rfl rfl (fvA rfl rfl (fun q=>c5u n q) default) fun v7=> ?_
   exact gX hJ4 rfl (by kernel_rfl)
  ·
   exact gX hJ4 rfl (by kernel_rfl)
 refine gJ 5 (fun v5=> [.v 42 (.ob v5)]) rfl (fun _=>rfl) (fun J5 hJ5=> ?_) (fun v5=> ?_)
 ·
  refine gD rfl (fun _=> ?_) (fun _=> ?_)
  ·
   refine gA ?_
   refine gKh (a2s n _ (b3v n)) rfl rfl rfl (fvA rfl rfl (fun q=>c6e n q) default) fun v6=> ?_
   exact gX hJ5 rfl (by kernel_rfl)
  ·
   exact gX hJ5 rfl (by kernel_rfl)
 exact gR rfl rfl rfl
theorem c9r(n:Nat)(f1:Frac):FnC Wt 52 [.agg [.int .i64 f1.P.Sign,.sl 2 f1.P.Digits,.int .i64 f1.Q.Sign,.sl 2 f1.Q.Digits]] (c2l n f1) (fun r=> .agg [.int .i64 r.P.Sign,.sl 2 r.P.Digits,.int .i64 r.Q.Sign,.sl 2 r.Q.Digits]):=by
 refine a1i (n:=16) Tryz.func52 rfl rfl rfl (fun _ _=>by kernel_rfl) fun F0 w0 r=> ?_
 unfold c2l
 refine gA ?_
 refine gHs [(1,(pL [0,2,8,10] (.two 2 6 (pL [] (.two 3 6 (pL [13,16,18,15,21,23,25,27] .nil) (pL [7,16,18,15,21,23,25,27] .nil))) (pL [5,7,16,18,15,21,23,25,27] .nil))))] rfl (by kernel_rfl) rfl rfl fun Ky=> ?_
 refine gH2 rfl ?_ ?_
 all_goals
  try refine gH2 rfl ?_ ?_
  all_goals
   refine gO (a3f _ _) rfl rfl rfl fun v1=> ?_
   refine gA ?_
   refine gO (a3f _ _) rfl rfl rfl fun v2=> ?_
   refine gB ?_
   refine gHe rfl ?_
   exact gR rfl rfl rfl
theorem c3i(n:Nat)(op1:Int)(ax1:Frac)(b1:Frac):FnC Wt 112 [.int .i64 op1,.agg [.int .i64 ax1.P.Sign,.sl 2 ax1.P.Digits,.int .i64 ax1.Q.Sign,.sl 2 ax1.Q.Digits],.agg [.int .i64 b1.P.Sign,.sl 2 b1.P.Digits,.int .i64 b1.Q.Sign,.sl 2 b1.Q.Digits]] (b3x n op1 ax1 b1) (fun r=> .agg [.int .i64 r.P.Sign,.sl 2 r.P.Digits,.int .i64 r.Q.Sign,.sl 2 r.Q.Digits]):=by
 refine a1i (n:=58) Tryz.func112 rfl rfl rfl (fun _ _=>by kernel_rfl) fun F0 w0 r=> ?_
 unfold b3x
 refine gC rfl (fun _=> ?_) (fun _=> ?_)
 ·
  refine gK (b6b _ _ _) rfl rfl rfl fun v1=> ?_
  exact gR rfl rfl rfl
 ·
  refine gC rfl (fun _=> ?_) (fun _=> ?_)
  ·
   refine gK (d2r _ _ _) rfl rfl rfl fun v2=> ?_
   exact gR rfl rfl rfl
  ·
   refine gC rfl (fun _=> ?_) (fun _=> ?_)
   ·
    refine gK (b9g _ _ _) rfl rfl rfl fun v3=> ?_
    exact gR rfl rfl rfl
   ·
    refine gC rfl (fun _=> ?_) (fun _=> ?_)
    ·
     refine gK (d3g _ _ _) rfl rfl rfl fun v4=> ?_
     exact gR rfl rfl rfl
    ·
     refine gC rfl (fun _=> ?_) (fun _=> ?_)
     ·
      refine gK (d3b _ _ _) rfl rfl rfl fun v5=> ?_
      exact gR rfl rfl rfl
     ·
      refine gC rfl (fun _=> ?_) (fun _=> ?_)
      ·
       refine gK (c4r _ _ _) rfl rfl rfl fun v6=> ?_
       exact gR rfl rfl rfl
      ·
       exact gR rfl rfl rfl
theorem b7o(n:Nat):(∀(k1:known)(x1:Expr),FnC Wt 53 [.agg [.sl 1 k1.names,.sl 2 k1.facts.Lifts,.int .i64 k1.facts.Persons,.int .i64 k1.facts.Flats,.sl 3 k1.weights],.agg [.int .i64 x1.Op,.int .i64 x1.N,.str x1.Name,.sl 0 x1.Args]] (fee_known_number n k1 x1) (fun r=> .agg [.int .i64 r.P.Sign,.sl 2 r.P.Digits,.int .i64 r.Q.Sign,.sl 2 r.Q.Digits]))/\(∀(k1:known)(x1:Expr),FnC Wt 111 [.agg [.sl 1 k1.names,.sl 2 k1.facts.Lifts,.int .i64 k1.facts.Persons,.int .i64 k1.facts.Flats,.sl 3 k1.weights],.agg [.int .i64 x1.Op,.int .i64 x1.N,.str x1.Name,.sl 0 x1.Args]] (fee_known_truth n k1 x1) (fun r=> .ob r)):=by
 induction n with
 |zero=>exact⟨fun _ _=>c2f (fun _ _=>by kernel_rfl),fun _ _=>c2f (fun _ _=>by kernel_rfl)⟩
 |succ n ih=>
  refine⟨?_,?_⟩
  ·intro k1 x1
   refine a1i (n:=81) Tryz.func53 rfl rfl rfl (fun _ _=>by kernel_rfl) fun F0 w0 r=> ?_
   rw [fee_known_number_s]
   refine gK (a4m _ _ _) rfl rfl rfl fun v1=> ?_
   refine gC rfl (fun _=> ?_) (fun _=> ?_)
   ·
    refine gK (a5z _ _) rfl rfl rfl fun v2=> ?_
    exact gR rfl rfl rfl
   ·
    refine gC rfl (fun _=> ?_) (fun _=> ?_)
    ·
     refine gV rfl fun ex1=> ?_
     refine gK (a5z _ _) rfl rfl rfl fun v3=> ?_
     exact gR rfl rfl rfl
    ·
     refine gC rfl (fun _=> ?_) (fun _=> ?_)
     ·
      refine gK (a5z _ _) rfl rfl rfl fun v4=> ?_
      exact gR rfl rfl rfl
     ·
      refine gC rfl (fun _=> ?_) (fun _=> ?_)
      ·
       refine gK (a5z _ _) rfl rfl rfl fun v5=> ?_
       exact gR rfl rfl rfl
      ·
       refine gC rfl (fun _=> ?_) (fun _=> ?_)
       ·
        refine gV rfl fun ex2=> ?_
        exact gR rfl rfl rfl
       ·
        refine gC rfl (fun _=> ?_) (fun _=> ?_)
        ·
         refine gHs [(0,(pL [0,2,5] .nil)),(1,(pL [0,4,2,6,9,11] .nil)),(6,(pL [0,2,6,4,8,10,13,15] .nil)),(12,(pL [0,4,2,6,8,11] .nil)),(14,(pL [2,0,4,6,8,11] .nil)),(15,(pL [0,2,4,6,8,11,13] .nil)),(16,(pL [0,2,4,6,8,11,13] .nil)),(17,(pL [0,2,4,6,8,10,12,16,18,20,22,24,15,27,29,31] .nil))] rfl (by kernel_rfl) rfl rfl fun Ky=> ?_
         refine gV rfl fun ex3=> ?_
         refine gK (ih.2 _ _) rfl rfl rfl fun v6=> ?_
         refine gHe rfl ?_
         refine gC rfl (fun _=> ?_) (fun _=> ?_)
         ·
          refine gHs [(0,(pL [0,2,5] .nil)),(1,(pL [0,4,2,6,9,11] .nil)),(6,(pL [0,2,6,4,8,10,13,15] .nil)),(12,(pL [0,4,2,6,8,11] .nil)),(14,(pL [2,0,4,6,8,11] .nil)),(15,(pL [0,2,4,6,8,11,13] .nil)),(16,(pL [0,2,4,6,8,11,13] .nil)),(17,(pL [0,2,4,6,8,10,12,16,18,20,22,24,15,27,29,31] .nil))] rfl (by kernel_rfl) rfl rfl fun Ky=> ?_
          refine gV rfl fun ex4=> ?_
          refine gK (ih.1 _ _) rfl rfl rfl fun v7=> ?_
          refine gHe rfl ?_
          exact gR rfl rfl rfl
         ·
          refine gHs [(0,(pL [0,2,5] .nil)),(1,(pL [0,4,2,6,9,11] .nil)),(6,(pL [0,2,6,4,8,10,13,15] .nil)),(12,(pL [0,4,2,6,8,11] .nil)),(14,(pL [2,0,4,6,8,11] .nil)),(15,(pL [0,2,4,6,8,11,13] .nil)),(16,(pL [0,2,4,6,8,11,13] .nil)),(17,(pL [0,2,4,6,8,10,12,16,18,20,22,24,15,27,29,31] .nil))] rfl (by kernel_rfl) rfl rfl fun Ky=> ?_
          refine gV rfl fun ex5=> ?_
          refine gK (ih.1 _ _) rfl rfl rfl fun v8=> ?_
          refine gHe rfl ?_
          exact gR rfl rfl rfl
        ·
         refine gHs [(0,(pL [0,2,5] .nil)),(1,(pL [0,4,2,6,9,11] .nil)),(6,(pL [0,2,6,4,8,10,13,15] .nil)),(12,(pL [0,4,2,6,8,11] .nil)),(14,(pL [2,0,4,6,8,11] .nil)),(15,(pL [0,2,4,6,8,11,13] .nil)),(16,(pL [0,2,4,6,8,11,13] .nil)),(17,(pL [0,2,4,6,8,10,12,16,18,20,22,24,15,27,29,31] .nil))] rfl (by kernel_rfl) rfl rfl fun Ky=> ?_
         refine gV rfl fun ex6=> ?_
         refine gV rfl fun ex7=> ?_
         refine gK (ih.1 _ _) rfl rfl rfl fun v9=> ?_
         refine gK (ih.1 _ _) rfl rfl rfl fun v10=> ?_
         refine gK (c3i _ _ _ _) rfl rfl rfl fun v11=> ?_
         refine gHe rfl ?_
         exact gR rfl rfl rfl
  ·intro k1 x1
   refine a1i (n:=69) Tryz.func111 rfl rfl rfl (fun _ _=>by kernel_rfl) fun F0 w0 r=> ?_
   rw [fee_known_truth_s]
   refine gC rfl (fun _=> ?_) (fun _=> ?_)
   ·
    refine gHs [(0,(pL [0,2,5] .nil)),(3,(pL [2,0,4,6,8,11,13,15] .nil)),(5,(pL [2,0,4,6,8,11,13,16,14,19,21,23,25,27,29] .nil)),(7,(pL [2,0,4,6,8,11,13,16,14,19,21,23,25,27,29] .nil)),(8,(pL [0,2,4,6,8,12,14,16,18,20,11,23,25,27] .nil))] rfl (by kernel_rfl) rfl rfl fun Ky=> ?_
    refine gV rfl fun ex1=> ?_
    refine gK (ih.2 _ _) rfl rfl rfl fun v1=> ?_
    refine gHe rfl ?_
    exact gR rfl rfl rfl
   ·
    refine gC rfl (fun _=> ?_) (fun _=> ?_)
    ·
     refine gHs [(0,(pL [0,2,5] .nil)),(3,(pL [2,0,4,6,8,11,13,15] .nil)),(5,(pL [2,0,4,6,8,11,13,16,14,19,21,23,25,27,29] .nil)),(7,(pL [2,0,4,6,8,11,13,16,14,19,21,23,25,27,29] .nil)),(8,(pL [0,2,4,6,8,12,14,16,18,20,11,23,25,27] .nil))] rfl (by kernel_rfl) rfl rfl fun Ky=> ?_
     refine gV rfl fun ex2=> ?_
     refine gK (ih.2 _ _) rfl rfl rfl fun v2=> ?_
     refine gD rfl (fun _=> ?_) (fun _=> ?_)
     ·
      refine gA ?_
      refine gV rfl fun ex3=> ?_
      refine gA ?_
      refine gK (ih.2 _ _) rfl rfl rfl fun v4=> ?_
      refine gB ?_
      refine gHe rfl ?_
      exact gR rfl rfl rfl
     ·
      refine gB ?_
      refine gHe rfl ?_
      exact gR rfl rfl rfl
    ·
     refine gC rfl (fun _=> ?_) (fun _=> ?_)
     ·
      refine gHs [(0,(pL [0,2,5] .nil)),(3,(pL [2,0,4,6,8,11,13,15] .nil)),(5,(pL [2,0,4,6,8,11,13,16,14,19,21,23,25,27,29] .nil)),(7,(pL [2,0,4,6,8,11,13,16,14,19,21,23,25,27,29] .nil)),(8,(pL [0,2,4,6,8,12,14,16,18,20,11,23,25,27] .nil))] rfl (by kernel_rfl) rfl rfl fun Ky=> ?_
      refine gV rfl fun ex4=> ?_
      refine gK (ih.2 _ _) rfl rfl rfl fun v5=> ?_
      refine gD rfl (fun _=> ?_) (fun _=> ?_)
      ·
       refine gB ?_
       refine gHe rfl ?_
       exact gR rfl rfl rfl
      ·
       refine gA ?_
       refine gV rfl fun ex5=> ?_
       refine gA ?_
       refine gK (ih.2 _ _) rfl rfl rfl fun v7=> ?_
       refine gB ?_
       refine gHe rfl ?_
       exact gR rfl rfl rfl
     ·
      refine gHs [(0,(pL [0,2,5] .nil)),(3,(pL [2,0,4,6,8,11,13,15] .nil)),(5,(pL [2,0,4,6,8,11,13,16,14,19,21,23,25,27,29] .nil)),(7,(pL [2,0,4,6,8,11,13,16,14,19,21,23,25,27,29] .nil)),(8,(pL [0,2,4,6,8,12,14,16,18,20,11,23,25,27] .nil))] rfl (by kernel_rfl) rfl rfl fun Ky=> ?_
      refine gV rfl fun ex6=> ?_
      refine gV rfl fun ex7=> ?_
      refine gK (ih.1 _ _) rfl rfl rfl fun v8=> ?_
      refine gK (ih.1 _ _) rfl rfl rfl fun v9=> ?_
      refine gK (b2q _ _ _) rfl rfl rfl fun v10=> ?_
      refine gHe rfl ?_
      refine gC rfl (fun _=> ?_) (fun _=> ?_)
      ·
       exact gR rfl rfl rfl
      ·
       exact gR rfl rfl rfl
theorem b8a(n:Nat)(k1:known)(x1:Expr):FnC Wt 53 [.agg [.sl 1 k1.names,.sl 2 k1.facts.Lifts,.int .i64 k1.facts.Persons,.int .i64 k1.facts.Flats,.sl 3 k1.weights],.agg [.int .i64 x1.Op,.int .i64 x1.N,.str x1.Name,.sl 0 x1.Args]] (fee_known_number n k1 x1) (fun r=> .agg [.int .i64 r.P.Sign,.sl 2 r.P.Digits,.int .i64 r.Q.Sign,.sl 2 r.Q.Digits]):=(b7o n).1 k1 x1
theorem c1z(n:Nat)(t1:Tariff)(names1:(List Bs))(f1:Facts)(weights1:(List Frac)):FnC Wt 17 [.agg [.str t1.Name,.int .i64 t1.Fee.Op,.int .i64 t1.Fee.N,.str t1.Fee.Name,.sl 0 t1.Fee.Args,.int .i64 t1.Cap],.sl 1 names1,.agg [.sl 2 f1.Lifts,.int .i64 f1.Persons,.int .i64 f1.Flats],.sl 3 weights1] (b8h n t1 names1 f1 weights1) (fun r=> .tup [.agg [.int .i64 r.1.P.Sign,.sl 2 r.1.P.Digits,.int .i64 r.1.Q.Sign,.sl 2 r.1.Q.Digits],.int .i64 r.2]):=by
 refine a1i (n:=33) Tryz.func17 rfl rfl rfl (fun _ _=>by kernel_rfl) fun F0 w0 r=> ?_
 unfold b8h
 refine gK (b6n _ _ _) rfl rfl rfl fun v1=> ?_
 refine gC rfl (fun _=> ?_) (fun _=> ?_)
 ·
  exact gR rfl rfl rfl
 ·
  refine gK (c9d _ _ _ _) rfl rfl rfl fun v2=> ?_
  refine gC rfl (fun _=> ?_) (fun _=> ?_)
  ·
   exact gR rfl rfl rfl
  ·
   refine gK (b8a _ _ _) rfl rfl rfl fun v3=> ?_
   refine gK (c9r _ _) rfl rfl rfl fun v4=> ?_
   exact gR rfl rfl rfl
end Go.Proofs.YthaegflpecbfgaaGreatDoor.M
namespace Go.Proofs.YthaegflpecbfgaaGreatDoor.M
open Go Go.RowKit Rt
set_option maxRecDepth 1000000
set_option maxHeartbeats 40000000
theorem c3u(n:Nat)(s1:Bs):FnC Wt 70 [.str s1] (b2b n s1) (fun r=> .tup [.agg [.str r.1.Name,.int .i64 r.1.Fee.Op,.int .i64 r.1.Fee.N,.str r.1.Fee.Name,.sl 0 r.1.Fee.Args,.int .i64 r.1.Cap],.int .i64 r.2.1,.int .i64 r.2.2]):=⟨fun _ _=>by kernel_rfl,fun r hm w F hs hg us hu=>by
 obtain⟨_,_,rfl,rfl,rfl⟩:=hu
 exact(c3d n s1 r hm hs (hg)).mono fun e w'⟨v,F',O',e1,e2,e3⟩=>by
  obtain⟨a0_4,n0_4,c0_4,rfl,rfl,g0⟩:=e3
  exact⟨_,F',e1,e2,⟨_,rfl,⟨_,_,rfl,⟨_,rfl,⟨_,_,rfl,rfl,⟨_,_,rfl,rfl,⟨_,_,rfl,rfl,⟨_,_,rfl,rfl,⟨_,_,rfl,⟨_,_,_,rfl,g0⟩,⟨_,_,rfl,rfl,rfl⟩⟩⟩⟩⟩⟩⟩,⟨_,_,rfl,rfl,⟨_,_,rfl,rfl,rfl⟩⟩⟩⟩⟩⟩
end Go.Proofs.YthaegflpecbfgaaGreatDoor.M
namespace Go.Proofs.YthaegflpecbfgaaGreatDoor.Rt
open Go Go.RowKit
set_option linter.unusedVariables false
set_option linter.unusedSimpArgs false
mutual
def AV.ren{ty:Nat->Type}(g:Nat->Nat):AV ty->AV ty
 | .agg l=> .agg (AV.renL g l)
 | .tup l=> .tup (AV.renL g l)
 | .clo f l=> .clo f (AV.renL g l)
 | .fb l o=> .fb (AV.renL g l) o
 | .bx j o=> .bx (g j) o
 | .sb j c k=> .sb (g j) c k
 | .row j=> .row (g j)
 | .rel j c x p o=> .rel (g j) c x p o
 | .rw j lo hi=> .rw (g j) lo hi
 | .int k x=> .int k x
 | .bool b=> .bool b
 | .ob b=> .ob b
 | .lb c b=> .lb c b
 | .str l=> .str l
 | .val v=> .val v
 | .sl c xs=> .sl c xs
 | .el c x o=> .el c x o
 | .any=> .any
def AV.renL{ty:Nat->Type}(g:Nat->Nat):List (AV ty)->List (AV ty)
 | []=> []
 |x::l=>AV.ren g x::AV.renL g l
 end
def AO.ren{ty:Nat->Type}(g:Nat->Nat):AO ty->AO ty
 | .box T cs=> .box T (AV.renL g cs)
 | .row e q c xs=> .row e q c xs
 |_=> .gone
def renH{ty:Nat->Type}(g:Nat->Nat):List (AO ty)->List (AO ty)
 | []=> []
 |o::l=>o.ren g::renH g l
section
variable{ty:Nat->Type}{rp:∀c,Rp (ty c)}{S S2:List OE}{F:Frz}{g:Nat->Nat}
mutual
theorem Conc.ren(h:∀(j:Nat)(e:OE),S[j]?=some e->S2[g j]?=some e):∀{x:AV ty}{v:Value},Conc rp S F x v->Conc rp S2 F (AV.ren g x) v
 | .int k x,v,h1=>h1
 | .bool b,v,h1=>h1
 | .ob b,v,h1=>h1
 | .lb c b,v,h1=>h1
 | .str l,v,h1=>h1
 | .val u,v,h1=>h1
 | .agg l,v,⟨cs,h1,h2⟩=>⟨cs,h1,ConcL.ren h h2⟩
 | .tup l,v,⟨cs,h1,h2⟩=>⟨cs,h1,ConcL.ren h h2⟩
 | .clo f l,v,⟨cs,h1,h2⟩=>⟨cs,h1,ConcL.ren h h2⟩
 | .fb l o,v,⟨b,cs,h1,h2,h3⟩=>⟨b,cs,h1,h2,ConcL.ren h h3⟩
 | .sl c xs,v,h1=>h1
 | .bx j o,v,⟨b,T,cs,h1,h2⟩=>⟨b,T,cs,h _ _ h1,h2⟩
 | .sb j c k,v,⟨b,T,cs,h1,h2⟩=>⟨b,T,cs,h _ _ h1,h2⟩
 | .el c x o,v,h1=>h1
 | .row j,v,⟨e,q,a,m,n,xs,h1,h2⟩=>⟨e,q,a,m,n,xs,h _ _ h1,h2⟩
 | .rel j c x p o,v,⟨e,b,m,n,us,cs,h1,h2⟩=>⟨e,b,m,n,us,cs,h _ _ h1,h2⟩
 | .rw j lo hi,v,⟨e,q,b,m,n,xs,h1,h2⟩=>⟨e,q,b,m,n,xs,h _ _ h1,h2⟩
 | .any,v,_=>trivial
theorem ConcL.ren(h:∀(j:Nat)(e:OE),S[j]?=some e->S2[g j]?=some e):∀{l:List (AV ty)}{cs:List Value},ConcL rp S F l cs->ConcL rp S2 F (AV.renL g l) cs
 | [],_,h1=>h1
 |_::_,_,⟨v,k,h1,h2,h3⟩=>⟨v,k,h1,Conc.ren h h2,ConcL.ren h h3⟩
 end
theorem RelO.ren{K K2:Snap}(h:∀(j:Nat)(e:OE),S[j]?=some e->S2[g j]?=some e){o:AO ty}{e:OE}(h1:RelO rp K S F o e):RelO rp K2 S2 F (o.ren g) e:=by
 cases o with
 |box T cs=>obtain⟨b,us,e1,e2⟩:=h1;exact⟨b,us,e1,e2.ren h⟩
 |row el q c xs=>exact h1
 |_=>trivial
theorem d1y(g:Nat->Nat):∀H:List (AO ty),renH g H=H.map (AO.ren g)
 | []=>rfl
 |o::l=>by rw [renH,d1y g l];rfl
theorem RelH.append{K:Snap}{R:List OE}{H H2:List (AO ty)}{A B:List OE}(h:RelH rp K R F H A)(h2:RelH rp K R F H2 B):RelH rp K R F (H++H2) (A++B):=by
 refine⟨by rw [List.length_append,List.length_append,h.1,h2.1],fun i o ho=> ?_⟩
 rcases Nat.lt_or_ge i H.length with hi|hi
 ·rw [List.getElem?_append_left hi]at ho
  obtain⟨e,h3,h4⟩:=h.2 i o ho
  exact⟨e,by rw [List.getElem?_append_left (by rw [<-h.1];exact hi)];exact h3,h4⟩
 ·rw [List.getElem?_append_right hi]at ho
  obtain⟨e,h3,h4⟩:=h2.2 _ o ho
  exact⟨e,by rw [List.getElem?_append_right (by rw [<-h.1];exact hi),<-h.1];exact h3,h4⟩
theorem RelH.renAt{K K2:Snap}{H:List (AO ty)}{B:List OE}(h:∀(j:Nat)(e:OE),S[j]?=some e->S2[g j]?=some e)(h1:RelH rp K S F H B):RelH rp K2 S2 F (renH g H) B:=by
 rw [d1y]
 refine⟨by rw [List.length_map];exact h1.1,fun i o ho=> ?_⟩
 rw [List.getElem?_map]at ho
 obtain⟨o',e1,rfl⟩:=Option.map_eq_some_iff.1 ho
 obtain⟨e,h3,h4⟩:=h1.2 i o' e1
 exact⟨e,h3,h4.ren h⟩
end
def addN(k j:Nat):Nat:=k+j
def d9k(i k j:Nat):Nat:=match Nat.beq j 0 with
 |true=>i
 |false=>k+(j-1)
section
variable{P:Program}(T:Tbl P)
def FnLG(f:FuncId){ρ:Type}(t:TypeId)(cs az:List (AV T.ty))(m:Option ρ)(cs':ρ->List (AV T.ty))(Hs:ρ->List (AO T.ty))(res:ρ->AV T.ty):Prop:=
 Ent P f/\∀r,m=some r->∀w F,Sat F w->T.gl F->∀b ws us,w.heap[b]?=some (.cells ws.toArray t (0,0))->F b=none->ConcL T.rp [] F cs ws->ConcL T.rp [.box b t ws] F az us->
  Calls P f us.toArray w fun e w'=>∃v F' ws' S,e= .returned v/\HS F w [b] F' (.box b t ws'::S) w'/\RelH T.rp Snap.nil (.box b t ws'::S) F' (.box t (cs' r)::Hs r) (.box b t ws'::S)/\Conc T.rp (.box b t ws'::S) F' (res r) v
def evGc(n:Nat)(s:St T.ty):Option (FuncId×List (AV T.ty)×(List (AO T.ty)->AV T.ty->St T.ty)):=match s with
 |⟨.ops all (o::l),k,e,H⟩=>match a9g all e o.guard,o.dst,o.op with
  |true,some d,.call ⟨.value c,args,_⟩=>match Nat.blt d n,opA e c,opL e args.toList with
   |true,some (.val (.func (.func f) fi ca)),some az=>match fi.toList,ca.toList,frzW T (H.length+1) az e H with
    | [],[],some (as',e',H')=>some (f,as',fun Hs v=>⟨.ops all l,k,(d,v.ren (addN H'.length))::e',H'++renH (addN H'.length) Hs⟩)
    |_,_,_=>none
   |_,_,_=>none
  |_,_,_=>none
 |_=>none
structure LVG(ty:Nat->Type)where
 f:FuncId
 t:TypeId
 cs:List (AV ty)
 az:List (AV ty)
 nx:List (AV ty)->List (AO ty)->AV ty->St ty
def e2z(n:Nat)(s:St T.ty):Option (LVG T.ty):=match s with
 |⟨.ops all (o::l),k,e,H⟩=>match a9g all e o.guard,o.dst,o.op with
  |true,some d,.call ⟨.value c,args,_⟩=>match Nat.blt d n,opA e c,opL e args.toList with
   |true,some (.val (.func (.func f) fi ca)),some az=>match fi.toList,ca.toList,lentOf T az with
    | [],[],some i=>match H[i]? with
      |some (.box _ cs0)=>match frzW T (H.length+1) (.agg cs0::az) e H with
       |some (_::as',e',H')=>match H'[i]? with
        |some (.box t cs)=>some ⟨f,t,cs,b4m T i as',fun cs' Hs v=>⟨.ops all l,k,(d,v.ren (d9k i H'.length))::e',H'.set i (.box t (AV.renL (d9k i H'.length) cs'))++renH (d9k i H'.length) Hs⟩⟩
        |_=>none
       |_=>none
      |_=>none
    |_,_,_=>none
   |_,_,_=>none
  |_,_,_=>none
 |_=>none
def evRX(fn:Func)(s:St T.ty):Option (List (AO T.ty)×AV T.ty):=match s with
 |⟨.out .ret,[],e,H⟩=>match resA T e H fn.results.toList with
  |some [x]=>some (H,x)
  |_=>none
 |_=>none
def evBs(n:Nat)(s:St T.ty):Option (St T.ty):=match s with
 |⟨.ops all (o::l),k,e,H⟩=>match a9g all e o.guard,o.dst,o.op with
  |true,some d,.buildSlice t kk ps=>match Nat.blt d n,T.und t with
   |true,some (.slice el)=>match T.size el,T.zero el with
    |some q,some _=>match Nat.ble (kk*q) 16777216,bldA T (fun i=>some (i*q,q)) e ps.toList (anys (kk*q))with
     |true,some cs=>some ⟨.ops all l,k,(d,.sb H.length (T.cod t) kk)::e,snoc (.box el cs) H⟩
     |_,_=>none
    |_,_=>none
   |_,_=>none
  |_,_,_=>none
 |_=>none
def evFi(i:Nat)(s:St T.ty):Option (St T.ty):=match s with
 |⟨c,k,e,H⟩=>match calm c,H[i]? with
  |true,some (.row _ _ _ _)=>match frzW T (H.length+1) [.row i] e H with
   |some (_,e',H')=>some ⟨c,k,e',H'⟩
   |none=>none
  |_,_=>none
def sbS{ty:Nat->Type}(c k:Nat)(xs:List (ty c))(c' k':Nat):AV ty:=match Nat.beq c' c,Nat.beq k' k with
 |true,true=> .sl c xs
 |_,_=> .any
def evFs(i c q k:Nat)(s:St T.ty):Option (St T.ty):=match s with
 |⟨ct,ks,e,H⟩=>match calm ct,H[i]? with
  |true,some (.box _ cs)=>match a9a cs,Nat.ble k maxLen,decL T c q k cs with
   |true,true,some xs=>match putA i .gone (c9e i (fun _=> .any) (sbS c k xs) H)with
    |some H'=>some ⟨ct,ks,d8d i (fun _=> .any) (sbS c k xs) e,H'⟩
    |none=>none
   |_,_,_=>none
  |_,_=>none
end
section
variable{P:Program}{T:Tbl P}{Q:Exit->Act->World->Prop}{n:Nat}{F0:Frz}{w0:World}{X:List Nat}{Kz:Snap}{ρ:Type}
theorem e3i{s s':St T.ty}(h:evBs T n s=some s')(k:Sm T Q n F0 w0 X Kz s'):Sm T Q n F0 w0 X Kz s:=by
 unfold evBs at h
 split at h
 ·rename_i all o l its e H
  split at h
  ·rename_i d t kk ps hg hd ho
   split at h
   ·rename_i el hn hu
    split at h
    ·rename_i q z hS hz
     split at h
     ·rename_i cs hk1 hb
      cases h
      obtain⟨dst,op,type,pos,after,guard⟩:=o
      dsimp only at hg hd ho
      subst hd;subst ho
      intro R F m w h1 h2 h3 hX
      have hzl:=d6f z (kk*q)
      obtain⟨vl,us,g1,g2,g3,g4⟩:=c1x (us:=zws z (kk*q)) h1 hb (by
       have:=anys_ok (T:=T) (R:=R) (F:=F) (us:=zws z (kk*q))
       rwa [hzl]at this)
      obtain⟨ps⟩:=ps
      have hrun:=fun w=>b6t (P:=P) (T.undOk hu) (T.sizeOk hS) (T.zeroOk hz) (Nat.le_of_ble_eq_true hk1) g3 w
      have h4:HS F0 w0 X F (R++ [.box w.heap.size el us]) (w.alloc (.cells us.toArray el)):=
       (h3.add (World.grownBy_alloc w _ none) (e':= .box w.heap.size el us) (by show(w.alloc _).heap[w.heap.size]?=_;rw [heap_alloc_new]) (by simp [OE.blk])).addEnd
      have hk:Keep R F (R++ [.box w.heap.size el us]) F:=Keep.more (Frz.refl F)
      refine b2x rfl (by simpa using hn) (a3d h1 hg) (v:= .slice (some ⟨w.heap.size,0,none⟩) kk kk) (fun a ha=> ?_) (k _ F _ _ ((h1.mono hk).put ⟨w.heap.size,el,us,?_,rfl⟩) ?_ h4 (hX.keep hk))
      ·simp only [execOp]
       rw [a9t ha g1]
       simp [hrun w]
      ·rw [h2.1];simp
      ·show RelH _ _ _ _ (snoc _ H) _
       rw [b4g]
       exact(h2.mono hk).add ⟨_,us,rfl,g2.mono hk⟩
     ·cases h
    ·cases h
   ·cases h
  ·cases h
 ·cases h
theorem gEq{r:ρ}{m m':Option ρ}{s:St T.ty}(e:m=m')(g:G T Q n F0 w0 X Kz r m' s):G T Q n F0 w0 X Kz r m s:=e▸g
theorem gBs{r:ρ}{m:Option ρ}{s s':St T.ty}(h:evBs T n (rn T n s)=some s')(g:G T Q n F0 w0 X Kz r m s'):G T Q n F0 w0 X Kz r m s:=fun hm=>a7m (e3i h (g hm))
theorem d8a{s:St T.ty}{q:LVG T.ty}(h:e2z T n s=some q){α:Type}{cs az:List (AV T.ty)}{mr:Option α}{cs':α->List (AV T.ty)}{Hs:α->List (AO T.ty)}{res:α->AV T.ty}(hF:FnLG T q.f q.t cs az mr cs' Hs res)(hc:cnvL q.cs cs=cs)(hcp:a9a cs=true)(ha:cnvL q.az az=az)(hp:pureL1 T q.az=true){r:α}(hr:mr=some r)
 (k:Sm T Q n F0 w0 X Kz (q.nx (cs' r) (Hs r) (res r))):Sm T Q n F0 w0 X Kz s:=by
 unfold e2z at h
 split at h
 ·rename_i all o l its e H
  split at h
  ·rename_i d cc args ts hg hd ho
   split at h
   ·rename_i f0 fi ca as1 hn hf hl
    split at h
    ·rename_i i hfi hca hlent
     split at h
     ·rename_i t0 cs0 hi0
      split at h
      ·rename_i x1 as' e' H' hz
       split at h
       ·rename_i t csx hi
        cases h
        dsimp only at hF hc ha hp k
        intro R F m w h1 h2 h3 hX
        obtain⟨us,g1,g2⟩:=c0a h1 hl
        obtain⟨en,b1,b0,ws0,rfl,b2⟩:=h2.2 i _ hi0
        obtain⟨R',F',k1,k2,k3,k4,k5,v0,r0,k6,k7,k9⟩:=b0t (us:= .agg ws0.toArray::us) hz h1 h2 h3 hX ⟨_,_,rfl,⟨ws0,rfl,b2⟩,g2⟩
        obtain⟨rfl,rfl⟩:=List.cons.inj k6
        obtain⟨en,c1,b,ws,rfl,c2⟩:=k3.2 i _ hi
        have c3:=c2.cnv cs
        rw [hc]at c3
        have k10:=(b8v c1 hp k9).cnv az
        rw [ha]at k10
        obtain⟨u,g3,g4⟩:=a1b h1 hf
        simp only [Conc]at g4
        subst g4
        have hfi:fi= #[]:=Array.toList_eq_nil_iff.1 hfi
        have hca:ca= #[]:=Array.toList_eq_nil_iff.1 hca
        subst hfi;subst hca
        obtain⟨dst,op,type,pos,after,guard⟩:=o
        dsimp only at hg hd ho
        subst hd;subst ho
        obtain⟨args⟩:=args
        refine a1q (R:=fun v F2 ws' S=>RelH T.rp Snap.nil (.box b t ws'::S) F2 (.box t (cs' r)::Hs r) (.box b t ws'::S)/\Conc T.rp (.box b t ws'::S) F2 (res r) v) hF.1 (a3d h1 hg) hn g3 g1 k4 c1
         ((hF.2 r hr w F' k4.sat k5.2 b ws us (k4.get c1) (k4.lendable c1) (c3.pure hcp) k10).mono fun _ _⟨v,F2,ws',S,e1,e2,e3,e4⟩=>⟨v,F2,ws',S,e1,e2,e3,e4⟩)
         (fun v F2 ws' S w' hle hS⟨e2,e3⟩=> ?_)
        have hlt:=(List.getElem?_eq_some_iff.1 c1).1
        have hk:Keep R' F' (R'.set i (.box b t ws')++S) F2:=by
         refine⟨hle,fun j b' t' us' hj=> ?_,fun j e2 q a m' n' xs hj=> ?_⟩
         ·rw [List.getElem?_append_left (by rw [List.length_set];exact(List.getElem?_eq_some_iff.1 hj).1),List.getElem?_set]
          by_cases hij:i=j
          ·subst hij
           rw [c1]at hj;cases hj
           rw [if_pos rfl,if_pos hlt]
           exact⟨_,rfl⟩
          ·rw [if_neg hij];exact⟨_,hj⟩
         ·rw [List.getElem?_append_left (by rw [List.length_set];exact(List.getElem?_eq_some_iff.1 hj).1),List.getElem?_set]
          by_cases hij:i=j
          ·subst hij;rw [c1]at hj;cases hj
          ·rw [if_neg hij];exact hj
        have hre:∀(j:Nat)(en:OE),(OE.box b t ws'::S)[j]?=some en->(R'.set i (.box b t ws')++S)[d9k i H'.length j]?=some en:=by
         intro j en hj
         cases j with
         |zero=>
          show(R'.set i (.box b t ws')++S)[i]?=some en
          rw [List.getElem?_append_left (by rw [List.length_set];exact hlt),List.getElem?_set,if_pos rfl,if_pos hlt];exact hj
         |succ j=>
          show(R'.set i (.box b t ws')++S)[H'.length+j]?=some en
          rw [k3.1,List.getElem?_append_right (by rw [List.length_set];omega),List.length_set,Nat.add_sub_cancel_left];exact hj
        obtain⟨en,d1,d2⟩:=e2.2 0 _ rfl
        simp only [List.getElem?_cons_zero,Option.some.injEq]at d1
        subst d1
        have d3:RelH T.rp Snap.nil (.box b t ws'::S) F2 (Hs r) S:=⟨by simpa using e2.1,fun j o hj=>by simpa using e2.2 (j+1) o (by simpa using hj)⟩
        exact k (R'.set i (.box b t ws')++S) F2 _ w' ((k2.mono hk).put (e3.ren hre)) (((k3.mono hk).set i (RelO.ren (K:=Snap.nil) hre d2)).append (d3.renAt hre)) (hS.perm List.perm_append_comm) (k5.keep hk)
       ·cases h
      ·cases h
     ·cases h
    ·cases h
   ·cases h
  ·cases h
 ·cases h
theorem gLGc{r:ρ}{α:Type}{x:Option α}{g:α->Option ρ}{f:FuncId}{t:TypeId}{cs0 cs as0 az:List (AV T.ty)}{cs':α->List (AV T.ty)}{Hs:α->List (AO T.ty)}{res:α->AV T.ty}{nx:List (AV T.ty)->List (AO T.ty)->AV T.ty->St T.ty}{s:St T.ty}(hF:FnLG T f t cs az x cs' Hs res)(h:e2z T n (rn T n s)=some ⟨f,t,cs0,as0,nx⟩)(hc:cnvL cs0 cs=cs)(hcp:a9a cs=true)(ha:cnvL as0 az=az)(hp:pureL1 T as0=true)
 (k:∀v,G T Q n F0 w0 X Kz r (g v) (nx (cs' v) (Hs v) (res v))):G T Q n F0 w0 X Kz r (x.bind g) s:=fun hm=>by
 obtain⟨v,hv,hm⟩:=bind_some hm
 exact a7m (d8a h hF hc hcp ha hp hv (k v hm))
def e3y(T:Tbl P)(fn:Func)(F0:Frz)(w0:World)(b:Nat)(t:TypeId)(cs':ρ->List (AV T.ty))(Hs:ρ->List (AO T.ty))(res:ρ->AV T.ty)(r:ρ):Exit->Act->World->Prop:=bodyPost P fn fun e w'=>∃v F' ws' S,e= .returned v/\HS F0 w0 [b] F' (.box b t ws'::S) w'/\RelH T.rp Snap.nil (.box b t ws'::S) F' (.box t (cs' r)::Hs r) (.box b t ws'::S)/\Conc T.rp (.box b t ws'::S) F' (res r) v
theorem e1r{fn:Func}{s:St T.ty}{H:List (AO T.ty)}{x:AV T.ty}(h:evRX T fn s=some (H,x)){A:Ending->World->Prop}(hA:∀R F w v,RelH T.rp Kz R F H R->HS F0 w0 X F R w->LG T X R F->Conc T.rp R F x v->A (.returned v) w):Sm T (bodyPost P fn A) n F0 w0 X Kz s:=by
 unfold evRX at h
 split at h
 ·rename_i e H
  split at h
  ·rename_i x hl
   cases h
   intro R F m w h1 h2 h3 hX
   obtain⟨us,g1,g2⟩:=b9q (n:=n) h1 h2 h3 hl
   obtain⟨v,us',rfl,g3,g4⟩:=g1
   simp only [ConcL]at g4
   subst g4
   refine c9v (v:=v) (fun a' ha=> ?_) (hA R F w v h2 h3 hX g3)
   have g7:=g2 a' ha
   rw [b6f,Array.mapM_eq_mapM_toList]
   simp [g7]
  ·cases h
 ·cases h
theorem gRLG{fn:Func}{b:Nat}{t:TypeId}{cs':ρ->List (AV T.ty)}{Hs:ρ->List (AO T.ty)}{res:ρ->AV T.ty}{r a:ρ}{s:St T.ty}(h:evRX T fn (rn T n s)=some (.box t (cs' a)::Hs a,res a)):G T (e3y T fn F0 w0 b t cs' Hs res r) n F0 w0 [b] Snap.nil r (some a) s:=fun hm=>by
 cases hm
 refine a7m (e1r h fun R F w v h2 h3 hX hc=> ?_)
 obtain⟨en,c1,b',ws,rfl,c2⟩:=h2.2 0 _ rfl
 obtain⟨t2,cs2,c3⟩:=hX.1 0 b rfl
 rw [c1]at c3;cases c3
 obtain⟨S,rfl⟩:∃S,R= .box b t ws::S:=by
  cases R with
  |nil=>cases c1
  |cons y S=>simp only [List.getElem?_cons_zero,Option.some.injEq]at c1;subst c1;exact⟨S,rfl⟩
 exact⟨v,F,ws,S,rfl,h3,h2,hc⟩
theorem e1m{f:FuncId}{fn:Func}{co:Code}(hf:P.funcs[f]?=some fn)(hb:fn.body=some co)(hn:fn.ntmps=n){cs az:List (AV T.ty)}(hle:Nat.ble az.length n=true)(he:Ent P f){m:Option ρ}{t:TypeId}{cs':ρ->List (AV T.ty)}{Hs:ρ->List (AO T.ty)}{res:ρ->AV T.ty}
 (h:∀F0 w0 b r,G T (e3y T fn F0 w0 b t cs' Hs res r) n F0 w0 [b] Snap.nil r m ⟨.code co,[],argE 0 az,[.box t cs]⟩):FnLG T f t cs az m cs' Hs res:=by
 refine⟨he,fun r hr w F hs hg b ws us hbx hfb hcs hus=> ?_⟩
 refine a1v n hf hb hn (by rw [hus.len];exact hle) ?_
 refine h F w b r hr [.box b t ws] F _ w (b9c 0 hus) ⟨rfl,fun i o hi=> ?_⟩ (HS.lend hs hbx hfb) ⟨fun j b' hb=> ?_,hg⟩
 ·cases i with
  |zero=>cases hi;exact⟨_,rfl,b,ws,rfl,hcs.mono (c8q (Frz.refl F))⟩
  |succ i=>simp at hi
 ·cases j with
  |zero=>cases hb;exact⟨t,ws,rfl⟩
  |succ j=>simp at hb
theorem gFi(i:Nat){r:ρ}{m:Option ρ}{s s':St T.ty}(h:evFi T i (rn T n s)=some s')(g:G T Q n F0 w0 X Kz r m s'):G T Q n F0 w0 X Kz r m s:=fun hm=>by
 refine a7m ?_
 revert h
 generalize rn T n s=s2
 intro h
 unfold evFi at h
 split at h
 rename_i c k e H
 split at h
 ·rename_i el q cc xs hc hi
  split at h
  ·rename_i as' e' H' hz
   cases h
   intro R F mm w h1 h2 h3 hX
   obtain⟨en,u1,a,m',n',us,rfl,u2⟩:=h2.2 i _ hi
   obtain⟨R',F',k1,k2,k3,k4,k5,k6⟩:=b0t (us:= [.slice a m' n']) hz h1 h2 h3 hX ⟨_,[],rfl,⟨_,_,_,_,_,_,u1,rfl⟩,rfl⟩
   exact c9i hc (g hm R' F' mm w k2 k3 k4 k5)
  ·cases h
 ·cases h
theorem gFs(i c q k:Nat){r:ρ}{m:Option ρ}{s s':St T.ty}(h:evFs T i c q k (rn T n s)=some s')(hx:Nat.ble X.length i=true)(g:G T Q n F0 w0 X Kz r m s'):G T Q n F0 w0 X Kz r m s:=fun hm=>by
 refine a7m ?_
 revert h
 generalize rn T n s=s2
 intro h
 unfold evFs at h
 split at h
 rename_i ct ks e H
 split at h
 ·rename_i t cs hct hi
  split at h
  ·rename_i xs hp hk hdec
   split at h
   ·rename_i H' hput
    cases h
    intro R F mm w h1 h2 h3 hX
    obtain⟨R',F',hT,g1,g2,g3⟩:=e3w (r:=fun _=> .any) (s:=sbS c k xs) h2 h3 hX hi hp (Nat.le_of_ble_eq_true hx) (fun R' F' b us hc hl=>⟨fun o=>trivial,fun c' k'=>by
     unfold sbS
     split
     ·rename_i e1 e2
      obtain rfl:=Nat.eq_of_beq_eq_true e1
      obtain rfl:=Nat.eq_of_beq_eq_true e2
      obtain⟨d1,d2⟩:=c9h hdec hl
      exact⟨_,_,_,rfl,d1.1,Nat.le_of_eq d1.1,Nat.le_of_ble_eq_true hk,.inr ⟨b,0,us,rfl,hc,d1.2⟩⟩
     ·trivial⟩)
    rw [<-b7d hput]at g1
    exact c9i hct (g hm R' F' mm w (h1.subB hT) g1 g2 g3)
   ·cases h
  ·cases h
 ·cases h
end
end Go.Proofs.YthaegflpecbfgaaGreatDoor.Rt
namespace Go.Proofs.YthaegflpecbfgaaGreatDoor.Rt
open Go Go.RowKit
set_option linter.unusedVariables false
set_option linter.unusedSimpArgs false
def wsl(len:Nat)(a b:Int):Option Unit:=if 0<=a/\a<=b/\b<=(len:Int)/\a<(len:Int)then some ()else none
def cpy{α:Type}(xs:List α)(lo:Nat)(ys:List α):List α:=xs.take lo++ys++xs.drop (lo+ys.length)
section
variable{P:Program}{Q:Exit->Act->World->Prop}{n d:Nat}{env:Env}{w w0:World}{opr:Array Oper}{rest:List Oper}{ty:TypeId}{pos:String}{es:Array Edge}{g:Option (Nat×Bool)}{F F0:Frz}{X:List Nat}{O:List OE}
theorem d6g{α:Type}{r:Rp α}{x y:Operand}{dT sT el e:TypeId}{m c p lo sl sc dl dc:Nat}{a da sa:Option Addr}{us cs:List Value}{xs ys:List α}(hu:P.underlying dT=some (.slice el))(hS:SizeIs P el r.k)(hg:isOn opr env g=true)(hn:Nat.blt d n=true)(h:HS F0 w0 X F O w)
 (hx:opv env x=some (.slice da dl dc)) (hy:opv env y=some (.slice sa sl sc)) (hp:O[p]?=some (.row e r.k a m c us)) (hl:RowN r F m us xs) (hd:0<Nat.min sl dl->∃b,a=some ⟨b,0,none⟩/\da=some ⟨b,lo*r.k,none⟩) (hfit:lo+dl<=m)
 (hs:0<Nat.min sl dl->∃b o,sa=some ⟨b,o,none⟩/\∀(j:Nat)v,cs[j]?=some v->w.cell? ⟨b,o+j,none⟩=some v) (hcl:cs.length=Nat.min sl dl*r.k) (hys:ys.length=Nat.min sl dl) (hR:RowR r F cs ys)
 (k:∀w' us',HS F0 w0 X F (O.set p (.row e r.k a m c us')) w'->RowN r F m us' (cpy xs lo ys)->RW P opr Q rest n ((d,.int .i64 (Nat.min sl dl:Nat))::env) w'):
 RW P opr Q (⟨some d,.call ⟨.builtin .copy, #[x,y], #[dT,sT]⟩,ty,pos,es,g⟩::rest) n env w:=by
 have hmin:Nat.min sl dl<=dl:=Nat.min_le_right ..
 rcases Nat.eq_zero_or_pos (Nat.min sl dl)with h0|hpos
 ·have hy0:ys= []:=List.length_eq_zero_iff.1 (by omega)
  subst hy0
  have hcp:cpy xs lo ([]:List α)=xs:=by unfold cpy;simp
  have hset:O.set p (.row e r.k a m c us)=O:=by
   obtain⟨hlt,hget⟩:=List.getElem?_eq_some_iff.1 hp
   rw [<-hget];exact List.set_getElem_self ..
  refine b2x (w':=w) rfl (by simpa using hn) hg (v:= .int .i64 (Nat.min sl dl:Nat)) (fun a' ha=> ?_) (k w us (by rw [hset];exact h) (by rw [hcp];exact hl))
  have e1:∀a:Addr,(loadCells a 0).run P w= .ok #[] w:=fun a=>run_loadCells_list (P:=P) w a [] (fun j v hj=>by simp at hj)
  have h0':min sl dl=0:=h0
  cases sa<;>cases da<;>simp [execOp,resolve,invoke,builtin,ha.op hx,ha.op hy,Builtin.copy_,underlying,hu,Builtin.lenOf,Builtin.firstCells,hS w,h0,h0',e1,storeCells,goInt]
 ·obtain⟨b,rfl,rfl⟩:=hd hpos
  obtain⟨b2,o2,rfl,hsrc⟩:=hs hpos
  have hm:0<m:=by omega
  obtain⟨b',cur,ha',hb',hblk,hcur,⟨hxl,hbound⟩,hst⟩:=OE.access (h.get hp) (e:=e) (k:=r.k) (a:=some ⟨b,0,none⟩) (m:=m) (c:=c) (xs:=us) (base:=0) rfl hm
  cases ha'
  have hle:lo*r.k+cs.length<=us.length:=by
   rw [hxl,hcl,<-Nat.add_mul]
   exact Nat.mul_le_mul_right _ (by omega)
  have h1:=hR.one
  have hrun:=run_storeCells_at P b (lo*r.k) e cs 0 cur w hb' (by omega) h1
  have hok:=hst (lo*r.k) cs hle
  have hload:=run_loadCells_list (P:=P) w ⟨b2,o2,none⟩ cs (fun j v hj=>by rw [a7u];exact hsrc j v hj)
  rw [hcl]at hload
  simp only [Nat.zero_add]at hok
  simp only [Nat.add_zero]at hrun
  have hnew:RowN r F m (us.take (lo*r.k)++cs++us.drop (lo*r.k+cs.length)) (cpy xs lo ys):=by
   obtain⟨hl1,hl2⟩:=hl
   refine⟨?_,?_⟩
   ·unfold cpy
    simp only [List.length_append,List.length_take,List.length_drop]
    omega
   ·unfold cpy
    have e1:lo*r.k+cs.length=(lo+ys.length)*r.k:=by rw [hcl,hys,Nat.add_mul]
    rw [e1]
    exact RowR.append (hl2.drop _) (RowR.append hR (hl2.take lo))
  refine b2x (w':=w.setRow b (cur.toList.take (lo*r.k)++cs++cur.toList.drop (lo*r.k+cs.length)).toArray) rfl (by simpa using hn) hg (v:= .int .i64 (Nat.min sl dl:Nat)) (fun a' ha=> ?_) (k _ _ (h.upd hp (by rw [hblk];exact b5n w b _) hok (fun b1 hb1=> .inl hb1)) hnew)
  have hload':(loadCells ⟨b2,o2,none⟩ (min sl dl*r.k)).run P w= .ok cs.toArray w:=hload
  simp [execOp,resolve,invoke,builtin,ha.op hx,ha.op hy,Builtin.copy_,underlying,hu,Builtin.lenOf,Builtin.firstCells,hS w,hload,hload',hrun,goInt]
end
section
variable{P:Program}(T:Tbl P)
def d8j(e:AE T.ty)(H:List (AO T.ty)):Op->Option (QV T.ty)
 | .slice t x lo hi none=>match opA e x,T.und t with
   |some (.row i),some (.slice el)=>match T.size el,H[i]? with
    |some q,some (.row _ q' c xs)=>match Nat.beq q q',Nat.beq q' (T.rp c).k,bndA e 0 lo,bndA e xs.length hi with
     |true,true,some a,some b=>some ⟨Unit,wsl xs.length a b,fun _=> .rw i a.toNat b.toNat⟩
     |_,_,_,_=>none
    |_,_=>none
   |_,_=>none
 |_=>none
def evSw(n:Nat)(s:St T.ty):Option (EV T.ty):=match s with
 |⟨.ops all (o::l),k,e,H⟩=>match a9g all e o.guard,o.dst with
  |true,some d=>match Nat.blt d n,d8j T e H o.op with
   |true,some q=>some ⟨q.α,q.x,fun v=>⟨.ops all l,k,(d,q.v v)::e,H⟩⟩
   |_,_=>none
  |_,_=>none
 |⟨.mix all (.tk i p) ks el,k,e,H⟩=>match all[i]?,c6i ks H with
  |some o,true=>match a9g all e o.guard,o.dst with
   |true,some d=>match Nat.blt d n,d8j T e H o.op with
    |true,some q=>some ⟨q.α,q.x,fun v=>⟨.mix all p ks el,k,(d,q.v v)::e,H⟩⟩
    |_,_=>none
   |_,_=>none
  |_,_=>none
 |_=>none
structure CV(ty:Nat->Type)where
 α:Type
 xs:List α
 lo:Nat
 ys:List α
 nx:List α->St ty
def evCp(n:Nat)(s:St T.ty):Option (CV T.ty):=match s with
 |⟨.ops all (o::l),k,e,H⟩=>match a9g all e o.guard,o.dst,o.op with
  |true,some d,.call ⟨.builtin .copy,args,ts⟩=>match Nat.blt d n,args.toList,ts.toList with
   |true,[x,y],[dT,_]=>match T.und dT with
    |some (.slice el)=>match T.size el,opA e x,opA e y with
     |some q,some (.row i),some (.sl c ys)=>match H[i]? with
      |some (.row e2 q' c' xs)=>match c9x c' c xs,Nat.beq q (T.rp c).k,Nat.beq q' (T.rp c).k with
       |some xs',true,true=>some ⟨T.ty c,xs',0,ys.take xs'.length,fun v=>⟨.ops all l,k,(d,.int .i64 (Nat.min ys.length xs'.length:Nat))::d5k i e,(d0g i H).set i (.row e2 q c v)⟩⟩
       |_,_,_=>none
      |_=>none
     |some q,some (.rw i lo hi),some (.rw i2 lo2 hi2)=>match Nat.beq i2 i,H[i]? with
      |true,some (.row e2 q' c xs)=>match Nat.beq q (T.rp c).k,Nat.beq q' (T.rp c).k with
       |true,true=>some ⟨T.ty c,xs,lo,(xs.drop lo2).take (Nat.min (hi2-lo2) (hi-lo)),fun v=>⟨.ops all l,k,(d,.int .i64 (Nat.min (hi2-lo2) (hi-lo):Nat))::d5k i e,(d0g i H).set i (.row e2 q c v)⟩⟩
       |_,_=>none
      |_,_=>none
     |_,_,_=>none
    |_=>none
   |_,_,_=>none
  |_,_,_=>none
 |_=>none
end
section
variable{P:Program}{T:Tbl P}{n:Nat}{F0:Frz}{w0:World}{X:List Nat}{ρ:Type}{Q:Exit->Act->World->Prop}{Kz:Snap}
theorem d1r{R:List OE}{F:Frz}{e:AE T.ty}{m:Env}{H:List (AO T.ty)}{K:Snap}{W:World->Prop}(hE:ConcE T.rp R F e m)(hH:RelH T.rp K R F H R)(hR:c4s R)(hC:∀(i:Nat)e q a m n xs,R[i]?=some (OE.row e q a m n xs)->m<=n){o:Oper}{q:QV T.ty}(h:d8j T e H o.op=some q)(v:q.α)(hv:q.x=some v):∃u,Conc T.rp R F (q.v v) u/\c2d P W m o u:=by
 obtain⟨dst,op,type,pos,after,guard⟩:=o
 dsimp only at h
 unfold d8j at h
 split at h
 ·rename_i t x lo hi
  split at h
  ·rename_i i el hx hu
   split at h
   ·rename_i q0 el' q' c xs hS hi'
    split at h
    ·rename_i a b hk hk2 ha0 hb0
     cases h
     dsimp only at hv
     unfold wsl at hv
     split at hv
     ·rename_i hc
      obtain⟨c1,c2,c3,c4⟩:=hc
      obtain⟨p,rfl⟩:=Int.eq_ofNat_of_zero_le c1
      obtain⟨z,rfl⟩:=Int.eq_ofNat_of_zero_le (show 0<=b by omega)
      have hk:=Nat.eq_of_beq_eq_true hk
      obtain⟨u,h1,e2,q2,a2,m2,n2,us,g1,g2⟩:=a1b hE hx
      subst g2
      obtain⟨en,k1,a3,m3,n3,us3,rfl,k2⟩:=hH.2 i _ hi'
      rw [g1]at k1;cases k1
      have hml:=k2.1
      obtain⟨bb,rfl⟩:=hR i _ _ _ _ _ _ g1 (by omega)
      have hcap:=hC i _ _ _ _ _ _ g1
      have hS:=T.sizeOk hS
      subst hk
      have hne:¬n2=p:=by omega
      have h1':p<=z:=by omega
      have hq:z<=n2:=by omega
      have f1:∀(w:World)(c:BoundsCode)(y:Nat),z<=y->(Instr.sliceBound (.int .i64 (z:Int)) y c).run P w= .ok z w:=fun w c y hy=>by simp [Instr.sliceBound,asIntOf,hy]
      have f2:∀(w:World)(c:BoundsCode)(y:Nat),p<=y->(Instr.sliceBound (.int .i64 (p:Int)) y c).run P w= .ok p w:=fun w c y hy=>by simp [Instr.sliceBound,asIntOf,hy]
      have hu:=T.undOk hu
      have hadd:∀d:Nat,(⟨bb,0,none⟩:Addr).add d=⟨bb,d,none⟩:=fun d=>by rw [a7u,Nat.zero_add]
      refine⟨.slice (some ⟨bb,p*q0,none⟩) (z-p) (n2-p),⟨el',q0,bb,m2,n2,us,g1,by simp;omega,by simp;omega,by simp;omega,by simp⟩,fun w _ _ _ ha=> ?_⟩
      rcases b9n hE ha0 with⟨rfl,hp0⟩|⟨xl,rfl,h5⟩<;>rcases b9n hE hb0 with⟨rfl,hz0⟩|⟨xh,rfl,h6⟩
      ·obtain rfl:p=0:=by omega
       obtain rfl:z=m2:=by omega
       simp [execOp,ha.op h1,Instr.sliceAt,Instr.slice,Instr.sliceBounds,underlying,hu,f1,f2,h1',hq,hne,hadd,hS w]
      ·obtain rfl:p=0:=by omega
       simp [execOp,ha.op h1,ha.op h6,Instr.sliceAt,Instr.slice,Instr.sliceBounds,underlying,hu,f1,f2,h1',hq,hne,hadd,hS w]
      ·obtain rfl:z=m2:=by omega
       simp [execOp,ha.op h1,ha.op h5,Instr.sliceAt,Instr.slice,Instr.sliceBounds,underlying,hu,f1,f2,h1',hq,hne,hadd,hS w]
      ·simp [execOp,ha.op h1,ha.op h5,ha.op h6,Instr.sliceAt,Instr.slice,Instr.sliceBounds,underlying,hu,f1,f2,h1',hq,hne,hadd,hS w]
     ·cases hv
    ·cases h
   ·cases h
  ·cases h
 ·cases h
theorem d4e{R:List OE}{F:Frz}{w:World}(h:HS F0 w0 X F R w):∀(i:Nat)e q a m n xs,R[i]?=some (OE.row e q a m n xs)->m<=n:=by
 intro i e q a m n xs hi
 have:=h.own _ (List.mem_of_getElem? hi)
 rcases this.2 with⟨h1,h2⟩|⟨g,cap,cur,h1,h2,h3,h4,h5,h6⟩
 ·omega
 ·cases h1;exact h4
theorem gSw{r:ρ}{α:Type}{x:Option α}{g:α->Option ρ}{nx:α->St T.ty}{s:St T.ty}(h:evSw T n (rn T n s)=some ⟨α,x,nx⟩)(k:∀v,G T Q n F0 w0 X Kz r (g v) (nx v)):G T Q n F0 w0 X Kz r (x.bind g) s:=fun hm=>by
 obtain⟨v,hv,hm⟩:=bind_some hm
 refine a7m ?_
 have k:=k v hm
 revert h
 generalize rn T n s=s2
 intro h
 unfold evSw at h
 split at h
 ·rename_i all o l its e H
  split at h
  ·rename_i d hg hd
   split at h
   ·rename_i q' hn hq
    cases h
    intro R F m w h1 h2 h3 hX
    obtain⟨u,hu,hr⟩:=d1r (P:=P) (W:=CH F0 w0 X F R) h1 h2 h3.rows (d4e h3) hq v hv
    exact a6t hd (by simpa using hn) (a3d h1 hg) (fun a ha=>hr w ⟨F,Frz.refl F,h3⟩ n a ha) (k R F ((d,u)::m) w (h1.put hu) h2 h3 hX)
   ·cases h
  ·cases h
 ·rename_i all i p ks el its e H
  split at h
  ·rename_i o hi hk
   split at h
   ·rename_i d hg hd
    split at h
    ·rename_i q' hn hq
     cases h
     intro R F m w h1 h2 h3 hX hF listed hp
     have hp:=d4g hp
     obtain⟨u,hu,hr⟩:=d1r (P:=P) (W:=SK Kz ks) h1 h2 h3.rows (d4e h3) hq v hv
     exact c2o i hi (a8k hp.1).1 (a8k hp.1).2.1 (a8k hp.1).2.2 hd hn (a3d h1 hg) (d8t hk h2 h3) (fun w' hw' a ha=>hr w' hw' n a ha) (k R F ((d,u)::m) w (h1.put hu) h2 h3 hX hF _ hp.2)
    ·cases h
   ·cases h
  ·cases h
 ·cases h
theorem e2p{s:St T.ty}{q:CV T.ty}(h:evCp T n s=some q)(k:Sm T Q n F0 w0 X Kz (q.nx (cpy q.xs q.lo q.ys))):Sm T Q n F0 w0 X Kz s:=by
 unfold evCp at h
 split at h
 ·rename_i all o l its e H
  split at h
  ·rename_i d args ts hg hd ho
   split at h
   ·rename_i x y dT sT hn hargs hts
    split at h
    ·rename_i el hu
     obtain⟨dst,op,type,pos,after,guard⟩:=o
     dsimp only at hg hd ho
     subst hd;subst ho
     obtain⟨args⟩:=args
     obtain⟨ts⟩:=ts
     simp only at hargs hts
     subst hargs;subst hts
     split at h
     ·rename_i q0 i c ys hS hx hy
      split at h
      ·rename_i e2 q' c' xs hi
       split at h
       ·rename_i xs' hcast hk1 hk2
        cases h
        dsimp only at k
        obtain⟨e1,e3⟩:=b8d hcast
        subst e1
        have e3:xs'=xs:=e3
        subst e3
        have hk1:=Nat.eq_of_beq_eq_true hk1
        have hk2:=Nat.eq_of_beq_eq_true hk2
        subst hk2
        have hS:=T.sizeOk hS
        subst hk1
        intro R F mm w h1 h2 h3 hX
        obtain⟨ux,g1,e4,q4,a4,m4,n4,us,g2,rfl⟩:=a1b h1 hx
        obtain⟨uy,y1,sa,sl,sc,rfl,y2⟩:=a1b h1 hy
        obtain⟨en,k1,a2,m2,n2,us2,rfl,k2⟩:=h2.2 i _ hi
        rw [g2]at k1;cases k1
        have hml:=k2.1
        have hsl:=y2.1
        have hcs:0<Nat.min sl m4->∃b o l,sa=some ⟨b,o,none⟩/\FC F b o l/\RowR (T.rp c') F l ys:=by
         intro hpos
         have:Nat.min sl m4<=sl:=Nat.min_le_left ..
         rcases y2.2.2.2 with h0|h0
         ·subst h0;simp at hsl;omega
         ·exact h0
        have hlt:=(List.getElem?_eq_some_iff.1 g2).1
        have fin:∀w' us',HS F0 w0 X F (R.set i (.row e2 (T.rp c').k a4 m4 n4 us')) w'->RowN (T.rp c') F m4 us' (cpy xs' 0 (ys.take xs'.length))->RW P all (kq P Kz Q its) l n ((d,.int .i64 (Nat.min sl m4:Nat))::mm) w':=by
         intro w' us' hS' hR'
         have hT:TurnR i R F (R.set i (.row e2 (T.rp c').k a4 m4 n4 us')) F:=by
          refine⟨Frz.refl F,fun j2 b2 t2 cs2 hj=>⟨cs2,?_⟩,fun j2 e5 q2 a2 m2 n2 ys hj=> ?_,fun j2 e5 q2 a2 m2 n2 ys hne hj=> ?_⟩
          ·rw [List.getElem?_set,if_neg (fun e=>by subst e;rw [g2]at hj;cases hj)];exact hj
          ·rw [List.getElem?_set]
           by_cases hij:i=j2
           ·subst hij;rw [g2]at hj;cases hj
            rw [if_pos rfl,if_pos hlt];exact⟨us',rfl⟩
           ·rw [if_neg hij];exact⟨ys,hj⟩
          ·rw [List.getElem?_set,if_neg (fun e=>hne e.symm)];exact hj
         have k3:=k _ F _ w' ((h1.subR hT).put (t:=d) (x:= .int .i64 (Nat.min ys.length xs'.length:Nat)) (v:= .int .i64 (Nat.min sl m4:Nat)) (by show Value.int _ _=Value.int _ _;rw [hsl,hml])) ((h2.subR hT).set i ⟨_,_,_,us',rfl,hR'⟩) hS' ⟨fun j2 b2 hb=> ?_,hX.2⟩
         ·exact k3
         ·obtain⟨t2,cs2,h5⟩:=hX.1 j2 b2 hb
          obtain⟨cs3,h6⟩:=hT.box j2 b2 t2 cs2 h5
          exact⟨t2,cs3,h6⟩
        rcases Nat.eq_zero_or_pos (Nat.min sl m4)with h0|hpos
        ·refine d6g (r:=T.rp c') (lo:=0) (cs:= []) (ys:=ys.take xs'.length) (T.undOk hu) hS (a3d h1 hg) hn h3 g1 y1 g2 k2 (fun h=>by omega) (by omega) (fun h=>by omega) (by rw [h0];simp) (by rw [List.length_take,hsl,hml];show Nat.min m4 sl=_;exact Nat.min_comm ..) ?_ fin
         have:ys.take xs'.length= []:=List.length_eq_zero_iff.1 (by rw [List.length_take,hsl,hml];exact(Nat.min_comm m4 sl).trans h0)
         rw [this];rfl
        ·obtain⟨b,o,lv,rfl,hfc,hrr⟩:=hcs hpos
         have hlen:=hrr.len
         have hmle:Nat.min sl m4<=sl:=Nat.min_le_left ..
         have hmle2:Nat.min sl m4<=m4:=Nat.min_le_right ..
         obtain⟨bb,rfl⟩:=h3.rows i _ _ _ _ _ _ g2 (by omega)
         have htk:ys.take xs'.length=ys.take (Nat.min sl m4):=by
          rw [hml]
          apply List.ext_getElem?
          intro j
          rw [List.getElem?_take,List.getElem?_take]
          by_cases h5:j<m4
          ·by_cases h6:j<sl
           ·rw [if_pos h5,if_pos (by show j<min sl m4;omega)]
           ·rw [if_pos h5,List.getElem?_eq_none (by omega)];split<;>rfl
          ·rw [if_neg h5,if_neg (by show¬j<min sl m4;omega)]
         refine d6g (r:=T.rp c') (lo:=0) (cs:=lv.take (Nat.min sl m4*(T.rp c').k)) (ys:=ys.take xs'.length) (T.undOk hu) hS (a3d h1 hg) hn h3 g1 y1 g2 k2 (fun _=>⟨bb,rfl,by rw [Nat.zero_mul]⟩) (by omega) (fun _=>⟨b,o,rfl,fun j v hj=> ?_⟩) ?_ ?_ ?_ fin
         ·rw [List.getElem?_take]at hj
          split at hj
          ·exact hfc.cell h3.sat hj
          ·cases hj
         ·rw [List.length_take,hlen,hsl]
          exact Nat.min_eq_left (Nat.mul_le_mul_right _ hmle)
         ·rw [List.length_take,hsl,hml];show Nat.min m4 sl=_;exact Nat.min_comm ..
         ·rw [htk];exact hrr.take _
       ·cases h
      ·cases h
     ·rename_i q0 i lo hi i2 lo2 hi2 hS hx hy
      split at h
      ·rename_i e2 q' c xs hb hi'
       split at h
       ·rename_i hk1 hk2
        cases h
        dsimp only at k
        have hb:=Nat.eq_of_beq_eq_true hb
        subst hb
        have hk1:=Nat.eq_of_beq_eq_true hk1
        have hk2:=Nat.eq_of_beq_eq_true hk2
        subst hk2
        have hS:=T.sizeOk hS
        subst hk1
        intro R F mm w h1 h2 h3 hX
        obtain⟨ux,g1,e4,q4,b4,m4,n4,us,g2,p1,p2,p3,rfl⟩:=a1b h1 hx
        obtain⟨uy,y1,e5,q5,b5,m5,n5,us5,g5,r1,r2,r3,rfl⟩:=a1b h1 hy
        rw [g2]at g5;cases g5
        obtain⟨en,k1,a2,m2,n2,us2,rfl,k2⟩:=h2.2 i2 _ hi'
        rw [g2]at k1;cases k1
        have hml:=k2.1
        have hlt:=(List.getElem?_eq_some_iff.1 g2).1
        have hmle:Nat.min (hi2-lo2) (hi-lo)<=hi2-lo2:=Nat.min_le_left ..
        have hul:=k2.2.len
        have hcell:=World.ownsRow.cells (h3.own _ (List.mem_of_getElem? g2)) (g:=b4) rfl
        refine d6g (r:=T.rp c) (lo:=lo) (cs:=(us.drop (lo2*(T.rp c).k)).take (Nat.min (hi2-lo2) (hi-lo)*(T.rp c).k)) (ys:=(xs.drop lo2).take (Nat.min (hi2-lo2) (hi-lo))) (T.undOk hu) hS (a3d h1 hg) hn h3 g1 y1 g2 k2 (fun _=>⟨b4,rfl,rfl⟩) (by omega) (fun _=>⟨b4,lo2*(T.rp c).k,rfl,fun j v hj=> ?_⟩) ?_ ?_ ((k2.2.drop lo2).take _) fun w' us' hS' hR'=> ?_
        ·rw [List.getElem?_take]at hj
         split at hj
         ·rw [List.getElem?_drop]at hj
          have:=hcell _ v hj
          rw [a7u]at this
          simpa using this
         ·cases hj
        ·rw [List.length_take,List.length_drop,hul,hml,<-Nat.sub_mul]
         exact Nat.min_eq_left (Nat.mul_le_mul_right _ (by omega))
        ·rw [List.length_take,List.length_drop,hml]
         exact Nat.min_eq_left (by omega)
        ·have hT:TurnR i2 R F (R.set i2 (.row e2 (T.rp c).k (some ⟨b4,0,none⟩) m4 n4 us')) F:=by
          refine⟨Frz.refl F,fun j2 b2 t2 cs2 hj=>⟨cs2,?_⟩,fun j2 e5 q2 a2 m2 n2 ys hj=> ?_,fun j2 e5 q2 a2 m2 n2 ys hne hj=> ?_⟩
          ·rw [List.getElem?_set,if_neg (fun e=>by subst e;rw [g2]at hj;cases hj)];exact hj
          ·rw [List.getElem?_set]
           by_cases hij:i2=j2
           ·subst hij;rw [g2]at hj;cases hj
            rw [if_pos rfl,if_pos hlt];exact⟨us',rfl⟩
           ·rw [if_neg hij];exact⟨ys,hj⟩
          ·rw [List.getElem?_set,if_neg (fun e=>hne e.symm)];exact hj
         have k3:=k _ F _ w' ((h1.subR hT).put (t:=d) (x:= .int .i64 (Nat.min (hi2-lo2) (hi-lo):Nat)) (v:= .int .i64 (Nat.min (hi2-lo2) (hi-lo):Nat)) rfl) ((h2.subR hT).set i2 ⟨_,_,_,us',rfl,hR'⟩) hS' ⟨fun j2 b2 hb=> ?_,hX.2⟩
         ·exact k3
         ·obtain⟨t2,cs2,h5⟩:=hX.1 j2 b2 hb
          obtain⟨cs3,h6⟩:=hT.box j2 b2 t2 cs2 h5
          exact⟨t2,cs3,h6⟩
       ·cases h
      ·cases h
     ·cases h
    ·cases h
   ·cases h
  ·cases h
 ·cases h
theorem gCp{r:ρ}{α:Type}{xs ys:List α}{lo:Nat}{m:Option ρ}{nx:List α->St T.ty}{s:St T.ty}(h:evCp T n (rn T n s)=some ⟨α,xs,lo,ys,nx⟩)(k:G T Q n F0 w0 X Kz r m (nx (cpy xs lo ys))):G T Q n F0 w0 X Kz r m s:=fun hm=>a7m (e2p h (k hm))
end
end Go.Proofs.YthaegflpecbfgaaGreatDoor.Rt
namespace Go.Proofs.YthaegflpecbfgaaGreatDoor.Rt
open Go
def Ev{α:Type}(f:Nat->Option α)(r:α):Prop:=∃N,∀n,N<=n->f n=some r
section
variable{α β:Type}
theorem Ev.pure(a:α):Ev (fun _=>some a) a:=⟨0,fun _ _=>rfl⟩
theorem Ev.all{f:Nat->Option α}{r:α}(h:∀n,f n=some r):Ev f r:=⟨0,fun n _=>h n⟩
theorem Ev.bind{x:Nat->Option α}{f:Nat->α->Option β}{a:α}{b:β}(hx:Ev x a)(hf:Ev (fun n=>f n a) b):Ev (fun n=>(x n).bind (f n)) b:=by
 obtain⟨N,hN⟩:=hx
 obtain⟨M,hM⟩:=hf
 refine⟨max N M,fun n hn=> ?_⟩
 show(x n).bind (f n)=some b
 rw [hN n (by omega)]
 exact hM n (by omega)
theorem Ev.step{x:Option α}{f:Nat->α->Option β}{a:α}{b:β}(hx:x=some a)(hf:Ev (fun n=>f n a) b):Ev (fun n=>x.bind (f n)) b:=by
 subst hx;exact hf
theorem Ev.then{x:Nat->Option α}{b:α}{c:Bool}{y:Nat->Option α}(hc:c=true)(h:Ev x b):Ev (fun n=>bif c then x n else y n) b:=by subst hc;exact h
theorem Ev.else{x:Nat->Option α}{b:α}{c:Bool}{y:Nat->Option α}(hc:c=false)(h:Ev y b):Ev (fun n=>bif c then x n else y n) b:=by subst hc;exact h
theorem Ev.from{f g:Nat->Option α}{r:α}(N:Nat)(h:∀n,N<=n->f n=g n)(hg:Ev g r):Ev f r:=by
 obtain⟨M,hM⟩:=hg
 exact⟨max N M,fun n hn=>by rw [h n (by omega)];exact hM n (by omega)⟩
theorem Ev.eq{f:Nat->Option α}{r s:α}(h:Ev f r)(e:r=s):Ev f s:=e▸h
theorem Ev.uniq{f:Nat->Option α}{r s:α}(h:Ev f r)(k:Ev f s):r=s:=by
 obtain⟨N,hN⟩:=h
 obtain⟨M,hM⟩:=k
 have h1:=hN (max N M) (by omega)
 rw [hM (max N M) (by omega)]at h1
 exact(Option.some.inj h1).symm
end
theorem e0j(x:Int):IntKind.i64.wrap x=if x %18446744073709551616≥9223372036854775808 then x %18446744073709551616-18446744073709551616 else x %18446744073709551616:=by
 simp [IntKind.wrap,IntKind.bits,IntKind.signed]
theorem a5k{x:Int}(h1:-9223372036854775808<=x)(h2:x<=9223372036854775807):IntKind.i64.wrap x=x:=by
 rw [e0j];split<;>omega
theorem c6g(x:Int):IntKind.u64.wrap x=x %18446744073709551616:=by
 simp [IntKind.wrap,IntKind.bits,IntKind.signed]
theorem a2n{x y:Int}(h1:-9223372036854775808<=x+y)(h2:x+y<=9223372036854775807):iadd .i64 x y=x+y:=a5k h1 h2
theorem a1f{x y:Int}(h1:-9223372036854775808<=x-y)(h2:x-y<=9223372036854775807):isub .i64 x y=x-y:=a5k h1 h2
theorem a7p{x y:Int}(h1:-9223372036854775808<=x*y)(h2:x*y<=9223372036854775807):imul .i64 x y=x*y:=a5k h1 h2
theorem d0u(k:IntKind)(x:Int)(m:Nat)(hk:k.bits=64)(hm:m<64):(BitVec.ofInt k.bits x&&&BitVec.ofInt k.bits ((2^m-1:Nat):Int)).toNat=(x %18446744073709551616).toNat %2^m:=by
 rw [BitVec.toNat_and,BitVec.toNat_ofInt,BitVec.toNat_ofInt,hk]
 have h2:(((2^m-1:Nat):Int) %((2^64:Nat):Int)).toNat=2^m-1:=by
  have:2^m<2^64:=Nat.pow_lt_pow_right (by omega) hm
  rw [<-Int.natCast_emod,Int.toNat_natCast,Nat.mod_eq_of_lt (by omega)]
 rw [h2,Nat.and_two_pow_sub_one_eq_mod]
 rfl
theorem b5e(x:Int):iand .i64 x 1048575=x %1048576:=by
 have h:=d0u .i64 x 20 rfl (by omega)
 have e:((2^20-1:Nat):Int)=1048575:=by decide
 rw [e]at h
 unfold iand
 rw [h,a5k (by omega) (by omega)]
 omega
theorem d9g(x:Int):iand .i64 x 1=x %2:=by
 have h:=d0u .i64 x 1 rfl (by omega)
 have e:((2^1-1:Nat):Int)=1:=by decide
 rw [e]at h
 unfold iand
 rw [h,a5k (by omega) (by omega)]
 omega
theorem c1n(x:Int):shr .i64 x 20=some (x/1048576):=by
 unfold shr
 rw [if_neg (by omega),Int.fdiv_eq_ediv_of_nonneg _ (by decide)]
 rfl
theorem c1d{x:Int}(h0:-8796093022208<=x)(h1:x<8796093022208):shl .i64 x 20=some (x*1048576):=by
 unfold shl
 rw [if_neg (by omega),show(2:Int)^(min (20:Int).toNat IntKind.i64.bits)=1048576 from by decide,a5k (by omega) (by omega)]
theorem c1y{x y:Int}(h0:0<=x)(h1:x<8796093022208)(h2:0<=y)(h3:y<1048576):ior .i64 (x*1048576) y=x*1048576+y:=by
 obtain⟨p,rfl⟩:=Int.eq_ofNat_of_zero_le h0
 obtain⟨q,rfl⟩:=Int.eq_ofNat_of_zero_le h2
 unfold ior
 rw [BitVec.toNat_or,BitVec.toNat_ofInt,BitVec.toNat_ofInt,show IntKind.i64.bits=64 from rfl]
 have e1:(((p:Int)*1048576) %((2^64:Nat):Int)).toNat=2^20*p:=by omega
 have e2:((q:Int) %((2^64:Nat):Int)).toNat=q:=by omega
 rw [e1,e2,<-Nat.two_pow_add_eq_or_of_lt (by omega),a5k (by omega) (by omega)]
 omega
theorem c1h{x y:Int}(h0:0<=x)(h1:x<=9223372036854775807)(h2:0<y):quo .i64 x y=some (x/y):=by
 unfold quo
 have h3:=Int.ediv_nonneg h0 (Int.le_of_lt h2)
 have h4:=Int.ediv_le_self y h0
 rw [if_neg (by omega),Int.tdiv_eq_ediv_of_nonneg h0,a5k (by omega) (by omega)]
theorem c2c{x y:Int}(h0:0<=x)(h2:0<y):rem x y=some (x %y):=by
 unfold rem
 rw [if_neg (by omega),Int.tmod_eq_emod_of_nonneg h0]
section
variable{α:Type}
theorem b4l(l:List α)(i:Nat):ix l (i:Int)=l[i]?:=by simp [ix]
theorem a4x(p:List α)(x:α)(s:List α){i:Int}(hi:i=p.length):ix (p++x::s) i=some x:=by
 subst hi;rw [b4l];simp
theorem a8y(p:List α)(x y:α)(s:List α){i:Int}(hi:i=p.length):lset (p++x::s) i y=some (p++y::s):=by
 subst hi
 unfold lset
 rw [if_pos ⟨by omega,by simp;omega⟩]
 simp
theorem c4o{b:Nat}{z:α}{n:Nat}(h:n*b<=140737488355328):mks b z (n:Int)=some (List.replicate n z):=by
 unfold mks;rw [if_pos ⟨by omega,by simpa using h⟩];simp
theorem c0e{b:Nat}{l m:List α}(h:(l.length+m.length)*b<=140737488355328):app b l m=some (l++m):=by unfold app;rw [if_pos h]
theorem c8k{l:List α}{p q:Nat}(h:p<=q)(h2:q<=l.length):lsl l (p:Int) (q:Int)=some ((l.take q).drop p):=by
 unfold lsl;rw [if_pos ⟨by omega,by omega,by omega⟩];simp
end
end Go.Proofs.YthaegflpecbfgaaGreatDoor.Rt
namespace Go.Proofs.YthaegflpecbfgaaGreatDoor.M
open Go Go.RowKit Go.Shelf Rt
set_option linter.unusedVariables false
def growA_ren:Go.Shelf.Ren:=⟨fun|4=>219|n=>n,fun|22=>57|25=>62|n=>n,fun n=>n⟩
theorem growA:Lays8.n4 Tryz.prog growA_ren:={
 mixed:=by kernel_rfl
 f4:=⟨Tryz.f219.name,by kernel_rfl,Tryz.func219.trans (congrArg some (by kernel_rfl))⟩
 t0:=by kernel_rfl
 a0:=fun _=>by kernel_rfl
 z0:=fun _=>by kernel_rfl
 v0:=fun _=>by kernel_rfl
 t3:=by kernel_rfl
 a3:=fun _=>by kernel_rfl
 z3:=fun _=>by kernel_rfl
 v3:=fun _=>by kernel_rfl
 t4:=by kernel_rfl
 a4:=fun _=>by kernel_rfl
 z4:=fun _=>by kernel_rfl
 v4:=fun _=>by kernel_rfl
 t9:=by kernel_rfl
 a9:=fun _=>by kernel_rfl
 z9:=fun _=>by kernel_rfl
 v9:=fun _=>by kernel_rfl
 t20:=by kernel_rfl
 a20:=fun _=>by kernel_rfl
 z20:=fun _=>by kernel_rfl
 v20:=fun _=>by kernel_rfl
 t22:=by kernel_rfl
 a22:=fun _=>by kernel_rfl
 z22:=fun _=>by kernel_rfl
 v22:=fun _=>by kernel_rfl}
def growB_ren:Go.Shelf.Ren:=⟨fun|4=>197|n=>n,fun|22=>32|25=>57|n=>n,fun n=>n⟩
theorem growB:Lays8.n4 Tryz.prog growB_ren:={
 mixed:=by kernel_rfl
 f4:=⟨Tryz.f197.name,by kernel_rfl,Tryz.func197.trans (congrArg some (by kernel_rfl))⟩
 t0:=by kernel_rfl
 a0:=fun _=>by kernel_rfl
 z0:=fun _=>by kernel_rfl
 v0:=fun _=>by kernel_rfl
 t3:=by kernel_rfl
 a3:=fun _=>by kernel_rfl
 z3:=fun _=>by kernel_rfl
 v3:=fun _=>by kernel_rfl
 t4:=by kernel_rfl
 a4:=fun _=>by kernel_rfl
 z4:=fun _=>by kernel_rfl
 v4:=fun _=>by kernel_rfl
 t9:=by kernel_rfl
 a9:=fun _=>by kernel_rfl
 z9:=fun _=>by kernel_rfl
 v9:=fun _=>by kernel_rfl
 t20:=by kernel_rfl
 a20:=fun _=>by kernel_rfl
 z20:=fun _=>by kernel_rfl
 v20:=fun _=>by kernel_rfl
 t22:=by kernel_rfl
 a22:=fun _=>by kernel_rfl
 z22:=fun _=>by kernel_rfl
 v22:=fun _=>by kernel_rfl}
theorem d9t{ρ:Ren}(L:Lays8.n4 Tryz.prog ρ)(hE:Ent Tryz.prog (ρ.f 4)){α:Type}{c q:Nat}(x:List α)(k:Int)(r:List α)(hm:b4f 0 x k=some r){i0:TypeInfo}{z:Value}(hi:Tryz.prog.info? (ρ.t 25)=some i0)(hz:i0.zero=some z)(hs:i0.size=q)(hq:0<q)(hq2:q<=16)(hb:i0.bytes<=128)(hzc:z.cells.size=q)
 {w:World} {F:Frz} (hF:Sat F w) {rp:Rp α} (hrp:rp.k=q):Calls Tryz.prog (ρ.f 4) #[.slice none 0 0,.int .i64 k] w fun e w'=>∃v F' a m n xs,e= .returned v/\HS F w [] F' [.row (ρ.t 25) q a m n xs] w'/\RowN rp F' m xs r/\v= .slice a m n:=by
 unfold b4f at hm
 split at hm
 ·split at hm
  ·rename_i h0
   cases hm
   obtain⟨p,rfl⟩:=Int.eq_ofNat_of_zero_le h0.1
   rcases Nat.eq_zero_or_pos p with rfl|hp
   ·refine(Any8.slices_Grow_room L none 0 0 0 w (Nat.le_refl _) (by decide) (by decide) (Nat.le_refl _)).mono ?_
    rintro e w' ⟨rfl,rfl⟩
    exact⟨_,F,none,0,0,[],rfl,(HS.init hF).nilRow _ _,⟨rfl,rfl⟩,rfl⟩
   ·have hp1:p<=1000000:=by omega
    have hmul:(0+p)*i0.bytes<=140737488355328:=by
     have:=Nat.mul_le_mul hp1 hb
     rw [Nat.zero_add];omega
    refine(Any8.slices_Grow_grow L i0 z hi hz (by omega) none 0 0 p [] w (Nat.le_refl _) (by omega) hmul (by omega) (by simp) (fun _=>rfl) (fun a ha=>by cases ha)).mono ?_
    rintro e w' ⟨rfl,rfl⟩
    have hG:=grownCap_ge w (0+p) 0 (ρ.t 25)
    have hG2:=grownCap_le_maxLen w (0+p) 0 (ρ.t 25) (by unfold maxLen;omega)
    refine⟨_,F,some ⟨w.heap.size,0,none⟩,0,_,[],rfl,?_,⟨rfl,rfl⟩,rfl⟩
    refine((HS.init hF).drew).add (e':= .row (ρ.t 25) q (some ⟨w.heap.size,0,none⟩) 0 _ []) (World.grownBy_alloc _ _ none) ?_ (by intro b hb;simp only [OE.blk,Value.ownBlock,Option.some.injEq]at hb;subst hb;exact Nat.le_refl _)
    refine⟨by simp,.inr ⟨w.heap.size,_,_,rfl,Nat.zero_le _,heap_alloc_new _ _,Nat.zero_le _,hG2,?_,by simp⟩⟩
    simp only [Array.size_append,List.size_toArray,List.length_nil,size_zeroCells,hzc,Nat.zero_add,Nat.sub_zero]at hG⊢
    rw [<-Nat.add_mul,Nat.add_sub_cancel' hG]
  ·cases hm
 ·cases hm
theorem e5g{t el:TypeId}{q b:Nat}(h:Wt.app t=some (el,q,b)):AppIs Tryz.prog t el q b:=Wt.appOk h
def b1k(_n:Nat)(x1:Int)(y1:Int):Option (Int×Int):=
 (shr .u64 x1 32).bind fun q1=>
 (shr .u64 y1 32).bind fun q2=>
 (shr .u64 (imul .u64 (iand .u64 x1 4294967295) (iand .u64 y1 4294967295)) 32).bind fun q3=>
 (shr .u64 (iadd .u64 (imul .u64 q1 (iand .u64 y1 4294967295)) q3) 32).bind fun q4=>
 (shr .u64 (iadd .u64 (iand .u64 (iadd .u64 (imul .u64 q1 (iand .u64 y1 4294967295)) q3) 4294967295) (imul .u64 (iand .u64 x1 4294967295) q2)) 32).bind fun q5=>
 some (iadd .u64 (iadd .u64 (imul .u64 q1 q2) q4) q5,imul .u64 x1 y1)
theorem b9h(n:Nat)(x1:Int)(y1:Int):FnC Wt 139 [.int .u64 x1,.int .u64 y1] (b1k n x1 y1) (fun r=> .tup [.int .u64 r.1,.int .u64 r.2]):=by
 refine a1i (n:=51) Tryz.func139 rfl rfl rfl (fun _ _=>by kernel_rfl) fun F0 w0 r=> ?_
 unfold b1k
 refine gV rfl fun q1=> ?_
 refine gV rfl fun q2=> ?_
 refine gV rfl fun q3=> ?_
 refine gV rfl fun q4=> ?_
 refine gV rfl fun q5=> ?_
 exact gR rfl rfl rfl
def a9c(n:Nat)(x1:Int)(y1:Int):Option (Int×Int):=(b1k n x1 y1).bind fun v1=>some (v1.1,v1.2)
theorem c3h(n:Nat)(x1:Int)(y1:Int):FnC Wt 71 [.int .u64 x1,.int .u64 y1] (a9c n x1 y1) (fun r=> .tup [.int .u64 r.1,.int .u64 r.2]):=by
 refine a1i (n:=30) Tryz.func71 rfl rfl rfl (fun _ _=>by kernel_rfl) fun F0 w0 r=> ?_
 unfold a9c
 refine gK (b9h _ _ _) rfl rfl rfl fun v1=> ?_
 exact gR rfl rfl rfl
def c8w(kont:List Frac->Option (List Frac)):Nat->List Frac->Int->Option (List Frac)
 |0,_,_=>none
 |m+1,row,j=>
  bif decide (j<(row.length:Int))then
   (wsl row.length j row.length).bind fun _=>
   (wsl row.length 0 j).bind fun _=>
   c8w kont m (cpy row j.toNat ((row.drop 0).take (Nat.min (j.toNat-0) (row.length-j.toNat)))) (iadd .i64 j (Nat.min (j.toNat-0) (row.length-j.toNat):Nat))
  else
   kont row
def repM(x:List Frac)(k:Int):Option (List Frac):=
 bif decide (k<0)then none else
 (a9c 0 (IntKind.u64.wrap (x.length:Int)) (IntKind.u64.wrap k)).bind fun v=>
 (bif decide (0<v.1)then some true else some (decide (9223372036854775807<v.2))).bind fun b=>
 bif b then none else
 (mks 64 (⟨⟨0,[]⟩,⟨0,[]⟩⟩:Frac) (IntKind.i64.wrap v.2)).bind fun row=>
 c8w some 1001 (cpy row 0 (x.take row.length)) (Nat.min x.length row.length:Nat)
theorem d4x(x:List Frac)(k:Int):FnO Wt 37 [.sl 3 x,.int .i64 k] (repM x k) 44 4 3 (fun r=>r):=by
 refine b4y (n:=48) Tryz.func37 rfl rfl rfl (fun _ _=>by kernel_rfl) fun F0 w0 r=> ?_
 unfold repM
 refine gC rfl (fun _=> ?_) (fun _=> ?_)
 ·exact gNo
 refine gK (c3h _ _ _) rfl rfl rfl fun v=> ?_
 refine gD rfl (fun _=> ?_) (fun _=> ?_)
 ·refine gB ?_
  refine gT ?_
  exact gNo
 ·refine gB ?_
  refine gC rfl (fun _=> ?_) (fun _=> ?_)
  ·exact gNo
  ·refine gMk wzOk rfl fun row=> ?_
   refine gCp rfl ?_
   refine a3c ((fun k0 m(s:List Frac×Int)=>c8w k0 m s.1 s.2) _) (fun s=> [.r 7 3 s.1,.v 8 (.int .i64 s.2)]) (fun _=>rfl) (_,_) rfl rfl (fun _=>rfl) rfl fun K1 m1 hK1 z1=> ?_
   obtain⟨row2,j⟩:=z1;dsimp only
   refine gC rfl (fun _=> ?_) (fun _=> ?_)
   ·refine gHs [(9,pL [0,2,4,6,8,10,12,15,17,19] .nil)] rfl (by kernel_rfl) rfl rfl fun Ky=> ?_
    refine gSw rfl fun _=> ?_
    refine gSw rfl fun _=> ?_
    refine gCp rfl ?_
    refine gHe rfl ?_
    exact gE hK1 (_,_) rfl rfl
   ·exact gRO rfl
theorem mul_one:∀k:Nat,k<1001->a9c 0 (IntKind.u64.wrap 1) (IntKind.u64.wrap k)=some (0,(k:Int))/\IntKind.i64.wrap (k:Int)=k:=by
 have h:((List.range 1001).all fun k=>decide (a9c 0 (IntKind.u64.wrap 1) (IntKind.u64.wrap (k:Int))=some (0,(k:Int)))&&decide (IntKind.i64.wrap (k:Int)=k))=true:=by kernel_rfl
 intro k hk
 have:=List.all_eq_true.1 h k (List.mem_range.2 hk)
 simpa using this
theorem e4h(a z:Frac)(k:Nat)(hk:k<=1000):∀(m j:Nat),1<=j->j<=k->k-j<m->c8w some m (List.replicate j a++List.replicate (k-j) z) (j:Int)=some (List.replicate k a)
 |0,j,_,_,h=>by omega
 |m+1,j,h1,h2,h3=>by
  have hlen:(List.replicate j a++List.replicate (k-j) z).length=k:=by simp;omega
  unfold c8w
  rw [hlen]
  by_cases hj:j<k
  ·have w1:wsl k (j:Int) (k:Int)=some ():=by unfold wsl;rw [if_pos ⟨by omega,by omega,by omega,by omega⟩]
   have w2:wsl k 0 (j:Int)=some ():=by unfold wsl;rw [if_pos ⟨by omega,by omega,by omega,by omega⟩]
   have hmin:Nat.min j (k-j)<=j:=Nat.min_le_left ..
   have hmin2:Nat.min j (k-j)<=k-j:=Nat.min_le_right ..
   have hpos:1<=Nat.min j (k-j):=by show 1<=min j (k-j);omega
   have hc:cpy (List.replicate j a++List.replicate (k-j) z) j (((List.replicate j a++List.replicate (k-j) z).drop 0).take (Nat.min j (k-j)))=List.replicate (j+Nat.min j (k-j)) a++List.replicate (k-(j+Nat.min j (k-j))) z:=by
    generalize Nat.min j (k-j)=q at hmin hmin2 hpos
    have e1:(List.replicate j a++List.replicate (k-j) z).take j=List.replicate j a:=List.take_left' (by simp)
    have e2:(List.replicate j a++List.replicate (k-j) z).take q=List.replicate q a:=by
     rw [List.take_append_of_le_length (by rw [List.length_replicate];exact hmin),List.take_replicate,Nat.min_eq_left hmin]
    have e4:(List.replicate j a++List.replicate (k-j) z).drop j=List.replicate (k-j) z:=List.drop_left' (by simp)
    unfold cpy
    rw [List.drop_zero,e1,e2,List.length_replicate,<-List.drop_drop,e4,List.drop_replicate,List.replicate_append_replicate,Nat.sub_sub]
   rw [decide_eq_true (by omega),cond_true,w1,Option.bind_some,w2,Option.bind_some,Int.toNat_natCast,Nat.sub_zero,hc]
   have hadd:iadd .i64 (j:Int) ((Nat.min j (k-j):Nat):Int)=((j+Nat.min j (k-j):Nat):Int):=by rw [a2n (by omega) (by omega)];omega
   rw [hadd]
   exact e4h a z k hk m (j+Nat.min j (k-j)) (by omega) (by omega) (by omega)
  ·obtain rfl:j=k:=by omega
   rw [decide_eq_false (by omega),cond_false,Nat.sub_self];simp
theorem e5n{n:Nat}{x:List Frac}{k:Int}{r:List Frac}(h:a3n n x k=some r):repM x k=some r:=by
 unfold a3n at h
 split at h
 ·rename_i a
  split at h
  ·rename_i h0
   cases h
   obtain⟨p,rfl⟩:=Int.eq_ofNat_of_zero_le h0.1
   have hp:p<=1000:=by omega
   obtain⟨m1,m2⟩:=mul_one p (by omega)
   unfold repM
   rw [decide_eq_false (by omega),cond_false,show(([a]:List Frac).length:Int)=1 from rfl,m1,Option.bind_some]
   have d:decide ((9223372036854775807:Int)<(p:Int))=false:=decide_eq_false (by omega)
   have e1:mks 64 (⟨⟨0,[]⟩,⟨0,[]⟩⟩:Frac) (p:Int)=some (List.replicate p ⟨⟨0,[]⟩,⟨0,[]⟩⟩):=by
    unfold mks;rw [if_pos ⟨by omega,by omega⟩];simp
   show(some (decide ((9223372036854775807:Int)<(p:Int)))).bind _=_
   rw [d,Option.bind_some,cond_false,m2,e1,Option.bind_some,Int.toNat_natCast,List.length_replicate]
   rcases Nat.eq_zero_or_pos p with rfl|hpos
   ·rfl
   ·have hc:cpy (List.replicate p (⟨⟨0,[]⟩,⟨0,[]⟩⟩:Frac)) 0 (([a]:List Frac).take p)=List.replicate 1 a++List.replicate (p-1) ⟨⟨0,[]⟩,⟨0,[]⟩⟩:=by
     unfold cpy
     rw [List.take_of_length_le (show [a].length<=p from hpos),List.take_zero,List.drop_replicate];rfl
    have hm:Nat.min [a].length p=1:=Nat.min_eq_left hpos
    rw [hc,hm]
    exact e4h a _ p hp 1001 1 (by omega) hpos (by omega)
  ·cases h
 ·cases h
theorem b4x(n:Nat)(x:List Frac)(k:Int):FnO Wt 37 [.sl 3 x,.int .i64 k] (a3n n x k) 44 4 3 (fun r=>r):=⟨(d4x x k).1,fun r hm=>(d4x x k).2 r (e5n hm)⟩
theorem b1m(n:Nat)(x:List Frac)(k:Int):FnC Wt 37 [.sl 3 x,.int .i64 k] (a3n n x k) (fun r=> .sl 3 r):=⟨(d4x x k).1,fun r hm w F hs hg us hu=>((b4x n x k).2 r hm w F hs hg us hu).mono fun e w'⟨v,F',a,m,nn,xs,e1,e2,e3,e4⟩=>by
 obtain⟨F2,h1,h2,h3⟩:=frzO e2 e3
 exact⟨v,F2,e1,h2,a,m,nn,e4,h3⟩⟩
theorem c2p(n:Nat)(x:List Affine)(k:Int):FnO Wt 219 [.val (.slice none 0 0),.int .i64 k] (b8k n x k) 62 5 5 (fun r=>r):=⟨fun _ _=>by kernel_rfl,fun r hm w F hs hg us hu=>by
 obtain⟨_,_,rfl,rfl,_,_,rfl,rfl,rfl⟩:=hu
 obtain⟨i0,z,hi,hz,h1,h2,h3⟩:=(e5g (show Wt.app 57=some (62,5,88)from rfl)).info
 exact d9t growA (fun _ _=>by kernel_rfl) (c:=5) x k r hm hi hz h1 (by decide) (by decide) (by omega) (by rw [h3]) hs (rp:=rp_Affine) rfl⟩
theorem c3q(n:Nat)(x:List (List Affine))(k:Int):FnO Wt 197 [.val (.slice none 0 0),.int .i64 k] (b7w n x k) 57 1 4 (fun r=>r):=⟨fun _ _=>by kernel_rfl,fun r hm w F hs hg us hu=>by
 obtain⟨_,_,rfl,rfl,_,_,rfl,rfl,rfl⟩:=hu
 obtain⟨i0,z,hi,hz,h1,h2,h3⟩:=(e5g (show Wt.app 32=some (57,1,24)from rfl)).info
 exact d9t growB (fun _ _=>by kernel_rfl) (c:=4) x k r hm hi hz h1 (by decide) (by decide) (by omega) (by rw [h3]) hs (rp:=Rp.sl rp_Affine) rfl⟩
end Go.Proofs.YthaegflpecbfgaaGreatDoor.M
namespace Go.Proofs.YthaegflpecbfgaaGreatDoor.M
open Go Go.RowKit Rt
set_option maxRecDepth 1000000
set_option maxHeartbeats 40000000
theorem a9f(n:Nat)(mx1:maker)(c1:Frac):FnL Wt 74 77 [.sl 1 mx1.names,.sl 2 mx1.facts.Lifts,.int .i64 mx1.facts.Persons,.int .i64 mx1.facts.Flats,.ob mx1.full] [.bx 0 0,.agg [.int .i64 c1.P.Sign,.sl 2 c1.P.Digits,.int .i64 c1.Q.Sign,.sl 2 c1.Q.Digits]] (a2g n mx1 c1) (fun r=> [.sl 1 r.1.names,.sl 2 r.1.facts.Lifts,.int .i64 r.1.facts.Persons,.int .i64 r.1.facts.Flats,.ob r.1.full]) (fun r=> .agg [.sl 4 r.2.Pieces]):=by
 refine b6o (n:=18) Tryz.func74 rfl rfl rfl (fun _ _=>by kernel_rfl) fun F0 w0 b r=> ?_
 unfold a2g
 refine gHs [(1,(pL [0,6,8,10,12,14,3,5,17,19,21,23,25,27] .nil))] rfl (by kernel_rfl) rfl rfl fun Ky=> ?_
 refine gK (a5z _ _) rfl rfl rfl fun v1=> ?_
 refine gK (b1m _ _ _) rfl rfl rfl fun v2=> ?_
 refine gZ rfl ?_
 refine gHe rfl ?_
 exact gRL rfl rfl rfl rfl rfl
theorem a5u(n:Nat)(mx1:maker)(x1:Expr):FnL Wt 75 77 [.sl 1 mx1.names,.sl 2 mx1.facts.Lifts,.int .i64 mx1.facts.Persons,.int .i64 mx1.facts.Flats,.ob mx1.full] [.bx 0 0,.agg [.int .i64 x1.Op,.int .i64 x1.N,.str x1.Name,.sl 0 x1.Args]] (a4f n mx1 x1) (fun r=> [.sl 1 r.1.names,.sl 2 r.1.facts.Lifts,.int .i64 r.1.facts.Persons,.int .i64 r.1.facts.Flats,.ob r.1.full]) (fun r=> .agg [.int .i64 r.2.P.Sign,.sl 2 r.2.P.Digits,.int .i64 r.2.Q.Sign,.sl 2 r.2.Q.Digits]):=by
 refine b6o (n:=32) Tryz.func75 rfl rfl rfl (fun _ _=>by kernel_rfl) fun F0 w0 b r=> ?_
 unfold a4f;cases x1
 refine gHs [(1,(pL [4,6,8,10,12,1,3,15,17] .nil)),(2,(pL [0,2,4,6,8,10,12,14,16,18,20] (.two 11 15 (pL [24,26,28,31,33,35] .nil) (pL [23,25,26,28,33,35] .nil))))] rfl (by kernel_rfl) rfl rfl fun Ky=> ?_
 refine gK (a5z _ _) rfl rfl rfl fun v1=> ?_
 refine gK (b1m _ _ _) rfl rfl rfl fun v2=> ?_
 refine gA ?_
 refine gHe rfl ?_
 refine gHs [(1,(pL [4,6,8,10,12,1,3,15,17] .nil)),(2,(pL [0,2,4,6,8,10,12,14,16,18,20] (.two 11 15 (pL [24,26,28,31,33,35] .nil) (pL [23,25,26,28,33,35] .nil))))] rfl (by kernel_rfl) rfl rfl fun Ky=> ?_
 refine gH2 rfl ?_ ?_
 all_goals
  refine gK (c1z _ _ _ _ _) rfl rfl rfl fun v3=> ?_
  refine gB ?_
  refine gHe rfl ?_
  exact gRL rfl rfl rfl rfl rfl
theorem b6j(n:Nat)(mx1:maker)(x1:Expr):FnL Wt 77 77 [.sl 1 mx1.names,.sl 2 mx1.facts.Lifts,.int .i64 mx1.facts.Persons,.int .i64 mx1.facts.Flats,.ob mx1.full] [.bx 0 0,.agg [.int .i64 x1.Op,.int .i64 x1.N,.str x1.Name,.sl 0 x1.Args]] (a9i n mx1 x1) (fun r=> [.sl 1 r.1.names,.sl 2 r.1.facts.Lifts,.int .i64 r.1.facts.Persons,.int .i64 r.1.facts.Flats,.ob r.1.full]) (fun r=> .ob r.2):=by
 refine b6o (n:=18) Tryz.func77 rfl rfl rfl (fun _ _=>by kernel_rfl) fun F0 w0 b r=> ?_
 unfold a9i;cases x1
 refine gN (a5u _ _ _) rfl rfl rfl rfl rfl fun v1=> ?_
 refine gK (b7m _ _) rfl rfl rfl fun v2=> ?_
 exact gRL rfl rfl rfl rfl rfl
theorem b1x(n:Nat)(mx1:maker)(x1:Expr):FnL Wt 73 77 [.sl 1 mx1.names,.sl 2 mx1.facts.Lifts,.int .i64 mx1.facts.Persons,.int .i64 mx1.facts.Flats,.ob mx1.full] [.bx 0 0,.agg [.int .i64 x1.Op,.int .i64 x1.N,.str x1.Name,.sl 0 x1.Args]] (a7t n mx1 x1) (fun r=> [.sl 1 r.1.names,.sl 2 r.1.facts.Lifts,.int .i64 r.1.facts.Persons,.int .i64 r.1.facts.Flats,.ob r.1.full]) (fun r=> .int .i64 r.2):=by
 refine b6o (n:=17) Tryz.func73 rfl rfl rfl (fun _ _=>by kernel_rfl) fun F0 w0 b r=> ?_
 unfold a7t
 refine gG rfl (by kernel_rfl) ?_
 refine gQ (c5i _ _ _) rfl rfl rfl (fun _=>rfl) fun v1=> ?_
 exact gRL rfl rfl rfl rfl rfl
theorem b5o(n:Nat)(ax1:Affine)(f1:(Int->Frac->Option Frac)):FnH Wt 194 [.agg [.int .i64 ax1.Const.P.Sign,.sl 2 ax1.Const.P.Digits,.int .i64 ax1.Const.Q.Sign,.sl 2 ax1.Const.Q.Digits,.sl 3 ax1.Coefs]] ⟨Int×Frac,Frac,fun q=> [.int .i64 q.1,.agg [.int .i64 q.2.P.Sign,.sl 2 q.2.P.Digits,.int .i64 q.2.Q.Sign,.sl 2 q.2.Q.Digits]],fun q=>f1 q.1 q.2,fun r=> .agg [.int .i64 r.P.Sign,.sl 2 r.P.Digits,.int .i64 r.Q.Sign,.sl 2 r.Q.Digits]⟩ (a7i n ax1 f1) (fun r=> .agg [.int .i64 r.Const.P.Sign,.sl 2 r.Const.P.Digits,.int .i64 r.Const.Q.Sign,.sl 2 r.Const.Q.Digits,.sl 3 r.Coefs]):=by
 refine b3d (n:=32) Tryz.func194 rfl rfl rfl (fun _ _=>by kernel_rfl) fun F0 w0 r u=> ?_
 unfold a7i
 refine gKv (T:=Wt) (Φ:=⟨Int×Frac,Frac,fun q=> [.int .i64 q.1,.agg [.int .i64 q.2.P.Sign,.sl 2 q.2.P.Digits,.int .i64 q.2.Q.Sign,.sl 2 q.2.Q.Digits]],fun q=>f1 q.1 q.2,fun r=> .agg [.int .i64 r.P.Sign,.sl 2 r.P.Digits,.int .i64 r.Q.Sign,.sl 2 r.Q.Digits]⟩) (u:=u) ((-1),ax1.Const) rfl rfl rfl fun v1=> ?_
 refine a3c ((fun k0 m(s:Int×List Frac)=>minmax_affine_L1 n ax1 f1 k0 m s.1 s.2) _) (fun(s:Int×List Frac)=> [.br 5 4 3 s.2,.v 16 (.int .i64 s.1)]) (fun _=>rfl) (_,_) rfl rfl (fun _=>rfl) rfl fun K1 m1 hK1 z1=> ?_
 obtain⟨i1,l1⟩:=z1;dsimp only
 refine gC rfl (fun _=> ?_) (fun _=> ?_)
 ·
  refine gV rfl fun ex1=> ?_
  refine gHs [(5,(pL [0,4,6,8] (.two 1 5 (pL [11,13,15,17,19] .nil) (pL [] (.two 1 6 (pL [13,15,17,19] .nil) (pL [3,15,17,19] .nil))))))] rfl (by kernel_rfl) rfl rfl fun Ky=> ?_
  refine gH2 rfl ?_ ?_
  all_goals
   refine gKv (T:=Wt) (Φ:=⟨Int×Frac,Frac,fun q=> [.int .i64 q.1,.agg [.int .i64 q.2.P.Sign,.sl 2 q.2.P.Digits,.int .i64 q.2.Q.Sign,.sl 2 q.2.Q.Digits]],fun q=>f1 q.1 q.2,fun r=> .agg [.int .i64 r.P.Sign,.sl 2 r.P.Digits,.int .i64 r.Q.Sign,.sl 2 r.Q.Digits]⟩) (u:=u) (i1,ex1) rfl rfl rfl fun v2=> ?_
   try refine gH2 rfl ?_ ?_
   all_goals
    refine gP rfl fun l3=> ?_
    refine gHe rfl ?_
    exact gE hK1 (_,_) rfl (by kernel_rfl)
 ·
  exact gR rfl rfl rfl
theorem c0l(n:Nat)(p1:Int)(x1:Frac)(cap1:Frac):FnC Wt 195 [.int .i64 p1,.agg [.int .i64 x1.P.Sign,.sl 2 x1.P.Digits,.int .i64 x1.Q.Sign,.sl 2 x1.Q.Digits],.fb [.int .i64 cap1.P.Sign,.sl 2 cap1.P.Digits,.int .i64 cap1.Q.Sign,.sl 2 cap1.Q.Digits] 0] (a5l n p1 x1 cap1) (fun r=> .agg [.int .i64 r.P.Sign,.sl 2 r.P.Digits,.int .i64 r.Q.Sign,.sl 2 r.Q.Digits]):=by
 refine a1i (n:=15) Tryz.func195 rfl rfl rfl (fun _ _=>by kernel_rfl) fun F0 w0 r=> ?_
 unfold a5l
 refine gK (b9g _ _ _) rfl rfl rfl fun v1=> ?_
 exact gR rfl rfl rfl
theorem b6l(n:Nat)(ax1:Affine)(byx1:Frac):FnC Wt 142 [.agg [.int .i64 ax1.Const.P.Sign,.sl 2 ax1.Const.P.Digits,.int .i64 ax1.Const.Q.Sign,.sl 2 ax1.Const.Q.Digits,.sl 3 ax1.Coefs],.agg [.int .i64 byx1.P.Sign,.sl 2 byx1.P.Digits,.int .i64 byx1.Q.Sign,.sl 2 byx1.Q.Digits]] (a8r n ax1 byx1) (fun r=> .agg [.int .i64 r.Const.P.Sign,.sl 2 r.Const.P.Digits,.int .i64 r.Const.Q.Sign,.sl 2 r.Const.Q.Digits,.sl 3 r.Coefs]):=by
 refine a1i (n:=8) Tryz.func142 rfl rfl rfl (fun _ _=>by kernel_rfl) fun F0 w0 r=> ?_
 unfold a8r
 refine gFc rfl rfl ?_
 refine gKh (b5o n _ (fun(q0:Int)(q1:Frac)=>a5l n q0 q1 byx1)) rfl rfl rfl (fvA rfl rfl (fun q=>c0l n q.1 q.2 byx1) default) fun v1=> ?_
 exact gR rfl rfl rfl
theorem c4b(n:Nat)(i1:Int)(x1:Frac)(cap1:Affine):FnC Wt 220 [.int .i64 i1,.agg [.int .i64 x1.P.Sign,.sl 2 x1.P.Digits,.int .i64 x1.Q.Sign,.sl 2 x1.Q.Digits],.fb [.int .i64 cap1.Const.P.Sign,.sl 2 cap1.Const.P.Digits,.int .i64 cap1.Const.Q.Sign,.sl 2 cap1.Const.Q.Digits,.sl 3 cap1.Coefs] 0] (b2g n i1 x1 cap1) (fun r=> .agg [.int .i64 r.P.Sign,.sl 2 r.P.Digits,.int .i64 r.Q.Sign,.sl 2 r.Q.Digits]):=by
 refine a1i (n:=25) Tryz.func220 rfl rfl rfl (fun _ _=>by kernel_rfl) fun F0 w0 r=> ?_
 unfold b2g
 refine gM (fun j1=> [.b 6 [.int .i64 j1.1,.sl 2 j1.2.1,.int .i64 j1.2.2.1,.sl 2 j1.2.2.2]]) rfl (fun _=>rfl) (fun J1 hJ1=> ?_) (fun j1=> ?_)
 ·
  refine gD rfl (fun _=> ?_) (fun _=> ?_)
  ·
   refine gA ?_
   refine gV rfl fun ex1=> ?_
   exact gX hJ1 rfl (by kernel_rfl)
  ·
   exact gX hJ1 rfl (by kernel_rfl)
 obtain⟨f1,f2,f3,f4⟩:=j1;dsimp only
 refine gK (b6b _ _ _) rfl rfl rfl fun v1=> ?_
 exact gR rfl rfl rfl
theorem c8a(n:Nat)(ax1:Affine)(b1:Affine):FnC Wt 199 [.agg [.int .i64 ax1.Const.P.Sign,.sl 2 ax1.Const.P.Digits,.int .i64 ax1.Const.Q.Sign,.sl 2 ax1.Const.Q.Digits,.sl 3 ax1.Coefs],.agg [.int .i64 b1.Const.P.Sign,.sl 2 b1.Const.P.Digits,.int .i64 b1.Const.Q.Sign,.sl 2 b1.Const.Q.Digits,.sl 3 b1.Coefs]] (b9k n ax1 b1) (fun r=> .agg [.int .i64 r.Const.P.Sign,.sl 2 r.Const.P.Digits,.int .i64 r.Const.Q.Sign,.sl 2 r.Const.Q.Digits,.sl 3 r.Coefs]):=by
 refine a1i (n:=8) Tryz.func199 rfl rfl rfl (fun _ _=>by kernel_rfl) fun F0 w0 r=> ?_
 unfold b9k
 refine gFc rfl rfl ?_
 refine gKh (b5o n _ (fun(q0:Int)(q1:Frac)=>b2g n q0 q1 b1)) rfl rfl rfl (fvA rfl rfl (fun q=>c4b n q.1 q.2 b1) default) fun v1=> ?_
 exact gR rfl rfl rfl
theorem a7n(n:Nat)(f1:Form):FnC Wt 145 [.agg [.sl 4 f1.Pieces]] (a7e n f1) (fun r=> .int .i64 r):=by
 refine a1i (n:=19) Tryz.func145 rfl rfl rfl (fun _ _=>by kernel_rfl) fun F0 w0 r=> ?_
 unfold a7e
 refine a3c ((fun k0 m(s:Int×Int)=>b2p n f1 k0 m s.1 s.2) _) (fun(s:Int×Int)=> [.v 3 (.int .i64 s.1),.v 9 (.int .i64 s.2)]) (fun _=>rfl) (_,_) rfl rfl (fun _=>rfl) rfl fun K1 m1 hK1 z1=> ?_
 obtain⟨nx1,i1⟩:=z1;dsimp only
 refine gC rfl (fun _=> ?_) (fun _=> ?_)
 ·
  refine gV rfl fun ex1=> ?_
  exact gE hK1 (_,_) rfl (by kernel_rfl)
 ·
  exact gR rfl rfl rfl
theorem a6p(n:Nat)(mx1:maker)(nx1:Int):FnL Wt 146 77 [.sl 1 mx1.names,.sl 2 mx1.facts.Lifts,.int .i64 mx1.facts.Persons,.int .i64 mx1.facts.Flats,.ob mx1.full] [.bx 0 0,.int .i64 nx1] (a4p n mx1 nx1) (fun r=> [.sl 1 r.1.names,.sl 2 r.1.facts.Lifts,.int .i64 r.1.facts.Persons,.int .i64 r.1.facts.Flats,.ob r.1.full]) (fun r=> .ob r.2):=by
 refine b6o (n:=21) Tryz.func146 rfl rfl rfl (fun _ _=>by kernel_rfl) fun F0 w0 b r=> ?_
 unfold a4p
 refine gJ 3 (fun v1=> [.v 13 (.ob v1)]) rfl (fun _=>rfl) (fun J1 hJ1=> ?_) (fun v1=> ?_)
 ·
  refine gD rfl (fun _=> ?_) (fun _=> ?_)
  ·
   exact gX hJ1 rfl (by kernel_rfl)
  ·
   exact gX hJ1 rfl (by kernel_rfl)
 exact gRL rfl rfl rfl rfl rfl
theorem b1j(n:Nat)(f1:Form)(byx1:Frac):FnC Wt 79 [.agg [.sl 4 f1.Pieces],.agg [.int .i64 byx1.P.Sign,.sl 2 byx1.P.Digits,.int .i64 byx1.Q.Sign,.sl 2 byx1.Q.Digits]] (a9k n f1 byx1) (fun r=> .agg [.sl 4 r.Pieces]):=by
 refine a1i (n:=39) Tryz.func79 rfl rfl rfl (fun _ _=>by kernel_rfl) fun F0 w0 r=> ?_
 unfold a9k
 refine a3c ((fun k0 m(s:Int×List (List Affine)×(List (List Affine))×Int×(List Int)×Int×(List Int))=>b0u n f1 k0 m s.1 s.2.1 s.2.2.1 s.2.2.2.1 s.2.2.2.2.1 s.2.2.2.2.2.1 s.2.2.2.2.2.2) _) (fun(s:Int×List (List Affine)×(List (List Affine))×Int×(List Int)×Int×(List Int))=> [.b 3 [.int .i64 s.2.2.2.1,.sl 2 s.2.2.2.2.1,.int .i64 s.2.2.2.2.2.1,.sl 2 s.2.2.2.2.2.2],.b 4 [.sl 4 s.2.2.1],.br 5 0 4 s.2.1,.v 14 (.int .i64 s.1)]) (fun _=>rfl) (_,_,_,_,_,_,_) rfl rfl (fun _=>rfl) rfl fun K1 m1 hK1 z1=> ?_
 obtain⟨i1,l1,f2,f3,f4,f5,f6⟩:=z1;dsimp only
 refine gC rfl (fun _=> ?_) (fun _=> ?_)
 ·
  refine gV rfl fun ex1=> ?_
  refine a3c ((fun k0 m(s:Int×List Affine)=>b0w n f3 f4 f5 f6 ex1 k0 m s.1 s.2) _) (fun(s:Int×List Affine)=> [.r 8 5 s.2,.v 20 (.int .i64 s.1)]) (fun _=>rfl) (_,_) rfl rfl (fun _=>rfl) rfl fun K2 m2 hK2 z2=> ?_
  obtain⟨i2,l3⟩:=z2;dsimp only
  refine gC rfl (fun _=> ?_) (fun _=> ?_)
  ·
   refine gV rfl fun ex2=> ?_
   refine gK (b6l _ _ _) rfl rfl rfl fun v1=> ?_
   refine gP rfl fun l6=> ?_
   exact gE hK2 (_,_) rfl (by kernel_rfl)
  ·
   refine gZ rfl ?_
   refine gP rfl fun l5=> ?_
   exact gE hK1 (_,_,_,_,_,_,_) rfl (by kernel_rfl)
 ·
  exact gR rfl rfl rfl
theorem a8i(n:Nat)(s1:(List Affine)):FnO Wt 196 [.sl 5 s1] (a2k n s1) 62 5 5 (fun r=>r):=⟨fun _ _=>by kernel_rfl,fun r hm w F hs hg us hu=>by
 obtain⟨_,_,rfl,⟨_,_,_,rfl,hs0⟩,rfl⟩:=hu
 exact(a7z n s1 r hm hs hs0).mono fun e w'⟨v,F',O',e1,e2,⟨a,m,n,xs,e3,e4,e5⟩⟩=>⟨v,F',a,m,n,xs,e1,e4▸e2,e5,e3⟩⟩
theorem a9b(n:Nat)(mx1:maker)(f1:Form):FnL Wt 143 77 [.sl 1 mx1.names,.sl 2 mx1.facts.Lifts,.int .i64 mx1.facts.Persons,.int .i64 mx1.facts.Flats,.ob mx1.full] [.bx 0 0,.agg [.sl 4 f1.Pieces]] (a4z n mx1 f1) (fun r=> [.sl 1 r.1.names,.sl 2 r.1.facts.Lifts,.int .i64 r.1.facts.Persons,.int .i64 r.1.facts.Flats,.ob r.1.full]) (fun r=> .agg [.sl 4 r.2.Pieces]):=by
 refine b6o (n:=62) Tryz.func143 rfl rfl rfl (fun _ _=>by kernel_rfl) fun F0 w0 b r=> ?_
 unfold a4z
 refine gFr 5 rfl ?_
 refine a3c ((fun k0 m(s:(List (List Affine))×Int×(List (List Affine))×(List (List Affine))×(List Bs)×(List Int)×Int×Int×Bool)=>a5w n f1 k0 m s.1 s.2.1 s.2.2.1 s.2.2.2.1 s.2.2.2.2.1 s.2.2.2.2.2.1 s.2.2.2.2.2.2.1 s.2.2.2.2.2.2.2.1 s.2.2.2.2.2.2.2.2) _) (fun(s:(List (List Affine))×Int×(List (List Affine))×(List (List Affine))×(List Bs)×(List Int)×Int×Int×Bool)=> [.b 0 [.sl 1 s.2.2.2.2.1,.sl 2 s.2.2.2.2.2.1,.int .i64 s.2.2.2.2.2.2.1,.int .i64 s.2.2.2.2.2.2.2.1,.ob s.2.2.2.2.2.2.2.2],.b 3 [.sl 4 s.2.2.2.1],.b 4 [.sl 4 s.2.2.1],.v 5 (.sl 4 s.1),.v 17 (.int .i64 s.2.1)]) (fun _=>rfl) (_,_,_,_,_,_,_,_,_) rfl rfl (fun _=>rfl) rfl fun K1 m1 hK1 z1=> ?_
 obtain⟨choices1,i1,f2,f3,f4,f5,f6,f7,f8⟩:=z1;dsimp only
 refine gC rfl (fun _=> ?_) (fun _=> ?_)
 ·
  refine gV rfl fun ex1=> ?_
  refine gN (a6p _ _ _) rfl rfl rfl rfl rfl fun v1=> ?_
  refine gC rfl (fun _=> ?_) (fun _=> ?_)
  ·
   exact gRL rfl rfl rfl rfl rfl
  ·
   refine a3c ((fun k0 m(s:Int×List (List Affine)×(List (List Affine))×(List (List Affine))×(List Bs)×(List Int)×Int×Int×Bool)=>a6b n choices1 ex1 k0 m s.1 s.2.1 s.2.2.1 s.2.2.2.1 s.2.2.2.2.1 s.2.2.2.2.2.1 s.2.2.2.2.2.2.1 s.2.2.2.2.2.2.2.1 s.2.2.2.2.2.2.2.2) _) (fun(s:Int×List (List Affine)×(List (List Affine))×(List (List Affine))×(List Bs)×(List Int)×Int×Int×Bool)=> [.b 0 [.sl 1 s.2.2.2.2.1,.sl 2 s.2.2.2.2.2.1,.int .i64 s.2.2.2.2.2.2.1,.int .i64 s.2.2.2.2.2.2.2.1,.ob s.2.2.2.2.2.2.2.2],.b 3 [.sl 4 s.2.2.2.1],.b 4 [.sl 4 s.2.2.1],.r 8 4 s.2.1,.v 36 (.int .i64 s.1)]) (fun _=>rfl) (_,_,_,_,_,_,_,_,_) rfl rfl (fun _=>rfl) rfl fun K2 m2 hK2 z2=> ?_
   obtain⟨i2,l1,f15,f16,f17,f18,f19,f20,f21⟩:=z2;dsimp only
   refine gC rfl (fun _=> ?_) (fun _=> ?_)
   ·
    refine gV rfl fun ex2=> ?_
    refine a3c ((fun k0 m(s:Int×List (List Affine))=>a5v n ex1 ex2 k0 m s.1 s.2) _) (fun(s:Int×List (List Affine))=> [.r 8 4 s.2,.v 42 (.int .i64 s.1)]) (fun _=>rfl) (_,_) rfl rfl (fun _=>rfl) rfl fun K3 m3 hK3 z3=> ?_
    obtain⟨i3,l3⟩:=z3;dsimp only
    refine gC rfl (fun _=> ?_) (fun _=> ?_)
    ·
     refine gV rfl fun ex3=> ?_
     refine gHs [(14,(pL [0,2,6,5,9,11,13,15,17,19,21] .nil))] rfl (by kernel_rfl) rfl rfl fun Ky=> ?_
     refine gO (a8i _ _) rfl rfl rfl fun v2=> ?_
     refine gK (a5z _ _) rfl rfl rfl fun v3=> ?_
     refine gK (b6l _ _ _) rfl rfl rfl fun v4=> ?_
     refine gP rfl fun l5=> ?_
     refine gZ rfl ?_
     refine gP rfl fun l6=> ?_
     refine gHe rfl ?_
     exact gE hK3 (_,_) rfl (by kernel_rfl)
    ·
     exact gE hK2 (_,_,_,_,_,_,_,_,_) rfl (by kernel_rfl)
   ·
    refine gFr 5 rfl ?_
    exact gE hK1 (_,_,_,_,_,_,_,_,_) rfl (by kernel_rfl)
 ·
  exact gRL rfl rfl rfl rfl rfl
theorem a7r(n:Nat)(ax1:Form)(b1:Form)(piece1:((List Affine)->(List Affine)->Option (List Affine))):FnH Wt 148 [.agg [.sl 4 ax1.Pieces],.agg [.sl 4 b1.Pieces]] ⟨(List Affine)×(List Affine),(List Affine),fun q=> [.sl 5 q.1,.sl 5 q.2],fun q=>piece1 q.1 q.2,fun r=> .sl 5 r⟩ (a5p n ax1 b1 piece1) (fun r=> .agg [.sl 4 r.Pieces]):=by
 refine b3d (n:=38) Tryz.func148 rfl rfl rfl (fun _ _=>by kernel_rfl) fun F0 w0 r u=> ?_
 unfold a5p
 refine a3c ((fun k0 m(s:Int×List (List Affine)×(List (List Affine))×(List (List Affine)))=>minmax_join_L1 n ax1 piece1 k0 m s.1 s.2.1 s.2.2.1 s.2.2.2) _) (fun(s:Int×List (List Affine)×(List (List Affine))×(List (List Affine)))=> [.b 4 [.sl 4 s.2.2.2],.b 6 [.sl 4 s.2.2.1],.br 7 0 4 s.2.1,.v 15 (.int .i64 s.1)]) (fun _=>rfl) (_,_,_,_) rfl rfl (fun _=>rfl) rfl fun K1 m1 hK1 z1=> ?_
 obtain⟨i1,l1,f1,f2⟩:=z1;dsimp only
 refine gC rfl (fun _=> ?_) (fun _=> ?_)
 ·
  refine gV rfl fun ex1=> ?_
  refine a3c ((fun k0 m(s:Int×List (List Affine))=>minmax_join_L2 n piece1 f2 ex1 k0 m s.1 s.2) _) (fun(s:Int×List (List Affine))=> [.br 7 0 4 s.2,.v 22 (.int .i64 s.1)]) (fun _=>rfl) (_,_) rfl rfl (fun _=>rfl) rfl fun K2 m2 hK2 z2=> ?_
  obtain⟨i2,l3⟩:=z2;dsimp only
  refine gC rfl (fun _=> ?_) (fun _=> ?_)
  ·
   refine gV rfl fun ex2=> ?_
   refine gHs [(8,(pL [0,4,6,8] (.two 1 5 (pL [11,13,15,17,19] .nil) (pL [] (.two 1 6 (pL [13,15,17,19] .nil) (pL [3,15,17,19] .nil))))))] rfl (by kernel_rfl) rfl rfl fun Ky=> ?_
   refine gH2 rfl ?_ ?_
   all_goals
    refine gKv (T:=Wt) (Φ:=⟨(List Affine)×(List Affine),(List Affine),fun q=> [.sl 5 q.1,.sl 5 q.2],fun q=>piece1 q.1 q.2,fun r=> .sl 5 r⟩) (u:=u) (ex1,ex2) rfl rfl rfl fun v1=> ?_
    try refine gH2 rfl ?_ ?_
    all_goals
     refine gP rfl fun l5=> ?_
     refine gHe rfl ?_
     exact gE hK2 (_,_) rfl (by kernel_rfl)
  ·
   exact gE hK1 (_,_,_,_) rfl (by kernel_rfl)
 ·
  exact gR rfl rfl rfl
theorem b3y(n:Nat)(x1:(List Affine))(y1:(List Affine)):FnO Wt 150 [.sl 5 x1,.sl 5 y1] (a7g n x1 y1) 62 5 5 (fun r=>r):=by
 refine b4y (n:=31) Tryz.func150 rfl rfl rfl (fun _ _=>by kernel_rfl) fun F0 w0 r=> ?_
 unfold a7g
 refine a3c ((fun k0 m(s:Int×List Affine)=>b2v n x1 y1 k0 m s.1 s.2) _) (fun(s:Int×List Affine)=> [.r 5 5 s.2,.v 12 (.int .i64 s.1)]) (fun _=>rfl) (_,_) rfl rfl (fun _=>rfl) rfl fun K1 m1 hK1 z1=> ?_
 obtain⟨i1,l1⟩:=z1;dsimp only
 refine gC rfl (fun _=> ?_) (fun _=> ?_)
 ·
  refine gV rfl fun ex1=> ?_
  refine a3c ((fun k0 m(s:Int×List Affine)=>b2s n y1 ex1 k0 m s.1 s.2) _) (fun(s:Int×List Affine)=> [.r 5 5 s.2,.v 18 (.int .i64 s.1)]) (fun _=>rfl) (_,_) rfl rfl (fun _=>rfl) rfl fun K2 m2 hK2 z2=> ?_
  obtain⟨i2,l3⟩:=z2;dsimp only
  refine gC rfl (fun _=> ?_) (fun _=> ?_)
  ·
   refine gV rfl fun ex2=> ?_
   refine gK (c8a _ _ _) rfl rfl rfl fun v1=> ?_
   refine gP rfl fun l5=> ?_
   exact gE hK2 (_,_) rfl (by kernel_rfl)
  ·
   exact gE hK1 (_,_) rfl (by kernel_rfl)
 ·
  exact gRO rfl
theorem a7y(n:Nat)(slices1:(List (List Affine))):FnO Wt 198 [.sl 4 slices1] (a3h n slices1) 62 5 5 (fun r=>r):=by
 refine b4y (n:=36) Tryz.func198 rfl rfl rfl (fun _ _=>by kernel_rfl) fun F0 w0 r=> ?_
 unfold a3h
 refine a3c ((fun k0 m(s:Int×Int)=>a2u n slices1 k0 m s.1 s.2) _) (fun(s:Int×Int)=> [.v 3 (.int .i64 s.1),.v 11 (.int .i64 s.2)]) (fun _=>rfl) (_,_) rfl rfl (fun _=>rfl) rfl fun K1 m1 hK1 z1=> ?_
 obtain⟨size1,i1⟩:=z1;dsimp only
 refine gC rfl (fun _=> ?_) (fun _=> ?_)
 ·
  refine gV rfl fun ex2=> ?_
  refine gC rfl (fun _=> ?_) (fun _=> ?_)
  ·
   exact gNo
  ·
   exact gE hK1 (_,_) rfl (by kernel_rfl)
 ·
  refine gO (c2p _ _ _) rfl rfl rfl fun v1=> ?_
  refine a3c ((fun k0 m(s:Int×List Affine)=>a2v n slices1 k0 m s.1 s.2) _) (fun(s:Int×List Affine)=> [.r 6 5 s.2,.v 27 (.int .i64 s.1)]) (fun _=>rfl) (_,_) rfl rfl (fun _=>rfl) rfl fun K2 m2 hK2 z2=> ?_
  obtain⟨i2,l1⟩:=z2;dsimp only
  refine gC rfl (fun _=> ?_) (fun _=> ?_)
  ·
   refine gV rfl fun ex1=> ?_
   refine gP rfl fun l3=> ?_
   exact gE hK2 (_,_) rfl (by kernel_rfl)
  ·
   exact gRO rfl
theorem b3j(n:Nat)(x1:(List Affine))(y1:(List Affine)):FnO Wt 149 [.sl 5 x1,.sl 5 y1] (a7b n x1 y1) 62 5 5 (fun r=>r):=by
 refine b4y (n:=9) Tryz.func149 rfl rfl rfl (fun _ _=>by kernel_rfl) fun F0 w0 r=> ?_
 unfold a7b
 refine gO (a7y _ _) rfl rfl rfl fun v1=> ?_
 exact gRO rfl
theorem a2t(n:Nat)(slices1:(List (List (List Affine)))):FnO Wt 147 [.sl 9 slices1] (a1o n slices1) 57 1 4 (fun r=>r):=by
 refine b4y (n:=36) Tryz.func147 rfl rfl rfl (fun _ _=>by kernel_rfl) fun F0 w0 r=> ?_
 unfold a1o
 refine a3c ((fun k0 m(s:Int×Int)=>a2p n slices1 k0 m s.1 s.2) _) (fun(s:Int×Int)=> [.v 3 (.int .i64 s.1),.v 11 (.int .i64 s.2)]) (fun _=>rfl) (_,_) rfl rfl (fun _=>rfl) rfl fun K1 m1 hK1 z1=> ?_
 obtain⟨size1,i1⟩:=z1;dsimp only
 refine gC rfl (fun _=> ?_) (fun _=> ?_)
 ·
  refine gV rfl fun ex2=> ?_
  refine gC rfl (fun _=> ?_) (fun _=> ?_)
  ·
   exact gNo
  ·
   exact gE hK1 (_,_) rfl (by kernel_rfl)
 ·
  refine gO (c3q _ _ _) rfl rfl rfl fun v1=> ?_
  refine a3c ((fun k0 m(s:Int×List (List Affine))=>a2o n slices1 k0 m s.1 s.2) _) (fun(s:Int×List (List Affine))=> [.r 6 4 s.2,.v 27 (.int .i64 s.1)]) (fun _=>rfl) (_,_) rfl rfl (fun _=>rfl) rfl fun K2 m2 hK2 z2=> ?_
  obtain⟨i2,l1⟩:=z2;dsimp only
  refine gC rfl (fun _=> ?_) (fun _=> ?_)
  ·
   refine gV rfl fun ex1=> ?_
   refine gP rfl fun l3=> ?_
   exact gE hK2 (_,_) rfl (by kernel_rfl)
  ·
   exact gRO rfl
theorem a7a(n:Nat)(s1:(List Affine))(f1:(Affine->Option Bool)):FnH Wt 164 [.sl 5 s1] ⟨Affine,Bool,fun q=> [.agg [.int .i64 q.Const.P.Sign,.sl 2 q.Const.P.Digits,.int .i64 q.Const.Q.Sign,.sl 2 q.Const.Q.Digits,.sl 3 q.Coefs]],fun q=>f1 q,fun r=> .ob r⟩ (a2b n s1 f1) (fun r=> .int .i64 r):=by
 refine b3d (n:=19) Tryz.func164 rfl rfl rfl (fun _ _=>by kernel_rfl) fun F0 w0 r u=> ?_
 unfold a2b
 refine a3c ((fun k0 m(s:Int)=>slices_IndexFunc_api_Affine_api_Affine_L1 n s1 f1 k0 m s) _) (fun(s:Int)=> [.v 8 (.int .i64 s)]) (fun _=>rfl) _ rfl rfl (fun _=>rfl) rfl fun K1 m1 hK1 i1=> ?_
 refine gC rfl (fun _=> ?_) (fun _=> ?_)
 ·
  refine gV rfl fun ex1=> ?_
  refine gKv (T:=Wt) (Φ:=⟨Affine,Bool,fun q=> [.agg [.int .i64 q.Const.P.Sign,.sl 2 q.Const.P.Digits,.int .i64 q.Const.Q.Sign,.sl 2 q.Const.Q.Digits,.sl 3 q.Coefs]],fun q=>f1 q,fun r=> .ob r⟩) (u:=u) ex1 rfl rfl rfl fun v1=> ?_
  refine gC rfl (fun _=> ?_) (fun _=> ?_)
  ·
   exact gR rfl rfl rfl
  ·
   exact gE hK1 _ rfl (by kernel_rfl)
 ·
  exact gR rfl rfl rfl
theorem a6n(n:Nat)(s1:(List Affine))(f1:(Affine->Option Bool)):FnH Wt 98 [.sl 5 s1] ⟨Affine,Bool,fun q=> [.agg [.int .i64 q.Const.P.Sign,.sl 2 q.Const.P.Digits,.int .i64 q.Const.Q.Sign,.sl 2 q.Const.Q.Digits,.sl 3 q.Coefs]],fun q=>f1 q,fun r=> .ob r⟩ (a1h n s1 f1) (fun r=> .ob r):=by
 refine b3d (n:=9) Tryz.func98 rfl rfl rfl (fun _ _=>by kernel_rfl) fun F0 w0 r u=> ?_
 unfold a1h
 refine gKh (FnH.up (a7a n _ f1)) rfl rfl rfl b5w fun v1=> ?_
 exact gR rfl rfl rfl
theorem a6s(n:Nat)(s1:(List (List Affine)))(f1:((List Affine)->Option Bool)):FnH Wt 165 [.sl 4 s1] ⟨(List Affine),Bool,fun q=> [.sl 5 q],fun q=>f1 q,fun r=> .ob r⟩ (a1w n s1 f1) (fun r=> .int .i64 r):=by
 refine b3d (n:=19) Tryz.func165 rfl rfl rfl (fun _ _=>by kernel_rfl) fun F0 w0 r u=> ?_
 unfold a1w
 refine a3c ((fun k0 m(s:Int)=>slices_IndexFunc_LLapi_Affine_api_Affine_L1 n s1 f1 k0 m s) _) (fun(s:Int)=> [.v 8 (.int .i64 s)]) (fun _=>rfl) _ rfl rfl (fun _=>rfl) rfl fun K1 m1 hK1 i1=> ?_
 refine gC rfl (fun _=> ?_) (fun _=> ?_)
 ·
  refine gV rfl fun ex1=> ?_
  refine gKv (T:=Wt) (Φ:=⟨(List Affine),Bool,fun q=> [.sl 5 q],fun q=>f1 q,fun r=> .ob r⟩) (u:=u) ex1 rfl rfl rfl fun v1=> ?_
  refine gC rfl (fun _=> ?_) (fun _=> ?_)
  ·
   exact gR rfl rfl rfl
  ·
   exact gE hK1 _ rfl (by kernel_rfl)
 ·
  exact gR rfl rfl rfl
theorem a6f(n:Nat)(s1:(List (List Affine)))(f1:((List Affine)->Option Bool)):FnH Wt 99 [.sl 4 s1] ⟨(List Affine),Bool,fun q=> [.sl 5 q],fun q=>f1 q,fun r=> .ob r⟩ (a0r n s1 f1) (fun r=> .ob r):=by
 refine b3d (n:=9) Tryz.func99 rfl rfl rfl (fun _ _=>by kernel_rfl) fun F0 w0 r u=> ?_
 unfold a0r
 refine gKh (FnH.up (a6s n _ f1)) rfl rfl rfl b5w fun v1=> ?_
 exact gR rfl rfl rfl
end Go.Proofs.YthaegflpecbfgaaGreatDoor.M
namespace Go.Proofs.YthaegflpecbfgaaGreatDoor.M
open Go Go.RowKit Rt
set_option linter.unusedVariables false
set_option maxRecDepth 1000000
set_option maxHeartbeats 8000000
theorem b4j(n:Nat)(x:Frac):FnC Wt 95 [.agg [.int .i64 x.P.Sign,.sl 2 x.P.Digits,.int .i64 x.Q.Sign,.sl 2 x.Q.Digits]] (a4n n x) (fun r=> .ob r):=by
 refine a1i (n:=6) Tryz.func95 rfl rfl rfl (fun _ _=>by kernel_rfl) fun F0 w0 r=> ?_
 unfold a4n
 refine gK (a2f _ _) rfl rfl rfl fun v1=> ?_
 exact gR rfl rfl rfl
theorem c0m(n:Nat)(a:Affine)(k:Int):FnC Wt 96 [.agg [.int .i64 a.Const.P.Sign,.sl 2 a.Const.P.Digits,.int .i64 a.Const.Q.Sign,.sl 2 a.Const.Q.Digits,.sl 3 a.Coefs],.fb [.val (.func (.func 95) #[] #[])] 0,.fb [.int .i64 k] 0] (a5q n a k) (fun r=> .ob r):=by
 refine a1i (n:=22) Tryz.func96 rfl rfl rfl (fun _ _=>by kernel_rfl) fun F0 w0 r=> ?_
 unfold a5q
 refine gK (b4j _ _) rfl rfl rfl fun v1=> ?_
 refine gJ 6 (fun v2=> [.v 15 (.ob v2)]) rfl (fun _=>rfl) (fun J1 hJ1=> ?_) (fun v2=> ?_)
 ·refine gD rfl (fun _=> ?_) (fun _=> ?_)
  ·exact gX hJ1 rfl rfl
  ·exact gX hJ1 rfl rfl
 refine gJ 5 (fun v3=> [.v 21 (.ob v3)]) rfl (fun _=>rfl) (fun J2 hJ2=> ?_) (fun v3=> ?_)
 ·refine gD rfl (fun _=> ?_) (fun _=> ?_)
  ·exact gX hJ2 rfl rfl
  ·refine gA ?_
   refine gKh (a2s n _ (a4n n)) rfl rfl rfl (fvA rfl rfl (fun q=>b4j n q) default) fun v4=> ?_
   exact gX hJ2 rfl rfl
 exact gR rfl rfl rfl
theorem c0q(n:Nat)(l:List Affine)(k:Int):FnC Wt 97 [.sl 5 l,.fb [.clo 96 [.fb [.val (.func (.func 95) #[] #[])] 0,.fb [.int .i64 k] 0]] 0] (a5n n l k) (fun r=> .ob r):=by
 refine a1i (n:=12) Tryz.func97 rfl rfl rfl (fun _ _=>by kernel_rfl) fun F0 w0 r=> ?_
 unfold a5n
 refine gJ 4 (fun v1=> [.v 11 (.ob v1)]) rfl (fun _=>rfl) (fun J1 hJ1=> ?_) (fun v1=> ?_)
 ·refine gD rfl (fun _=> ?_) (fun _=> ?_)
  ·exact gX hJ1 rfl rfl
  ·refine gA ?_
   refine gKh (a6n n _ (fun a=>a5q n a k)) rfl rfl rfl (fvA rfl rfl (fun q=>c0m n q k) default) fun v4=> ?_
   exact gX hJ1 rfl rfl
 exact gR rfl rfl rfl
theorem c3t(n:Nat)(f:Form)(k:Int):FnC Wt 46 [.agg [.sl 4 f.Pieces],.int .i64 k] (b0p n f k) (fun r=> .ob r):=by
 refine a1i (n:=21) Tryz.func46 rfl rfl rfl (fun _ _=>by kernel_rfl) fun F0 w0 r=> ?_
 unfold b0p
 refine gFz 2 rfl rfl ?_
 refine gFz 1 rfl rfl ?_
 refine gFz 3 rfl rfl ?_
 refine gJ 6 (fun v1=> [.v 20 (.ob v1)]) rfl (fun _=>rfl) (fun J1 hJ1=> ?_) (fun v1=> ?_)
 ·refine gD rfl (fun _=> ?_) (fun _=> ?_)
  ·refine gA ?_
   refine gKh (a6f n _ (fun l=>a5n n l k)) rfl rfl rfl (fvA rfl rfl (fun q=>c0q n q k) default) fun v4=> ?_
   exact gX hJ1 rfl rfl
  ·exact gX hJ1 rfl rfl
 exact gR rfl rfl rfl
def c7s(n:Nat)(mx1:maker):Option (List Frac):=(a5s n 0).bind fun v1=>(a3n n [v1] (mx1.names.length:Int)).bind fun v2=>some v2
theorem d0m(n:Nat)(mx1:maker)(c1:Frac):a2g n mx1 c1=(c7s n mx1).bind fun v2=>some (mx1,(⟨[[(⟨c1,v2⟩:Affine)]]⟩:Form)):=by
 unfold a2g c7s
 cases a5s n 0 with
 |none=>rfl
 |some v=>show(a3n n [v] _).bind _=((a3n n [v] _).bind _).bind _;cases a3n n [v] (mx1.names.length:Int)<;>rfl
theorem d9b(n:Nat)(m:maker)(c:Frac)(s:Bs):(a2g n m c).bind (fun v5=>(ix v5.2.Pieces 0).bind fun ex1=>(ix ex1 0).bind fun ex2=>(a1g n v5.1.names s).bind fun v6=>(a5s n 1).bind fun v7=>(ix ex2.Coefs v6).bind fun _=>(setw v5.2.Pieces v6 v7).bind fun p1=>some (v5.1,(⟨p1⟩:Form)))=
 (c7s n m).bind fun l=>(a1g n m.names s).bind fun v6=>(a5s n 1).bind fun v7=>(ix l v6).bind fun _=>(lset l v6 v7).bind fun l2=>some (m,(⟨[[(⟨c,l2⟩:Affine)]]⟩:Form)):=by
 rw [d0m,Option.bind_assoc]
 congr 1;funext l
 show(a1g n m.names s).bind _=_
 congr 1;funext v6
 congr 1;funext v7
 show(ix l v6).bind _=_
 congr 1;funext z
 show((lset l v6 v7).bind _).bind _=_
 rw [Option.bind_assoc];rfl
theorem d8l(n:Nat)(mx1:maker)(c1:Frac):FnLG Wt 74 77 [.sl 1 mx1.names,.sl 2 mx1.facts.Lifts,.int .i64 mx1.facts.Persons,.int .i64 mx1.facts.Flats,.ob mx1.full] [.bx 0 0,.agg [.int .i64 c1.P.Sign,.sl 2 c1.P.Digits,.int .i64 c1.Q.Sign,.sl 2 c1.Q.Digits]] (c7s n mx1)
 (fun _=> [.sl 1 mx1.names,.sl 2 mx1.facts.Lifts,.int .i64 mx1.facts.Persons,.int .i64 mx1.facts.Flats,.ob mx1.full])
 (fun r=> [.box 44 [.int .i64 c1.P.Sign,.sl 2 c1.P.Digits,.int .i64 c1.Q.Sign,.sl 2 c1.Q.Digits],.box 34 [.sb 7 4 1],.gone,.gone,.row 44 4 3 r,.box 62 [.int .i64 c1.P.Sign,.sl 2 c1.P.Digits,.int .i64 c1.Q.Sign,.sl 2 c1.Q.Digits,.row 5],.box 57 [.sb 6 5 1]]) (fun _=> .agg [.sb 7 4 1]):=by
 refine e1m (n:=18) Tryz.func74 rfl rfl rfl (fun _ _=>by kernel_rfl) fun F0 w0 b r=> ?_
 unfold c7s
 refine gHs [(1,(pL [0,6,8,10,12,14,3,5,17,18,21,23,24,27] .nil))] rfl (by kernel_rfl) rfl rfl fun Ky=> ?_
 refine gK (a5z _ _) rfl rfl rfl fun v1=> ?_
 refine gO (b4x _ _ _) rfl rfl rfl fun v2=> ?_
 refine gBs rfl ?_
 refine gBs rfl ?_
 refine gHe rfl ?_
 exact gRLG rfl
theorem FnO.c{P:Program}{T:Tbl P}{f:FuncId}{ρ:Type}{us:List (AV T.ty)}{m:Option ρ}{el q c:Nat}{res:ρ->List (T.ty c)}(h:FnO T f us m el q c res):FnC T f us m (fun r=> .sl c (res r)):=⟨h.1,fun r hm w F hs hg us hu=>(h.2 r hm w F hs hg us hu).mono fun e w'⟨v,F',a,m,nn,xs,e1,e2,e3,e4⟩=>by
 obtain⟨F2,h1,h2,h3⟩:=frzO e2 e3
 exact⟨v,F2,e1,h2,a,m,nn,e4,h3⟩⟩
end Go.Proofs.YthaegflpecbfgaaGreatDoor.M
namespace Go.Proofs.YthaegflpecbfgaaGreatDoor.M
open Go Go.RowKit Rt
set_option maxRecDepth 1000000
set_option maxHeartbeats 40000000
theorem a9r(n:Nat)(mx1:maker)(f1:Form)(byx1:Frac):FnL Wt 80 77 [.sl 1 mx1.names,.sl 2 mx1.facts.Lifts,.int .i64 mx1.facts.Persons,.int .i64 mx1.facts.Flats,.ob mx1.full] [.bx 0 0,.agg [.sl 4 f1.Pieces],.agg [.int .i64 byx1.P.Sign,.sl 2 byx1.P.Digits,.int .i64 byx1.Q.Sign,.sl 2 byx1.Q.Digits]] (a5t n mx1 f1 byx1) (fun r=> [.sl 1 r.1.names,.sl 2 r.1.facts.Lifts,.int .i64 r.1.facts.Persons,.int .i64 r.1.facts.Flats,.ob r.1.full]) (fun r=> .agg [.sl 4 r.2.Pieces]):=by
 refine b6o (n:=25) Tryz.func80 rfl rfl rfl (fun _ _=>by kernel_rfl) fun F0 w0 b r=> ?_
 unfold a5t
 refine gK (b7m _ _) rfl rfl rfl fun v1=> ?_
 refine gC rfl (fun _=> ?_) (fun _=> ?_)
 ·
  refine gN (a9f _ _ _) rfl rfl rfl rfl rfl fun v2=> ?_
  exact gRL rfl rfl rfl rfl rfl
 ·
  refine gC rfl (fun _=> ?_) (fun _=> ?_)
  ·
   refine gK (b1j _ _ _) rfl rfl rfl fun v3=> ?_
   exact gRL rfl rfl rfl rfl rfl
  ·
   refine gHs [(6,(pL [0,2,6,5,9,11,13] .nil))] rfl (by kernel_rfl) rfl rfl fun Ky=> ?_
   refine gN (a9b _ _ _) rfl rfl rfl rfl rfl fun v4=> ?_
   refine gK (d2s _ _) rfl rfl rfl fun v5=> ?_
   refine gK (b1j _ _ _) rfl rfl rfl fun v6=> ?_
   refine gHe rfl ?_
   exact gRL rfl rfl rfl rfl rfl
theorem b7a(n:Nat)(mx1:maker)(op1:Int)(ax1:Form)(b1:Form):FnL Wt 81 77 [.sl 1 mx1.names,.sl 2 mx1.facts.Lifts,.int .i64 mx1.facts.Persons,.int .i64 mx1.facts.Flats,.ob mx1.full] [.bx 0 0,.int .i64 op1,.agg [.sl 4 ax1.Pieces],.agg [.sl 4 b1.Pieces]] (a9s n mx1 op1 ax1 b1) (fun r=> [.sl 1 r.1.names,.sl 2 r.1.facts.Lifts,.int .i64 r.1.facts.Persons,.int .i64 r.1.facts.Flats,.ob r.1.full]) (fun r=> .agg [.sl 4 r.2.Pieces]):=by
 refine b6o (n:=66) Tryz.func81 rfl rfl rfl (fun _ _=>by kernel_rfl) fun F0 w0 b r=> ?_
 unfold a9s
 refine gM (fun j1=> [.b 0 [.sl 1 j1.2.1,.sl 2 j1.2.2.1,.int .i64 j1.2.2.2.1,.int .i64 j1.2.2.2.2.1,.ob j1.2.2.2.2.2],.b 7 [.sl 4 j1.1]]) rfl (fun _=>rfl) (fun J1 hJ1=> ?_) (fun j1=> ?_)
 ·
  refine gD rfl (fun _=> ?_) (fun _=> ?_)
  ·
   refine gA ?_
   refine gN (a9b _ _ _) rfl rfl rfl rfl rfl fun v19=> ?_
   exact gX hJ1 rfl (by kernel_rfl)
  ·
   exact gX hJ1 rfl (by kernel_rfl)
 obtain⟨f1,f2,f3,f4,f5,f6⟩:=j1;dsimp only
 refine gG rfl (by kernel_rfl) ?_
 refine gQ (a7n _ _) rfl rfl rfl (fun _=>rfl) fun v1=> ?_
 refine gQ (a7n _ _) rfl rfl rfl (fun _=>rfl) fun v2=> ?_
 refine gC rfl (fun _=> ?_) (fun _=> ?_)
 ·
  refine gG rfl (by kernel_rfl) ?_
  refine gQ (a7n _ _) rfl rfl rfl (fun _=>rfl) fun v3=> ?_
  refine gQ (a7n _ _) rfl rfl rfl (fun _=>rfl) fun v4=> ?_
  refine gN (a6p _ _ _) rfl rfl rfl rfl rfl fun v5=> ?_
  refine gC rfl (fun _=> ?_) (fun _=> ?_)
  ·
   exact gRL rfl rfl rfl rfl rfl
  ·
   refine gC rfl (fun _=> ?_) (fun _=> ?_)
   ·
    refine gO (a2t _ _) rfl rfl rfl fun v6=> ?_
    exact gRL rfl rfl rfl rfl rfl
   ·
    refine gC rfl (fun _=> ?_) (fun _=> ?_)
    ·
     refine gKh (a7r n _ _ (a7b n)) rfl rfl rfl (fvA rfl rfl (fun q=>FnO.c (b3j n q.1 q.2)) default) fun v7=> ?_
     exact gRL rfl rfl rfl rfl rfl
    ·
     refine gKh (a7r n _ _ (a7g n)) rfl rfl rfl (fvA rfl rfl (fun q=>FnO.c (b3y n q.1 q.2)) default) fun v8=> ?_
     exact gRL rfl rfl rfl rfl rfl
 ·
  refine gC rfl (fun _=> ?_) (fun _=> ?_)
  ·
   refine gG rfl (by kernel_rfl) ?_
   refine gQ (a7n _ _) rfl rfl rfl (fun _=>rfl) fun v9=> ?_
   refine gQ (a7n _ _) rfl rfl rfl (fun _=>rfl) fun v10=> ?_
   refine gN (a6p _ _ _) rfl rfl rfl rfl rfl fun v11=> ?_
   refine gC rfl (fun _=> ?_) (fun _=> ?_)
   ·
    exact gRL rfl rfl rfl rfl rfl
   ·
    refine gC rfl (fun _=> ?_) (fun _=> ?_)
    ·
     refine gO (a2t _ _) rfl rfl rfl fun v12=> ?_
     exact gRL rfl rfl rfl rfl rfl
    ·
     refine gC rfl (fun _=> ?_) (fun _=> ?_)
     ·
      refine gKh (a7r n _ _ (a7b n)) rfl rfl rfl (fvA rfl rfl (fun q=>FnO.c (b3j n q.1 q.2)) default) fun v13=> ?_
      exact gRL rfl rfl rfl rfl rfl
     ·
      refine gKh (a7r n _ _ (a7g n)) rfl rfl rfl (fvA rfl rfl (fun q=>FnO.c (b3y n q.1 q.2)) default) fun v14=> ?_
      exact gRL rfl rfl rfl rfl rfl
  ·
   refine gN (a6p _ _ _) rfl rfl rfl rfl rfl fun v15=> ?_
   refine gC rfl (fun _=> ?_) (fun _=> ?_)
   ·
    exact gRL rfl rfl rfl rfl rfl
   ·
    refine gC rfl (fun _=> ?_) (fun _=> ?_)
    ·
     refine gO (a2t _ _) rfl rfl rfl fun v16=> ?_
     exact gRL rfl rfl rfl rfl rfl
    ·
     refine gC rfl (fun _=> ?_) (fun _=> ?_)
     ·
      refine gKh (a7r n _ _ (a7b n)) rfl rfl rfl (fvA rfl rfl (fun q=>FnO.c (b3j n q.1 q.2)) default) fun v17=> ?_
      exact gRL rfl rfl rfl rfl rfl
     ·
      refine gKh (a7r n _ _ (a7g n)) rfl rfl rfl (fvA rfl rfl (fun q=>FnO.c (b3y n q.1 q.2)) default) fun v18=> ?_
      exact gRL rfl rfl rfl rfl rfl
theorem b7f(n:Nat):∀(mx1:maker)(x1:Expr),FnL Wt 39 77 [.sl 1 mx1.names,.sl 2 mx1.facts.Lifts,.int .i64 mx1.facts.Persons,.int .i64 mx1.facts.Flats,.ob mx1.full] [.bx 0 0,.agg [.int .i64 x1.Op,.int .i64 x1.N,.str x1.Name,.sl 0 x1.Args]] (minmax_maker_made n mx1 x1) (fun r=> [.sl 1 r.1.names,.sl 2 r.1.facts.Lifts,.int .i64 r.1.facts.Persons,.int .i64 r.1.facts.Flats,.ob r.1.full]) (fun r=> .agg [.sl 4 r.2.Pieces]):=by
 induction n with
 |zero=>exact fun _ _=>d2n (fun _ _=>by kernel_rfl)
 |succ n ih=>
  intro mx1 x1
  refine b6o (n:=140) Tryz.func39 rfl rfl rfl (fun _ _=>by kernel_rfl) fun F0 w0 b r=> ?_
  rw [minmax_maker_made_s]
  refine gC rfl (fun _=> ?_) (fun _=> ?_)
  ·
   exact gRL rfl rfl rfl rfl rfl
  ·
   refine gN (b1x _ _ _) rfl rfl rfl rfl rfl fun v1=> ?_
   refine gC rfl (fun _=> ?_) (fun _=> ?_)
   ·
    refine gN (a5u _ _ _) rfl rfl rfl rfl rfl fun v2=> ?_
    refine gN (a9f _ _ _) rfl rfl rfl rfl rfl fun v3=> ?_
    exact gRL rfl rfl rfl rfl rfl
   ·
    refine gC rfl (fun _=> ?_) (fun _=> ?_)
    ·
     refine gK (a5z _ _) rfl rfl rfl fun v4=> ?_
     refine gEq (d9b _ _ _ _) ?_
     refine gLGc (d8l _ _ _) rfl rfl rfl rfl rfl fun l=> ?_
     refine gHs [(8,(pL [0,2,4,6,8,10,12,14,16,18,20,22,24,27,29,31,33] .nil)),(15,(pL [0,2,4,6,8,10,12,14,16,19,21,23] .nil)),(16,(pL [0,2,4,6,8,12,11,15,17] .nil)),(19,(pL [0,2,4,6,8,10,14,16,18,20,22,13,25,27,29] .nil)),(20,(pL [0,2,4,6,8,10,14,16,18,20,22,13,25,27,29] .nil)),(22,(pL [0,2,4,6,8,10,12,14,16,19,21,23] .nil))] rfl (by kernel_rfl) rfl rfl fun Ky=> ?_
     refine gK (a4m _ _ _) rfl rfl rfl fun v6=> ?_
     refine gK (a5z _ _) rfl rfl rfl fun v7=> ?_
     refine gV rfl fun z=> ?_
     refine gW rfl rfl fun l2=> ?_
     refine gHe rfl ?_
     refine gFi 7 rfl ?_
     refine gFs 8 5 5 1 rfl rfl ?_
     refine gFs 9 4 1 1 rfl rfl ?_
     exact gRL rfl rfl rfl rfl rfl
    ·
     refine gC rfl (fun _=> ?_) (fun _=> ?_)
     ·
      refine gV rfl fun ex4=> ?_
      refine gN (b6j _ _ _) rfl rfl rfl rfl rfl fun v8=> ?_
      refine gC rfl (fun _=> ?_) (fun _=> ?_)
      ·
       refine gV rfl fun ex5=> ?_
       refine gN (ih _ _) rfl rfl rfl rfl rfl fun v9=> ?_
       exact gRL rfl rfl rfl rfl rfl
      ·
       refine gV rfl fun ex6=> ?_
       refine gN (ih _ _) rfl rfl rfl rfl rfl fun v10=> ?_
       exact gRL rfl rfl rfl rfl rfl
     ·
      refine gC rfl (fun _=> ?_) (fun _=> ?_)
      ·
       refine gV rfl fun ex7=> ?_
       refine gK (d6i _ _ _) rfl rfl rfl fun v11=> ?_
       refine gHs [(8,(pL [0,2,4,6,8,10,12,14,16,18,20,22,24,27,29,31,33] .nil)),(15,(pL [0,2,4,6,8,10,12,14,16,19,21,23] .nil)),(16,(pL [0,2,4,6,8,12,11,15,17] .nil)),(19,(pL [0,2,4,6,8,10,14,16,18,20,22,13,25,27,29] .nil)),(20,(pL [0,2,4,6,8,10,14,16,18,20,22,13,25,27,29] .nil)),(22,(pL [0,2,4,6,8,10,12,14,16,19,21,23] .nil))] rfl (by kernel_rfl) rfl rfl fun Ky=> ?_
       refine gV rfl fun ex8=> ?_
       refine gN (ih _ _) rfl rfl rfl rfl rfl fun v12=> ?_
       refine gK (b1j _ _ _) rfl rfl rfl fun v13=> ?_
       refine gHe rfl ?_
       exact gRL rfl rfl rfl rfl rfl
      ·
       refine gC rfl (fun _=> ?_) (fun _=> ?_)
       ·
        refine gV rfl fun ex9=> ?_
        refine gN (b1x _ _ _) rfl rfl rfl rfl rfl fun v14=> ?_
        refine gC rfl (fun _=> ?_) (fun _=> ?_)
        ·
         refine gHs [(8,(pL [0,2,4,6,8,10,12,14,16,18,20,22,24,27,29,31,33] .nil)),(15,(pL [0,2,4,6,8,10,12,14,16,19,21,23] .nil)),(16,(pL [0,2,4,6,8,12,11,15,17] .nil)),(19,(pL [0,2,4,6,8,10,14,16,18,20,22,13,25,27,29] .nil)),(20,(pL [0,2,4,6,8,10,14,16,18,20,22,13,25,27,29] .nil)),(22,(pL [0,2,4,6,8,10,12,14,16,19,21,23] .nil))] rfl (by kernel_rfl) rfl rfl fun Ky=> ?_
         refine gV rfl fun ex10=> ?_
         refine gV rfl fun ex11=> ?_
         refine gN (ih _ _) rfl rfl rfl rfl rfl fun v15=> ?_
         refine gN (a5u _ _ _) rfl rfl rfl rfl rfl fun v16=> ?_
         refine gN (a9r _ _ _ _) rfl rfl rfl rfl rfl fun v17=> ?_
         refine gHe rfl ?_
         exact gRL rfl rfl rfl rfl rfl
        ·
         refine gHs [(8,(pL [0,2,4,6,8,10,12,14,16,18,20,22,24,27,29,31,33] .nil)),(15,(pL [0,2,4,6,8,10,12,14,16,19,21,23] .nil)),(16,(pL [0,2,4,6,8,12,11,15,17] .nil)),(19,(pL [0,2,4,6,8,10,14,16,18,20,22,13,25,27,29] .nil)),(20,(pL [0,2,4,6,8,10,14,16,18,20,22,13,25,27,29] .nil)),(22,(pL [0,2,4,6,8,10,12,14,16,19,21,23] .nil))] rfl (by kernel_rfl) rfl rfl fun Ky=> ?_
         refine gV rfl fun ex12=> ?_
         refine gV rfl fun ex13=> ?_
         refine gN (ih _ _) rfl rfl rfl rfl rfl fun v18=> ?_
         refine gN (a5u _ _ _) rfl rfl rfl rfl rfl fun v19=> ?_
         refine gN (a9r _ _ _ _) rfl rfl rfl rfl rfl fun v20=> ?_
         refine gHe rfl ?_
         exact gRL rfl rfl rfl rfl rfl
       ·
        refine gV rfl fun ex14=> ?_
        refine gN (ih _ _) rfl rfl rfl rfl rfl fun v21=> ?_
        refine gHs [(8,(pL [0,2,4,6,8,10,12,14,16,18,20,22,24,27,29,31,33] .nil)),(15,(pL [0,2,4,6,8,10,12,14,16,19,21,23] .nil)),(16,(pL [0,2,4,6,8,12,11,15,17] .nil)),(19,(pL [0,2,4,6,8,10,14,16,18,20,22,13,25,27,29] .nil)),(20,(pL [0,2,4,6,8,10,14,16,18,20,22,13,25,27,29] .nil)),(22,(pL [0,2,4,6,8,10,12,14,16,19,21,23] .nil))] rfl (by kernel_rfl) rfl rfl fun Ky=> ?_
        refine gV rfl fun ex15=> ?_
        refine gN (ih _ _) rfl rfl rfl rfl rfl fun v22=> ?_
        refine gN (b7a _ _ _ _ _) rfl rfl rfl rfl rfl fun v23=> ?_
        refine gHe rfl ?_
        exact gRL rfl rfl rfl rfl rfl
theorem d0a(n:Nat)(t1:Tariff)(names1:(List Bs))(f1:Facts):FnC Wt 11 [.agg [.str t1.Name,.int .i64 t1.Fee.Op,.int .i64 t1.Fee.N,.str t1.Fee.Name,.sl 0 t1.Fee.Args,.int .i64 t1.Cap],.sl 1 names1,.agg [.sl 2 f1.Lifts,.int .i64 f1.Persons,.int .i64 f1.Flats]] (c1v n t1 names1 f1) (fun r=> .tup [.agg [.sl 4 r.1.Pieces],.int .i64 r.2]):=by
 refine a1i (n:=52) Tryz.func11 rfl rfl rfl (fun _ _=>by kernel_rfl) fun F0 w0 r=> ?_
 unfold c1v
 refine gK (b6n _ _ _) rfl rfl rfl fun v1=> ?_
 refine gC rfl (fun _=> ?_) (fun _=> ?_)
 ·
  exact gR rfl rfl rfl
 ·
  refine gA ?_
  refine gHs [(6,(pL [0,2,4,10,12] (.two 3 12 (pL [] (.two 4 12 (pL [] (.two 7 12 (pL [] (.two 8 12 (pL [18,20,22,25,27,29] .nil) (pL [17,19,20,22,27,29] .nil))) (pL [15,17,19,20,22,27,29] .nil))) (pL [9,15,17,19,20,22,27,29] .nil))) (pL [7,9,15,17,19,20,22,27,29] .nil))))] rfl (by kernel_rfl) rfl rfl fun Ky=> ?_
  refine gH2 rfl ?_ ?_
  all_goals
   refine gK (a5z _ _) rfl rfl rfl fun v3=> ?_
   refine gA ?_
   try refine gH2 rfl ?_ ?_
   all_goals
    try refine gH2 rfl ?_ ?_
    all_goals
     refine gK (b1m _ _ _) rfl rfl rfl fun v4=> ?_
     refine gA ?_
     try refine gH2 rfl ?_ ?_
     all_goals
      refine gK (c1z _ _ _ _ _) rfl rfl rfl fun v5=> ?_
      refine gB ?_
      refine gHe rfl ?_
      refine gC rfl (fun _=> ?_) (fun _=> ?_)
      ·
       exact gR rfl rfl rfl
      ·
       refine gN (b7f _ _ _) rfl rfl rfl rfl rfl fun v2=> ?_
       refine gC rfl (fun _=> ?_) (fun _=> ?_)
       ·
        exact gR rfl rfl rfl
       ·
        exact gR rfl rfl rfl
theorem c2e(n:Nat)(ax1:Affine)(weights1:(List Frac)):FnC Wt 47 [.agg [.int .i64 ax1.Const.P.Sign,.sl 2 ax1.Const.P.Digits,.int .i64 ax1.Const.Q.Sign,.sl 2 ax1.Const.Q.Digits,.sl 3 ax1.Coefs],.sl 3 weights1] (a9d n ax1 weights1) (fun r=> .agg [.int .i64 r.P.Sign,.sl 2 r.P.Digits,.int .i64 r.Q.Sign,.sl 2 r.Q.Digits]):=by
 refine a1i (n:=37) Tryz.func47 rfl rfl rfl (fun _ _=>by kernel_rfl) fun F0 w0 r=> ?_
 unfold a9d
 refine a3c ((fun k0 m(s:Int×Int×(List Int)×Int×(List Int))=>minmax_at_L1 n ax1 weights1 k0 m s.1 s.2.1 s.2.2.1 s.2.2.2.1 s.2.2.2.2) _) (fun(s:Int×Int×(List Int)×Int×(List Int))=> [.b 5 [.int .i64 s.2.1,.sl 2 s.2.2.1,.int .i64 s.2.2.2.1,.sl 2 s.2.2.2.2],.v 15 (.int .i64 s.1)]) (fun _=>rfl) (_,_,_,_,_) rfl rfl (fun _=>rfl) rfl fun K1 m1 hK1 z1=> ?_
 obtain⟨i1,f1,f2,f3,f4⟩:=z1;dsimp only
 refine gC rfl (fun _=> ?_) (fun _=> ?_)
 ·
  refine gV rfl fun ex1=> ?_
  refine gA ?_
  refine gHs [(5,(pL [0,2,4,6,8] (.two 5 9 (pL [12,14,16,19,21,23] .nil) (pL [11,13,14,16,21,23] .nil))))] rfl (by kernel_rfl) rfl rfl fun Ky=> ?_
  refine gV rfl fun ex2=> ?_
  refine gA ?_
  refine gH2 rfl ?_ ?_
  all_goals
   refine gK (b9g _ _ _) rfl rfl rfl fun v2=> ?_
   refine gB ?_
   refine gHe rfl ?_
   refine gK (b6b _ _ _) rfl rfl rfl fun v1=> ?_
   exact gE hK1 (_,_,_,_,_) rfl (by kernel_rfl)
 ·
  exact gR rfl rfl rfl
theorem c6c(n:Nat)(x1:Frac):FnC Wt 43 [.agg [.int .i64 x1.P.Sign,.sl 2 x1.P.Digits,.int .i64 x1.Q.Sign,.sl 2 x1.Q.Digits]] (a8m n x1) (fun r=> .ob r):=by
 refine a1i (n:=6) Tryz.func43 rfl rfl rfl (fun _ _=>by kernel_rfl) fun F0 w0 r=> ?_
 unfold a8m
 refine gK (a2f _ _) rfl rfl rfl fun v1=> ?_
 exact gR rfl rfl rfl
theorem b1s(n:Nat)(f1:Form)(weights1:(List Frac)):FnC Wt 13 [.agg [.sl 4 f1.Pieces],.sl 3 weights1] (a6g n f1 weights1) (fun r=> .tup [.agg [.int .i64 r.1.P.Sign,.sl 2 r.1.P.Digits,.int .i64 r.1.Q.Sign,.sl 2 r.1.Q.Digits],.ob r.2]):=by
 refine a1i (n:=64) Tryz.func13 rfl rfl rfl (fun _ _=>by kernel_rfl) fun F0 w0 r=> ?_
 unfold a6g
 refine gKh (a2s n _ (a8m n)) rfl rfl rfl (fvA rfl rfl (fun q=>c6c n q) default) fun v1=> ?_
 refine gJ 6 (fun v2=> [.v 22 (.ob v2)]) rfl (fun _=>rfl) (fun J1 hJ1=> ?_) (fun v2=> ?_)
 ·
  refine gD rfl (fun _=> ?_) (fun _=> ?_)
  ·
   exact gX hJ1 rfl (by kernel_rfl)
  ·
   refine gA ?_
   refine gK (c3t _ _ _) rfl rfl rfl fun v8=> ?_
   exact gX hJ1 rfl (by kernel_rfl)
 refine gC rfl (fun _=> ?_) (fun _=> ?_)
 ·
  exact gR rfl rfl rfl
 ·
  refine a3c ((fun k0 m(s:Int×Int×(List Int)×Int×(List Int)×Int×(List Int)×Int×(List Int))=>minmax_At_L1 n f1 weights1 k0 m s.1 s.2.1 s.2.2.1 s.2.2.2.1 s.2.2.2.2.1 s.2.2.2.2.2.1 s.2.2.2.2.2.2.1 s.2.2.2.2.2.2.2.1 s.2.2.2.2.2.2.2.2) _) (fun(s:Int×Int×(List Int)×Int×(List Int)×Int×(List Int)×Int×(List Int))=> [.b 4 [.int .i64 s.2.2.2.2.2.1,.sl 2 s.2.2.2.2.2.2.1,.int .i64 s.2.2.2.2.2.2.2.1,.sl 2 s.2.2.2.2.2.2.2.2],.b 7 [.int .i64 s.2.1,.sl 2 s.2.2.1,.int .i64 s.2.2.2.1,.sl 2 s.2.2.2.2.1],.v 27 (.int .i64 s.1)]) (fun _=>rfl) (_,_,_,_,_,_,_,_,_) rfl rfl (fun _=>rfl) rfl fun K2 m2 hK2 z2=> ?_
  obtain⟨i1,f2,f3,f4,f5,f6,f7,f8,f9⟩:=z2;dsimp only
  refine gC rfl (fun _=> ?_) (fun _=> ?_)
  ·
   refine gV rfl fun ex1=> ?_
   refine gV rfl fun ex2=> ?_
   refine gK (c2e _ _ _) rfl rfl rfl fun v3=> ?_
   refine gV rfl fun l1=> ?_
   refine a3c ((fun k0 m(s:Int×Int×(List Int)×Int×(List Int))=>minmax_At_L2 n weights1 l1 k0 m s.1 s.2.1 s.2.2.1 s.2.2.2.1 s.2.2.2.2) _) (fun(s:Int×Int×(List Int)×Int×(List Int))=> [.b 10 [.int .i64 s.2.1,.sl 2 s.2.2.1,.int .i64 s.2.2.2.1,.sl 2 s.2.2.2.2],.v 40 (.int .i64 s.1)]) (fun _=>rfl) (_,_,_,_,_) rfl rfl (fun _=>rfl) rfl fun K3 m3 hK3 z3=> ?_
   obtain⟨i2,f18,f19,f20,f21⟩:=z3;dsimp only
   refine gC rfl (fun _=> ?_) (fun _=> ?_)
   ·
    refine gV rfl fun ex3=> ?_
    refine gHs [(12,(pL [2,4] (.two 0 3 (pL [7,9,11,12,14,17] .nil) (pL [1,9,11,12,14,17] .nil))))] rfl (by kernel_rfl) rfl rfl fun Ky=> ?_
    refine gH2 rfl ?_ ?_
    all_goals
     refine gK (c2e _ _ _) rfl rfl rfl fun v6=> ?_
     refine gK (c4r _ _ _) rfl rfl rfl fun v7=> ?_
     refine gHe rfl ?_
     exact gE hK3 (_,_,_,_,_) rfl (by kernel_rfl)
   ·
    refine gJ 5 (fun v4=> [.v 60 (.ob v4)]) rfl (fun _=>rfl) (fun J4 hJ4=> ?_) (fun v4=> ?_)
    ·
     refine gD rfl (fun _=> ?_) (fun _=> ?_)
     ·
      exact gX hJ4 rfl (by kernel_rfl)
     ·
      refine gA ?_
      refine gK (b2q _ _ _) rfl rfl rfl fun v5=> ?_
      exact gX hJ4 rfl (by kernel_rfl)
    refine gC rfl (fun _=> ?_) (fun _=> ?_)
    ·
     exact gE hK2 (_,_,_,_,_,_,_,_,_) rfl (by kernel_rfl)
    ·
     exact gE hK2 (_,_,_,_,_,_,_,_,_) rfl (by kernel_rfl)
  ·
   exact gR rfl rfl rfl
end Go.Proofs.YthaegflpecbfgaaGreatDoor.M
namespace Go.Proofs.YthaegflpecbfgaaGreatDoor.M
open Go Go.RowKit Rt
set_option maxRecDepth 1000000
set_option maxHeartbeats 40000000
theorem b5u(n:Nat)(l1:(List Frac))(nx1:Int):FnC Wt 19 [.sl 3 l1,.int .i64 nx1] (a7w n l1 nx1) (fun r=> .ob r):=by
 refine a1i (n:=30) Tryz.func19 rfl rfl rfl (fun _ _=>by kernel_rfl) fun F0 w0 r=> ?_
 unfold a7w
 refine a3c ((fun k0 m(s:Int)=>ref36_Weights_L1 n l1 k0 m s) _) (fun(s:Int)=> [.v 5 (.int .i64 s)]) (fun _=>rfl) _ rfl rfl (fun _=>rfl) rfl fun K1 m1 hK1 i1=> ?_
 refine gC rfl (fun _=> ?_) (fun _=> ?_)
 ·
  refine gV rfl fun ex1=> ?_
  refine gK (a3m _ _) rfl rfl rfl fun v1=> ?_
  refine gJ 7 (fun v2=> [.v 25 (.ob v2)]) rfl (fun _=>rfl) (fun J2 hJ2=> ?_) (fun v2=> ?_)
  ·
   refine gD rfl (fun _=> ?_) (fun _=> ?_)
   ·
    exact gX hJ2 rfl (by kernel_rfl)
   ·
    refine gA ?_
    refine gV rfl fun ex2=> ?_
    refine gA ?_
    refine gK (c7f _ _) rfl rfl rfl fun v3=> ?_
    exact gX hJ2 rfl (by kernel_rfl)
  refine gC rfl (fun _=> ?_) (fun _=> ?_)
  ·
   exact gR rfl rfl rfl
  ·
   exact gE hK1 _ rfl (by kernel_rfl)
 ·
  exact gR rfl rfl rfl
end Go.Proofs.YthaegflpecbfgaaGreatDoor.M
namespace Go.Proofs.YthaegflpecbfgaaGreatDoor.M
open Go Go.RowKit Rt
set_option maxRecDepth 1000000
set_option maxHeartbeats 40000000
theorem c7i(n:Nat)(f1:Form):FnC Wt 36 [.agg [.sl 4 f1.Pieces]] (b2y n f1) (fun r=> .int .i64 r):=by
 refine a1i (n:=21) Tryz.func36 rfl rfl rfl (fun _ _=>by kernel_rfl) fun F0 w0 r=> ?_
 unfold b2y
 refine a3c ((fun k0 m(s:Int×Int)=>ref37_Size_L1 n f1 k0 m s.1 s.2) _) (fun(s:Int×Int)=> [.v 3 (.int .i64 s.1),.v 4 (.int .i64 s.2)]) (fun _=>rfl) (_,_) rfl rfl (fun _=>rfl) rfl fun K1 m1 hK1 z1=> ?_
 obtain⟨nx1,i1⟩:=z1;dsimp only
 refine gC rfl (fun _=> ?_) (fun _=> ?_)
 ·
  refine gV rfl fun ex1=> ?_
  exact gE hK1 (_,_) rfl (by kernel_rfl)
 ·
  exact gR rfl rfl rfl
theorem c5k(n:Nat)(ax1:Affine)(weights1:(List Frac)):FnC Wt 61 [.agg [.int .i64 ax1.Const.P.Sign,.sl 2 ax1.Const.P.Digits,.int .i64 ax1.Const.Q.Sign,.sl 2 ax1.Const.Q.Digits,.sl 3 ax1.Coefs],.sl 3 weights1] (a9x n ax1 weights1) (fun r=> .tup [.agg [.int .i64 r.1.P.Sign,.sl 2 r.1.P.Digits,.int .i64 r.1.Q.Sign,.sl 2 r.1.Q.Digits],.ob r.2]):=by
 refine a1i (n:=67) Tryz.func61 rfl rfl rfl (fun _ _=>by kernel_rfl) fun F0 w0 r=> ?_
 unfold a9x
 refine gK (a3m _ _) rfl rfl rfl fun v1=> ?_
 refine gJ 7 (fun v2=> [.v 21 (.ob v2)]) rfl (fun _=>rfl) (fun J1 hJ1=> ?_) (fun v2=> ?_)
 ·
  refine gD rfl (fun _=> ?_) (fun _=> ?_)
  ·
   exact gX hJ1 rfl (by kernel_rfl)
  ·
   exact gX hJ1 rfl (by kernel_rfl)
 refine gC rfl (fun _=> ?_) (fun _=> ?_)
 ·
  exact gR rfl rfl rfl
 ·
  refine a3c ((fun k0 m(s:Int×Int×(List Int)×Int×(List Int))=>ref37_Value_L1 n ax1 weights1 k0 m s.1 s.2.1 s.2.2.1 s.2.2.2.1 s.2.2.2.2) _) (fun(s:Int×Int×(List Int)×Int×(List Int))=> [.b 6 [.int .i64 s.2.1,.sl 2 s.2.2.1,.int .i64 s.2.2.2.1,.sl 2 s.2.2.2.2],.v 7 (.int .i64 s.1)]) (fun _=>rfl) (_,_,_,_,_) rfl rfl (fun _=>rfl) rfl fun K2 m2 hK2 z2=> ?_
  obtain⟨i1,f1,f2,f3,f4⟩:=z2;dsimp only
  refine gC rfl (fun _=> ?_) (fun _=> ?_)
  ·
   refine gV rfl fun ex1=> ?_
   refine gK (a3m _ _) rfl rfl rfl fun v3=> ?_
   refine gJ 8 (fun v4=> [.v 45 (.ob v4)]) rfl (fun _=>rfl) (fun J3 hJ3=> ?_) (fun v4=> ?_)
   ·
    refine gD rfl (fun _=> ?_) (fun _=> ?_)
    ·
     exact gX hJ3 rfl (by kernel_rfl)
    ·
     refine gA ?_
     refine gV rfl fun ex4=> ?_
     refine gA ?_
     refine gK (a3m _ _) rfl rfl rfl fun v7=> ?_
     exact gX hJ3 rfl (by kernel_rfl)
   refine gC rfl (fun _=> ?_) (fun _=> ?_)
   ·
    exact gR rfl rfl rfl
   ·
    refine gA ?_
    refine gHs [(9,(pL [0,2,4,6,8,10,12,14,16] (.two 9 13 (pL [20,22,24,27,29,31] .nil) (pL [19,21,22,24,29,31] .nil))))] rfl (by kernel_rfl) rfl rfl fun Ky=> ?_
    refine gV rfl fun ex2=> ?_
    refine gA ?_
    refine gV rfl fun ex3=> ?_
    refine gA ?_
    try refine gH2 rfl ?_ ?_
    all_goals
     refine gK (b7v _ _ _) rfl rfl rfl fun v6=> ?_
     refine gB ?_
     refine gHe rfl ?_
     refine gK (c3k _ _ _) rfl rfl rfl fun v5=> ?_
     exact gE hK2 (_,_,_,_,_) rfl (by kernel_rfl)
  ·
   exact gR rfl rfl rfl
theorem c0k(n:Nat)(l1:(List Affine))(weights1:(List Frac)):FnC Wt 22 [.sl 5 l1,.sl 3 weights1] (a8h n l1 weights1) (fun r=> .tup [.agg [.int .i64 r.1.P.Sign,.sl 2 r.1.P.Digits,.int .i64 r.1.Q.Sign,.sl 2 r.1.Q.Digits],.ob r.2]):=by
 refine a1i (n:=42) Tryz.func22 rfl rfl rfl (fun _ _=>by kernel_rfl) fun F0 w0 r=> ?_
 unfold a8h
 refine a3c ((fun k0 m(s:Int×Int×(List Int)×Int×(List Int))=>ref37_Greatest_L1 n l1 weights1 k0 m s.1 s.2.1 s.2.2.1 s.2.2.2.1 s.2.2.2.2) _) (fun(s:Int×Int×(List Int)×Int×(List Int))=> [.b 6 [.int .i64 s.2.1,.sl 2 s.2.2.1,.int .i64 s.2.2.2.1,.sl 2 s.2.2.2.2],.v 7 (.int .i64 s.1)]) (fun _=>rfl) (_,_,_,_,_) rfl rfl (fun _=>rfl) rfl fun K1 m1 hK1 z1=> ?_
 obtain⟨i1,f1,f2,f3,f4⟩:=z1;dsimp only
 refine gC rfl (fun _=> ?_) (fun _=> ?_)
 ·
  refine gV rfl fun ex1=> ?_
  refine gK (c5k _ _ _) rfl rfl rfl fun v1=> ?_
  refine gC rfl (fun _=> ?_) (fun _=> ?_)
  ·
   exact gR rfl rfl rfl
  ·
   refine gJ 5 (fun v2=> [.v 36 (.ob v2)]) rfl (fun _=>rfl) (fun J2 hJ2=> ?_) (fun v2=> ?_)
   ·
    refine gD rfl (fun _=> ?_) (fun _=> ?_)
    ·
     exact gX hJ2 rfl (by kernel_rfl)
    ·
     refine gA ?_
     refine gK (b1p _ _ _) rfl rfl rfl fun v3=> ?_
     exact gX hJ2 rfl (by kernel_rfl)
   refine gC rfl (fun _=> ?_) (fun _=> ?_)
   ·
    exact gE hK1 (_,_,_,_,_) rfl (by kernel_rfl)
   ·
    exact gE hK1 (_,_,_,_,_) rfl (by kernel_rfl)
 ·
  exact gR rfl rfl rfl
theorem c2k(n:Nat)(f1:Form):FnC Wt 10 [.agg [.sl 4 f1.Pieces]] (a9n n f1) (fun r=> .ob r):=by
 refine a1i (n:=65) Tryz.func10 rfl rfl rfl (fun _ _=>by kernel_rfl) fun F0 w0 r=> ?_
 unfold a9n
 refine gJ 4 (fun v1=> [.v 15 (.ob v1)]) rfl (fun _=>rfl) (fun J1 hJ1=> ?_) (fun v1=> ?_)
 ·
  refine gD rfl (fun _=> ?_) (fun _=> ?_)
  ·
   exact gX hJ1 rfl (by kernel_rfl)
  ·
   refine gA ?_
   refine gK (c7i _ _) rfl rfl rfl fun v5=> ?_
   exact gX hJ1 rfl (by kernel_rfl)
 refine gC rfl (fun _=> ?_) (fun _=> ?_)
 ·
  exact gR rfl rfl rfl
 ·
  refine a3c ((fun k0 m(s:Int×(List (List Affine)))=>ref37_FewForm_L1 n k0 m s.1 s.2) _) (fun(s:Int×(List (List Affine)))=> [.b 1 [.sl 4 s.2],.v 3 (.int .i64 s.1)]) (fun _=>rfl) (_,_) rfl rfl (fun _=>rfl) rfl fun K2 m2 hK2 z2=> ?_
  obtain⟨i1,f2⟩:=z2;dsimp only
  refine gC rfl (fun _=> ?_) (fun _=> ?_)
  ·
   refine a3c ((fun k0 m(s:Int×(List (List Affine)))=>ref37_FewForm_L2 n i1 k0 m s.1 s.2) _) (fun(s:Int×(List (List Affine)))=> [.b 1 [.sl 4 s.2],.v 4 (.int .i64 s.1)]) (fun _=>rfl) (_,_) rfl rfl (fun _=>rfl) rfl fun K3 m3 hK3 z3=> ?_
   obtain⟨k1,f3⟩:=z3;dsimp only
   refine gV rfl fun ex1=> ?_
   refine gC rfl (fun _=> ?_) (fun _=> ?_)
   ·
    refine gV rfl fun ex2=> ?_
    refine gV rfl fun ex3=> ?_
    refine gJ 5 (fun v2=> [.v 50 (.ob v2)]) rfl (fun _=>rfl) (fun J4 hJ4=> ?_) (fun v2=> ?_)
    ·
     refine gD rfl (fun _=> ?_) (fun _=> ?_)
     ·
      exact gX hJ4 rfl (by kernel_rfl)
     ·
      refine gA ?_
      refine gK (b3p _ _ _) rfl rfl rfl fun v4=> ?_
      exact gX hJ4 rfl (by kernel_rfl)
    refine gC rfl (fun _=> ?_) (fun _=> ?_)
    ·
     exact gR rfl rfl rfl
    ·
     refine a3c ((fun k0 m(s:Int)=>ref37_FewForm_L3 n ex3 k0 m s) _) (fun(s:Int)=> [.v 6 (.int .i64 s)]) (fun _=>rfl) _ rfl rfl (fun _=>rfl) rfl fun K5 m5 hK5 j1=> ?_
     refine gC rfl (fun _=> ?_) (fun _=> ?_)
     ·
      refine gV rfl fun ex4=> ?_
      refine gK (b3p _ _ _) rfl rfl rfl fun v3=> ?_
      refine gC rfl (fun _=> ?_) (fun _=> ?_)
      ·
       exact gR rfl rfl rfl
      ·
       exact gE hK5 _ rfl (by kernel_rfl)
     ·
      exact gE hK3 (_,_) rfl (by kernel_rfl)
   ·
    exact gE hK2 (_,_) rfl (by kernel_rfl)
  ·
   exact gR rfl rfl rfl
end Go.Proofs.YthaegflpecbfgaaGreatDoor.M
