/- Several texts in one, for ProofTells.card: what the theorem leans on. -/
import Derived.Shelf.Strconv.AtoiAll
import Derived.Shelf.SlicesE.Clone
import Derived.Lib.LaidTab
import Derived.Lib.AppendIntMem
import Derived.Test.YtjegnogjkddnbaaGreatDoorRows
import Derived.WalkKit
import Derived.ProofKit
import Derived.OpenShut
import Derived.Deep.DeepHandedRow
import Derived.Stop.LaidErr
import Derived.Deep.Slices
import Derived.Test.YtjegnogjkddnbaaGreatDoorPt3
namespace Go.Proofs.YtjegnogjkddnbaaGreatDoor
set_option linter.unusedSimpArgs false
namespace Dp
open Go Go.RowKit Go.Proofs.YtjegnogjkddnbaaGreatDoor.Rt Go.Proofs
set_option linter.unusedVariables false
section
variable{P:Program}{T:Ty P}
theorem c4q{F:Frz}{w w':World}(hs:Sat F w)(hb:Below w.heap.size w w'):HS F w [] F [] w':=
 ⟨fun b o hf=>by rw [hb.block b (Sat.lt hs (by simp [hf]))];exact hs b o hf,Frz.refl F,fun _ h=> .inl h,by simp,by simp,List.Pairwise.nil,hb.os,hb.tape,hb.output,hb.size,fun k h _=>hb.block k h⟩
theorem b1k{f:FuncId}{vs:List VT}{r:DV}(he:Ent P f)(h:∀(w:World)(F:Frz)(us:List Value),Sat F w->GlR T F->VRL F vs us->Calls P f us.toArray w fun x w'=>∃v F',x= .returned v/\HS F w [] F' [] w'/\Conc [] [] F' r v):FnOk T f (vs.map .v) [] r []:=by
 refine⟨he,by simp,fun w F X Wc us hR hc=> ?_⟩;have hW:Wc= []:=List.eq_nil_of_length_eq_zero (by rw [<-hR.len];rfl);subst hW;refine(h w F us hR.hd.sat hR.gl (concL_v.2 hc)).mono ?_;rintro x w' ⟨v,F',rfl,k,hv⟩;refine⟨v,F',[],rfl,⟨rfl,fun i b e h1=>by simp at h1,?_,hR.gl.mono T k.le,fun i e0 h1=>by simp at h1⟩,hv⟩;exact⟨k.sat,k.le,fun b hb=>(k.new b hb).elim .inl fun h=> .inr (.inl h),by simp [ownW],by simp [ownW],List.Pairwise.nil,k.os,k.tape,k.output,k.size,fun b h1 _=>k.old b h1 (by simp)⟩
theorem a2o{f:FuncId}{vs:List VT}{r:DV}(he:Ent P f)(h:∀(w:World)(F:Frz)(us:List Value),Sat F w->GlR T F->VRL F vs us->Calls P f us.toArray w fun x w'=>∃v,x= .returned v/\Below w.heap.size w w'/\Conc [] [] F r v):FnOk T f (vs.map .v) [] r []:=
 b1k he fun w F us hs hg hv=>(h w F us hs hg hv).mono fun x w'⟨v,h1,h2,h3⟩=>⟨v,F,h1,c4q hs h2,h3⟩
theorem vrl1{F:Frz}{x:VT}{us:List Value}(h:VRL F [x] us):∃u,us= [u]/\VR F x u:=by
 obtain⟨u,r,rfl,h1,h2⟩:=h;cases h2;exact⟨u,rfl,h1⟩
theorem vrl2{F:Frz}{x y:VT}{us:List Value}(h:VRL F [x,y] us):∃u v,us= [u,v]/\VR F x u/\VR F y v:=by
 obtain⟨u,r,rfl,h1,h2⟩:=h;obtain⟨v,rfl,h3⟩:=vrl1 h2;exact⟨u,v,rfl,h1,h3⟩
theorem a9a{c:Bool}{r d:DV}(h:okB c r=some d):c=true/\r=d:=by
 cases c with
 |true=>exact⟨rfl,Option.some.inj h⟩
 |false=>cases h
theorem e8v{w:World}{F:Frz}(hs:Sat F w)(hg:GlR tt F):Lib.TabIs Tryz.prog w "internal/strconv.uint64pow10" .u64 Lib.pow10Tab:=by
 obtain⟨u,t,z,h1,cs,rfl,h3,_⟩:=hg.1 5 _ rfl;have h2:=hs _ _ h1;have hn:Tryz.prog.globalNamed "internal/strconv.uint64pow10" =some 5:=by kernel_rfl
 have:∀{l:List Int}{cs:List Value},VRL F (l.map (VT.int .u64)) cs->cs=l.map (Value.int .u64):=by
  intro l;induction l with
  |nil=>intro cs h;exact h
  |cons x l ih=>rintro cs ⟨v,r,rfl,h4,h5⟩;rw [ih h5];cases h4;rfl
 rw [this h3]at h2;have h2:w.heap[5]?=some (.cells (Lib.pow10Tab.map (Value.int .u64)).toArray t z):=h2;unfold Lib.TabIs World.var?;rw [hn];simp [h2]
end
theorem e3p{vs:List VT}{r:DV}(h:xItoa vs=some r):FnOk tt 129 (vs.map .v) [] r []:=by
 unfold xItoa at h;split at h
 ·rename_i n;obtain⟨hb,rfl⟩:=a9a h;simp only [Bool.and_eq_true,decide_eq_true_eq]at hb;refine a2o (fun _ _=>by kernel_rfl) fun w F us hs hg hv=> ?_;obtain⟨u,rfl,rfl⟩:=vrl1 hv;refine(Tryz.strconv_Itoa n hb.1 hb.2 w (e8v hs hg)).mono ?_;rintro e w' ⟨rfl,k,os,rfl⟩;exact⟨_,rfl,Lib.below_grow _ _ (Nat.le_refl _) _ _,rfl⟩
 cases h
theorem d2p{F:Frz}{q:Nat}:∀{xs:List VT}{l:List Bs}{us:List Value},strs xs=some l->VRX F q xs us->xs.length=l.length/\us=l.map Rt.vs
 | [],l,us,h,hv=>by cases h;exact⟨rfl,hv⟩
 | .str s::xs,l,us,h,hv=>by
   obtain⟨u,r,rfl,h1,h2,h3⟩:=hv;simp only [strs]at h;split at h
   ·rename_i q' hq;cases h;obtain⟨k1,k2⟩:=d2p hq h3;cases h2;exact⟨by simp [k1],by rw [k2];rfl⟩
   cases h
 | .int _ _::_,_,_,h,_=>by cases h
 | .bool _::_,_,_,h,_=>by cases h
 | .agg _::_,_,_,h,_=>by cases h
 | .sl _::_,_,_,h,_=>by cases h
 | .el _ _::_,_,_,h,_=>by cases h
 | .clo _ _ _::_,_,_,h,_=>by cases h
 | .val _::_,_,_,h,_=>by cases h
 | .ifc::_,_,_,h,_=>by cases h
 | .ifv _ _::_,_,_,h,_=>by cases h
theorem e5q{vs:List VT}{r:DV}(h:xJoin vs=some r):FnOk tt 132 (vs.map .v) [] r []:=by
 unfold xJoin at h;split at h
 ·rename_i xs sep;split at h
  ·rename_i l hl;obtain⟨hb,rfl⟩:=a9a h;simp only [Bool.and_eq_true,decide_eq_true_eq]at hb;refine a2o (fun _ _=>by kernel_rfl) fun w F us hs hg hv=> ?_;obtain⟨u,v,rfl,⟨a,m,n,rfl,h1,h2,h3,h4⟩,rfl⟩:=vrl2 hv;rcases h4 with rfl|⟨b,o,q,us,rfl,h5,h6⟩
   ·cases hl;cases h1;refine(Tryz.strings_Join_none a n ⟨sep.toArray⟩ w).mono ?_;rintro e w' ⟨rfl,rfl⟩;exact⟨_,rfl,Below.refl _ _,rfl⟩
   obtain⟨k1,rfl⟩:=d2p hl h6;rw [k1]at h1 h2;subst h1;have e1:(l.map fun x=>(⟨x.toArray⟩:ByteArray)).map (fun x=>x.data.toList)=l:=by rw [List.map_map];exact List.map_id l
   have hb':b<w.heap.size:=by
    obtain⟨c1,t1,z1,h5,_⟩:=h5;exact Sat.lt hs (by simp [h5])
   have h6:=Tryz.strings_Join b o n (l.map fun x=>(⟨x.toArray⟩:ByteArray)) ⟨sep.toArray⟩ w (fun j x hj=>by
    obtain⟨y,hy,rfl⟩:∃y,l[j]?=some y/\(⟨y.toArray⟩:ByteArray)=x:=by simpa [List.getElem?_map]using hj
    exact h5.cell hs (by simp [hy,Rt.vs])) hb' (by simpa using hb.1) (by simpa using h2) (by rw [e1];exact hb.2)
   rw [e1,List.length_map]at h6;refine h6.mono ?_;rintro e w' ⟨rfl,hb⟩;exact⟨_,rfl,hb,rfl⟩
  cases h
 cases h
theorem d3s{vs:List VT}{r:DV}(h:xRepeat vs=some r):FnOk tt 130 (vs.map .v) [] r []:=by
 unfold xRepeat at h;split at h
 ·rename_i s n;obtain⟨hb,rfl⟩:=a9a h;simp only [Bool.and_eq_true,decide_eq_true_eq]at hb;refine a2o (fun _ _=>by kernel_rfl) fun w F us hs hg hv=> ?_;obtain⟨u,v,rfl,rfl,rfl⟩:=vrl2 hv;obtain⟨p,rfl⟩:=Int.eq_ofNat_of_zero_le hb.1.1;refine(Tryz.strings_Repeat ⟨s.toArray⟩ p w (by omega) (by rw [a2k];simpa using hb.2)).mono ?_;rintro e w' ⟨rfl,hb⟩;exact⟨_,rfl,hb,rfl⟩
 cases h
theorem b9n{vs:List VT}{r:DV}(h:xIndexByte vs=some r):FnOk tt 178 (vs.map .v) [] r []:=by
 unfold xIndexByte at h;split at h
 ·rename_i s n;cases h;refine a2o (fun _ _=>by kernel_rfl) fun w F us hs hg hv=> ?_;obtain⟨u,v,rfl,rfl,rfl⟩:=vrl2 hv;refine(Tryz.strings_IndexByte ⟨s.toArray⟩ n w).mono ?_;rintro e w' ⟨rfl,rfl⟩;exact⟨_,rfl,Below.refl _ _,rfl⟩
 cases h
theorem b8x{vs:List VT}{r:DV}(h:xCutPrefix vs=some r):FnOk tt 116 (vs.map .v) [] r []:=by
 unfold xCutPrefix at h;split at h
 ·rename_i s p;cases h;refine a2o (fun _ _=>by kernel_rfl) fun w F us hs hg hv=> ?_;obtain⟨u,v,rfl,rfl,rfl⟩:=vrl2 hv;refine(Tryz.strings_CutPrefix ⟨s.toArray⟩ ⟨p.toArray⟩ w).mono ?_;rintro e w' ⟨rfl,rfl⟩;exact⟨_,rfl,Below.refl _ _,_,rfl,_,_,rfl,rfl,_,_,rfl,rfl,rfl⟩
 cases h
theorem d5e{vs:List VT}{r:DV}(h:xIndexByte vs=some r):FnOk tt 231 (vs.map .v) [] r []:=by
 unfold xIndexByte at h;split at h
 ·rename_i s n;cases h;refine a2o (fun _ _=>by kernel_rfl) fun w F us hs hg hv=> ?_;obtain⟨u,v,rfl,rfl,rfl⟩:=vrl2 hv;refine(Tryz.stringslite_IndexByte ⟨s.toArray⟩ n w).mono ?_;rintro e w' ⟨rfl,rfl⟩;exact⟨_,rfl,Below.refl _ _,rfl⟩
 cases h
theorem lays172M:LaysM.n172 Tryz.prog Tryz.lays172_ren:={Tryz.lays172 with
 t80:=Tryz.underlying105,
 a80:=Tryz.isAgg105,
 z80:=Tryz.sizeOf105,
 v80:=Tryz.zeroValue105,
 i0:=by kernel_rfl,
 i2:=by kernel_rfl,
 i3:=by kernel_rfl,
 i4:=by kernel_rfl,
 i5:=by kernel_rfl,
 i9:=by kernel_rfl,
 i20:=by kernel_rfl,
 i21:=by kernel_rfl,
 i37:=by kernel_rfl,
 i46:=by kernel_rfl,
 i51:=by kernel_rfl,
 i53:=by kernel_rfl,
 i75:=by kernel_rfl,
 i76:=by kernel_rfl,
 i80:=by kernel_rfl,
 i85:=by kernel_rfl,
 i127:=by kernel_rfl,
 i143:=by kernel_rfl,
 i145:=by kernel_rfl,
 i167:=by kernel_rfl,
 i168:=by kernel_rfl,
 i171:=by kernel_rfl,
 i173:=by kernel_rfl,
 i175:=by kernel_rfl,
 i210:=by kernel_rfl,
 i212:=by kernel_rfl,
 i232:=by kernel_rfl,
 i233:=by kernel_rfl,
 m15:=by kernel_rfl,
 m16:=by kernel_rfl,
 m17:=by kernel_rfl,
 m18:=by kernel_rfl,
 m19:=by kernel_rfl}
theorem lays172C:LaysC.n172 Tryz.prog Tryz.lays172_ren:={lays172M with
 c0:=by kernel_rfl,
 c2:=by kernel_rfl,
 c3:=by kernel_rfl,
 c4:=by kernel_rfl,
 c5:=by kernel_rfl,
 c9:=by kernel_rfl,
 c20:=by kernel_rfl,
 c21:=by kernel_rfl,
 c37:=by kernel_rfl,
 c46:=by kernel_rfl,
 c51:=by kernel_rfl,
 c53:=by kernel_rfl,
 c75:=by kernel_rfl,
 c76:=by kernel_rfl,
 c80:=by kernel_rfl,
 c85:=by kernel_rfl,
 c127:=by kernel_rfl,
 c143:=by kernel_rfl,
 c145:=by kernel_rfl,
 c167:=by kernel_rfl,
 c168:=by kernel_rfl,
 c171:=by kernel_rfl,
 c173:=by kernel_rfl,
 c175:=by kernel_rfl,
 c210:=by kernel_rfl,
 c212:=by kernel_rfl,
 c213:=by kernel_rfl,
 c232:=by kernel_rfl,
 c233:=by kernel_rfl}
theorem e1c{F:Frz}{w:World}{g:Nat}(hs:Sat F w)(hg:GlR tt F)(h:a0l g glL=some .ifc):∃ev,w.cell? ⟨g,0,none⟩=some ev/\(ev= .nilIface∨∃te pe,ev= .iface te pe):=by
 obtain⟨u,t,z,h1,te,pe,rfl⟩:=hg.1 g _ h;have h2:=hs _ _ h1;exact⟨.iface te pe,by simp [World.cell?,h2,Value.cells],.inr ⟨te,pe,rfl⟩⟩
theorem e6q{vs:List VT}{r:DV}(h:xAtoi vs=some r):FnOk tt 179 (vs.map .v) [] r []:=by
 unfold xAtoi at h;split at h
 ·rename_i s;obtain⟨hb,rfl⟩:=a9a h;simp only [decide_eq_true_eq]at hb;refine a2o (fun _ _=>by kernel_rfl) fun w F us hs hg hv=> ?_;obtain⟨u,rfl,rfl⟩:=vrl1 hv;have e1:(⟨s.toArray⟩:ByteArray).data.toList=s:=rfl;cases ha:Lib.atoiAll s with
  |ok v=>
   refine(Any.strconv_Atoi_ok lays172C ⟨s.toArray⟩ (by rw [a2k];omega) v (by rw [e1];exact ha) w).mono ?_;rintro e w' ⟨rfl,hw⟩;refine⟨_,rfl,?_,_,rfl,_,_,rfl,rfl,_,_,rfl,⟨rfl,rfl⟩,rfl⟩;rcases hw with rfl|⟨t,rfl⟩
   ·exact Below.refl _ _
   exact Lib.bytesWorld_below _ _ _
  |range=>
   obtain⟨ev,h1,h2⟩:=e1c (g:=2) hs hg rfl;refine(Any.strconv_Atoi_range lays172C ⟨s.toArray⟩ (by rw [a2k];exact hb) (by rw [e1];exact ha) ev w h1 h2).mono ?_;rintro e w' ⟨k,rfl,_,_,hb⟩;exact⟨_,rfl,hb,_,rfl,_,_,rfl,rfl,_,_,rfl,⟨_,_,rfl⟩,rfl⟩
  |_=>
   obtain⟨ev,h1,h2⟩:=e1c (g:=1) hs hg rfl;refine(Any.strconv_Atoi_syntax lays172C ⟨s.toArray⟩ (by rw [a2k];exact hb) (by rw [e1];exact ha) ev w h1 h2).mono ?_;rintro e w' ⟨k,rfl,_,_,hb⟩;exact⟨_,rfl,hb,_,rfl,_,_,rfl,rfl,_,_,rfl,⟨_,_,rfl⟩,rfl⟩
 cases h
set_option maxHeartbeats 2000000 in
set_option maxRecDepth 100000 in
theorem d2h{P:Program}{ρ:Go.Shelf.Ren}(L:SlLaysE0.n41 P ρ){i0:TypeInfo}{z:Value}{q b:Nat}(hi:P.info? (ρ.t 23)=some i0)(hz0:i0.zero=some z)(hz1:i0.size=q)(hz2:i0.bytes=b)(hzs:z.cells.size=q)(hq:0<q)
 (z23:∀w,(Go.sizeOf (ρ.t 23)).run P w= .ok q w) (a:Addr) (n c:Nat) (news:List Value) (w:World) (hl:news.length=n*q) (hn:n<=maxLen) (hbig:n*b<=140737488355328)
 (hc:∀j u,news[j]?=some u->w.cell? (a.add j)=some u) (h1:∀u∈news,u.oneCell'=true):
 Calls P (ρ.f 41) #[.slice (some a) n c] w fun e w'=>∃v',e= .returned v'/\w'.ownsRow w.heap.size (ρ.t 23) q v' n news/\Below w.heap.size w w':=by
 have mixed:=L.mixed;have t4:=L.t4;have a4:=L.a4;have z4:=L.z4;have v4:=L.v4;have t22:=L.t22;have a22:=L.a22;have z22:=L.z22;have v22:=L.v22;have q22:∀(w:World)(a:Option Addr)(n c n' c':Nat),(binOp .eql (ρ.t 22) (.slice a n c) (.slice none n' c')).run P w= .ok (.bool a.isNone) w:=fun w a n c n' c'=>Lib.run_eql_slice_nil w _ _ a n c n' c' L.t22;have u22:∀w,Sem.run P (underlying (ρ.t 22)) w= .ok (TypeDesc.slice (ρ.t 23)) w:=run_underlying t22;have A:Aside (∀j u,news[j]?=some u->w.cell? (a.add j)=some u):=hc;clear hc;obtain⟨_,_,FG⟩:=L.f41
 go_enter FG,SlBodyN.n41_ntmps ρ
 go_wp2_with (at_builtin;refine wpList_append_own _ rfl _ _ (ρ.t 22) rfl w.heap.size (ρ.t 23) i0 z q b t22 hi hz0 hz1 hz2 hzs hq _ _ _ rfl (World.ownsRow_made w #[] 0 (Nat.le_refl _) (Nat.zero_le _) (by simp)) a n c news rfl ?qc1 ?qc2 ?qc3 ?qc4 ?qc5 ?qc6 ?_)
 case qc1=>exact hl
 case qc2=>
  intro j u hj;exact Lib.cell?_alloc_some _ (A.out j u hj)
 case qc3=>exact h1
 case qc4=>rw [Nat.zero_add];exact hn
 case qc5=>rw [Nat.zero_add];exact hbig
 case qc6=>simp
 intro v' w1 hown hgrow hnil
 go_wp2
 go_ret
 exact⟨v',rfl,by simpa using hown,((Below.refl _ w).alloc (Nat.le_refl _) _).grown hgrow (by simp) (by intro k hk;simp [Value.ownBlock]at hk;omega)⟩
theorem b9i{w:World}{base:Nat}{e:TypeId}{size:Nat}{v:Value}{n:Nat}{xs:List Value}(h:w.ownsRow base e size v n xs):w.ownsRow 0 e size v n xs:=by
 obtain⟨h1,h2⟩:=h;refine⟨h1,?_⟩;rcases h2 with h2|⟨g,cap,cur,e1,e2,e3⟩
 ·exact .inl h2
 exact .inr ⟨g,cap,cur,e1,Nat.zero_le _,e3⟩
theorem c1x{w:World}{base:Nat}{e:TypeId}{size:Nat}{ad:Option Addr}{c n:Nat}{xs:List Value}{b:Nat}(h:w.ownsRow base e size (.slice ad n c) n xs)(hb:(OE.row e size ad n c xs).blk=some b):base<=b:=(World.ownsRow.lt h b hb).1
theorem d8u{P:Program}{T:Ty P}{ρ:Go.Shelf.Ren}(L:SlLaysE0.n41 P ρ){i0:TypeInfo}{z:Value}{q b:Nat}(hi:P.info? (ρ.t 23)=some i0)(hz0:i0.zero=some z)(hz1:i0.size=q)(hz2:i0.bytes=b)(hzs:z.cells.size=q)(hq:0<q)(hb0:0<b)
 (z23:∀w,(Go.sizeOf (ρ.t 23)).run P w= .ok q w) (he:Ent P (ρ.f 41)) {F0:Frz} {w0:World} {X:List Nat} {W0 W:List OE} {H:DH} {F:Frz} {w:World} {az:List DV} {us:List Value}
 (hR:Rel T F0 w0 X W0 W H F w) (hc:ConcL W H F az us):a3p T F0 w0 X W0 W H F w (ρ.f 41) us (d3c (ρ.t 23) q b H az):=by
 unfold d3c;split
 ·rename_i y;obtain⟨u,r,rfl,hy,rfl⟩:=hc;unfold e0k;split
  ·rename_i s hs;split
   ·rename_i hzs0;intro zs hz;have hap:(s.chk=true->szOk q s.ys=true)/\s.ys.length*b<=140737488355328/\zs=s.ys:=by
     unfold appQ at hz;have key:Rt.app b [] s.ys=some zs->s.ys.length*b<=140737488355328/\zs=s.ys:=fun h=>by
      unfold Rt.app at h;split at h
      ·rename_i h1;cases h;exact⟨by simpa using h1,rfl⟩
      cases h
     split at hz
     ·rename_i hk;exact⟨fun h=>(by rw [hk]at h;cases h),key hz⟩
     split at hz
     ·rename_i hk;exact⟨fun _=>hk,key hz⟩
     cases hz
    obtain⟨hk,hb,rfl⟩:=hap;obtain⟨ad,m,c,news,rfl,k2,k3,k4,k5⟩:=(a2j hR hy hs hk).src;have hrow:s.ys.length=m/\RowR (rpV q) F news s.ys:=by
     rcases k5 with⟨_,l1,l2⟩|⟨l0,_,l1,l2⟩
     ·exact⟨l1,l2⟩
     rw [hzs0]at l1 l2;cases l2;rw [l0];exact⟨l1,rfl⟩
    obtain⟨hm,hrw⟩:=hrow;refine⟨he,?_⟩;have fin:∀(w':World)(ad':Option Addr)(c':Nat),Below w.heap.size w w'->w'.ownsRow w.heap.size (ρ.t 23) q (.slice ad' m c') m news->∃v,Ending.returned (.slice ad' m c')= .returned v/\∃W' F',Rel T F0 w0 X W0 W' (newR H (.row (ρ.t 23) q s.ys) s.rd []).H F' w'/\Ext W H F W' (newR H (.row (ρ.t 23) q s.ys) s.rd []).H F'/\∃d,(newR H (.row (ρ.t 23) q s.ys) s.rd []).v=some d/\Conc W' (newR H (.row (ρ.t 23) q s.ys) s.rd []).H F' d v:=by
     intro w' ad' c' hbl how;refine⟨_,rfl,?_⟩;have hgr:w.grownBy w' none:=⟨hbl.os,hbl.tape,hbl.output,hbl.size,fun b h _=>hbl.block b h⟩
     have hrelO:RelO (W++ [.row (ρ.t 23) q ad' m c' news]) (H++ [nblk (.row (ρ.t 23) q s.ys)]) F (.row (ρ.t 23) q s.ys) (.row (ρ.t 23) q ad' m c' news):=⟨_,_,_,_,rfl,hm,hrw⟩
     obtain⟨h1,h2⟩:=hR.add hgr (e':= .row (ρ.t 23) q ad' m c' news) (b9i how) (fun b hb=>c1x how hb) hrelO;refine⟨W++ [.row (ρ.t 23) q ad' m c' news],F,?_,?_,.row H.length 0,?_,?_⟩
     ·unfold newR;rw [a1d,a1j];exact h1
     ·unfold newR;rw [a1d,a1j];exact h2
     ·unfold newR;rw [a1d]
     unfold newR;rw [a1d,a1j];exact⟨ad',m,c',rfl,nblk (.row (ρ.t 23) q s.ys),_,by simp,by rw [hR.len];simp,Nat.le_refl _,fun _=>⟨ρ.t 23,q,news,rfl⟩⟩
    rcases ad with _|a
    ·refine(AnyE.slices_Clone_nil L m c w).mono ?_;rintro e w' ⟨rfl,rfl⟩;have hm0:m=0:=by
      rcases k3 with h|⟨a2,h,_⟩
      ·exact h
      cases h
     subst hm0;obtain rfl:news= []:=List.eq_nil_of_length_eq_zero (by rw [k2];simp);exact fin _ none 0 (Below.refl _ _) (World.ownsRow_nil _ _ _ _)
    rw [hm]at hb;have hmx:m<=maxLen:=by
     have:m<=m*b:=Nat.le_mul_of_pos_right _ hb0;unfold maxLen;omega
    refine(d2h L hi hz0 hz1 hz2 hzs hq z23 a m c news w k2 hmx hb ?_ k4).mono ?_
    ·intro j v hj;rcases k3 with h|⟨a2,h,h2⟩
     ·subst h;obtain rfl:news= []:=List.eq_nil_of_length_eq_zero (by rw [k2];simp);simp at hj
     cases h;exact h2 j v hj
    rintro e w' ⟨v',rfl,how,hbl⟩;obtain⟨h1,h2⟩:=how;rcases h2 with⟨rfl,rfl⟩|⟨g,cap,cur,rfl,h3⟩
    ·exact fin w' none 0 hbl ⟨h1,.inl ⟨rfl,rfl⟩⟩
    exact fin w' (some ⟨g,0,none⟩) cap hbl ⟨h1,.inr ⟨g,cap,cur,rfl,h3⟩⟩
   trivial
  trivial
 trivial
theorem b6q{α:Type}{k:Nat}{x:α}:∀{l:List (Nat×α)},a0l k l=some x->(k,x)∈l
 | [],h=>by cases h
 |(j,y)::l,h=>by
  simp only [a0l]at h;split at h
  ·rename_i hb;cases h;rw [Nat.eq_of_beq_eq_true hb];exact List.mem_cons_self
  exact List.mem_cons_of_mem _ (b6q h)
theorem e3x{vs:List VT}{r:DV}(h:xTrim vs=some r):FnOk tt 117 (vs.map .v) [] r []:=by
 unfold xTrim at h;split at h
 ·rename_i s c;split at h
  ·rename_i t ht;cases h;refine b1k (fun _ _=>by kernel_rfl) fun w F us hs hg hv=> ?_;obtain⟨u,v,rfl,rfl,rfl⟩:=vrl2 hv;refine(M.strings_Trim_ok _ s c t ht hs).mono ?_;rintro e w' ⟨v,F',O',rfl,h1,rfl,rfl⟩;exact⟨_,F',rfl,h1,rfl⟩
  cases h
 cases h
theorem e0j{F:Frz}{w w':World}{b:Nat}{o:Obj}(hs:Sat F w)(hb:Below w.heap.size w w')(h0:w.heap.size<=b)(ho:w'.heap[b]?=some o):HS F w [] (fun k=>if k=b then some o else F k) [] w':=by
 have hno:F b=none:=by
  cases h:F b with
  |none=>rfl
  |some x=>have:=Sat.lt hs (b:=b) (by simp [h]);omega
 refine⟨fun k x hf=> ?_,fun k x hf=> ?_,fun k h=> ?_,by simp,by simp,List.Pairwise.nil,hb.os,hb.tape,hb.output,hb.size,fun k h _=>hb.block k h⟩
 ·by_cases hk:k=b
  ·subst hk;rw [if_pos rfl]at hf;cases hf;exact ho
  rw [if_neg hk]at hf;rw [hb.block k (Sat.lt hs (by simp [hf]))];exact hs k x hf
 ·have hk:k≠b:=fun e=>by rw [e,hno]at hf;cases hf
  simp only [if_neg hk];exact hf
 by_cases hk:k=b
 ·exact .inr (by omega)
 rw [if_neg hk]at h;exact .inl h
theorem e3o{F:Frz}{w:World}{b:Nat}{o:Obj}(hs:Sat F w)(h0:w.heap.size<=b):F.le (fun k=>if k=b then some o else F k):=fun k x hf=>by
 have hk:k≠b:=fun e=>by
  have:=Sat.lt hs (b:=k) (by simp [hf]);omega
 simp only [if_neg hk];exact hf
theorem c9a{vs:List VT}{r:DV}(h:xValues vs=some r):FnOk tt 79 (vs.map .v) [] r []:=by
 unfold xValues at h;split at h
 ·rename_i xs;cases h;refine b1k (fun _ _=>by kernel_rfl) fun w F us hs hg hv=> ?_;obtain⟨u,rfl,hu⟩:=vrl1 hv;obtain⟨a,m,n,rfl,h1⟩:=hu;have hu:VR F (.sl xs) (.slice a m n):=⟨a,m,n,rfl,h1⟩
  refine(Tryz.values_calls a m n w).mono ?_;rintro x w' ⟨rfl,rfl⟩;have hle:=e3o (o:= .cells #[.slice a m n] 30) hs (Nat.le_refl _);refine⟨_,_,rfl,e0j hs ((Below.refl _ w).alloc (Nat.le_refl _) _) (Nat.le_refl _) (World.alloc_heap_new w _),?_⟩;exact⟨[],[_],rfl,rfl,_,[],rfl,⟨w.heap.size,0,.agg #[.slice a m n],⟨[.slice a m n],rfl,⟨_,[],rfl,hu.mono hle,rfl⟩,rfl⟩,⟨#[.slice a m n],_,_,if_pos rfl,by simp [Value.cells]⟩,rfl⟩,rfl⟩
 cases h
theorem intsQ_ns:∀{xs:List VT}{l:List Int},intsQ xs=some l->xs=l.map (VT.int .i64)
 | [],l,h=>by cases h;rfl
 | .int .i64 x::xs,l,h=>by
   unfold intsQ at h;split at h
   ·rename_i r hr;cases h;rw [intsQ_ns hr];rfl
   cases h
 | .bool _::_,_,h=>by simp [intsQ]at h
 | .str _::_,_,h=>by simp [intsQ]at h
 | .agg _::_,_,h=>by simp [intsQ]at h
 | .sl _::_,_,h=>by simp [intsQ]at h
 | .el _ _::_,_,h=>by simp [intsQ]at h
 | .clo _ _ _::_,_,h=>by simp [intsQ]at h
 | .val _::_,_,h=>by simp [intsQ]at h
 | .ifc::_,_,h=>by simp [intsQ]at h
 | .ifv _ _::_,_,h=>by simp [intsQ]at h
 | .int .i8 _::_,_,h=>by simp [intsQ]at h
 | .int .i16 _::_,_,h=>by simp [intsQ]at h
 | .int .i32 _::_,_,h=>by simp [intsQ]at h
 | .int .u8 _::_,_,h=>by simp [intsQ]at h
 | .int .u16 _::_,_,h=>by simp [intsQ]at h
 | .int .u32 _::_,_,h=>by simp [intsQ]at h
 | .int .u64 _::_,_,h=>by simp [intsQ]at h
theorem c5s{F:Frz}:∀{l:List Int}{us:List Value},us=l.map (Value.int .i64)->VRX F 1 (l.map (VT.int .i64)) us
 | [],_,h=>h
 |x::l,_,h=>by subst h;exact⟨.int .i64 x,_,rfl,⟨rfl,rfl⟩,rfl,c5s rfl⟩
theorem c3q{F:Frz}{q:Nat}:∀{l:List Int}{us:List Value},VRX F q (l.map (VT.int .i64)) us->us=l.map (Value.int .i64)
 | [],_,h=>h
 |x::l,_,⟨u,r,h1,h2,h3,h4⟩=>by
  cases h3;rw [h1,c3q h4];rfl
theorem d3t{vs:List VT}{r:DV}(h:xSorted vs=some r):FnOk tt 78 (vs.map .v) [] r []:=by
 unfold xSorted at h;split at h
 ·rename_i f xs;split at h
  ·rename_i l hf hl;obtain⟨hlen,rfl⟩:=a9a h;have hlen:=of_decide_eq_true hlen;obtain rfl:=Nat.eq_of_beq_eq_true hf;obtain rfl:=intsQ_ns hl;refine b1k (fun _ _=>by kernel_rfl) fun w F us hs hg hv=> ?_;obtain⟨u,rfl,ps,cs,rfl,rfl,hcs⟩:=vrl1 hv;obtain⟨u,rfl,b,p,u2,hu2,hfc,rfl⟩:=vrl1 hcs;obtain⟨cs2,rfl,hc2,_⟩:=hu2;obtain⟨u3,rfl,a,m,n,rfl,h1,h2,h3,h4⟩:=vrl1 hc2;have hA:Tryz.AtBox ⟨b,p+0,none⟩ n a l w:=by
    refine⟨?_,?_,?_,hlen⟩
    ·obtain⟨c,t,z,h5,_⟩:=hfc;exact Sat.lt hs (by simp [h5])
    ·have:=hfc.cell hs (j:=0) (v:= .slice a m n) rfl;rw [this,<-h1,List.length_map]
    intro i x hx;rcases h4 with h4|⟨b2,o2,q2,us2,rfl,hf2,hx2⟩
    ·rw [List.map_eq_nil_iff]at h4;subst h4;simp at hx
    obtain rfl:=c3q hx2;have ea:(⟨b2,o2,none⟩:Addr).add i=⟨b2,o2+i,none⟩:=by simp [Addr.add]
    refine⟨_,rfl,?_,?_⟩<;>rw [ea]
    ·obtain⟨c,t,z,h5,_⟩:=hf2;exact Sat.lt hs (b:=b2) (by simp [h5])
    exact hf2.cell hs (j:=i) (v:= .int .i64 x) (by rw [List.getElem?_map,hx];rfl)
   refine(Tryz.sorted_calls _ n a l w hA).mono ?_;rintro x w' ⟨v,rfl,how,hnil,hb⟩;rcases how.2 with⟨rfl,h0⟩|⟨g,cap,cur,rfl,hbase,hgb,r1,r2,r3,r4⟩
   ·obtain rfl:l= []:=List.eq_nil_of_length_eq_zero h0;exact⟨_,F,rfl,c4q hs hb,none,0,0,rfl,by simp,by simp,by simp [maxLen],.inl (by simp)⟩
   refine⟨_,_,rfl,e0j hs hb hbase hgb,_,_,_,rfl,by simp,by simpa using r1,r2,.inr ⟨g,0,1,(l.mergeSort (fun x y=>decide (x<=y))).map (Value.int .i64),rfl,⟨cur,_,_,if_pos rfl,?_⟩,c5s rfl⟩⟩;rw [List.drop_zero,<-show cur.toList.take (l.length*1)=_ from r4];exact List.take_prefix _ _
  cases h
 cases h
theorem e4j{f:FuncId}{g:List VT->Option DV}{vs:List VT}{r:DV}(hf:tt.ext f=some g)(h:g vs=some r):FnOk tt f (vs.map .v) [] r []:=by
 have hm:(f,g)∈extL:=b6q hf;simp only [extL,List.mem_cons,Prod.mk.injEq,List.not_mem_nil,or_false]at hm;rcases hm with⟨rfl,rfl⟩|⟨rfl,rfl⟩|⟨rfl,rfl⟩|⟨rfl,rfl⟩|⟨rfl,rfl⟩|⟨rfl,rfl⟩|⟨rfl,rfl⟩|⟨rfl,rfl⟩|⟨rfl,rfl⟩|⟨rfl,rfl⟩
 ·exact e3p h
 ·exact e5q h
 ·exact d3s h
 ·exact b9n h
 ·exact b8x h
 ·exact d5e h
 ·exact e6q h
 ·exact e3x h
 ·exact c9a h
 exact d3t h
def renI:Go.Shelf.Ren:=⟨fun|41=>174|n=>n,fun|22=>30|23=>3|n=>n,fun|n=>n⟩
theorem laysI:SlLaysE0.n41 Tryz.prog renI:={
 mixed:=by kernel_rfl
 f41:=⟨Tryz.f174.name,by kernel_rfl,Tryz.func174.trans (congrArg some (by kernel_rfl))⟩
 t4:=Tryz.underlying4
 a4:=Tryz.isAgg4
 z4:=Tryz.sizeOf4
 v4:=Tryz.zeroValue4
 t22:=Tryz.underlying30
 a22:=Tryz.isAgg30
 z22:=Tryz.sizeOf30
 v22:=Tryz.zeroValue30}
set_option maxRecDepth 100000 in
theorem infoI:∃i,Tryz.prog.info? 3=some i/\i.zero=some (.int .i64 0)/\i.size=1/\i.bytes=8:=info_parts (show(Tryz.prog.info? 3).map (fun i=>(i.zero,i.size,i.bytes))=some (some (.int .i64 0),1,8) by kernel_rfl)
theorem d2m{f:FuncId}{el q b:Nat}(hf:tt.cl f=some (el,q,b)){F0:Frz}{w0:World}{X:List Nat}{W0 W:List OE}{H:DH}{F:Frz}{w:World}{az:List DV}{us:List Value}
 (hR:Rel tt F0 w0 X W0 W H F w) (hc:ConcL W H F az us):a3p tt F0 w0 X W0 W H F w f us (d3c el q b H az):=by
 have hm:memN f clL=true:=by
  cases h:memN f clL with
  |true=>rfl
  |false=>
   have:clT Tryz.prog (fun f=>memN f clL) f=some (el,q,b):=hf;simp only [clT,h]at this;cases this
 have:f=174:=by
  simp only [clL,memN]at hm;split at hm
  ·rename_i h;exact Nat.eq_of_beq_eq_true h
  cases hm
 subst this;have h2:tt.cl 174=some (3,1,8):=by kernel_rfl
 rw [h2]at hf;cases hf;obtain⟨i,h3,h4,h5,h6⟩:=infoI;exact d8u laysI h3 h4 h5 h6 rfl (by decide) (by decide) Tryz.sizeOf3 (fun _ _=>by kernel_rfl) hR hc
theorem e8s{f:FuncId}{k:Bool}{tb te:TypeId}(hf:tt.sp f=some (k,tb,te)){F0:Frz}{w0:World}{X:List Nat}{W0 W:List OE}{H:DH}{F:Frz}{w:World}{az:List DV}{us:List Value}
 (hR:Rel tt F0 w0 X W0 W H F w) (hc:ConcL W H F az us):a3p tt F0 w0 X W0 W H F w f us (spO k tb te H az):=by
 have hf:spL f=some (k,tb,te):=hf;unfold spL at hf;split at hf
 ·rename_i h;cases hf;exact d6n (Nat.eq_of_beq_eq_true h) hR hc
 split at hf
 ·rename_i h;cases hf;obtain rfl:=Nat.eq_of_beq_eq_true h;exact d1s Tryz.lays169 Tryz.Builder_Extra_169 (fun _ _=>by kernel_rfl) hR hc
 cases hf
theorem libOk:LibOk tt:=⟨e4j,d2m,e8s⟩
end Dp
namespace Wrap
open Go Go.ChangeShapes Go.WideShapes Go.ChangeAt Go.RowKit Rt
theorem own:ownKnob Tryz.prog.godebug=none:=by kernel_rfl
theorem laidOut:laidOutB Tryz.prog=true:=by kernel_rfl
def all(W:World):Frz:=fun b=>W.heap[b]?
theorem e4o(W:World):Sat (all W) W:=fun _ _ h=>h
section
variable{H:Type}{enc:TypeId×Value->H}{P:Program}
theorem a8t(hl:laidOutB P=true){W W':World}(hb:Below W.heap.size W W'){sp:Nat->Bool}:
 ∀{ts:List TypeId}{vs:List Value}{ds:List (DataW H)}{ps:List MemPlace},(∀t∈ts,P.readableRec t=true/\t<P.types.size)->DataW.TrodAll enc P W 0 (fun _=>true) true ts vs ds ps->
  (∀x∈ps,x.block<W.heap.size)->(∀x∈ps,sp x.block=true)->DataW.TrodAll enc P W' 0 sp true ts vs ds ps
 | [],_,_,_,_,h,_,_=>by
   obtain⟨rfl,rfl,rfl⟩:=trodAll_nil h;exact trodAll_mk0
 |t::ts,_,_,_,ht,h,hlt,hsp=>by
  obtain⟨v,vs,d,ds,p,q,rfl,rfl,rfl,h1,h2⟩:=trodAll_cons h;have h3:=ht t (by simp);exact trodAll_cons_mk (WideElems.Trod_stays hl h3.1 h3.2 h1 (fun x hx=>hb.same (hlt x (by simp [hx]))) (fun x hx=>hsp x (by simp [hx])))
   (a8t hl hb (fun t' ht'=>ht t' (by simp [ht'])) h2 (fun x hx=>hlt x (by simp [hx])) (fun x hx=>hsp x (by simp [hx])))
theorem d3f(hl:laidOutB P=true){f:Func}{s:ChangeSpec}{W W':World}{args:Array Value}{ds gs:List (DataW H)}{before:List MemPlace}{tb:TypeId}
 (hts:∀t∈f.params.toList,P.readableRec t=true/\t<P.types.size) (hv:s.vars= []) (hrt:f.resultTypes= #[tb]) (htb:P.underlying tb=some .bool)
 (hs:s.fn H (ds++gs)={results:= [.lit (.bool true)],args:=ds})
 (hW:DataW.Whole enc P f.params.toList s.vars false W args.toList ds gs before) (hb:Below W.heap.size W W'):s.post enc P f false true false false W args (.bool true) W':=by
 have hlt:∀x∈before,x.block<W.heap.size:=fun x hx=>by simpa using hW.lt x hx
 have hW':=hW;obtain⟨p,q,hA,hV,rfl,hz,hn⟩:=hW;rw [hv]at hV;obtain⟨rfl,rfl⟩:=trodVars_none hV;simp only [List.append_nil]at*;have harg:∀sp:Nat->Bool,(∀x∈p,sp x.block=true)->DataW.TrodAll enc P W' 0 sp true f.params.toList args.toList ds p:=fun sp hsp=>a8t hl hb hts hA hlt hsp;have hres:∀(b:Nat)(sp:Nat->Bool)(hd:Bool),DataW.TrodAll enc P W' b sp hd f.resultTypes.toList ((Value.bool true).resultList f.resultTypes.size) [.lit (.bool true)] []:=by
  intro b sp hd;rw [hrt];exact trodAll_cons_mk (shut_bool htb true) trodAll_mk0
 refine⟨ds,[],p,[],p,[],hW',?_,?_,?_,?_,fun h=>by cases h⟩
 ·simp only [List.append_nil,hs];exact hres _ _ _
 ·simp only [List.append_nil,hs];exact harg _ (fun x hx=>by simpa using hlt x hx)
 ·simp only [List.append_nil,hs,hv];exact rfl
 exact hb.frame _
end
def b7r(P:Program)(W:World)(T:TypeId){α:Type}(r:Rp α)(ok:α->Prop):Prop:=
 ∀{H:Type}(enc:TypeId×Value->H)(fuel:Nat)(cs:List Value)(x:DataW H×List MemPlace),DataW.trod enc P W 0 (fun _=>true) true fuel T cs=some x->∃y,r.R (all W) cs y/\ok y
section
variable{P:Program}{W:World}{T:TypeId}
theorem d3q{k:IntKind}(ht:P.underlying T=some (.int k)):b7r P W T (Rp.int k) (fun z=>k.min<=z/\z<=k.max):=by
 intro H enc fuel cs x h;obtain⟨n,rfl,_,hw⟩:=DataW.trod_int ht h;exact⟨n,rfl,by simpa [Lit.wf]using hw⟩
theorem c6s(ht:P.underlying T=some .bool):b7r P W T Rp.bool (fun _=>True):=by
 intro H enc fuel cs x h;obtain⟨b,rfl,_⟩:=DataW.trod_bool ht h;exact⟨b,rfl,trivial⟩
theorem c9e(ht:P.underlying T=some .string):b7r P W T Rp.str (fun s=>s.length<=maxLen):=by
 intro H enc fuel cs x h;obtain⟨s,rfl,_,hs⟩:=DataW.trod_string ht h;exact⟨s.data.toList,by rw [c7w];rfl,by simpa using hs⟩
theorem d9o{α:Type}{r:Rp α}{F:Frz}{k:Nat}(hk:r.k=k):∀(n:Nat)(C:Nat->List Value)(X:Nat->α),(∀i,i<n->r.R F (C i) (X i))->RowR r F ((List.range n).flatMap C) ((List.range n).map X)
 |0,_,_,_=>by simp [RowR]
 |n+1,C,X,h=>by
  rw [List.range_succ,List.flatMap_append,List.map_append];refine RowR.append ?_ (d9o hk n C X fun i hi=>h i (by omega));simpa [RowR]using h n (by omega)
theorem b6b{k:Nat}:∀(n:Nat)(C:Nat->List Value),(∀i,i<n->(C i).length=k)->((List.range n).flatMap C).length=n*k
 |0,_,_=>by simp
 |n+1,C,h=>by
  rw [List.range_succ,List.flatMap_append,List.length_append,b6b n C fun i hi=>h i (by omega)];simp [h n (by omega),Nat.add_mul]
theorem c6d{k:Nat}:∀(n:Nat)(C:Nat->List Value),(∀i,i<n->(C i).length=k)->∀i j,i<n->j<k->((List.range n).flatMap C)[i*k+j]?=(C i)[j]?
 |0,_,_,_,_,hi,_=>by omega
 |n+1,C,h,i,j,hi,hj=>by
  have hl:=b6b n C fun i hi=>h i (by omega);rw [List.range_succ,List.flatMap_append]
  by_cases e:i=n
  ·subst e;rw [List.getElem?_append_right (by omega),hl];simp
  have h1:i*k+j<n*k:=by
   have h2:(i+1)*k<=n*k:=Nat.mul_le_mul_right _ (by omega);rw [Nat.add_mul]at h2;omega
  rw [List.getElem?_append_left (by omega)];exact c6d n C (fun i hi=>h i (by omega)) i j (by omega) hj
theorem f1w{b o:Nat}{l:List Value}(h:∀i v,l[i]?=some v->W.cell? ⟨b,o+i,none⟩=some v)(h0:l≠ []):FC (all W) b o l:=by
 have h1:=h 0 (l.head h0) (by rw [<-List.head?_eq_getElem?,List.head?_eq_some_head h0]);unfold World.cell? at h1;cases hb:W.heap[b]? with
 |none=>simp [hb]at h1
 |some ob=>
  cases ob with
  |cells cells t fz=>
   refine⟨cells,t,fz,hb,?_⟩;rw [List.prefix_iff_getElem?];intro i hi;have h2:=h i l[i] (by simp [hi]);simp only [World.cell?,hb]at h2;rw [List.getElem?_drop,Array.getElem?_toList];simpa using h2
  |_=>simp [hb]at h1
theorem e5d(a:Addr)(i j:Nat):(a.add i).add j=a.add (i+j):=by
 unfold Addr.add
 by_cases hi:i=0
 ·subst hi;simp
 by_cases hj:j=0
 ·subst hj;simp
 simp [hi,hj,Nat.add_assoc]
theorem c1m{e:TypeId}{α:Type}{r:Rp α}{ok:α->Prop}(ht:P.underlying T=some (.slice e))(hc:P.cellsOf e=r.k)(hp:0<r.k)(he:b7r P W e r ok):
 b7r P W T (Rp.sl r) (fun l=>l.length<=maxLen/\∀x∈l,ok x):=by
 intro H enc fuel cs x h;rcases Go.Deep.open_slice ht h with⟨rfl,_⟩|⟨a,len,cap,m,n,D,Pl,rfl,_,hl,hm,hmm,_,hx⟩
 ·exact⟨[],⟨none,0,0,rfl,SlR.nil r _⟩,by simp [maxLen],by simp⟩
 simp only [if_true]at hmm;have hx':∀i,i<len->∃q:List Value×α,W.cells? 0 (a.add (i*P.cellsOf e)) (P.cellsOf e)=some q.1/\r.R (all W) q.1 q.2/\ok q.2:=by
  intro i hi;obtain⟨cs',h1,h2⟩:=hx i (by omega);obtain⟨y,h3,h4⟩:=he enc _ _ _ h2;exact⟨(cs',y),h1,h3,h4⟩
 by_cases h0:len=0
 ·subst h0;exact⟨[],⟨some a,0,cap,rfl,rfl,by simp,hm,.inl rfl⟩,by simp [maxLen],by simp⟩
 obtain⟨d,_⟩:=hx' 0 (by omega);have hne:Nonempty (List Value×α):=⟨d⟩
 obtain⟨Q,hQ⟩:∃Q:Nat->List Value×α,∀i,i<len->W.cells? 0 (a.add (i*P.cellsOf e)) (P.cellsOf e)=some (Q i).1/\r.R (all W) (Q i).1 (Q i).2/\ok (Q i).2:=
  ⟨fun i=>if hi:i<len then Classical.choose (hx' i hi)else d,fun i hi=>by simp only [hi,dif_pos];exact Classical.choose_spec (hx' i hi)⟩
 have hlen:∀i,i<len->(Q i).1.length=r.k:=fun i hi=>r.len (hQ i hi).2.1;have hrow:=d9o (r:=r) rfl len (fun i=>(Q i).1) (fun i=>(Q i).2) fun i hi=>(hQ i hi).2.1;have hcell:∀i j,i<len->j<r.k->W.cell? (a.add (i*r.k+j))=(Q i).1[j]?:=by
  intro i j hi hj;have h1:=(World.cells?_some (hQ i hi).1).2.2 j (by rw [hc];exact hj);rw [hc]at h1
  rwa [e5d]at h1
 have hspot:a.spot=none:=by
  have h1:=hcell 0 0 (by omega) hp;have h2:=hlen 0 (by omega);rw [List.getElem?_eq_getElem (by omega)]at h1;have e0:a.add (0*r.k+0)=a:=by simp [Addr.add]
  rw [e0]at h1;exact World.cell?_spot h1
 obtain⟨b,o,spot⟩:=a;simp only at hspot;subst hspot;have hflen:=b6b len (fun i=>(Q i).1) hlen;refine⟨(List.range len).map fun i=>(Q i).2,⟨some ⟨b,o,none⟩,len,cap,by simp,by simp,by simpa using hl,hm,.inr ⟨b,o,_,rfl,f1w ?_ ?_,hrow⟩⟩,by simpa using Nat.le_trans hl hm,?_⟩
 ·intro i v hv;have hi:i<len*r.k:=by rw [<-hflen];exact(List.getElem?_eq_some_iff.1 hv).1
  have h1:i/r.k<len:=Nat.div_lt_of_lt_mul (by rw [Nat.mul_comm];exact hi);have h2:i %r.k<r.k:=Nat.mod_lt _ hp;have h3:i/r.k*r.k+i %r.k=i:=Nat.div_add_mod' i r.k;have h4:=hcell _ _ h1 h2;have h5:=c6d len (fun i=>(Q i).1) hlen _ _ h1 h2;rw [h3]at h4 h5;rw [h5]at hv;rw [hv,Go.WideShapes.add_plain]at h4;exact h4
 ·intro e0;have:=congrArg List.length e0;rw [hflen]at this;have:0<len*r.k:=Nat.mul_pos (by omega) hp;simp only [List.length_nil]at*;omega
 intro x hx;obtain⟨i,hi,rfl⟩:=List.mem_map.1 hx;exact(hQ i (List.mem_range.1 hi)).2.2
theorem d5g(cs:List Value)(o k:Nat):cs.drop o=(cs.drop o).take k++cs.drop (o+k):=by
 rw [<-List.drop_drop,List.take_append_drop]
theorem d6j{α:Type}{r:Rp α}{ok:α->Prop}(ho:b7r P W T r ok){H:Type}{enc:TypeId×Value->H}{v:Value}{d:DataW H}{ps:List MemPlace}(h:DataW.Trod enc P W 0 (fun _=>true) true T v d ps):∃y,r.R (all W) v.cells.toList y/\ok y:=by
 obtain⟨fuel,hf⟩:=h;exact ho enc _ _ _ hf
end
end Wrap
namespace Dp
open Go Go.ChangeShapes Go.WideShapes Go.ChangeAt Go.RowKit Go.Proofs.YtjegnogjkddnbaaGreatDoor.Rt Go.Proofs.YtjegnogjkddnbaaGreatDoor.Wrap
set_option linter.unusedVariables false
inductive Sh where
 |int (k:IntKind)
 |bool
 |str
 |sl (e:Sh)
 |st (fs:List Sh)
mutual
def Sh.cells:Sh->Nat | .st fs=>shCells fs |_=>1
def shCells:List Sh->Nat | []=>0 |s::l=>s.cells+shCells l end
mutual
def Fit:Sh->VT->Prop | .int k,x=>∃z,x= .int k z/\k.min<=z/\z<=k.max | .bool,x=>∃b,x= .bool b | .str,x=>∃l:Bs,x= .str l/\l.length<=maxLen | .sl e,x=>∃xs,x= .sl xs/\xs.length<=maxLen/\∀y∈xs,Fit e y | .st fs,x=>∃l,x= .agg l/\FitL fs l
def FitL:List Sh->List VT->Prop | [],l=>l= [] |s::ss,l=>∃x r,l=cellsV x++r/\Fit s x/\FitL ss r end
section
variable(P:Program)
mutual
def shOk:Sh->TypeId->Bool
 | .int k,t=>match P.underlying t with
   |some (.int k')=>decide (k'=k)
   |_=>false
 | .bool,t=>match P.underlying t with
   |some .bool=>true
   |_=>false
 | .str,t=>match P.underlying t with
   |some .string=>true
   |_=>false
 | .sl e,t=>match P.underlying t with
   |some (.slice e')=>Nat.beq (P.cellsOf e') e.cells&&Nat.blt 0 e.cells&&shOk e e'
   |_=>false
 | .st ss,t=>match P.underlying t with
   |some (.struct fs)=>Nat.beq (P.cellsOf t) (shCells ss)&&shOkL ss fs.toList 0
   |_=>false
def shOkL:List Sh->List Field->Nat->Bool | [],[],_=>true |s::ss,f::fs,o=>Nat.beq f.offset o&&Nat.beq (P.cellsOf f.type) s.cells&&shOk s f.type&&shOkL ss fs (o+s.cells) |_,_,_=>false end
end
section
variable{P:Program}{W:World}
theorem a9h{T:TypeId}{q:Nat}{ok:VT->Prop}(h:∀{H:Type}(enc:TypeId×Value->H)(fuel:Nat)(cs:List Value)(x:DataW H×List MemPlace),DataW.trod enc P W 0 (fun _=>true) true fuel T cs=some x->∃(y:VT)(u:Value),cs=u.cells.toList/\u.cells.size=q/\VR (all W) y u/\ok y):b7r P W T (rpV q) ok:=by
 intro H enc fuel cs x hx;obtain⟨y,u,h1,h2,h3,h4⟩:=h enc fuel cs x hx;exact⟨y,⟨u,h1,⟨h2,a9w h3⟩,h3⟩,h4⟩
mutual
theorem opens_sh:∀{s:Sh}{T:TypeId},shOk P s T=true->b7r P W T (rpV s.cells) (Fit s)
 | .int k,T,h=>by
   unfold shOk at h;split at h
   ·rename_i k' ht;obtain rfl:=of_decide_eq_true h;refine a9h fun enc fuel cs x hx=> ?_;obtain⟨n,rfl,h3⟩:=d3q ht enc fuel cs x hx;exact⟨.int k' n,.int k' n,rfl,rfl,rfl,n,rfl,h3⟩
   cases h
 | .bool,T,h=>by
   unfold shOk at h;split at h
   ·rename_i ht;refine a9h fun enc fuel cs x hx=> ?_;obtain⟨n,rfl,h3⟩:=c6s ht enc fuel cs x hx;exact⟨.bool n,.bool n,rfl,rfl,rfl,n,rfl⟩
   cases h
 | .str,T,h=>by
   unfold shOk at h;split at h
   ·rename_i ht;refine a9h fun enc fuel cs x hx=> ?_;obtain⟨n,rfl,h3⟩:=c9e ht enc fuel cs x hx;exact⟨.str n,vs n,rfl,rfl,rfl,n,rfl,h3⟩
   cases h
 | .sl e,T,h=>by
   unfold shOk at h;split at h
   ·rename_i e' ht;simp only [Bool.and_eq_true]at h;obtain⟨⟨h1,h2⟩,h3⟩:=h;have h1:=Nat.eq_of_beq_eq_true h1;refine a9h fun enc fuel cs x hx=> ?_;obtain⟨xs,⟨a,n,c,rfl,h4⟩,h5,h6⟩:=c1m ht (r:=rpV e.cells) (by rw [h1];rfl) (Nat.le_of_ble_eq_true h2) (opens_sh h3) enc fuel cs x hx;exact⟨.sl xs,.slice a n c,rfl,rfl,b0b.2 ⟨a,n,c,_,rfl,h4⟩,xs,rfl,h5,h6⟩
   cases h
 | .st ss,T,h=>by
   unfold shOk at h;split at h
   ·rename_i fs ht;simp only [Bool.and_eq_true]at h;obtain⟨h1,h2⟩:=h;have h1:=Nat.eq_of_beq_eq_true h1;refine a9h fun enc fuel cs x hx=> ?_;obtain⟨xs,n,_,_,hl,hn,hf⟩:=DataW.trod_struct ht hx;obtain⟨l,h3,h4,h5⟩:=opens_shL (enc:=enc) (cs:=cs) (xs:=xs) (n:=n) (i:=0) h2 (by rw [hl,h1];omega) (fun i f hi=>by
     have hi':fs[i]?=some f:=by rw [<-Array.getElem?_toList];simpa using hi
     have hlt:i<xs.length:=by rw [hn];exact(Array.getElem?_eq_some_iff.1 hi').1
     have:=hf i f hi';rw [List.getElem?_eq_getElem hlt]at this;exact⟨_,this⟩)
    rw [List.drop_zero]at h3 h5;exact⟨.agg l,.agg cs.toArray,rfl,by show cs.toArray.size=_;rw [List.size_toArray,hl,h1];rfl,⟨cs,rfl,h3,h5⟩,l,rfl,h4⟩
   cases h
theorem opens_shL:∀{ss:List Sh}{fs:List Field}{o i:Nat}{H:Type}{enc:TypeId×Value->H}{n:Nat}{cs:List Value}{xs:List (DataW H×List MemPlace)},shOkL P ss fs o=true->cs.length=o+shCells ss->
 (∀(j:Nat)(f:Field),fs[j]?=some f->∃x,DataW.trod enc P W 0 (fun _=>true) true n f.type ((cs.drop f.offset).take (P.cellsOf f.type))=some x)->∃l,VRL (all W) l (cs.drop o)/\FitL ss l/\(cs.drop o).all Value.oneCell'=true
 | [],[],o,i,H,enc,n,cs,xs,_,hl,_=>⟨[],by show cs.drop o= [];exact List.drop_of_length_le (by rw [hl];exact Nat.le_refl _),rfl,by rw [List.drop_of_length_le (by rw [hl];exact Nat.le_refl _)];rfl⟩
 |s::ss,f::fs,o,i,H,enc,n,cs,xs,h,hl,hf=>by
  unfold shOkL at h;simp only [Bool.and_eq_true]at h;obtain⟨⟨⟨h1,h2⟩,h3⟩,h4⟩:=h;have h1:=Nat.eq_of_beq_eq_true h1;have h2:=Nat.eq_of_beq_eq_true h2;obtain⟨x,hx⟩:=hf 0 f rfl;rw [h1,h2]at hx;obtain⟨y,⟨u,e1,⟨e2,e3⟩,e4⟩,e5⟩:=opens_sh h3 enc n _ x hx;have hl':cs.length=o+s.cells+shCells ss:=by rw [hl];simp only [shCells];omega
  obtain⟨l,k1,k2,k3⟩:=opens_shL (i:=i) (xs:=xs) h4 hl' (fun j f hj=>hf (j+1) f (by simpa using hj));have hd:cs.drop o=u.cells.toList++cs.drop (o+s.cells):=by rw [<-e1];exact d5g cs o s.cells
  refine⟨cellsV y++l,?_,⟨y,l,rfl,e5,k2⟩,?_⟩
  ·rw [hd];have app:∀{l1 l2:List VT}{c1 c2:List Value},VRL (all W) l1 c1->VRL (all W) l2 c2->VRL (all W) (l1++l2) (c1++c2):=by
    intro l1;induction l1 with
    |nil=>intro l2 c1 c2 p1 p2;cases p1;exact p2
    |cons z l1 ih=>
     rintro l2 c1 c2 ⟨v,r,rfl,p1,p3⟩ p2;exact⟨v,r++c2,rfl,p1,ih p3 p2⟩
   exact app (a4j e4) k1
  rw [hd,List.all_append,k3,e3];rfl
 | [],_::_,_,_,_,_,_,_,_,h,_,_=>by unfold shOkL at h;cases h
 |_::_,[],_,_,_,_,_,_,_,h,_,_=>by unfold shOkL at h;cases h
 end
theorem a6e{s:Sh}{T:TypeId}(hs:shOk P s T=true){H:Type}{enc:TypeId×Value->H}{v:Value}{d:DataW H}{ps:List MemPlace}(h:DataW.Trod enc P W 0 (fun _=>true) true T v d ps):∃(y:VT)(u:Value),v.cells=u.cells/\VR (all W) y u/\Fit s y:=by
 obtain⟨y,⟨u,h1,_,h2⟩,h3⟩:=d6j (opens_sh hs) h;exact⟨y,u,by rw [<-Array.toArray_toList (xs:=v.cells),h1],h2,h3⟩
theorem b0c{s:Sh}{T:TypeId}(hs:shOk P s T=true){re:Reach}{b0:Nat}{v u:Value}{F:Frz}{y:VT}(hv:Value.okWide P W re b0 T v)(hr:VR F y u)(hf:Fit s y)(hc:v.cells=u.cells):u=v:=by
 cases s with
 |int k=>
  unfold shOk at hs;split at hs
  ·rename_i k' ht;obtain⟨n,rfl⟩:=okWide_int ht hv;obtain⟨z,rfl,_⟩:=hf;cases hr;have: #[Value.int k' n]= #[Value.int k z]:=hc;simpa using this.symm
  cases hs
 |bool=>
  unfold shOk at hs;split at hs
  ·rename_i ht;obtain⟨n,rfl⟩:=okWide_bool ht hv;obtain⟨z,rfl⟩:=hf;cases hr;have: #[Value.bool n]= #[Value.bool z]:=hc;simpa using this.symm
  cases hs
 |str=>
  unfold shOk at hs;split at hs
  ·rename_i ht;obtain⟨n,rfl⟩:=okWide_string ht hv;obtain⟨z,rfl,_⟩:=hf;have hr:u=vs z:=hr;subst hr;have: #[Value.string n]= #[vs z]:=hc;simpa using this.symm
  cases hs
 |sl e=>
  unfold shOk at hs;split at hs
  ·rename_i e' ht;obtain⟨a,m,c,rfl⟩:=okWide_slice ht hv;obtain⟨xs,rfl,_⟩:=hf;obtain⟨a',m',c',rfl,_⟩:=hr;have: #[Value.slice a m c]= #[Value.slice a' m' c']:=hc;simpa using this.symm
  cases hs
 |st fs=>
  unfold shOk at hs;split at hs
  ·rename_i fs' ht;obtain⟨cs,rfl,_⟩:=okWide_struct ht hv;obtain⟨l,rfl,_⟩:=hf;obtain⟨cs',rfl,_⟩:=hr;have:cs=cs'.toArray:=hc;rw [this]
  cases hs
end
end Dp
namespace Dp
open Go Go.ChangeShapes Go.WideShapes Go.ChangeAt Go.RowKit Go.Proofs.YtjegnogjkddnbaaGreatDoor.Rt Go.Proofs Go.Proofs.YtjegnogjkddnbaaGreatDoor.Wrap
set_option linter.unusedVariables false
def names1:List Func->Bool
 | []=>true
 |fn::l=>(match fn.name== "runtime.NumGoroutine" with
  |true=> !fn.body.isSome
  |false=>true)&&names1 l
theorem names1_ok:∀{l:List Func},names1 l=true->∀fn∈l,fn.body.isSome=true->(fn.name== "runtime.NumGoroutine")=false
 | [],_,fn,h,_=>by simp at h
 |f::l,h,fn,hf,hb=>by
  simp only [names1,Bool.and_eq_true]at h;rcases List.mem_cons.1 hf with rfl|hf
  ·cases hn:fn.name== "runtime.NumGoroutine" with
   |true=>rw [hn]at h;simp [hb]at h
   |false=>rfl
  exact names1_ok h.2 fn hf hb
theorem namesOk:a9t Tryz.prog:=fun f fn hf hb=>names1_ok (l:=Tryz.prog.funcs.toList) (by kernel_rfl) fn (Array.mem_toList_iff.2 (Array.mem_of_getElem? hf)) hb
theorem tyOk0:TyOk tt0:=e6n (by kernel_rfl)
set_option maxRecDepth 100000 in
theorem tyOk:TyOk tt:={tyOk0 with eqs:=fun hk xs ys b hb=>tyOk0.eqs (cmpL_ok hk) xs ys b hb}
theorem f1g(n:Nat):b0l tt n:=D_ok tyOk libOk (e4s tyOk libOk) namesOk n
theorem d2x{f:FuncId}{ys:List VT}(h:EvF tt f (ys.map .v) (B true)){W:World}(hg:GlR tt (all W)){us:List Value}(hr:VRL (all W) ys us):Calls Tryz.prog f us.toArray W fun e W'=>e= .returned (.bool true)/\Below W.heap.size W W':=by
 obtain⟨n,hn⟩:=h;refine((f1g n hn).2.2 W (all W) [] [] us (Rel.start (e4o W) hg) (concL_v.1 hr)).mono ?_;rintro e W' ⟨v,F',Wr,rfl,hR,hc⟩;have hv:v= .bool true:=hc;subst hv;exact⟨rfl,⟨hR.hd.os,hR.hd.tape,hR.hd.output,hR.hd.size,fun b hb=>hR.hd.old b hb (by simp)⟩⟩
theorem e0l{P:Program}{W:World}{n:String}{g:Nat}{cs:Array Value}(hg:P.globalNamed n=some g)(h:W.var? P n=some cs):∃t z,W.heap[g]?=some (.cells cs t z):=by
 unfold World.var? at h;rw [hg,b_s]at h;split at h
 ·cases h;exact⟨_,_,by assumption⟩
 cases h
theorem nameStar: "*" ++ "errors.errorString" = "*errors.errorString" :=by decide
theorem e5l(u:TypeId)(h:Tryz.prog.typeName? 3 u=some "*errors.errorString"):u=311:=
 typeName_ptr_named (nm:= "errors.errorString") (by rw [nameStar];kernel_rfl) (by kernel_rfl) (by decide) u (by rw [nameStar];exact h)
end Dp
namespace Dp
open Go Go.ChangeShapes Go.WideShapes Go.ChangeAt Go.RowKit Go.Proofs.YtjegnogjkddnbaaGreatDoor.Rt Go.Proofs Go.Proofs.YtjegnogjkddnbaaGreatDoor.Wrap
set_option linter.unusedVariables false
def tabs:List (String×DataW Unit):= [("math/bits.deBruijn32tab",Rows.laid_math_bits_deBruijn32tab),("math/bits.deBruijn64tab",Rows.laid_math_bits_deBruijn64tab),("internal/strconv.uint64pow10",Rows.laid_internal_strconv_uint64pow10),("unicode/utf8.acceptRanges",Rows.laid_unicode_utf8_acceptRanges),("strconv.ErrRange",Rows.laid_strconv_ErrRange),("strconv.ErrSyntax",Rows.laid_strconv_ErrSyntax),("unicode/utf8.first",Rows.laid_unicode_utf8_first)]
theorem gPow:Tryz.prog.globalNamed "internal/strconv.uint64pow10" =some 5:=by kernel_rfl
theorem gPowT:(Tryz.prog.globals[5]?).map (·.type)=some 303:=by kernel_rfl
theorem cPow:Tryz.prog.cellsOf 303=20:=by kernel_rfl
theorem cU64:Tryz.prog.cellsOf 157=1:=by kernel_rfl
theorem gRng:Tryz.prog.globalNamed "strconv.ErrRange" =some 2:=by kernel_rfl
theorem gRngT:(Tryz.prog.globals[2]?).map (·.type)=some 178:=by kernel_rfl
theorem gSyn:Tryz.prog.globalNamed "strconv.ErrSyntax" =some 1:=by kernel_rfl
theorem gSynT:(Tryz.prog.globals[1]?).map (·.type)=some 178:=by kernel_rfl
theorem cErr:Tryz.prog.cellsOf 313=1:=by kernel_rfl
theorem cStr:Tryz.prog.cellsOf 9=1:=by kernel_rfl
theorem c6c{W:World}{n:String}{text:List UInt8}{r:List (String×DataW Unit)}{g:Nat}
 (h:laidMet Tryz.prog ((n,.iface "*errors.errorString" (.ptr (.agg [.lit (.string text)])))::r) W) (hg:Tryz.prog.globalNamed n=some g) (ht:(Tryz.prog.globals[g]?).map (·.type)=some 178):
 ∃(u:Value)(t:TypeId)(z:Nat×Nat),all W g=some (.cells u.cells t z)/\VR (all W) .ifc u:=by
 obtain⟨a,s,hv,_,_,_⟩:=laid_sentinel h hg ht Tryz.underlying178 e5l Tryz.underlying311 Tryz.underlying313 rfl rfl Tryz.underlying9 cErr cStr;obtain⟨t,z,h2⟩:=e0l hg hv;exact⟨.iface 311 (.pointer (some a)),t,z,h2,_,_,rfl⟩
theorem c2u{F:Frz}:∀l:List Int,VRL F (l.map (VT.int .u64)) (l.map (Value.int .u64))
 | []=>rfl
 |x::l=>⟨_,_,rfl,rfl,c2u l⟩
theorem glr{W:World}(h:laidMetH Tryz.prog tabs W):GlR tt (all W):=by
 have h1:laidMet Tryz.prog tabs W:=h;have hp:laidMet Tryz.prog (("internal/strconv.uint64pow10",Lib.tabData .u64 Lib.pow10Tab)::_) W:=h1.tail.tail;have hr:laidMet Tryz.prog (("strconv.ErrRange",.iface "*errors.errorString" (.ptr (.agg [.lit (.string _)])))::_) W:=h1.tail.tail.tail.tail;have hs:laidMet Tryz.prog (("strconv.ErrSyntax",.iface "*errors.errorString" (.ptr (.agg [.lit (.string _)])))::_) W:=h1.tail.tail.tail.tail.tail;refine⟨fun g x hx=> ?_,fun g k hk=>by cases hk⟩;have hm:(g,x)∈glL:=b6q hx;simp only [glL,List.mem_cons,Prod.mk.injEq,List.not_mem_nil,or_false]at hm;rcases hm with⟨rfl,rfl⟩|⟨rfl,rfl⟩|⟨rfl,rfl⟩
 ·have h2:=Lib.tabIs_of_head gPow gPowT Tryz.underlying303 Tryz.underlying157 cU64 cPow hp;obtain⟨t,z,h3⟩:=e0l gPow h2;exact⟨.agg (Lib.pow10Tab.map (Value.int .u64)).toArray,t,z,h3,_,rfl,c2u _,rfl⟩
 ·exact c6c hs gSyn gSynT
 exact c6c hr gRng gRngT
def laidCells:DataW Unit->List Value
 | .lit (.int k z)=> [.int k z]
 | .agg xs=>xs.flatMap fun| .lit (.int k z)=> [.int k z]| .agg [.lit (.int k z),.lit (.int k' z')]=> [.int k z,.int k' z']|_=> []
 |_=> []
def c8h(h:Array Obj)(g:Nat)(d:DataW Unit):Array Obj:=h.modify g fun
 | .cells _ t frozen=> .cells (laidCells d).toArray t frozen
 |o=>o
def e1f(h:Array Obj)(g b:Nat):Array Obj:=h.modify g fun
 | .cells _ t frozen=> .cells #[.iface 311 (.pointer (some ⟨b,0,none⟩))] t frozen
 |o=>o
def errRange:ByteArray:=⟨#[118,97,108,117,101,32,111,117,116,32,111,102,32,114,97,110,103,101]⟩
def errSyntax:ByteArray:=⟨#[105,110,118,97,108,105,100,32,115,121,110,116,97,120]⟩
noncomputable def low:Nat:=(World.holding Tryz.prog default ⟨#[], #[],[]⟩).heap.size
noncomputable def b1o(os:Os):World:=
 let w0:=World.holding Tryz.prog os ⟨#[.cells #[.string errRange] 313,.cells #[.string errSyntax] 313], #[],[]⟩
 {w0 with heap:=c8h (e1f (e1f (c8h (c8h (c8h (c8h w0.heap 6 Rows.laid_math_bits_deBruijn32tab) 7 Rows.laid_math_bits_deBruijn64tab) 5 Rows.laid_internal_strconv_uint64pow10) 4 Rows.laid_unicode_utf8_acceptRanges) 2 low) 1 (low+1)) 3 Rows.laid_unicode_utf8_first}
set_option maxRecDepth 100000 in
theorem d7z(os:Os)(args:Array Value):laidMet Tryz.prog tabs ((b1o os).forCall (fun _ _=>0) ⟨#[],args,[]⟩).memory:=
 laidMet_of_run' 8 (by kernel_rfl) (by kernel_rfl)
end Dp
namespace Dp
open Go Go.Proofs.YtjegnogjkddnbaaGreatDoor.Rt Go.Proofs.YtjegnogjkddnbaaGreatDoor.D
set_option linter.unusedVariables false
theorem d0j{α:Type}{a:List α}{i:Nat}{x:α}{xs:List α}(h:a.drop i=x::xs):ix a (i:Int)=some x/\a.drop (i+1)=xs/\i<a.length:=by
 have h1:a[i]?=some x:=by have:=congrArg (fun l=>l[0]?) h;simpa using this
 refine⟨by rw [d0w];exact h1,?_,(List.getElem?_eq_some_iff.1 h1).1⟩;rw [<-List.drop_drop,h];rfl
theorem d9g{α:Type}{a:List α}{i:Nat}(h:a.drop i= []):a.length<=i:=by simpa using h
theorem InR.drop{l:List Int}(h:InR l)(k:Nat):InR (l.drop k):=fun e he=>h e (List.mem_of_mem_drop he)
theorem InR.take{l:List Int}(h:InR l)(k:Nat):InR (l.take k):=fun e he=>h e (List.mem_of_mem_take he)
theorem d9c{x c y:Int}(h0:0<=c)(h1:c<=1)(hx0:0<=x)(hx1:x<1048576)(hy0:0<=y)(hy1:y<1048576){t:Int}(ht:t=x-c-y):t/1048576 %2=-(t/1048576)/\0<=-(t/1048576)/\-(t/1048576)<=1:=by
 subst ht;omega
theorem b5b{us vs:List Int}{g:Int}(hu:InR us)(hv:InR vs)(hl:vs.length<=us.length)(hg:0<=g)(h:g*val vs<=val us):(setD g 0 us vs).2=0/\val (setD g 0 us vs).1=val us-g*val vs:=by
 have e1:=b6t g us vs 0 hl;have e2:=a7w hg us vs 0 hu hv (by decide) hg;have e3:=val_lt (a6m g us vs 0);rw [valc_eq,b1m]at e1;rw [b1m]at e3;have hb:(setD g 0 us vs).2=0:=by
  rcases(show 0<(setD g 0 us vs).2∨(setD g 0 us vs).2<=0 by omega)with h4|h4
  ·have h5:pw us.length*(-(setD g 0 us vs).2)<=pw us.length*(-1):=Int.mul_le_mul_of_nonneg_left (by omega) (by have:=pw_pos us.length;omega);omega
  omega
 refine⟨hb,?_⟩;rw [hb]at e1;simp only [Int.neg_zero,Int.mul_zero]at e1;omega
theorem f1n{l:List Int}(h:3<=l.length):∃ul a b c,l=ul++ [a,b,c]:=by
 refine⟨l.take (l.length-3),l[l.length-3],l[l.length-2],l[l.length-1],?_⟩;have h1:l.drop (l.length-3)= [l[l.length-3],l[l.length-2],l[l.length-1]]:=by
  rw [List.drop_eq_getElem_cons (by omega),List.drop_eq_getElem_cons (by omega),List.drop_eq_getElem_cons (by omega),List.drop_eq_nil_of_le (by omega)];simp only [show l.length-3+1=l.length-2 by omega,show l.length-2+1=l.length-1 by omega]
 rw [<-h1,List.take_append_drop]
theorem f1k{l:List Int}(h:2<=l.length):∃ul a b,l=ul++ [a,b]:=by
 refine⟨l.take (l.length-2),l[l.length-2],l[l.length-1],?_⟩;have h1:l.drop (l.length-2)= [l[l.length-2],l[l.length-1]]:=by
  rw [List.drop_eq_getElem_cons (by omega),List.drop_eq_getElem_cons (by omega),List.drop_eq_nil_of_le (by omega)];simp only [show l.length-2+1=l.length-1 by omega]
 rw [<-h1,List.take_append_drop]
theorem d6x{l:List Int}(h:1<=l.length):∃ul a,l=ul++ [a]:=
 ⟨l.take (l.length-1),l[l.length-1],by
   have h1:l.drop (l.length-1)= [l[l.length-1]]:=by
    rw [List.drop_eq_getElem_cons (by omega),List.drop_eq_nil_of_le (by omega)]
   rw [<-h1,List.take_append_drop]⟩
theorem c1l{P Ul u2 T V1 V2 Vl g:Int}(hP:0<P)(hU:Ul<P)(hu:u2<1048576)(hV:0<=Vl)(h2:0<=V2)(hg:T<(g+1)*V1)(hg0:0<=g):
 Ul+P*(u2+1048576*T)<(g+1)*(Vl+P*(V2+1048576*V1)):=by
 have e1:P*u2<=P*1048575:=Int.mul_le_mul_of_nonneg_left (by omega) (by omega);have e2:P*(T+1)<=P*((g+1)*V1):=Int.mul_le_mul_of_nonneg_left (by omega) (by omega);have e3:0<=(g+1)*Vl:=Int.mul_nonneg (by omega) hV;have e4:0<=(g+1)*(P*V2):=Int.mul_nonneg (by omega) (Int.mul_nonneg (by omega) h2);have e5:(g+1)*(Vl+P*(V2+1048576*V1))=(g+1)*Vl+(g+1)*(P*V2)+1048576*(P*((g+1)*V1)):=by grind
 have e6:Ul+P*(u2+1048576*T)=Ul+P*u2+1048576*(P*(T+1))-1048576*P:=by grind
 omega
theorem b7n{a b s:Nat}(hs:0<s):a*s/(b*s)=a/b/\a*s %(b*s)=a %b*s:=⟨Nat.mul_div_mul_right _ _ hs,Nat.mul_mod_mul_right _ _ _⟩
def toB(x:Int):Big:=⟨sg x,dig x.natAbs⟩
def Sm(k:Nat)(x:Int):Prop:=(x.natAbs:Int)<pw k
theorem a0b(x:Int):(x<0/\sg x=-1)∨(x=0/\sg x=0)∨(0<x/\sg x=1):=by
 unfold sg;split
 ·exact .inl ⟨by assumption,rfl⟩
 split
 ·exact .inr (.inr ⟨by assumption,rfl⟩)
 exact .inr (.inl ⟨by omega,rfl⟩)
theorem a1b{x:Int}(h:0<x):sg x=1:=by rcases a0b x with h1|h1|h1<;>omega
theorem a1g{x:Int}(h:x<0):sg x=-1:=by rcases a0b x with h1|h1|h1<;>omega
theorem a7m(x y:Int):sg (x*y)=sg x*sg y:=by
 rcases a0b x with⟨h1,h2⟩|⟨h1,h2⟩|⟨h1,h2⟩<;>rcases a0b y with⟨h3,h4⟩|⟨h3,h4⟩|⟨h3,h4⟩<;>rw [h2,h4]
 ·exact a1b (Int.mul_pos_of_neg_of_neg h1 h3)
 ·subst h3;rw [Int.mul_zero];decide
 ·exact a1g (Int.mul_neg_of_neg_of_pos h1 h3)
 ·subst h1;rw [Int.zero_mul];decide
 ·subst h1;rw [Int.zero_mul];decide
 ·subst h1;rw [Int.zero_mul];decide
 ·exact a1g (Int.mul_neg_of_pos_of_neg h1 h3)
 ·subst h3;rw [Int.mul_zero];decide
 exact a1b (Int.mul_pos h1 h3)
theorem b1p(x:Int):sg x*(x.natAbs:Int)=x:=by
 rcases a0b x with⟨h1,h2⟩|⟨h1,h2⟩|⟨h1,h2⟩<;>rw [h2]<;>omega
theorem b1i(x:Int):-1<=sg x/\sg x<=1:=by rcases a0b x with h|h|h<;>omega
theorem c4z(a:Nat):∀b,pw (a+b)=pw a*pw b
 |0=>by simp [pw]
 |b+1=>by rw [<-Nat.add_assoc];simp only [pw,c4z a b];grind
theorem a0d{k:Nat}{x:Int}(h:Sm k x):(dig x.natAbs).length<=k:=by
 rcases Nat.lt_or_ge k (dig x.natAbs).length with h1|h1
 ·exfalso;have h2:val (List.replicate k (1048575:Int))<val (dig x.natAbs):=val_lt_of_len (fun e he=>by rw [(List.mem_replicate.1 he).2];decide) (a3s _) (by simpa using h1);have h3:∀k,val (List.replicate k (1048575:Int))=pw k-1:=by
   intro k;induction k with
   |zero=>rfl
   |succ k ih=>rw [List.replicate_succ];simp only [val,pw,ih];omega
  rw [h3,a0h]at h2;unfold Sm at h;omega
 exact h1
theorem a0n{k:Nat}{x:Int}(h:(dig x.natAbs).length<=k):Sm k x:=by
 have h1:=val_lt (a0i x.natAbs);rw [a0h]at h1;exact Int.lt_of_lt_of_le h1 (pw_mono h)
theorem Sm.mono{k l:Nat}{x:Int}(h:Sm k x)(hkl:k<=l):Sm l x:=Int.lt_of_lt_of_le h (pw_mono hkl)
theorem Sm.add{k:Nat}{x y:Int}(h:Sm k x)(h2:Sm k y):Sm (k+1) (x+y):=by
 unfold Sm at*;simp only [pw];omega
theorem Sm.neg{k:Nat}{x:Int}(h:Sm k x):Sm k (-x):=by unfold Sm at*;omega
theorem Sm.sub{k:Nat}{x y:Int}(h:Sm k x)(h2:Sm k y):Sm (k+1) (x-y):=by rw [Int.sub_eq_add_neg];exact h.add h2.neg
theorem Sm.mul{k l:Nat}{x y:Int}(h:Sm k x)(h2:Sm l y):Sm (k+l) (x*y):=by
 unfold Sm at*;rw [c4z,Int.natAbs_mul,Int.natCast_mul];have h3:(x.natAbs:Int)*y.natAbs<=x.natAbs*pw l:=Int.mul_le_mul_of_nonneg_left (by omega) (by omega);have h4:(x.natAbs:Int)*pw l<pw k*pw l:=Int.mul_lt_mul_of_pos_right h (pw_pos l);omega
theorem Sm.le{k:Nat}{x y:Int}(h:Sm k x)(h2:y.natAbs<=x.natAbs):Sm k y:=by unfold Sm at*;omega
def okd(d:Int):Bool:=decide (0<=d)&&decide (d<1048576)
def a1f(a:Big):Bool:=a.Digits.all okd&&(if a.Digits= []then a.Sign==0 else(a.Sign==1||a.Sign==-1)&&(a.Digits.getLast?.getD 0 !=0))
theorem a4y(x:Int):a1f (toB x)=true:=by
 unfold a1f toB;have h1:(dig x.natAbs).all okd=true:=by
  rw [List.all_eq_true];intro d hd;have:=a0i _ d hd;unfold okd;simp;omega
 simp only [h1,Bool.true_and]
 by_cases h:x=0
 ·subst h;rw [show(0:Int).natAbs=0 from rfl,dig_zero];rfl
 rw [if_neg (a7k (by omega))];have h2:(dig x.natAbs).getLast?.getD 0≠0:=by
  have h3:=a5t x.natAbs;cases h4:(dig x.natAbs).getLast? with
  |none=>rw [List.getLast?_eq_none_iff]at h4;exact absurd h4 (a7k (by omega))
  |some d=>rw [h4]at h3;simpa using h3
 rcases a0b x with⟨_,h5⟩|⟨h6,_⟩|⟨_,h5⟩
 ·rw [h5];simpa using h2
 ·exact absurd h6 h
 rw [h5];simpa using h2
theorem a2b{a:Big}(h:a1f a=true):∃x,a=toB x:=by
 obtain⟨s,l⟩:=a;unfold a1f at h;simp only [Bool.and_eq_true,List.all_eq_true]at h;obtain⟨h1,h2⟩:=h;have hi:InR l:=fun d hd=>by have:=h1 d hd;unfold okd at this;simpa using this
 by_cases hl:l= []
 ·subst hl;simp only [if_true,beq_iff_eq]at h2;subst h2;exact⟨0,by unfold toB;rw [show(0:Int).natAbs=0 from rfl,dig_zero];rfl⟩
 simp only [if_neg hl,Bool.and_eq_true,Bool.or_eq_true,beq_iff_eq,bne_iff_ne]at h2;have hc:Canon l:=by
  refine⟨hi,fun h3=> ?_⟩;rw [h3]at h2;exact h2.2 rfl
 have hv:=val_nonneg hi;have hv0:val l≠0:=fun e=>by have:=dig_val hc;rw [e,Int.toNat_zero,dig_zero]at this;exact hl this.symm
 have hd:=dig_val hc;rcases h2.1 with h3|h3
 ·refine⟨val l,?_⟩;unfold toB;rw [a1b (by omega),h3,show(val l).natAbs=(val l).toNat by omega,hd]
 refine⟨-val l,?_⟩;unfold toB;rw [a1g (by omega),h3,show(-val l).natAbs=(val l).toNat by omega,hd]
theorem e3g{x y:Int}(h:toB x=toB y):x=y:=by
 unfold toB at h;simp only [Big.mk.injEq]at h;have:=e1z h.2;have h1:=b1p x;have h2:=b1p y;rw [h.1,this]at h1;omega
theorem toB_zero:toB 0=⟨0,[]⟩:=by unfold toB;rw [show(0:Int).natAbs=0 from rfl,dig_zero];rfl
theorem a0y{s:Int}{v:Nat}(z:Int)(hz:z.natAbs=v)(hs:v≠0->s=sg z):(if v=0 then(⟨0,[]⟩:Big)else⟨s,dig v⟩)=toB z:=by
 by_cases hv:v=0
 ·rw [if_pos hv];have:z=0:=by omega
  rw [this,toB_zero]
 rw [if_neg hv,hs hv];unfold toB;rw [hz]
theorem a4k(x y:Int):imul .i64 (sg x) (sg y)=sg (x*y):=by
 rw [a7m];have h1:=b1i x;have h2:=b1i y;refine a0s ?_ ?_<;>rcases a0b x with⟨_,h⟩|⟨_,h⟩|⟨_,h⟩<;>rw [h]<;>omega
def odd(x y:Int):Bool:=decide (x*y<0)&&decide (x.natAbs %y.natAbs≠0)
def dq(x y:Int):Int:=if odd x y then-((x.natAbs/y.natAbs:Nat)+1:Int)else sg (x*y)*(x.natAbs/y.natAbs:Nat)
def dr(x y:Int):Int:=if odd x y then sg y*((y.natAbs-x.natAbs %y.natAbs:Nat):Int)else sg x*((x.natAbs %y.natAbs:Nat):Int)
theorem a5u{x y:Int}:x*y<0↔(x<0/\0<y)∨(0<x/\y<0):=by
 rcases a0b x with⟨h1,h2⟩|⟨h1,h2⟩|⟨h1,h2⟩<;>rcases a0b y with⟨h3,h4⟩|⟨h3,h4⟩|⟨h3,h4⟩
 ·have:=Int.mul_pos_of_neg_of_neg h1 h3;omega
 ·subst h3;simp
 ·have:=Int.mul_neg_of_neg_of_pos h1 h3;omega
 ·subst h1;simp
 ·subst h1;simp
 ·subst h1;simp
 ·have:=Int.mul_neg_of_pos_of_neg h1 h3;omega
 ·subst h3;simp
 have:=Int.mul_pos h1 h3;omega
theorem f1y{x y:Int}(hy:y≠0):dq x y*y+dr x y=x/\(dr x y=0∨sg (dr x y)=sg y)/\(dr x y).natAbs<y.natAbs:=by
 have hyn:0<y.natAbs:=by omega
 have h1:=Nat.div_add_mod x.natAbs y.natAbs;have h2:=Nat.mod_lt x.natAbs hyn;have h1':(y.natAbs:Int)*((x.natAbs/y.natAbs:Nat):Int)+((x.natAbs %y.natAbs:Nat):Int)=x.natAbs:=by rw [<-Int.natCast_mul];omega
 generalize hq:x.natAbs/y.natAbs=q at*;generalize hr:x.natAbs %y.natAbs=r at*;unfold dq dr odd;rw [hq,hr]
 by_cases ho:x*y<0
 ·by_cases hr0:r=0
  ·rw [show(decide (x*y<0)&&decide (r≠0))=false by simp [hr0]];simp only [if_neg Bool.false_ne_true];rw [hr0]at h1'⊢;rw [a1g ho];simp only [Int.natCast_zero,Int.mul_zero,Int.add_zero]at h1'⊢;refine⟨?_,.inl trivial,by omega⟩;rcases a5u.1 ho with⟨a,b⟩|⟨a,b⟩
   ·have e:(y.natAbs:Int)=y:=by omega
    rw [e]at h1';have:-1*(q:Int)*y=-(y*q):=by grind
    omega
   have e:(y.natAbs:Int)=-y:=by omega
   rw [e]at h1';have:-1*(q:Int)*y=-y*q:=by grind
   omega
  rw [show(decide (x*y<0)&&decide (r≠0))=true by simp [hr0,ho]];simp only [if_true];rcases a5u.1 ho with⟨a,b⟩|⟨a,b⟩
  ·have e:(y.natAbs:Int)=y:=by omega
   rw [e]at h1';rw [a1b b];have:-((q:Int)+1)*y=-(y*q)-y:=by grind
   exact⟨by omega,.inr (by rw [a1b (by omega)]),by omega⟩
  have e:(y.natAbs:Int)=-y:=by omega
  rw [e]at h1';rw [a1g b];have:-((q:Int)+1)*y=-y*q-y:=by grind
  exact⟨by omega,.inr (by rw [a1g (by omega)]),by omega⟩
 rw [show(decide (x*y<0)&&decide (r≠0))=false by simp [ho]];simp only [if_neg Bool.false_ne_true];rcases a0b x with⟨a,b⟩|⟨a,b⟩|⟨a,b⟩<;>rcases a0b y with⟨c,d⟩|⟨c,d⟩|⟨c,d⟩
 ·rw [a7m,b,d];have e:(y.natAbs:Int)=-y:=by omega
  rw [e]at h1';have:-1*-1*(q:Int)*y=-(-y*q):=by grind
  refine⟨by omega,?_,by omega⟩
  by_cases hr0:r=0
  ·left;omega
  right;rw [a1g (by omega)]
 ·exact absurd c hy
 ·exact absurd (a5u.2 (.inl ⟨a,c⟩)) ho
 ·rw [a7m,b];subst a;have:r=0:=by rw [<-hr];simp
  refine⟨?_,.inl (by omega),by omega⟩;simp
 ·exact absurd c hy
 ·rw [a7m,b];subst a;refine⟨?_,.inl (by omega),by omega⟩;simp
 ·exact absurd (a5u.2 (.inr ⟨a,c⟩)) ho
 ·exact absurd c hy
 rw [a7m,b,d];have e:(y.natAbs:Int)=y:=by omega
 rw [e]at h1';have:1*1*(q:Int)*y=y*q:=by grind
 refine⟨by omega,?_,by omega⟩
 by_cases hr0:r=0
 ·left;omega
 right;rw [a1b (by omega)]
theorem c6e{x y:Int}(ho:odd x y=true):(dq x y).natAbs=x.natAbs/y.natAbs+1/\sg (dq x y)=-1:=by
 unfold dq;rw [if_pos ho];generalize x.natAbs/y.natAbs=q;exact⟨by omega,a1g (by omega)⟩
theorem c5c{x y:Int}(hy:y≠0)(ho:odd x y=true):(dr x y).natAbs=y.natAbs-x.natAbs %y.natAbs/\sg (dr x y)=sg y:=by
 unfold dr;rw [if_pos ho];have h:=Nat.mod_lt x.natAbs (show y.natAbs>0 by omega);generalize x.natAbs %y.natAbs=r at*;rcases a0b y with⟨h1,h2⟩|⟨h1,h2⟩|⟨h1,h2⟩<;>rw [h2]
 ·exact⟨by omega,a1g (by omega)⟩
 ·exact absurd h1 hy
 exact⟨by omega,a1b (by omega)⟩
theorem b5o{x y:Int}(hy:y≠0)(ho:¬odd x y=true):(dq x y).natAbs=x.natAbs/y.natAbs/\(x.natAbs/y.natAbs≠0->sg (x*y)=sg (dq x y)):=by
 unfold dq;rw [if_neg ho];rcases a0b (x*y)with⟨h1,h2⟩|⟨h1,h2⟩|⟨h1,h2⟩<;>rw [h2]
 ·generalize x.natAbs/y.natAbs=q;exact⟨by omega,fun _=>by rw [a1g (by omega)]⟩
 ·have h3:x=0:=by
   rcases Int.mul_eq_zero.1 h1 with h4|h4
   ·exact h4
   exact absurd h4 hy
  subst h3;rw [show(0:Int).natAbs=0 from rfl,Nat.zero_div];exact⟨rfl,fun h=>absurd rfl h⟩
 generalize x.natAbs/y.natAbs=q;exact⟨by omega,fun _=>by rw [a1b (by omega)]⟩
theorem b7g{x y:Int}(ho:¬odd x y=true):(dr x y).natAbs=x.natAbs %y.natAbs/\(x.natAbs %y.natAbs≠0->sg x=sg (dr x y)):=by
 unfold dr;rw [if_neg ho];rcases a0b x with⟨h1,h2⟩|⟨h1,h2⟩|⟨h1,h2⟩<;>rw [h2]
 ·generalize x.natAbs %y.natAbs=r;exact⟨by omega,fun _=>by rw [a1g (by omega)]⟩
 ·subst h1;rw [show(0:Int).natAbs=0 from rfl,Nat.zero_mod];exact⟨rfl,fun h=>absurd rfl h⟩
 generalize x.natAbs %y.natAbs=r;exact⟨by omega,fun _=>by rw [a1b (by omega)]⟩
theorem dig_one:dig 1= [1]:=by rw [a3o (by decide),show 1/1048576=0 from rfl,dig_zero];rfl
theorem f2d(x y:Int)(xs ys:List Int):decide (x::xs=y::ys)=(decide (x=y)&&decide (xs=ys)):=by
 by_cases h:x=y<;>by_cases h2:xs=ys<;>simp [h,h2]
theorem a7t{u:Nat}(h:u<18446744073709551616):(dig u).length<=4:=by
 have h1:Sm 4 (u:Int):=by unfold Sm;rw [Int.natAbs_natCast,show pw 4=1208925819614629174706176 by decide];omega
 have h2:=a0d h1
 rwa [Int.natAbs_natCast]at h2
theorem e3a{x:Int}{i:Nat}(hi:i<=60)(h0:0<=x)(h1:x*2^i<18446744073709551616):shl .u64 x (i:Int)=some (x*2^i):=by
 unfold shl;have h3:0<=x*2^i:=Int.mul_nonneg h0 (Int.le_of_lt (Int.pow_pos (by decide)));rw [if_neg (by omega),show min (i:Int).toNat IntKind.u64.bits=i by simp [IntKind.bits];omega,a6p]
 congr 1
 omega
theorem e1w{x y:Int}{i:Nat}(h0:0<=x)(h1:x<2^i)(h2:0<=y)(h3:x+y*2^i<18446744073709551616):ior .u64 x (y*2^i)=x+y*2^i:=by
 obtain⟨p,rfl⟩:=Int.eq_ofNat_of_zero_le h0;obtain⟨q,rfl⟩:=Int.eq_ofNat_of_zero_le h2
 have h1':p<2^i:=by have:((p:Nat):Int)<((2^i:Nat):Int):=by simpa using h1
                    exact Int.ofNat_lt.1 this
 have e:(q:Int)*2^i=((2^i*q:Nat):Int):=by rw [Int.natCast_mul,Int.mul_comm];simp
 rw [e]at h3⊢;unfold ior;rw [BitVec.toNat_or,BitVec.toNat_ofInt,BitVec.toNat_ofInt,show IntKind.u64.bits=64 from rfl];have e1:((p:Int) %((2^64:Nat):Int)).toNat=p:=by omega
 have e2:(((2^i*q:Nat):Int) %((2^64:Nat):Int)).toNat=2^i*q:=by omega
 rw [e1,e2,Nat.or_comm,<-Nat.two_pow_add_eq_or_of_lt h1',a6p];omega
theorem pw_two:∀i,pw i=2^(20*i)
 |0=>rfl
 |i+1=>by rw [pw,pw_two i,Nat.mul_add,Int.pow_add,Int.mul_comm];rfl
def toF(r:Rat):Frac:=⟨toB r.num,toB (r.den:Int)⟩
def SmF(k:Nat)(r:Rat):Prop:=Sm k r.num/\Sm k (r.den:Int)
def zeroF:Frac:=⟨⟨0,[]⟩,⟨0,[]⟩⟩
theorem b5e(r:Rat):0<(r.den:Int):=by have:=r.den_nz;omega
theorem SmF.mono{j k:Nat}{r:Rat}(h:SmF j r)(hk:j<=k):SmF k r:=⟨h.1.mono hk,h.2.mono hk⟩
theorem a7f{p q:Int}(hq:0<q):(Rat.divInt p q).num=p/((Nat.gcd p.natAbs q.natAbs:Nat):Int)/\((Rat.divInt p q).den:Int)=q/((Nat.gcd p.natAbs q.natAbs:Nat):Int):=by
 obtain⟨d,rfl⟩:=Int.eq_ofNat_of_zero_le (Int.le_of_lt hq);have hd:d≠0:=by omega
 rw [Rat.divInt_ofNat,Rat.mkRat_def,dif_neg hd,Rat.normalize_eq,Int.natAbs_natCast];exact⟨rfl,Int.natCast_ediv _ _⟩
theorem b7h(a b:Rat):a+b=Rat.divInt (a.num*b.den+b.num*a.den) (a.den*b.den):=by
 conv=>lhs;rw [<-Rat.num_divInt_den a,<-Rat.num_divInt_den b]
 rw [Rat.divInt_add_divInt _ _ (by have:=b5e a;omega) (by have:=b5e b;omega)]
theorem c1i(a b:Rat):a*b=Rat.divInt (a.num*b.num) (a.den*b.den):=by
 conv=>lhs;rw [<-Rat.num_divInt_den a,<-Rat.num_divInt_den b]
 rw [Rat.divInt_mul_divInt]
theorem c3u{x y:Int}(hy:0<y):dq x y=x/y:=by
 obtain⟨h1,h2,h3⟩:=f1y (x:=x) (y:=y) (by omega);have h4:0<=dr x y/\dr x y<y:=by
  rcases h2 with h|h
  ·omega
  rw [a1b hy]at h;have:=a0b (dr x y);omega
 generalize dq x y=q at*;generalize dr x y=r at*;rw [<-h1,Int.add_comm,Int.add_mul_ediv_right _ _ (by omega),Int.ediv_eq_zero_of_lt h4.1 h4.2];omega
theorem b7l{x y:Int}{k:Nat}(h:Sm k x):Sm k (x/y):=h.le (Int.natAbs_ediv_le_natAbs x y)
theorem a7v(p q:Int):Rat.divInt p q=Rat.divInt (-p) (-q):=(Rat.neg_divInt_neg p q).symm
theorem a4o{p q:Int}{k:Nat}(hp:Sm k p)(hq:Sm k q)(h0:q≠0):SmF k (Rat.divInt p q):=by
 by_cases hn:q<0
 ·rw [a7v];obtain⟨e1,e2⟩:=a7f (p:=-p) (q:=-q) (by omega);exact⟨by rw [e1];exact b7l hp.neg,by rw [e2];exact b7l hq.neg⟩
 obtain⟨e1,e2⟩:=a7f (p:=p) (q:=q) (by omega);exact⟨by rw [e1];exact b7l hp,by rw [e2];exact b7l hq⟩
theorem b2q{x y:Int}(hx:x≠0)(hy:y≠0):x*y≠0:=Int.mul_ne_zero hx hy
theorem a4i(r:Rat):(r.den:Int)≠0:=by have:=b5e r;omega
theorem SmF.add{j k:Nat}{a b:Rat}(ha:SmF j a)(hb:SmF k b):SmF (j+k+1) (a+b):=by
 rw [b7h];exact a4o ((ha.1.mul hb.2).add ((hb.1.mul ha.2).mono (by omega))) ((ha.2.mul hb.2).mono (by omega)) (b2q (a4i a) (a4i b))
theorem SmF.mul{j k:Nat}{a b:Rat}(ha:SmF j a)(hb:SmF k b):SmF (j+k) (a*b):=by
 rw [c1i];exact a4o (ha.1.mul hb.1) (ha.2.mul hb.2) (b2q (a4i a) (a4i b))
theorem SmF.neg{k:Nat}{a:Rat}(ha:SmF k a):SmF k (-a):=⟨by rw [Rat.neg_num];exact ha.1.neg,by rw [Rat.neg_den];exact ha.2⟩
theorem SmF.sub{j k:Nat}{a b:Rat}(ha:SmF j a)(hb:SmF k b):SmF (j+k+1) (a-b):=by rw [Rat.sub_eq_add_neg];exact ha.add hb.neg
def ofB(a:Big):Int:=a.Sign*val a.Digits
theorem a3d(x:Int):ofB (toB x)=x:=by unfold ofB toB;rw [a0h,b1p]
def a0f(f:Frac):Bool:=a1f f.P&&a1f f.Q&&(f.Q.Sign==1)&&(Nat.gcd (ofB f.P).natAbs (ofB f.Q).natAbs==1)
theorem a2u(r:Rat):a0f (toF r)=true:=by
 unfold a0f toF;simp only;rw [a4y,a4y,a3d,a3d];have h1:(toB (r.den:Int)).Sign=1:=a1b (b5e r);rw [h1,Int.natAbs_natCast];have h2:Nat.gcd r.num.natAbs r.den=1:=r.reduced;rw [h2];rfl
theorem a3g{f:Frac}(h:a0f f=true):∃r,f=toF r:=by
 obtain⟨P,Q⟩:=f;unfold a0f at h;simp only [Bool.and_eq_true,beq_iff_eq]at h;obtain⟨⟨⟨h1,h2⟩,h3⟩,h4⟩:=h;obtain⟨p,rfl⟩:=a2b h1;obtain⟨q,rfl⟩:=a2b h2;rw [a3d,a3d]at h4;have h5:0<q:=by have h6:sg q=1:=h3;have:=a0b q;omega
 obtain⟨d,rfl⟩:=Int.eq_ofNat_of_zero_le (Int.le_of_lt h5);refine⟨⟨p,d,by omega,?_⟩,rfl⟩
 rwa [Int.natAbs_natCast]at h4
theorem b5s{p q:Int}{k:Nat}(hp:Sm k p)(hq:Sm k q):Sm k ((Nat.gcd p.natAbs q.natAbs:Nat):Int):=by
 by_cases h0:p.natAbs=0
 ·rw [h0,Nat.gcd_zero_left];exact hq.le (by omega)
 exact hp.le (by have:=Nat.gcd_le_left q.natAbs (Nat.pos_of_ne_zero h0);omega)
theorem a4a{r:Rat}{k:Nat}(h:SmF k r):(toF r).P.Digits.length<=k/\(toF r).Q.Digits.length<=k:=⟨a0d h.1,a0d h.2⟩
def cmpQ(a b:Rat):Int:=sg (a.num*b.den-b.num*a.den)
theorem e6h{a b:Rat}(h:a<b):cmpQ a b=-1:=by
 have:=Rat.lt_iff a b;exact a1g (by have:=this.1 h;omega)
theorem e3j{a b:Rat}(h:b<a):cmpQ a b=1:=by
 have:=Rat.lt_iff b a;exact a1b (by have:=this.1 h;omega)
theorem d0p(a:Rat):cmpQ a a=0:=by unfold cmpQ;rw [Int.sub_self];rfl
theorem a0q(a b:Rat):(a<b/\cmpQ a b=-1)∨(a=b/\cmpQ a b=0)∨(b<a/\cmpQ a b=1):=by
 by_cases h:a<b
 ·exact .inl ⟨h,e6h h⟩
 by_cases h2:b<a
 ·exact .inr (.inr ⟨h2,e3j h2⟩)
 have e:a=b:=Rat.le_antisymm (Rat.not_lt.1 h2) (Rat.not_lt.1 h);exact .inr (.inl ⟨e,by rw [e];exact d0p b⟩)
theorem d1w(a b:Rat):(cmpQ a b==0)=decide (a=b):=by
 rcases a0q a b with⟨h,e⟩|⟨h,e⟩|⟨h,e⟩<;>rw [e]
 ·rw [decide_eq_false (by grind)];rfl
 ·rw [decide_eq_true h];rfl
 rw [decide_eq_false (by grind)];rfl
theorem a5x(r:Rat):sg r.num=cmpQ r 0:=by
 unfold cmpQ
 congr 1
 show r.num=r.num*1-0*r.den;omega
end Dp
namespace Dp
open Go Go.RowKit Go.Proofs.YtjegnogjkddnbaaGreatDoor.Rt Go.Proofs Go.Proofs.YtjegnogjkddnbaaGreatDoor.D
set_option linter.unusedVariables false
set_option maxHeartbeats 4000000
set_option maxRecDepth 100000
theorem c9o(x:Int):EvF tt 274 [.v (N x)] (B false):=by
 refine evF (eIn Tryz.func274 rfl rfl ?_);refine qR rfl ⟨?_,rfl⟩;show B (x !=x)=B false;simp
theorem e4d(x y:Int):EvF tt 222 [.v (N x),.v (N y)] (I (sg (x-y))):=by
 refine evF (eIn Tryz.func222 rfl rfl ?_);refine qK rfl (c9o x) rfl (qK rfl (c9o y) rfl ?_);refine qN rfl rfl (qN rfl rfl ?_);have hs:=a0b (x-y);refine qC rfl (fun h=> ?_) (fun h=> ?_)
 ·exact qR rfl ⟨by show I (-1)=_;rw [show sg (x-y)=-1 by omega],rfl⟩
 refine qC rfl (fun h=> ?_) (fun h=> ?_)
 ·exact qR rfl ⟨by show I 1=_;rw [show sg (x-y)=1 by omega],rfl⟩
 exact qR rfl ⟨by show I 0=_;rw [show sg (x-y)=0 by omega],rfl⟩
theorem e9h{c:List Int}(r:Nat)(hc:c.getLast?≠some 0)(hl:c.length+r<1099511627776){xs:List VT}(hx:xs=ns (c++List.replicate r 0)):EvH tt 120 [.row 0 0] [bk (.row 3 1 xs)] (.win 0 0 0 c.length) [⟨0,0,false,true,false,.row 3 1 xs⟩]:=by
 subst hx;refine evF (eInH 1 Tryz.func120 rfl rfl rfl ?_);refine qL (σ:=Int) (fun n=> [(3,I n)]) (fun _=> []) (fun n=>c.length<=n/\n<=c.length+r) Int.toNat (ns (c++List.replicate r 0)).length rfl rfl (by simp;omega) ?_;intro n ⟨h1,h2⟩ ih;refine qC rfl (fun h=> ?_) (fun h=> ?_)
 ·refine qXm rfl (by rw [a0c (by omega) (by omega)];simp;omega) fun v hv _=> ?_;rw [a0c (by omega) (by omega)]at hv;refine qC rfl (fun h'=> ?_) (fun h'=> ?_)
  ·subst h';refine qB (ih (isub .i64 n 1) ?_ ?_) rfl
   ·rw [a0c (by omega) (by omega)];refine⟨?_,by omega⟩;rcases Int.lt_or_le c.length n with h3|h3
    ·omega
    exfalso;have h4:(n-1).toNat=c.length-1:=by omega
    rw [h4,List.getElem?_append_left (by omega),<-List.getLast?_eq_getElem?]at hv;exact hc hv
   rw [a0c (by omega) (by omega)];omega
  have h3:n=c.length:=by
   rcases Int.lt_or_le c.length n with h3|h3
   ·exfalso;rw [List.getElem?_append_right (by omega),List.getElem?_replicate]at hv;split at hv
    ·cases hv;exact h' rfl
    cases hv
   omega
  exact qW rfl ⟨by omega,by omega,by simp;omega⟩ (qR rfl ⟨by subst h3;rfl,rfl⟩)
 exact qW rfl ⟨by omega,by omega,by simp;omega⟩ (qR rfl ⟨by rw [show n=(c.length:Int) by omega];rfl,rfl⟩)
theorem f0q{c:List Int}(r:Nat)(hc:c.getLast?≠some 0)(hl:c.length+r<1099511627776){xs:List VT}(hx:xs=ns (c++List.replicate r 0)):EvF tt 120 [.v (.sl xs)] (L (ns c)):=by
 subst hx;refine evF (eIn Tryz.func120 rfl rfl ?_);have hend:∀n:Int,n=c.length->(((ns (c++List.replicate r 0)).take n.toNat).drop (0:Int).toNat)=ns c:=fun n h=>by subst h;simp
 refine qL (σ:=Int) (fun n=> [(3,I n)]) (fun _=> []) (fun n=>c.length<=n/\n<=c.length+r) Int.toNat (ns (c++List.replicate r 0)).length rfl rfl (by simp;omega) ?_;intro n ⟨h1,h2⟩ ih;refine qC rfl (fun h=> ?_) (fun h=> ?_)
 ·refine qXm rfl (by rw [a0c (by omega) (by omega)];simp;omega) fun v hv _=> ?_;rw [a0c (by omega) (by omega)]at hv;refine qC rfl (fun h'=> ?_) (fun h'=> ?_)
  ·subst h';refine qB (ih (isub .i64 n 1) ?_ ?_) rfl
   ·rw [a0c (by omega) (by omega)];refine⟨?_,by omega⟩;rcases Int.lt_or_le c.length n with h3|h3
    ·omega
    exfalso;have h4:(n-1).toNat=c.length-1:=by omega
    rw [h4,List.getElem?_append_left (by omega),<-List.getLast?_eq_getElem?]at hv;exact hc hv
   rw [a0c (by omega) (by omega)];omega
  have h3:n=c.length:=by
   rcases Int.lt_or_le c.length n with h3|h3
   ·exfalso;rw [List.getElem?_append_right (by omega),List.getElem?_replicate]at hv;split at hv
    ·cases hv;exact h' rfl
    cases hv
   omega
  exact qSl 1 rfl rfl (a2r _) ⟨by omega,by omega,by simp;omega⟩ (qR rfl ⟨congrArg L (hend n h3),rfl⟩)
 exact qSl 1 rfl rfl (a2r _) ⟨by omega,by omega,by simp;omega⟩ (qR rfl ⟨congrArg L (hend n (by omega)),rfl⟩)
theorem b0h{l:List Int}(hl:InR l)(hlen:l.length<1099511627776){xs:List VT}(hx:xs=ns l):EvH tt 120 [.row 0 0] [bk (.row 3 1 xs)] (.win 0 0 0 (dig (val l).toNat).length) [⟨0,0,false,true,false,.row 3 1 xs⟩]/\xs.take (dig (val l).toNat).length=ns (dig (val l).toNat):=by
 obtain⟨r,hr⟩:=split_dig hl;have h2:(dig (val l).toNat).length+r=l.length:=by have:=congrArg List.length hr;simpa using this.symm
 refine⟨e9h r (a5t _) (by omega) (hx.trans (congrArg ns hr)),?_⟩;rw [hx,congrArg ns hr];simp
theorem a1x(s:Int)(v:Nat)(h:(dig v).length<1099511627776):EvF tt 111 [.v (N s),.v (.sl (ns (dig v)))] (.v (eB (if v=0 then⟨0,[]⟩else⟨s,dig v⟩))):=by
 refine evF (eIn Tryz.func111 rfl rfl ?_);refine qK rfl (f0q (c:=dig v) 0 (a5t v) (by simpa using h) (by simp)) rfl ?_;have hd:= @a5a v;refine qC rfl (fun h=> ?_) (fun h=> ?_)
 ·have h0:v=0:=hd.1 (List.length_eq_zero_iff.1 (by simpa using h));exact qR rfl ⟨by rw [if_pos h0];rfl,rfl⟩
 have h0:v≠0:=fun e=>h (by rw [hd.2 e];rfl);exact qR rfl ⟨by rw [if_neg h0];rfl,rfl⟩
theorem b5v(a:Big)(hl:a.Digits.length<1099511627776):EvF tt 107 [.v (eB a)] (B (a1f a)):=by
 refine evF (eIn Tryz.func107 rfl rfl ?_);have hlm:(ns a.Digits).length=a.Digits.length:=List.length_map ..;refine qL (σ:=Int) (fun i=> [(12,I i)]) (fun _=> []) (fun i=>∃k:Nat,i=k/\k<=a.Digits.length/\(a.Digits.take k).all okd=true) (fun i=>a.Digits.length-i.toNat) 0 rfl rfl ⟨0,rfl,by omega,by simp⟩ ?_;rintro i ⟨k,rfl,hk,ho⟩ ih;refine qC rfl (fun h=> ?_) (fun h=> ?_)
 ·rw [hlm]at h;refine qXm rfl ⟨by omega,by omega⟩ fun d hd _=> ?_;rw [Int.toNat_natCast]at hd;have hmem:d∈a.Digits:=List.mem_of_getElem? hd;have hbad:¬okd d=true->a1f a=false:=fun h=>by
   have:a.Digits.all okd=false:=by rw [List.all_eq_false];exact⟨d,hmem,h⟩
   unfold a1f;rw [this];rfl
  refine qC rfl (fun h1=> ?_) (fun h1=> ?_)
  ·exact qR rfl ⟨by rw [hbad (by unfold okd;simp;omega)];rfl,rfl⟩
  refine qC rfl (fun h2=> ?_) (fun h2=> ?_)
  ·exact qR rfl ⟨by rw [hbad (by unfold okd;simp;omega)];rfl,rfl⟩
  refine qB (ih _ ⟨k+1,by rw [a0e (by omega) (by omega)];omega,by omega,?_⟩ (by rw [a0e (by omega) (by omega)];omega)) rfl;rw [List.take_add_one,hd];simp [ho,okd];omega
 rw [hlm]at h;have hk2:k=a.Digits.length:=by omega
 subst hk2;rw [List.take_length]at ho;refine qC rfl (fun h1=> ?_) (fun h1=> ?_)
 ·rw [hlm]at h1;have h2:a.Digits= []:=List.length_eq_zero_iff.1 (by omega);refine qR rfl ⟨?_,rfl⟩;unfold a1f;rw [ho,if_pos h2];rfl
 rw [hlm]at h1;have h2:a.Digits≠ []:=fun e=>h1 (by rw [e];rfl);have hr:a1f a=((a.Sign==1||a.Sign==-1)&&(a.Digits.getLast?.getD 0 !=0)):=by unfold a1f;rw [ho,if_neg h2,Bool.true_and]
 have hb:0<=isub .i64 (ns a.Digits).length 1/\isub .i64 (ns a.Digits).length 1<a.Digits.length:=by rw [hlm,a0c (by omega) (by omega)];omega
 have hg:∀v,a.Digits[(isub .i64 (ns a.Digits).length 1).toNat]?=some v->a.Digits.getLast?=some v:=fun v hv=>by
  rw [hlm,a0c (by omega) (by omega),show((a.Digits.length:Int)-1).toNat=a.Digits.length-1 by omega]at hv;rw [List.getLast?_eq_getElem?];exact hv
 rw [hr];refine qC rfl (fun h3=> ?_) (fun h3=> ?_)
 ·refine qXm rfl hb fun v hv _=> ?_;refine qR rfl ⟨?_,rfl⟩;rw [hg v hv,h3];rfl
 refine qC rfl (fun h4=> ?_) (fun h4=> ?_)
 ·refine qXm rfl hb fun v hv _=> ?_;refine qR rfl ⟨?_,rfl⟩;rw [hg v hv,h4];rfl
 refine qR rfl ⟨?_,rfl⟩;rw [beq_eq_false_iff_ne.2 h3,beq_eq_false_iff_ne.2 h4];rfl
theorem b9g{a b:List Int}(ha:Canon a)(hb:Canon b)(hla:a.length<1099511627776):EvF tt 223 [.v (.sl (ns a)),.v (.sl (ns b))] (I (sg (val a-val b))):=by
 refine evF (eIn Tryz.func223 rfl rfl ?_);have hlm:(ns a).length=a.length:=List.length_map ..;have hlm2:(ns b).length=b.length:=List.length_map ..;refine qC rfl (fun h=> ?_) (fun h=> ?_)
 ·rw [hlm,hlm2]at h;refine qK rfl (e4d _ _) rfl (qR rfl ⟨?_,rfl⟩);rw [hlm,hlm2];refine congrArg I ?_;have hs:=a0b (val a-val b);have hs2:=a0b ((a.length:Int)-b.length);rcases Nat.lt_or_ge a.length b.length with h|h
  ·have:=val_lt_of_len ha.1 hb h;omega
  have:=val_lt_of_len hb.1 ha (by omega);omega
 have hl:a.length=b.length:=by omega
 refine qL (σ:=Int) (fun i=> [(5,I i)]) (fun _=> []) (fun i=>∃k:Nat,i=(k:Int)-1/\k<=a.length/\cmpD (a.drop k) (b.drop k)=0) (fun i=>(i+1).toNat) (isub .i64 (ns a).length 1) rfl rfl ⟨a.length,by rw [hlm,a0c (by omega) (by omega)],by omega,by rw [List.drop_length,hl,List.drop_length];rfl⟩ ?_;rintro i ⟨k,rfl,hk,h0⟩ ih;refine qC rfl (fun h1=> ?_) (fun h1=> ?_)
 ·obtain⟨k,rfl⟩:∃j,k=j+1:=⟨k-1,by omega⟩
  have e1:(((k+1:Nat):Int)-1).toNat=k:=by omega
  refine qXm rfl ⟨by omega,by omega⟩ fun x hx hx1=> ?_;refine qXm rfl ⟨by omega,by omega⟩ fun y hy hy1=> ?_;rw [e1]at hx hy;have e2:cmpD (a.drop k) (b.drop k)=sg (x-y):=by
   obtain⟨q1,q2⟩:=List.getElem?_eq_some_iff.1 hx;obtain⟨q3,q4⟩:=List.getElem?_eq_some_iff.1 hy;rw [List.drop_eq_getElem_cons q1,List.drop_eq_getElem_cons q3,q2,q4];simp only [cmpD,h0,if_true]
  refine qE rfl (by kernel_rfl) (by kernel_rfl) ?_;refine qC rfl (fun h2=> ?_) (fun h2=> ?_)
  ·refine qXm rfl ⟨by omega,by omega⟩ fun x' hx' _=> ?_;refine qXm rfl ⟨by omega,by omega⟩ fun y' hy' _=> ?_;rw [e1]at hx' hy';rw [hx]at hx';rw [hy]at hy';cases hx';cases hy';refine qK rfl (e4d x y) rfl ?_;have hs:=a0b (x-y);have e3:cmpD a b=sg (x-y):=by rw [cmpD_drop k a b (by rw [e2];omega),e2]
   refine qE rfl (by kernel_rfl) (by kernel_rfl) ?_;exact qR rfl ⟨by rw [<-cmpD_val ha.1 hb.1 hl,e3];rfl,rfl⟩
  have h2:x=y:=Classical.byContradiction h2;refine qB (ih _ ⟨k,by rw [a0c (by omega) (by omega)];omega,by omega,?_⟩ (by rw [a0c (by omega) (by omega)];omega)) rfl;rw [e2,h2];simp [sg]
 have hk0:k=0:=by omega
 subst hk0;simp only [List.drop_zero]at h0;exact qR rfl ⟨by rw [<-cmpD_val ha.1 hb.1 hl,h0];rfl,rfl⟩
set_option linter.unusedVariables false
set_option maxHeartbeats 4000000
set_option maxRecDepth 100000
theorem hlm(l:List Int):(ns l).length=l.length:=List.length_map ..
theorem a2x(l:List Int)(k:Nat)(x:Int):(ns l).set k (N x)=ns (l.set k x):=(List.map_set ..).symm
theorem a5r{α:Type}(p:List α)(x y:α)(s:List α){k:Nat}(hk:k=p.length):(p++x::s).set k y=p++y::s:=by
 subst hk;simp
theorem c2j(n:Nat)(x:Int)(h:0<n):List.replicate n x=x::List.replicate (n-1) x:=by
 obtain⟨m,rfl⟩:∃m,n=m+1:=⟨n-1,by omega⟩
 rfl
theorem e7p{a b:List Int}(ha:InR a)(hb:InR b)(hla:a.length<1073741824)(hlb:b.length<1073741824):EvF tt 118 [.v (.sl (ns a)),.v (.sl (ns b))] (L (ns (dig (val a+val b).toNat))):=by
 refine evF (eIn Tryz.func118 rfl rfl ?_);obtain⟨V,hV⟩:∃V,V=val a+val b:=⟨_,rfl⟩
 rw [<-hV];refine qC rfl (fun h=> ?_) (fun h=> ?_);all_goals rw [hlm,hlm]at h
 case' refine_1=>obtain⟨x,y,hx,hy,hlx,hle,hv,e1,e2⟩:∃x y,InR x/\InR y/\x.length<1073741824/\y.length<=x.length/\V=val x+val y/\x=b/\y=a:=⟨b,a,hb,ha,hlb,by omega,by omega,rfl,rfl⟩
 case' refine_2=>obtain⟨x,y,hx,hy,hlx,hle,hv,e1,e2⟩:∃x y,InR x/\InR y/\x.length<1073741824/\y.length<=x.length/\V=val x+val y/\x=a/\y=b:=⟨a,b,ha,hb,hla,by omega,by omega,rfl,rfl⟩
 all_goals
  clear h hV ha hb hla hlb;subst e1 e2;have hx1:(iadd .i64 (ns x).length 1)=(x.length:Int)+1:=by rw [hlm,a0e (by omega) (by omega)]
  refine qM 8 rfl rfl ⟨by rw [hx1];omega,by rw [hx1];omega⟩ ?_;refine qL (σ:=Int×Int×List VT) (fun s=> [(22,I s.1),(6,I s.2.1)]) (fun s=> [(0,.row 3 1 s.2.2)])
   (fun s=>∃(k:Nat)(pre:List Int),s.1=k/\pre.length=k/\k<=x.length/\0<=s.2.1/\s.2.1<=1/\s.2.2=ns (pre++List.replicate (x.length+1-k) 0)/\addD 0 x y=(pre++(addD s.2.1 (x.drop k) (y.drop k)).1,(addD s.2.1 (x.drop k) (y.drop k)).2))
   (fun s=>x.length-s.1.toNat) (0,0,List.replicate (iadd .i64 (ns x).length 1).toNat (N 0)) rfl rfl ⟨0,[],rfl,rfl,by omega,Int.le_refl 0,by show(0:Int)<=1;decide,by rw [hx1,show((x.length:Int)+1).toNat=x.length+1 by omega];simp,by simp⟩ ?_
  rintro⟨i,c,xs⟩ ⟨k,pre,hi,hp,hk,h0,h1,hxs,hadd⟩ ih;dsimp only at hi h0 h1 hxs hadd;subst hi hxs;refine qC rfl (fun h=> ?_) (fun h=> ?_)
  ·rw [hlm]at h;refine qXm rfl ⟨by omega,by omega⟩ fun d hd _=> ?_;rw [Int.toNat_natCast]at hd;obtain⟨q1,q2⟩:=List.getElem?_eq_some_iff.1 hd;have hdx:x.drop k=d::x.drop (k+1):=by rw [List.drop_eq_getElem_cons q1,q2]
   have hd0:=(hdx▸InR.drop hx k).head;have hy0:=(InR.drop hy k).headD;have hrep:List.replicate (x.length+1-k) (0:Int)=0::List.replicate (x.length+1-(k+1)) 0:=by rw [c2j _ _ (by omega)];congr 2
   have hnext:∀t,t=c+d+(y.drop k).headD 0->∃(k':Nat)(pre':List Int),iadd .i64 (k:Int) 1=k'/\pre'.length=k'/\k'<=x.length/\0<=t/1048576/\t/1048576<=1/\(ns (pre++List.replicate (x.length+1-k) 0)).set (k:Int).toNat (N (iand .i64 t 1048575))=ns (pre'++List.replicate (x.length+1-k') 0)/\addD 0 x y=(pre'++(addD (t/1048576) (x.drop k') (y.drop k')).1,(addD (t/1048576) (x.drop k') (y.drop k')).2):=by
    intro t ht;refine⟨k+1,pre++ [t %1048576],by rw [a0e (by omega) (by omega)];omega,by simp [hp],by omega,by omega,by omega,?_,?_⟩
    ·rw [a6b,a2x,hrep,Int.toNat_natCast,a5r _ _ _ _ hp.symm];simp
    rw [hadd,hdx];simp only [addD,<-ht,List.append_assoc,List.singleton_append,List.tail_drop]
   refine qC rfl (fun h2=> ?_) (fun h2=> ?_)
   ·rw [hlm]at h2;refine qXm rfl ⟨by omega,by omega⟩ fun e he _=> ?_;rw [Int.toNat_natCast]at he;obtain⟨q3,q4⟩:=List.getElem?_eq_some_iff.1 he;have hdy:(y.drop k).headD 0=e:=by rw [List.drop_eq_getElem_cons q3,q4];rfl
    rw [hdy]at hy0;refine qXm rfl ⟨by omega,by simp;omega⟩ fun _ _ _=>qV rfl (a5k _) (qB (ih (_,_,_) (hnext (iadd .i64 (iadd .i64 c d) e) ?_) (by show x.length-(iadd .i64 (k:Int) 1).toNat<x.length-(k:Int).toNat;rw [a0e (by omega) (by omega)];omega)) (by kernel_rfl));rw [hdy,a0e (x:=c) (by omega) (by omega),a0e (by omega) (by omega)]
   rw [hlm]at h2;have hdy:(y.drop k).headD 0=0:=by rw [List.drop_eq_nil_of_le (by omega)];rfl
   refine qXm rfl ⟨by omega,by simp;omega⟩ fun _ _ _=>qV rfl (a5k _) (qB (ih (_,_,_) (hnext (iadd .i64 c d) ?_) (by show x.length-(iadd .i64 (k:Int) 1).toNat<x.length-(k:Int).toNat;rw [a0e (by omega) (by omega)];omega)) (by kernel_rfl));rw [hdy,a0e (x:=c) (by omega) (by omega)];omega
  rw [hlm]at h;obtain rfl:k=x.length:=by omega
  have e2:=addD_len x y 0;have e3:=addD_carry x y 0 hx hy (by decide) (by decide);have e4:=addD_val x y 0 hle;have hpre:addD 0 x y=(pre,c):=by rw [hadd,List.drop_length];simp [addD]
  rw [hpre]at e2 e3 e4;refine qXm rfl ⟨by rw [hlm];omega,by rw [hlm];simp;omega⟩ fun _ _ _=> ?_;have hout:(ns (pre++List.replicate (x.length+1-x.length) 0)).set ((ns x).length:Int).toNat (N c)=ns (pre++ [c]):=by
   rw [a2x,hlm,show x.length+1-x.length=1 by omega,Int.toNat_natCast];show ns ((pre++ [0]).set _ c)=_;rw [a5r _ _ _ _ hp.symm]
  have hin:=addD_in x y 0;rw [hpre]at hin;have hval:val (pre++ [c])=V:=by
   rw [<-a7z];simp only [val,Int.mul_zero,Int.add_zero];rw [e4,hv];omega
  obtain⟨k1,k2⟩:=b0h (l:=pre++ [c]) (hin.append (InR.cons e3.1 (by omega) InR.nil)) (by simp;omega) hout;rw [hval]at k1 k2;refine qK rfl k1 rfl (qR rfl ⟨?_,rfl⟩);show L (List.take _ (List.drop 0 _))=_;rw [List.drop_zero];exact congrArg L k2
theorem a3c{l:List Int}{k:Nat}{d:Int}(hd:l[k]?=some d):l.drop k=d::l.drop (k+1):=by
 obtain⟨q1,q2⟩:=List.getElem?_eq_some_iff.1 hd;rw [List.drop_eq_getElem_cons q1,q2]
theorem c0m{k n:Nat}(h:(k:Int)<n)(hn:n<4611686018427387904):iadd .i64 (k:Int) 1=((k+1:Nat):Int)/\n-(iadd .i64 (k:Int) 1).toNat<n-(k:Int).toNat:=by
 rw [a0e (by omega) (by omega)];omega
theorem f1o{a b:List Int}(ha:InR a)(hb:InR b)(hla:a.length<1073741824)(hlb:b.length<=a.length)(h:val b<=val a):EvF tt 177 [.v (.sl (ns a)),.v (.sl (ns b))] (L (ns (dig (val a-val b).toNat))):=by
 refine evF (eIn Tryz.func177 rfl rfl ?_);refine qU 1 8 rfl rfl rfl (a2r _) ?_;refine qL (σ:=Int×Int×List VT) (fun s=> [(13,I s.1),(6,I s.2.1)]) (fun s=> [(0,.row 3 1 s.2.2)])
  (fun s=>∃(k:Nat)(pre:List Int),s.1=k/\pre.length=k/\k<=a.length/\0<=s.2.1/\s.2.1<=1/\s.2.2=ns (pre++a.drop k)/\setD 1 0 a b=(pre++(setD 1 s.2.1 (a.drop k) (b.drop k)).1,(setD 1 s.2.1 (a.drop k) (b.drop k)).2))
  (fun s=>a.length-s.1.toNat) (0,0,ns a) rfl rfl ⟨0,[],rfl,rfl,by omega,Int.le_refl 0,by show(0:Int)<=1;decide,rfl,rfl⟩ ?_
 rintro⟨i,c,xs⟩ ⟨k,pre,hi,hp,hk,h0,h1,hxs,hset⟩ ih;dsimp only at hi h0 h1 hxs hset;subst hi hxs;refine qC rfl (fun h2=> ?_) (fun h2=> ?_)
 ·rw [show(Src.ys {ys:=ns a,zs:= [],rd:= [],chk:=true}).length=a.length from hlm a]at h2;have hlen:(pre++a.drop k).length=a.length:=by simp [hp];omega
  refine qXm rfl ⟨by omega,by omega⟩ fun d hd _=> ?_;rw [Int.toNat_natCast,List.getElem?_append_right (by omega),hp,Nat.sub_self,List.getElem?_drop,Nat.add_zero]at hd;have hdx:=a3c hd;have hd0:=(hdx▸InR.drop ha k).head;have hy0:=(InR.drop hb k).headD;have hinc:=c0m h2 (by omega);have hnext:∀t,t=d-c-(b.drop k).headD 0->∃(k':Nat)(pre':List Int),iadd .i64 (k:Int) 1=k'/\pre'.length=k'/\k'<=a.length/\0<=iand .i64 (t/1048576) 1/\iand .i64 (t/1048576) 1<=1/\(ns (pre++a.drop k)).set (k:Int).toNat (N (iand .i64 t 1048575))=ns (pre'++a.drop k')/\setD 1 0 a b=(pre'++(setD 1 (iand .i64 (t/1048576) 1) (a.drop k') (b.drop k')).1,(setD 1 (iand .i64 (t/1048576) 1) (a.drop k') (b.drop k')).2):=by
   intro t ht;obtain⟨b1,b2,b3⟩:=d9c h0 h1 hd0.1 hd0.2 hy0.1 hy0.2 ht;rw [d6h,b1];refine⟨k+1,pre++ [t %1048576],hinc.1,by simp [hp],by omega,by omega,by omega,?_,?_⟩
   ·rw [a6b,a2x,hdx,Int.toNat_natCast,a5r _ _ _ _ hp.symm];simp
   rw [hset,hdx];have e8:d-c-1*(b.drop k).headD 0=t:=by rw [ht,Int.one_mul]
   simp only [setD,e8,List.append_assoc,List.singleton_append,List.tail_drop]
  refine qC rfl (fun h3=> ?_) (fun h3=> ?_)
  ·rw [hlm]at h3;refine qXm rfl ⟨by omega,by omega⟩ fun e he _=> ?_;rw [Int.toNat_natCast]at he;have hdy:(b.drop k).headD 0=e:=by rw [a3c he];rfl
   rw [hdy]at hy0;refine qV rfl (a5k _) (qXm rfl ⟨by omega,by omega⟩ fun _ _ _=>qB (ih (_,_,_) (hnext (isub .i64 (isub .i64 d c) e) ?_) hinc.2) (by kernel_rfl));rw [hdy,a0c (x:=d) (by omega) (by omega),a0c (by omega) (by omega)]
  rw [hlm]at h3;have hdy:(b.drop k).headD 0=0:=by rw [List.drop_eq_nil_of_le (by omega)];rfl
  refine qV rfl (a5k _) (qXm rfl ⟨by omega,by omega⟩ fun _ _ _=>qB (ih (_,_,_) (hnext (isub .i64 d c) ?_) hinc.2) (by kernel_rfl));rw [hdy,a0c (x:=d) (by omega) (by omega)];omega
 rw [show(Src.ys {ys:=ns a,zs:= [],rd:= [],chk:=true}).length=a.length from hlm a]at h2;obtain rfl:k=a.length:=by omega
 have h2:=b5b (g:=1) ha hb hlb (by decide) (by omega);rw [hset,List.drop_length]at h2;simp only [setD,List.append_nil,Int.one_mul]at h2;have hin:=a6m 1 a b 0;rw [hset,List.drop_length]at hin;simp only [setD,List.append_nil]at hin;obtain⟨k1,k2⟩:=b0h (l:=pre) hin (by omega) (show ns (pre++a.drop a.length)=ns pre by rw [List.drop_length,List.append_nil]);rw [h2.2]at k1 k2;refine qK rfl k1 rfl (qR rfl ⟨?_,rfl⟩);show L (List.take _ (List.drop 0 _))=_;rw [List.drop_zero];exact congrArg L k2
theorem c0j{a:List Int}{d:Int}(ha:InR a)(hla:a.length<1073741824)(hd:0<d)(hd1:d<=1048576):EvF tt 128 [.v (.sl (ns a)),.v (N d)] (.tup [L (ns (dig (val a/d).toNat)),I (val a %d)]):=by
 refine evF (eIn Tryz.func128 rfl rfl ?_);refine qM 8 rfl rfl ⟨by rw [hlm];omega,by rw [hlm];omega⟩ ?_;refine qL (σ:=Int×Int×List VT) (fun s=> [(8,I s.1),(7,I s.2.1)]) (fun s=> [(0,.row 3 1 s.2.2)])
  (fun s=>∃(k:Nat),s.1=(k:Int)-1/\k<=a.length/\s.2.2=ns (List.replicate k 0++(a0z d (a.drop k) 0).1)/\s.2.1=(a0z d (a.drop k) 0).2)
  (fun s=>(s.1+1).toNat) (isub .i64 (ns a).length 1,0,List.replicate ((ns a).length:Int).toNat (N 0)) rfl rfl ⟨a.length,by rw [hlm];show isub .i64 _ 1=_;rw [a0c (by omega) (by omega)],by omega,by rw [List.drop_length,hlm];simp [a0z],by rw [List.drop_length];rfl⟩ ?_
 rintro⟨i,r,xs⟩ ⟨k,hi,hk,hxs,hr⟩ ih;dsimp only at hi hxs hr;subst hi hxs hr;refine qC rfl (fun h2=> ?_) (fun h2=> ?_)
 ·obtain⟨k,rfl⟩:∃j,k=j+1:=⟨k-1,by omega⟩
  have e0:((k+1:Nat):Int)-1=(k:Int):=by omega
  have hr:=a8h hd (a.drop (k+1)) 0 (by decide) hd;refine qV rfl (c1s (by show _<=(a0z d (a.drop (k+1)) 0).2;omega) (by show(a0z d (a.drop (k+1)) 0).2<_;omega)) ?_;refine qXm rfl ⟨by omega,by omega⟩ fun x hx _=> ?_;rw [e0,Int.toNat_natCast]at hx;have hdx:=a3c hx;have hx0:=(hdx▸InR.drop ha k).head;have e3:0<=(a0z d (a.drop (k+1)) 0).2*1048576+x:=by omega
  have e4:ior .i64 ((a0z d (a.drop (k+1)) 0).2*1048576) x=(a0z d (a.drop (k+1)) 0).2*1048576+x:=c0l hr.1 (by omega) hx0.1 hx0.2;have e5:quo .i64 (ior .i64 ((a0z d (a.drop (k+1)) 0).2*1048576) x) d=some (((a0z d (a.drop (k+1)) 0).2*1048576+x)/d):=by rw [e4];exact a8a e3 (by omega) hd
  have e6:rem (ior .i64 ((a0z d (a.drop (k+1)) 0).2*1048576) x) d=some (((a0z d (a.drop (k+1)) 0).2*1048576+x) %d):=by rw [e4];exact a9u e3 hd
  refine qV rfl e5 (qXm rfl ⟨by omega,by simp;omega⟩ fun _ _ _=>qV rfl e6 ?_);refine qB (ih (isub .i64 (((k+1:Nat):Int)-1) 1,((a0z d (a.drop (k+1)) 0).2*1048576+x) %d,(ns (List.replicate (k+1) 0++(a0z d (a.drop (k+1)) 0).1)).set (((k+1:Nat):Int)-1).toNat (N (((a0z d (a.drop (k+1)) 0).2*1048576+x)/d))) ⟨k,?_,?_,?_,?_⟩ ?_) (by kernel_rfl)
  ·show isub .i64 _ 1=_;rw [a0c (by omega) (by omega)];omega
  ·omega
  ·show List.set _ _ _=_;rw [e0,Int.toNat_natCast,a2x,List.replicate_succ',List.append_assoc,List.singleton_append,a5r _ _ _ _ (by simp),hdx];rfl
  ·rw [hdx];rfl
  show(isub .i64 _ 1+1).toNat<_;rw [a0c (by omega) (by omega)];dsimp only;omega
 obtain rfl:k=0:=by omega
 have h3:=b2u (V:=d) a 0;have h4:=a8h hd a 0 (by decide) hd;have h5:=b6g hd a 0 ha (by decide) hd;have h6:=b1u d a 0;obtain⟨k1,k2⟩:=b0h (l:=(a0z d a 0).1) h5 (by omega) (show ns (List.replicate 0 0++(a0z d (a.drop 0) 0).1)=ns (a0z d a 0).1 from rfl);have h7:valc a 0=val a:=by rw [valc_eq];simp
 rw [h7]at h3;have h8:val (a0z d a 0).1=val a/d/\(a0z d a 0).2=val a %d:=by
  have:=Int.ediv_emod_unique hd (a:=val a) (r:=(a0z d a 0).2) (q:=val (a0z d a 0).1);obtain⟨q1,q2⟩:=this.2 ⟨by rw [<-h3,Int.mul_comm];omega,h4.1,h4.2⟩;exact⟨q1.symm,q2.symm⟩
 rw [h8.1]at k1 k2;refine qK rfl k1 rfl (qR rfl ⟨?_,rfl⟩);show DV.tup [L (List.take _ (List.drop 0 _)),I (a0z d (a.drop 0) 0).2]=_;rw [List.drop_zero,List.drop_zero,h8.2];exact congrArg (fun l=>DV.tup [L l,I (val a %d)]) k2
theorem c8x{a b:List Int}(ha:InR a)(hb:InR b)(hla:a.length<536870912)(hlb:b.length<536870912):∃l:List Int,l.take (dig (val a*val b).toNat).length=dig (val a*val b).toNat/\EvH tt 119 [.v (.sl (ns a)),.v (.sl (ns b))] [] (.win 0 0 0 (dig (val a*val b).toNat).length) [⟨0,0,false,true,true,.row 3 1 (ns l)⟩]:=by
 have hF1:=b6p b a (List.replicate b.length 0) (by simp);have hF2:=b6f b a (List.replicate b.length 0) (by simp);have hF3:=c0h hb a (List.replicate b.length 0) ha (InR.rep _);rw [val_rep,Int.zero_add]at hF1;obtain⟨k1,k2⟩:=b0h hF3 (by omega) rfl;rw [hF1]at k1 k2;refine⟨mulF b a (List.replicate b.length 0),?_,evF (eIn Tryz.func119 rfl rfl ?_)⟩
 ·have h3:ns ((mulF b a (List.replicate b.length 0)).take (dig (val a*val b).toNat).length)=ns (dig (val a*val b).toNat):=by rw [<-k2];exact List.map_take ..
  exact(List.map_inj_right (f:=N) (fun x y h=>by cases h;rfl)).1 h3
 have hab:iadd .i64 (ns a).length (ns b).length=((a.length+b.length:Nat):Int):=by rw [hlm,hlm,a0e (by omega) (by omega)];omega
 refine qM 8 rfl rfl ⟨by rw [hab];omega,by rw [hab];omega⟩ ?_;refine qL (σ:=Int×List VT) (fun s=> [(20,I s.1)]) (fun s=> [(0,.row 3 1 s.2)])
  (fun s=>∃(k:Nat)(pre w:List Int),s.1=k/\pre.length=k/\k<=a.length/\w.length=b.length/\InR w/\s.2=ns (pre++(w++List.replicate (a.length-k) 0))/\mulF b a (List.replicate b.length 0)=pre++mulF b (a.drop k) w)
  (fun s=>a.length-s.1.toNat) (0,List.replicate (iadd .i64 (ns a).length (ns b).length).toNat (N 0)) rfl rfl ⟨0,[],List.replicate b.length 0,rfl,rfl,by omega,by simp,InR.rep _,by rw [hab];simp;omega,rfl⟩ ?_
 rintro⟨i,xs⟩ ⟨k,pre,w,hi,hp,hk,hw,hwi,hxs,hm⟩ ih;dsimp only at hi hxs;subst hi hxs;refine qC rfl (fun h2=> ?_) (fun h2=> ?_)
 ·rw [hlm]at h2;refine qXm rfl ⟨by omega,by omega⟩ fun x hx _=> ?_;rw [Int.toNat_natCast]at hx;have hdx:=a3c hx;have hx0:=(hdx▸InR.drop ha k).head;refine qI ?_;refine qL (σ:=Int×Int×List VT) (fun s=> [(27,I s.1),(8,I s.2.1)]) (fun s=> [(0,.row 3 1 s.2.2)])
   (fun s=>∃(j:Nat)(q:List Int),s.1=j/\q.length=j/\j<=b.length/\0<=s.2.1/\s.2.1<1048576/\s.2.2=ns (pre++(q++(w.drop j++List.replicate (a.length-k) 0)))/\mulD x 0 b w=(q++(mulD x s.2.1 (b.drop j) (w.drop j)).1,(mulD x s.2.1 (b.drop j) (w.drop j)).2))
   (fun s=>b.length-s.1.toNat) (0,0,ns (pre++(w++List.replicate (a.length-k) 0))) rfl rfl ⟨0,[],rfl,rfl,by omega,Int.le_refl 0,by show(0:Int)<1048576;decide,rfl,rfl⟩ ?_
  rintro⟨j',c,ys⟩ ⟨j,q,hj,hq,hjb,h0,h1,hys,hD⟩ ih2;dsimp only at hj h0 h1 hys hD;subst hj hys;have hlen:(pre++(q++(w.drop j++List.replicate (a.length-k) (0:Int)))).length=a.length+b.length:=by simp;omega
  refine qC rfl (fun h3=> ?_) (fun h3=> ?_)
  ·rw [hlm]at h3;have hinc:=c0m h3 (by omega);refine qXm rfl ⟨by omega,by omega⟩ fun y hy _=> ?_;rw [Int.toNat_natCast]at hy;have hdy:=a3c hy;have hy0:=(hdy▸InR.drop hb j).head;have e5:iadd .i64 (k:Int) (j:Int)=((k+j:Nat):Int):=by rw [a0e (by omega) (by omega)];omega
   have hb5:0<=iadd .i64 (k:Int) (j:Int)/\iadd .i64 (k:Int) (j:Int)<(pre++(q++(w.drop j++List.replicate (a.length-k) (0:Int)))).length:=by rw [e5];omega
   refine qXm rfl hb5 fun v hv _=> ?_;obtain⟨z,hz⟩:∃z,w[j]?=some z:=⟨_,List.getElem?_eq_getElem (by omega)⟩
   have hdz:=a3c hz;have hz0:=(hdz▸InR.drop hwi j).head;have hvz:v=z:=by
    have hv:(pre++(q++(w.drop j++List.replicate (a.length-k) (0:Int))))[(iadd .i64 (k:Int) (j:Int)).toNat]?=some v:=hv;rw [e5,Int.toNat_natCast,List.getElem?_append_right (by omega),List.getElem?_append_right (by omega),hdz,show k+j-pre.length-q.length=0 by omega]at hv;simpa using hv.symm
   subst hvz;have hmul:=b1v hx0.1 hx0.2 hy0.1 hy0.2;have e6:iadd .i64 (iadd .i64 v (imul .i64 x y)) c=v+x*y+c:=by rw [a0s (by omega) (by omega),a0e (x:=v) (by omega) (by omega),a0e (by omega) (by omega)]
   refine qV rfl (a5k _) (qXm rfl hb5 fun _ _ _=> ?_);refine qB (ih2 (iadd .i64 (j:Int) 1,(iadd .i64 (iadd .i64 v (imul .i64 x y)) c)/1048576,(ns (pre++(q++(w.drop j++List.replicate (a.length-k) 0)))).set (iadd .i64 (k:Int) (j:Int)).toNat (N (iand .i64 (iadd .i64 (iadd .i64 v (imul .i64 x y)) c) 1048575))) ⟨j+1,q++ [(v+x*y+c) %1048576],hinc.1,by simp [hq],by omega,?_,?_,?_,?_⟩ hinc.2) (by kernel_rfl)
   ·dsimp only;rw [e6];omega
   ·dsimp only;rw [e6];omega
   ·dsimp only;rw [e6,a6b,a2x,e5,Int.toNat_natCast,hdz,List.cons_append,<-List.append_assoc pre q,a5r _ _ _ _ (by simp;omega)];simp
   rw [hD,hdy,hdz];simp only [mulD,List.headD_cons,List.tail_cons,e6,List.append_assoc,List.singleton_append]
  rw [hlm]at h3;obtain rfl:j=b.length:=by omega
  have hD2:mulD x 0 b w=(q,c):=by rw [hD,List.drop_length];simp [mulD]
  have e5:iadd .i64 (k:Int) (ns b).length=((k+b.length:Nat):Int):=by rw [hlm,a0e (by omega) (by omega)];omega
  have hb5:0<=iadd .i64 (k:Int) (ns b).length/\iadd .i64 (k:Int) (ns b).length<(pre++(q++(w.drop b.length++List.replicate (a.length-k) (0:Int)))).length:=by rw [e5];omega
  refine qXm rfl hb5 fun v hv _=> ?_;have hw0:w.drop b.length= []:=List.drop_eq_nil_of_le (by omega);have hrep:List.replicate (a.length-k) (0:Int)=0::List.replicate (a.length-(k+1)) 0:=by rw [c2j _ _ (by omega)];congr 2
  have hv0:v=0:=by
   have hv:(pre++(q++(w.drop b.length++List.replicate (a.length-k) (0:Int))))[(iadd .i64 (k:Int) (ns b).length).toNat]?=some v:=hv;rw [e5,Int.toNat_natCast,List.getElem?_append_right (by omega),List.getElem?_append_right (by omega),hw0,hrep,show k+b.length-pre.length-q.length=0 by omega]at hv;simpa using hv.symm
  subst hv0;refine qXm rfl hb5 fun _ _ _=> ?_;have hc:=a9z hx0.1 hx0.2 b w 0 hb hwi (by decide) (by decide);have hin:InR ((mulD x 0 b w).1++ [(mulD x 0 b w).2]):=(c2d x b w 0).append (InR.cons hc.1 hc.2 InR.nil);obtain⟨h,t,ht⟩:=List.exists_cons_of_ne_nil (show(mulD x 0 b w).1++ [(mulD x 0 b w).2]≠ [] by simp);rw [ht]at hin;have hFs:mulF b (x::a.drop (k+1)) w=h::mulF b (a.drop (k+1)) t:=by simp only [mulF,ht,List.headD_cons,List.tail_cons]
  rw [hD2]at ht;have htl:t.length=b.length:=by have:=congrArg List.length ht;simp at this;omega
  have e7:iadd .i64 0 c=c:=by rw [a0e (by omega) (by omega)];omega
  have hinc:=c0m h2 (by omega);refine qB (ih (iadd .i64 (k:Int) 1,(ns (pre++(q++(w.drop b.length++List.replicate (a.length-k) 0)))).set (iadd .i64 (k:Int) (ns b).length).toNat (N (iadd .i64 0 c))) ⟨k+1,pre++ [h],t,hinc.1,by simp [hp],by omega,htl,hin.tail,?_,?_⟩ hinc.2) (by kernel_rfl)
  ·dsimp only;rw [a2x,e5,Int.toNat_natCast,e7,hw0,List.nil_append,hrep,<-List.append_assoc pre q,a5r _ _ _ _ (by simp;omega)];rw [List.append_assoc,<-List.singleton_append (x:=c),<-List.append_assoc q,ht];simp
  rw [hm,hdx,hFs];simp
 rw [hlm]at h2;obtain rfl:k=a.length:=by omega
 rw [List.drop_length]at hm;have hm2:mulF b a (List.replicate b.length 0)=pre++w:=hm;have hx2:ns (pre++(w++List.replicate (a.length-a.length) 0))=ns (mulF b a (List.replicate b.length 0)):=by rw [hm2];simp
 rw [<-hx2]at k1;refine qK rfl k1 rfl (qR rfl ⟨rfl,?_⟩);show [(⟨0,0,false,true,true,.row 3 1 (ns (pre++(w++List.replicate (a.length-a.length) 0)))⟩:Blk)]=_;rw [hx2]
set_option linter.unusedVariables false
set_option maxHeartbeats 4000000
set_option maxRecDepth 100000
theorem d7e{L u R v Z:List Int}{g:Int}(hu:InR u)(hv:InR v)(hl:v.length<=u.length)(hlu:L.length+u.length+R.length<1073741824)(hg0:0<=g)(hg1:g<=1048576)(hV:0<val v)(h1:val u<(g+1)*val v)(h2:(g-1)*val v<=val u):
 ∃r:List Int,InR r/\r.length=u.length/\val r=val u %val v/\EvH tt 230 [.win 0 0 L.length u.length,.win 1 0 0 v.length,I g] [bk (.row 3 1 (ns (L++(u++R)))),bk (.row 3 1 (ns (v++Z)))] (I (val u/val v)) [⟨0,0,false,true,false,.row 3 1 (ns (L++(r++R)))⟩,⟨0,0,false,true,false,.row 3 1 (ns (v++Z))⟩]:=by
 have e1:=b1m g u v 0;have hcase:(g*val v<=val u/\(setD g 0 u v).2=0/\val (setD g 0 u v).1=val u %val v/\val u/val v=g)∨
  ((setD g 0 u v).2=1/\InR (addD 0 (setD g 0 u v).1 v).1/\(addD 0 (setD g 0 u v).1 v).1.length=u.length/\val (addD 0 (setD g 0 u v).1 v).1=val u %val v/\val u/val v=g-1):=by
  by_cases h:g*val v<=val u
  ·obtain⟨f1,f2⟩:=b5b hu hv hl hg0 h;obtain⟨q1,q2⟩:=c1r hV h h1;exact .inl ⟨h,f1,by rw [f2,q2],q1⟩
  right;have e2:=b6t g u v 0 hl;have e3:=a7w hg0 u v 0 hu hv (by decide) hg0;have e4:=val_lt (a6m g u v 0);have e5:=val_nonneg (a6m g u v 0);have e6:=val_lt hv;have e7:=pw_mono hl;have e8:=pw_pos u.length;rw [valc_eq,e1]at e2;rw [e1]at e4;have e9:(g-1)*val v=g*val v-val v:=by grind
  have hb:(setD g 0 u v).2=1:=by
   rcases(show 1<(setD g 0 u v).2∨(setD g 0 u v).2<=1 by omega)with h4|h4
   ·have h5:pw u.length*(-(setD g 0 u v).2)<=pw u.length*(-2):=Int.mul_le_mul_of_nonneg_left (by omega) (by omega);omega
   rcases(show 0<(setD g 0 u v).2∨(setD g 0 u v).2<=0 by omega)with h5|h5
   ·omega
   have:(setD g 0 u v).2=0:=by omega
   rw [this]at e2;simp only [Int.neg_zero,Int.mul_zero]at e2;omega
  rw [hb]at e2;have a1:=addD_len (setD g 0 u v).1 v 0;have a2:=addD_val (setD g 0 u v).1 v 0 (by rw [e1];exact hl);have a3:=addD_carry (setD g 0 u v).1 v 0 (a6m g u v 0) hv (by decide) (by decide);have a4:=addD_in (setD g 0 u v).1 v 0;have a5:=val_lt a4;have a6:=val_nonneg a4;rw [valc_eq,a1,e1]at a2;rw [a1,e1]at a5;obtain⟨q1,q2⟩:=c1r (q:=g-1) hV h2 (by rw [show g-1+1=g by omega];omega);have hc:(addD 0 (setD g 0 u v).1 v).2=1:=by
   rcases(show 0<(addD 0 (setD g 0 u v).1 v).2∨(addD 0 (setD g 0 u v).1 v).2<=0 by omega)with h5|h5
   ·omega
   have:(addD 0 (setD g 0 u v).1 v).2=0:=by omega
   rw [this]at a2;omega
  rw [hc]at a2;exact⟨hb,a4,by rw [a1,e1],by rw [q2];omega,q1⟩
 suffices key:∃r:List Int,(((setD g 0 u v).2=0/\r=(setD g 0 u v).1)∨((setD g 0 u v).2≠0/\r=(addD 0 (setD g 0 u v).1 v).1))/\EvH tt 230 [.win 0 0 L.length u.length,.win 1 0 0 v.length,I g] [bk (.row 3 1 (ns (L++(u++R)))),bk (.row 3 1 (ns (v++Z)))] (I (if(setD g 0 u v).2=0 then g else g-1)) [⟨0,0,false,true,false,.row 3 1 (ns (L++(r++R)))⟩,⟨0,0,false,true,false,.row 3 1 (ns (v++Z))⟩] by
  obtain⟨r,hr,hev⟩:=key;rcases hcase with⟨c1,c2,c3,c4⟩|⟨c1,c2,c3,c4,c5⟩
  ·rcases hr with⟨_,rfl⟩|⟨h,_⟩
   ·exact⟨_,a6m g u v 0,e1,c3,by rw [c4];rw [if_pos c2]at hev;exact hev⟩
   exact absurd c2 h
  rcases hr with⟨h,_⟩|⟨_,rfl⟩
  ·rw [c1]at h;exact absurd h (by decide)
  exact⟨_,c2,c3,c4,by rw [c5];rw [if_neg (by rw [c1];decide)]at hev;exact hev⟩
 refine⟨if(setD g 0 u v).2=0 then(setD g 0 u v).1 else(addD 0 (setD g 0 u v).1 v).1,by split<;>simp_all,evF (eInH 2 Tryz.func230 rfl rfl rfl ?_)⟩;refine qL (σ:=Int×Int×List VT) (fun s=> [(14,I s.1),(7,I s.2.1)]) (fun s=> [(0,.row 3 1 s.2.2)])
  (fun s=>∃(k:Nat)(pre:List Int),s.1=k/\pre.length=k/\k<=u.length/\0<=s.2.1/\s.2.1<=g/\s.2.2=ns (L++(pre++(u.drop k++R)))/\setD g 0 u v=(pre++(setD g s.2.1 (u.drop k) (v.drop k)).1,(setD g s.2.1 (u.drop k) (v.drop k)).2))
  (fun s=>u.length-s.1.toNat) (0,0,ns (L++(u++R))) rfl rfl ⟨0,[],rfl,rfl,by omega,Int.le_refl 0,hg0,rfl,rfl⟩ ?_
 rintro⟨i,c,xs⟩ ⟨k,pre,hi,hp,hk,h0,hc1,hxs,hset⟩ ih;dsimp only at hi h0 hc1 hxs hset;subst hi hxs;refine qC rfl (fun h3=> ?_) (fun h3=> ?_)
 ·have hlen:(L++(pre++(u.drop k++R))).length=L.length+u.length+R.length:=by simp;omega
  have hinc:=c0m h3 (by omega);refine qXw rfl ⟨by omega,by omega⟩ (by omega) fun d hd=> ?_;have hd:(L++(pre++(u.drop k++R)))[L.length+(k:Int).toNat]?=some d:=hd;rw [Int.toNat_natCast,List.getElem?_append_right (by omega),List.getElem?_append_right (by omega),List.getElem?_append_left (by simp;omega),List.getElem?_drop,show k+(L.length+k-L.length-pre.length)=k by omega]at hd;have hdx:=a3c hd;have hd0:=(hdx▸InR.drop hu k).head;have hy0:=(InR.drop hv k).headD;have hmul:=b3t hg0 hy0.1 hy0.2;have hnext:∀t,t=d-c-g*(v.drop k).headD 0->∃(k':Nat)(pre':List Int),iadd .i64 (k:Int) 1=k'/\pre'.length=k'/\k'<=u.length/\0<=IntKind.i64.wrap (0-t/1048576)/\IntKind.i64.wrap (0-t/1048576)<=g/\(ns (L++(pre++(u.drop k++R)))).set (L.length+(k:Int).toNat) (N (iand .i64 t 1048575))=ns (L++(pre'++(u.drop k'++R)))/\setD g 0 u v=(pre'++(setD g (IntKind.i64.wrap (0-t/1048576)) (u.drop k') (v.drop k')).1,(setD g (IntKind.i64.wrap (0-t/1048576)) (u.drop k') (v.drop k')).2):=by
   intro t ht;have hw:IntKind.i64.wrap (0-t/1048576)=-(t/1048576):=by rw [Int.zero_sub,a0t (by omega) (by omega)]
   rw [hw];refine⟨k+1,pre++ [t %1048576],hinc.1,by simp [hp],by omega,by omega,by omega,?_,?_⟩
   ·rw [a6b,a2x,hdx,Int.toNat_natCast,List.cons_append,<-List.append_assoc L pre,a5r _ _ _ _ (by simp;omega)];simp
   rw [hset,hdx];simp only [setD,<-ht,List.append_assoc,List.singleton_append,List.tail_drop]
  refine qC rfl (fun h4=> ?_) (fun h4=> ?_)
  ·refine qXw rfl ⟨by omega,by omega⟩ (by simp) fun e he=> ?_;have he:(v++Z)[0+(k:Int).toNat]?=some e:=he;rw [Int.toNat_natCast,Nat.zero_add,List.getElem?_append_left (by omega)]at he;have hdy:(v.drop k).headD 0=e:=by rw [a3c he];rfl
   rw [hdy]at hy0 hmul;refine qXw rfl ⟨by omega,by omega⟩ (by omega) fun _ _=>qV rfl (a5k _) (qB (ih (_,_,_) (hnext (isub .i64 (isub .i64 d c) (imul .i64 g e)) ?_) hinc.2) (by kernel_rfl));rw [hdy,a0c (x:=d) (by omega) (by omega),a0s (by omega) (by omega),a0c (by omega) (by omega)]
  have hdy:(v.drop k).headD 0=0:=by rw [List.drop_eq_nil_of_le (by omega)];rfl
  refine qXw rfl ⟨by omega,by omega⟩ (by omega) fun _ _=>qV rfl (a5k _) (qB (ih (_,_,_) (hnext (isub .i64 d c) ?_) hinc.2) (by kernel_rfl));rw [hdy,a0c (x:=d) (by omega) (by omega)];omega
 obtain rfl:k=u.length:=by omega
 rw [List.drop_length]at hset;have hpre:setD g 0 u v=(pre,c):=by rw [hset];simp [setD]
 rw [hpre];dsimp only;have hx2:ns (L++(pre++(u.drop u.length++R)))=ns (L++(pre++R)):=by rw [List.drop_length];rfl
 refine qC rfl (fun h4=> ?_) (fun h4=> ?_)
 ·rw [if_pos h4,if_pos h4];refine qR rfl ⟨rfl,?_⟩;rw [<-hx2];rfl
 rw [if_neg h4,if_neg h4];have hin:=a6m g u v 0;rw [hpre]at hin;dsimp only at hin;refine qL (σ:=Int×Int×List VT) (fun s=> [(49,I s.1),(10,I s.2.1)]) (fun s=> [(0,.row 3 1 s.2.2)])
  (fun s=>∃(k:Nat)(q:List Int),s.1=k/\q.length=k/\k<=u.length/\0<=s.2.1/\s.2.1<=1/\s.2.2=ns (L++(q++(pre.drop k++R)))/\(addD 0 pre v).1=q++(addD s.2.1 (pre.drop k) (v.drop k)).1)
  (fun s=>u.length-s.1.toNat) (0,0,ns (L++(pre++(u.drop u.length++R)))) rfl rfl ⟨0,[],rfl,rfl,by omega,Int.le_refl 0,by show(0:Int)<=1;decide,hx2,rfl⟩ ?_
 rintro⟨i,c2,xs⟩ ⟨k,q,hi,hq,hk2,h0',hc2,hxs,hadd⟩ ih2;dsimp only at hi h0' hc2 hxs hadd;subst hi hxs;refine qC rfl (fun h5=> ?_) (fun h5=> ?_)
 ·have hlen:(L++(q++(pre.drop k++R))).length=L.length+u.length+R.length:=by simp;omega
  have hinc:=c0m h5 (by omega);refine qXw rfl ⟨by omega,by omega⟩ (by omega) fun d hd=> ?_;have hd:(L++(q++(pre.drop k++R)))[L.length+(k:Int).toNat]?=some d:=hd;rw [Int.toNat_natCast,List.getElem?_append_right (by omega),List.getElem?_append_right (by omega),List.getElem?_append_left (by simp;omega),List.getElem?_drop,show k+(L.length+k-L.length-q.length)=k by omega]at hd;have hdx:=a3c hd;have hd0:=(hdx▸InR.drop hin k).head;have hy0:=(InR.drop hv k).headD;have hnext:∀t,t=c2+d+(v.drop k).headD 0->∃(k':Nat)(q':List Int),iadd .i64 (k:Int) 1=k'/\q'.length=k'/\k'<=u.length/\0<=t/1048576/\t/1048576<=1/\(ns (L++(q++(pre.drop k++R)))).set (L.length+(k:Int).toNat) (N (iand .i64 t 1048575))=ns (L++(q'++(pre.drop k'++R)))/\(addD 0 pre v).1=q'++(addD (t/1048576) (pre.drop k') (v.drop k')).1:=by
   intro t ht;refine⟨k+1,q++ [t %1048576],hinc.1,by simp [hq],by omega,by omega,by omega,?_,?_⟩
   ·rw [a6b,a2x,hdx,Int.toNat_natCast,List.cons_append,<-List.append_assoc L q,a5r _ _ _ _ (by simp;omega)];simp
   rw [hadd,hdx];simp only [addD,<-ht,List.append_assoc,List.singleton_append,List.tail_drop]
  refine qC rfl (fun h6=> ?_) (fun h6=> ?_)
  ·refine qXw rfl ⟨by omega,by omega⟩ (by simp) fun e he=> ?_;have he:(v++Z)[0+(k:Int).toNat]?=some e:=he;rw [Int.toNat_natCast,Nat.zero_add,List.getElem?_append_left (by omega)]at he;have hdy:(v.drop k).headD 0=e:=by rw [a3c he];rfl
   rw [hdy]at hy0;refine qXw rfl ⟨by omega,by omega⟩ (by omega) fun _ _=>qV rfl (a5k _) (qB (ih2 (_,_,_) (hnext (iadd .i64 (iadd .i64 c2 d) e) ?_) hinc.2) (by kernel_rfl));rw [hdy,a0e (x:=c2) (by omega) (by omega),a0e (by omega) (by omega)]
  have hdy:(v.drop k).headD 0=0:=by rw [List.drop_eq_nil_of_le (by omega)];rfl
  refine qXw rfl ⟨by omega,by omega⟩ (by omega) fun _ _=>qV rfl (a5k _) (qB (ih2 (_,_,_) (hnext (iadd .i64 c2 d) ?_) hinc.2) (by kernel_rfl));rw [hdy,a0e (x:=c2) (by omega) (by omega)];omega
 obtain rfl:k=u.length:=by omega
 have hp0:pre.drop u.length= []:=List.drop_eq_nil_of_le (by omega);rw [hp0]at hadd;simp only [addD,List.append_nil]at hadd;rw [hadd];refine qR rfl ⟨by show I (isub .i64 g 1)=_;rw [a0c (by omega) (by omega)],?_⟩;show [(⟨0,0,false,true,false,.row 3 1 (ns (L++(q++(pre.drop u.length++R))))⟩:Blk),_]=_;rw [hp0];rfl
theorem e1l{x y:Nat}(hy:y≠0)(hlx:(dig x).length<16777216)(hly:(dig y).length<16777216):EvF tt 176 [.v (.sl (ns (dig x))),.v (.sl (ns (dig y)))] (.tup [L (ns (dig (x/y))),L (ns (dig (x %y)))]):=by
 refine evF (eIn Tryz.func176 rfl rfl ?_);have hc:=b9g (a3s x) (a3s y) (by omega);rw [a0h,a0h]at hc;refine qK rfl hc rfl ?_;have hsg:=a0b ((x:Int)-y);refine qC rfl (fun h=> ?_) (fun h=> ?_)
 ·have hlt:x<y:=by omega
  refine qU 1 8 rfl rfl rfl (a2r _) ?_;refine qR rfl ⟨?_,rfl⟩;rw [Nat.div_eq_of_lt hlt,Nat.mod_eq_of_lt hlt,dig_zero];rfl
 have hge:¬x<y:=by omega
 have hyl:1<=(dig y).length:=by
  have:=a7k hy;cases h:dig y with
  |nil=>exact absurd h this
  |cons=>simp
 refine qC rfl (fun h1=> ?_) (fun h1=> ?_)
 ·rw [hlm]at h1;obtain⟨d,hd⟩:∃d,dig y= [d]:=List.length_eq_one_iff.1 (by omega);have hdy:d=y:=by have:=a0h y;rw [hd]at this;simpa [val]using this
  have hd1:0<=d/\d<1048576:=a0i y d (by rw [hd];simp);refine qXm rfl ⟨by omega,by omega⟩ fun d' hd' _=> ?_;have hd':(dig y)[(0:Int).toNat]?=some d':=hd';rw [hd]at hd';have hdd:d'=d:=by simpa using hd'.symm
  subst hdd;refine qK rfl (c0j (a0i x) (by omega) (by omega) (by omega)) rfl ?_;have hm:0<=(x:Int) %y/\(x:Int) %y<1048576:=⟨Int.emod_nonneg _ (by omega),by have:=Int.emod_lt_of_pos (x:Int) (show(0:Int)<y by omega);omega⟩
  rw [a0h,hdy];obtain⟨k1,k2⟩:=b0h (l:= [(x:Int) %y]) (InR.cons hm.1 hm.2 InR.nil) (by simp) rfl;rw [show val [(x:Int) %y]=x %y by simp [val]]at k1 k2;refine qK rfl k1 rfl (qR rfl ⟨?_,rfl⟩);show DV.tup [L (ns (dig ((x:Int)/y).toNat)),L (List.take _ (List.drop 0 _))]=_;rw [List.drop_zero,<-Int.natCast_ediv,<-Int.natCast_emod,Int.toNat_natCast];rw [<-Int.natCast_emod,Int.toNat_natCast]at k2;exact congrArg (fun l=>DV.tup [L (ns (dig (x/y))),L l]) k2
 rw [hlm]at h1;obtain⟨pl,top,hpt⟩:=d6x (l:=dig y) hyl;have hpl:pl.length=(dig y).length-1:=by have:=congrArg List.length hpt;simp at this;omega
 have ht1:0<=top/\top<1048576:=a0i y top (by rw [hpt];simp);have ht2:top≠0:=by have:=a5t y;rw [hpt]at this;simpa using this
 have hi1:isub .i64 (ns (dig y)).length 1=(((dig y).length-1:Nat):Int):=by rw [hlm,a0c (by omega) (by omega)];omega
 have hpow:∀j:Nat,j<=19->1<=((2^j:Nat):Int)/\((2^j:Nat):Int)<=524288:=fun j hj=>by
  have h1:=Nat.pow_le_pow_right (n:=2) (by decide) hj;have h2:=Nat.pow_pos (n:=j) (show 0<2 by decide);have h3:2^19=524288:=by decide
  omega
 refine qL (σ:=Int) (fun s=> [(8,I s)]) (fun _=> []) (fun s=>∃j:Nat,j<=19/\s=((2^j:Nat):Int)) (fun s=>(524288-s).toNat) 1 rfl rfl ⟨0,by omega,rfl⟩ ?_;rintro s ⟨j,hj,hs⟩ ih;obtain⟨p1,p2⟩:=hs▸hpow j hj;refine qXm rfl (by rw [hi1];omega) fun top' ht' _=> ?_;have ht':(dig y)[(isub .i64 (ns (dig y)).length 1).toNat]?=some top':=ht';have htt:top'=top:=by
  rw [hi1,Int.toNat_natCast,<-hpl,hpt,List.getElem?_append_right (by omega)]at ht';simpa using ht'.symm
 subst htt;have htm:0<=top'*s/\top'*s<=549755813888:=⟨Int.mul_nonneg (by omega) (by omega),by have:=Int.mul_le_mul (show top'<=1048576 by omega) p2 (by omega) (by omega);omega⟩
 have hmu:imul .i64 top' s=top'*s:=a0s (by omega) (by omega);refine qC rfl (fun h2=> ?_) (fun h2=> ?_)
 ·rw [hmu]at h2;have h3:1*s<=top'*s:=Int.mul_le_mul_of_nonneg_right (by omega) (by omega);have hj2:j<19:=by
   rcases Nat.lt_or_ge j 19 with h|h
   ·exact h
   obtain rfl:j=19:=by omega
   have:((2^19:Nat):Int)=524288:=by decide
   omega
  have hd2:imul .i64 s 2=((2^(j+1):Nat):Int):=by rw [a0s (by omega) (by omega),hs,Nat.pow_succ];omega
  exact qB (ih (imul .i64 s 2) ⟨j+1,by omega,hd2⟩ (by rw [a0s (by omega) (by omega)];omega)) (by kernel_rfl)
 clear ih;obtain⟨S,rfl⟩:=Int.eq_ofNat_of_zero_le (show 0<=s by omega);have hS:0<S:=by omega
 have hSi:InR [(S:Int)]:=InR.cons (by omega) (by omega) InR.nil;have hmul:∀z:Nat,(val (dig z)*val [(S:Int)]).toNat=z*S:=fun z=>by
  rw [a0h];simp only [val,Int.mul_zero,Int.add_zero];rw [<-Int.natCast_mul,Int.toNat_natCast]
 obtain⟨lx,m1,m2⟩:=c8x (a0i x) hSi (by omega) (by simp);obtain⟨ly,m3,m4⟩:=c8x (a0i y) hSi (by omega) (by simp);rw [hmul]at m1 m2 m3 m4;obtain⟨Z,rfl⟩:∃Z,ly=dig (y*S)++Z:=⟨ly.drop (dig (y*S)).length,by conv=>lhs;rw [<-List.take_append_drop (dig (y*S)).length ly,m3]⟩
 refine qK rfl m2 rfl ?_;have hxS:x<=x*S:=Nat.le_mul_of_pos_right _ hS;have hyS:y<=y*S:=Nat.le_mul_of_pos_right _ hS;have hxy:y*S<=x*S:=Nat.mul_le_mul_right _ (by omega);have l1:=a0m hxS;have l2:=a0m hyS;have l3:=a0m hxy;have l4:(dig (x*S)).length<=(dig x).length+1:=by
  have h:=b6f [(S:Int)] (dig x) [0] rfl;have h2:=a9r (c0h hSi (dig x) [0] (a0i x) (InR.rep 1));rw [b6p [(S:Int)] (dig x) [0] rfl,show val [(0:Int)]=0 from rfl,Int.zero_add,hmul,h]at h2;simpa using h2
 refine qA 8 rfl rfl (by simp;omega) ?_;refine qK rfl m4 rfl ?_;have hU:List.take (dig (x*S)).length (ns lx)++ [N 0]=ns (dig (x*S)++ [0]):=by
  rw [show List.take (dig (x*S)).length (ns lx)=ns (lx.take (dig (x*S)).length)from(List.map_take ..).symm,m1];simp [ns]
 refine qN rfl (show(((List.take (dig (x*S)).length (ns lx)++ [N 0]).length:Int)==((ns (dig x)).length:Int))=false by rw [hU,hlm,hlm];simp;omega) ?_;obtain⟨K,hk⟩:∃k,(dig (x*S)).length+1=(dig (y*S)).length+k:=⟨(dig (x*S)).length+1-(dig (y*S)).length,by omega⟩
 have hk1:1<=K:=by omega
 have hkle:K<=(dig (x*S)).length:=by omega
 have hmk:isub .i64 ((List.take (dig (x*S)).length (ns lx)++ [N 0]).length:Int) ((dig (y*S)).length:Int)=(K:Int):=by rw [hU,hlm,a0c (by simp;omega) (by simp;omega)];simp;omega
 refine qM 8 rfl rfl (show 0<=isub .i64 ((List.take (dig (x*S)).length (ns lx)++ [N 0]).length:Int) ((dig (y*S)).length:Int)/\(isub .i64 ((List.take (dig (x*S)).length (ns lx)++ [N 0]).length:Int) ((dig (y*S)).length:Int)).toNat*8<=140737488355328 by rw [hmk];omega) ?_;obtain⟨X,hX⟩:∃X,X=dig (x*S):=⟨_,rfl⟩
 have hv:Canon (dig (y*S)):=a3s _;have hvl:val (dig (y*S))=((y*S:Nat):Int):=a0h _;have hyS0:y*S≠0:=by omega
 have hw0:val ((dig (x*S)++ [(0:Int)]).drop K)<val (dig (y*S)):=by
  obtain⟨pl',top'',hpt'⟩:=d6x (l:=dig (y*S)) (by omega);have htop':1<=top'':=by
   have h1:=a0i (y*S) top'' (by rw [hpt'];simp);have h2:=a5t (y*S);rw [hpt']at h2;have:top''≠0:=by simpa using h2
   omega
  have hVge:pw ((dig (y*S)).length-1)<=val (dig (y*S)):=by
   have h0:(dig (y*S)).length-1=pl'.length:=by rw [hpt'];simp
   rw [h0,hpt',val_append];have h1:=val_nonneg (l:=pl') (fun e he=>a0i (y*S) e (by rw [hpt'];simp [he]));have h2:pw pl'.length*1<=pw pl'.length*top'':=Int.mul_le_mul_of_nonneg_left htop' (by have:=pw_pos pl'.length;omega);simp only [val,Int.mul_zero,Int.add_zero];omega
  rw [List.drop_append_of_le_length hkle,val_append];have h1:=val_lt (InR.drop (a0i (x*S)) K);have h2:((dig (x*S)).drop K).length=(dig (y*S)).length-1:=by simp;omega
  rw [h2]at h1;simp only [val,Int.mul_zero,Int.add_zero];omega
 have hui:InR (dig (x*S)++ [(0:Int)]):=(a0i _).append (InR.cons (by decide) (by decide) InR.nil);generalize hvv:dig (y*S)=v at*;have hvl2:2<=v.length:=by omega
 refine qL (σ:=Int×List VT×List VT) (fun s=> [(13,I s.1)]) (fun s=> [(0,.row 3 1 s.2.1),(2,.row 3 1 s.2.2)])
  (fun s=>∃(k:Nat)(lo w zs qd:List Int),s.1=(k:Int)-1/\lo.length=k/\w.length=v.length/\InR lo/\InR w/\InR zs/\val zs=0/\val w<val v/\k+v.length+zs.length=(dig (x*S)).length+1/\s.2.1=ns (List.replicate k 0++qd)/\s.2.2=ns (lo++(w++zs))/\
    a0z (val v) ((dig (x*S)++ [0]).take K) (val ((dig (x*S)++ [0]).drop K))=((a0z (val v) lo (val w)).1++qd,(a0z (val v) lo (val w)).2))
  (fun s=>(s.1+1).toNat) (isub .i64 ((List.replicate (isub .i64 ((List.take (dig (x*S)).length (ns lx)++ [N 0]).length:Int) (v.length:Int)).toNat (N 0)).length:Int) 1,List.replicate (isub .i64 ((List.take (dig (x*S)).length (ns lx)++ [N 0]).length:Int) (v.length:Int)).toNat (N 0),List.take (dig (x*S)).length (ns lx)++ [N 0]) rfl rfl ?_ ?_
 ·refine⟨K,(dig (x*S)++ [0]).take K,(dig (x*S)++ [0]).drop K,[],[],?_,by simp;omega,by simp;omega,InR.take hui K,InR.drop hui K,InR.nil,rfl,hw0,by simp;omega,?_,?_,?_⟩
  ·dsimp only;rw [hmk];simp;rw [a0c (by omega) (by omega)]
  ·dsimp only;rw [hmk];simp
  ·dsimp only;rw [hU,List.append_nil,List.take_append_drop]
  simp
 rintro⟨i,qs,us⟩ ⟨k,lo,w,zs,qd,hi,hlo,hw,hil,hiw,hiz,hz,hlt,hlen,hqs,hus,hD⟩ ih;dsimp only at hi hqs hus;subst hi hqs hus;refine qC rfl (fun h3=> ?_) (fun h3=> ?_)
 ·obtain⟨k,rfl⟩:∃j,k=j+1:=⟨k-1,by omega⟩
  obtain⟨lo',d,rfl⟩:=d6x (l:=lo) (by omega);obtain⟨vl,v2,v1,hvd⟩:=f1k hvl2;obtain⟨ul,u2,t0,t1,hwin⟩:=f1n (l:=d::w) (by simp;omega);have hlo':lo'.length=k:=by simpa using hlo
  have hid:0<=d/\d<1048576:=hil d (by simp);have hiwin:InR (ul++ [u2,t0,t1]):=by rw [<-hwin];exact InR.cons hid.1 hid.2 hiw
  have hv1:1<=v1/\v1<1048576:=by
   have h1:=hv.1 v1 (by rw [hvd];simp);have h2:=hv.2;rw [hvd]at h2;have:v1≠0:=by simpa using h2
   omega
  have ht1:0<=t1/\t1<1048576:=hiwin t1 (by simp);have ht0:0<=t0/\t0<1048576:=hiwin t0 (by simp);have hu2:0<=u2/\u2<1048576:=hiwin u2 (by simp);have hv2:0<=v2/\v2<1048576:=hv.1 v2 (by rw [hvd];simp);have hvll:v.length=vl.length+2:=by rw [hvd];simp
  have hull:ul.length=vl.length:=by
   have:=congrArg List.length hwin;simp at this;omega
  have hV:=val_nonneg hv.1;have hU0:=val_nonneg hiwin;have hUw:val (ul++ [u2,t0,t1])=d+1048576*val w:=by rw [<-hwin];rfl
  have hw0':=val_nonneg hiw;have hult:val (ul++ [u2,t0,t1])<1048576*val v:=by omega
  have eV:val v=val vl+pw vl.length*(v2+1048576*v1):=by rw [hvd,val_append];simp [val]
  have eU:val (ul++ [u2,t0,t1])=val ul+pw vl.length*(u2+1048576*(t1*1048576+t0)):=by
   rw [val_append,hull];simp only [val];have:t0+1048576*(t1+1048576*0)=t1*1048576+t0:=by omega
   rw [this]
  obtain⟨T,hT⟩:∃T,T=t1*1048576+t0:=⟨_,rfl⟩
  have hT0:0<=T:=by omega
  have hT1:T<1099511627776:=by omega
  have hg0:0<=T/v1:=Int.ediv_nonneg hT0 (by omega);have hgT:T/v1<=T:=Int.ediv_le_self v1 hT0;have hr0:0<=T %v1:=Int.emod_nonneg _ (by omega);have hr1:T %v1<v1:=Int.emod_lt_of_pos _ (by omega);have hsum:T/v1*v1+T %v1=T:=by have:=Int.mul_ediv_add_emod T v1;rw [Int.mul_comm]at this;exact this
  have hulP:=val_lt (l:=ul) (fun e he=>hiwin e (by simp [he]));rw [hull]at hulP;have hvli:InR vl:=fun e he=>hv.1 e (by rw [hvd];simp [he]);have hvl0:=val_nonneg hvli;have hvlP:=val_lt hvli;have hul0:=val_nonneg (l:=ul) (fun e he=>hiwin e (by simp [he]));have hP:=pw_pos vl.length;have hq0:val (ul++ [u2,t0,t1])<(T/v1+1)*val v:=by
   rw [eU,eV,<-hT];refine c1l hP hulP hu2.2 hvl0 hv2.1 ?_ hg0;rw [Int.add_mul,Int.one_mul];omega
  obtain⟨u,hu⟩:∃u,u=lo'++(ul++ [u2,t0,t1])++zs:=⟨_,rfl⟩
  have hu':lo'++ [d]++(w++zs)=u:=by rw [hu,<-hwin];simp
  have hulen:u.length=k+v.length+1+zs.length:=by rw [<-hu'];simp [hlo',hw];omega
  rw [hu']at ih⊢;have e0:((k+1:Nat):Int)-1=(k:Int):=by omega
  have a1:iadd .i64 (((k+1:Nat):Int)-1) (v.length:Int)=((k+v.length:Nat):Int):=by rw [e0,a0e (by omega) (by omega)];omega
  have a2:isub .i64 (iadd .i64 (((k+1:Nat):Int)-1) (v.length:Int)) 1=((k+vl.length+1:Nat):Int):=by rw [a1,a0c (by omega) (by omega)];omega
  have a3:isub .i64 (v.length:Int) 1=((vl.length+1:Nat):Int):=by rw [a0c (by omega) (by omega)];omega
  have a4:isub .i64 (v.length:Int) 2=((vl.length:Nat):Int):=by rw [a0c (by omega) (by omega)];omega
  have a5:isub .i64 (iadd .i64 (((k+1:Nat):Int)-1) (v.length:Int)) 2=((k+vl.length:Nat):Int):=by rw [a1,a0c (by omega) (by omega)];omega
  have r1:u[k+v.length]?=some t1:=by
   rw [hu,show lo'++(ul++ [u2,t0,t1])++zs=(lo'++(ul++ [u2,t0]))++t1::zs by simp,List.getElem?_append_right (by simp [hlo',hull];omega),show k+v.length-(lo'++(ul++ [u2,t0])).length=0 by simp [hlo',hull];omega];rfl
  have r2:u[k+vl.length+1]?=some t0:=by
   rw [hu,show lo'++(ul++ [u2,t0,t1])++zs=(lo'++(ul++ [u2]))++t0::(t1::zs) by simp,List.getElem?_append_right (by simp [hlo',hull];omega),show k+vl.length+1-(lo'++(ul++ [u2])).length=0 by simp [hlo',hull];omega];rfl
  have r3:u[k+vl.length]?=some u2:=by
   rw [hu,show lo'++(ul++ [u2,t0,t1])++zs=(lo'++ul)++u2::([t0,t1]++zs) by simp,List.getElem?_append_right (by simp [hlo',hull]),show k+vl.length-(lo'++ul).length=0 by simp [hlo',hull]];rfl
  have r4:(v++Z)[vl.length+1]?=some v1:=by rw [hvd];simp
  have r5:(v++Z)[vl.length]?=some v2:=by rw [hvd];simp
  refine qXm rfl (by rw [a1];omega) fun z1 hz1 _=> ?_;have hz1:u[(iadd .i64 (((k+1:Nat):Int)-1) (v.length:Int)).toNat]?=some z1:=hz1;rw [a1,Int.toNat_natCast,r1]at hz1;cases hz1;refine qV rfl (c1s (by omega) (by omega)) ?_;refine qXm rfl (by rw [a2];omega) fun z1 hz1 _=> ?_;have hz1:u[(isub .i64 (iadd .i64 (((k+1:Nat):Int)-1) (v.length:Int)) 1).toNat]?=some z1:=hz1;rw [a2,Int.toNat_natCast,r2]at hz1;cases hz1;have hor:ior .i64 (t1*1048576) t0=T:=by rw [c0l ht1.1 (by omega) ht0.1 ht0.2,hT]
  refine qE rfl (by kernel_rfl) (by kernel_rfl) ?_;have hb3:0<=isub .i64 (v.length:Int) 1/\isub .i64 (v.length:Int) 1<v.length:=by rw [a3];omega
  have hvZ:0+v.length<=(v++Z).length:=by simp
  have hr4:∀{z:Int},(v++Z)[0+(isub .i64 (v.length:Int) 1).toNat]?=some z->z=v1:=fun hz=>by
   rw [a3,Int.toNat_natCast,Nat.zero_add,r4]at hz;exact(Option.some.inj hz).symm
  refine qXw rfl hb3 hvZ fun z1 hz1=> ?_;obtain rfl:=hr4 hz1;refine qV (v:=T/z1) rfl (by rw [hor];exact a8a hT0 (by omega) (by omega)) ?_;refine qXw rfl hb3 hvZ fun z2 hz2=> ?_;obtain rfl:=hr4 hz2;refine qV (v:=T %z2) rfl (by rw [hor];exact a9u hT0 (by omega)) ?_;refine qE rfl (by kernel_rfl) (by kernel_rfl) ?_;refine qI ?_;refine qL (σ:=Int×Int) (fun s=> [(15,I s.1),(16,I s.2)]) (fun _=> [])
   (fun s=>0<=s.1/\0<=s.2/\s.1*z2+s.2=T/\val (ul++ [u2,t0,t1])<(s.1+1)*val v) (fun s=>s.1.toNat) (T/z2,T %z2) rfl rfl ⟨hg0,hr0,hsum,hq0⟩ ?_
  rintro⟨g,rest⟩ ⟨g1,g2,g3,g4⟩ ih2;dsimp only at g1 g2 g3 g4;have hback:(1048576<=g∨(rest<1048576/\rest*1048576+u2<g*v2))->(0<=isub .i64 g 1/\0<=iadd .i64 rest z2/\isub .i64 g 1*z2+iadd .i64 rest z2=T/\val (ul++ [u2,t0,t1])<(isub .i64 g 1+1)*val v)/\(isub .i64 g 1).toNat<g.toNat:=fun hbig=>by
   have hgpos:0<g:=by
    rcases hbig with h|⟨h1,h2⟩
    ·omega
    rcases(show g=0∨0<g by omega)with h|h
    ·subst h;omega
    exact h
   have hgv:0<=g*z2:=Int.mul_nonneg g1 (by omega);have hgle:g*1<=g*z2:=Int.mul_le_mul_of_nonneg_left hv1.1 g1;rw [a0c (by omega) (by omega),a0e (by omega) (by omega)];refine⟨⟨by omega,by omega,by rw [<-g3];grind,?_⟩,by omega⟩;rw [show g-1+1=g by omega];rcases hbig with h|⟨h1,h2⟩
   ·have:1048576*val v<=g*val v:=Int.mul_le_mul_of_nonneg_right h hV;omega
   rw [eU,eV];exact c7p rfl (g3.trans hT) hvl0 hulP g1 h2 hP
  refine qC rfl (fun c1=> ?ka) (fun c1=> ?kb)
  case ka=>
   refine qE rfl (by kernel_rfl) (by kernel_rfl) ?_;refine qXw rfl hb3 hvZ fun z hz=> ?_;obtain rfl:=hr4 hz;exact qB (ih2 (isub .i64 g 1,iadd .i64 rest z) (hback (.inl c1)).1 (hback (.inl c1)).2) (by kernel_rfl)
  have c1:g<1048576:=by have c1:¬1048576<=g:=c1;omega
  have hm1:=b3t (g:=g) g1 hv2.1 hv2.2;refine qC rfl (fun c2=> ?kc) (fun c2=> ?kd)
  case' kc=>
   have c2:rest<1048576:=c2;refine qXw rfl (show 0<=isub .i64 (v.length:Int) 2/\isub .i64 (v.length:Int) 2<v.length by rw [a4];omega) hvZ fun z hz=> ?_;have hz:(v++Z)[0+(isub .i64 (v.length:Int) 2).toNat]?=some z:=hz;rw [a4,Int.toNat_natCast,Nat.zero_add,r5]at hz;cases hz;refine qV rfl (c1s (x:=rest) (by omega) (by omega)) ?_;refine qXm rfl (by rw [a5];omega) fun z hz _=> ?_;have hz:u[(isub .i64 (iadd .i64 (((k+1:Nat):Int)-1) (v.length:Int)) 2).toNat]?=some z:=hz;rw [a5,Int.toNat_natCast,r3]at hz;cases hz;refine qE rfl (by kernel_rfl) (by kernel_rfl) ?_;have hcmp:ior .i64 (rest*1048576) u2=rest*1048576+u2/\imul .i64 g v2=g*v2:=⟨c0l g2 (by omega) hu2.1 hu2.2,a0s (by omega) (by omega)⟩
   refine qC rfl (fun c3=> ?ke) (fun c3=> ?kf)
  case ke=>
   have c3:ior .i64 (rest*1048576) u2<imul .i64 g v2:=c3;rw [hcmp.1,hcmp.2]at c3;refine qXw rfl hb3 hvZ fun z hz=> ?_;obtain rfl:=hr4 hz;exact qB (ih2 (isub .i64 g 1,iadd .i64 rest z) (hback (.inr ⟨c2,c3⟩)).1 (hback (.inr ⟨c2,c3⟩)).2) (by kernel_rfl)
  case' kf=>
   have hsm:g*v2<=rest*1048576+u2:=by
    have c3:¬ior .i64 (rest*1048576) u2<imul .i64 g v2:=c3;rw [hcmp.1,hcmp.2]at c3;omega
  case' kd=>
   have hsm:g*v2<=rest*1048576+u2:=by have c2:¬rest<1048576:=c2;omega
   refine qE rfl (by kernel_rfl) (by kernel_rfl) ?_
  all_goals
   have hsg2:0<=(((k+1:Nat):Int)-1)/\(((k+1:Nat):Int)-1)<=iadd .i64 (iadd .i64 (((k+1:Nat):Int)-1) (v.length:Int)) 1/\iadd .i64 (iadd .i64 (((k+1:Nat):Int)-1) (v.length:Int)) 1<=((ns u).length:Int):=by rw [a1,a0e (by omega) (by omega),hlm];omega
   refine qW rfl hsg2 ?_;have hlow:(g-1)*val v<=val (ul++ [u2,t0,t1]):=by
    rw [eU,eV];exact c9i rfl (g3.trans hT) hvl0 (by omega) hul0 (by omega) hsm hP hv1.1 hv2.1
   have hVpos:0<val v:=by omega
   obtain⟨r,s2,s3,s4,s1⟩:=d7e (L:=lo') (R:=zs) (Z:=Z) hiwin hv.1 (by simp;omega) (by simp;omega) g1 (by omega) hVpos g4 hlow;rw [<-List.append_assoc lo' _ zs,<-hu]at s1;rw [show lo'.length=(((k+1:Nat):Int)-1).toNat by omega,show(ul++ [u2,t0,t1]).length=(iadd .i64 (iadd .i64 (((k+1:Nat):Int)-1) (v.length:Int)) 1).toNat-(((k+1:Nat):Int)-1).toNat by rw [a1,a0e (by omega) (by omega)];simp;omega]at s1;refine qK rfl s1 rfl ?_;clear ih2 hback;have hrlt:val r<val v:=by rw [s4];exact Int.emod_lt_of_pos _ hVpos
   obtain⟨w'',z,hrw⟩:=d6x (l:=r) (by rw [s3];simp);have hw''l:w''.length=v.length:=by
    have:=congrArg List.length hrw;rw [s3]at this;simp at this;omega
   have hz0:z=0:=by
    have h1:=val_lt hv.1;have h2:0<=z/\z<1048576:=s2 z (by rw [hrw];simp);have h3:=val_nonneg (l:=w'') (fun e he=>s2 e (by rw [hrw];simp [he]));rw [hrw,val_append,hw''l]at hrlt;simp only [val,Int.mul_zero,Int.add_zero]at hrlt;rcases(show z=0∨1<=z by omega)with h4|h4
    ·exact h4
    have h5:pw v.length*1<=pw v.length*z:=Int.mul_le_mul_of_nonneg_left h4 (by have:=pw_pos v.length;omega);omega
   subst hz0;have hrval:val r=val w'':=by rw [hrw,val_append];simp [val]
   have hiw'':InR w'':=fun e he=>s2 e (by rw [hrw];simp [he]);refine qXm rfl (show 0<=(((k+1:Nat):Int)-1)/\(((k+1:Nat):Int)-1)<((List.replicate (k+1) 0++qd:List Int).length:Int) by simp;omega) fun _ _ _=> ?_;refine qB (ih (isub .i64 (((k+1:Nat):Int)-1) 1,(ns (List.replicate (k+1) 0++qd)).set (((k+1:Nat):Int)-1).toNat (N (val (ul++ [u2,t0,t1])/val v)),ns (lo'++(r++zs))) ⟨k,lo',w'',0::zs,(val (ul++ [u2,t0,t1])/val v)::qd,?_,hlo',hw''l,fun e he=>hil e (by simp [he]),hiw'',InR.cons (by decide) (by decide) hiz,by show(0:Int)+1048576*val zs=0;omega,by omega,by simp;omega,?_,?_,?_⟩ ?_) (by kernel_rfl)
   ·dsimp only;rw [a0c (by omega) (by omega)];omega
   ·dsimp only;rw [e0,Int.toNat_natCast,a2x,List.replicate_succ',List.append_assoc,List.singleton_append,a5r _ _ _ _ (by simp)]
   ·dsimp only;rw [hrw];simp
   ·rw [hD,b0i];simp only [a0z];have e2:val w*1048576+d=val (ul++ [u2,t0,t1]):=by omega
    rw [e2,<-s4,hrval];simp
   show(isub .i64 (((k+1:Nat):Int)-1) 1+1).toNat<((((k+1:Nat):Int)-1)+1).toNat;rw [a0c (by omega) (by omega)];omega
 clear ih;obtain rfl:k=0:=by omega
 have hlo0:lo= []:=List.eq_nil_of_length_eq_zero hlo;subst hlo0;simp only [a0z,List.nil_append]at hD;have hV:(0:Int)<val v:=by rw [hvl];omega
 have h0:=val_nonneg (InR.drop hui K);have q1:=b2u (V:=val v) ((dig (x*S)++ [(0:Int)]).take K) (val ((dig (x*S)++ [(0:Int)]).drop K));have q2:=a8h hV ((dig (x*S)++ [(0:Int)]).take K) _ h0 hw0;have q3:=b6g hV ((dig (x*S)++ [(0:Int)]).take K) _ (InR.take hui K) h0 hw0;have q4:=b1u (val v) ((dig (x*S)++ [(0:Int)]).take K) (val ((dig (x*S)++ [(0:Int)]).drop K));rw [hD]at q1 q2 q3 q4;dsimp only at q1 q2 q3 q4;rw [a7z,List.take_append_drop]at q1;have q5:val (dig (x*S)++ [(0:Int)])=((x*S:Nat):Int):=by rw [val_append,a0h];simp [val]
 rw [q5]at q1;rw [hvl]at q1 q2;obtain⟨g1,g2⟩:=c1r (U:=((x*S:Nat):Int)) (V:=((y*S:Nat):Int)) (q:=val qd) (by omega) (by omega) (by rw [Int.add_mul,Int.one_mul];omega);obtain⟨n1,n2⟩:=b7n (a:=x) (b:=y) hS;have e1:val (w++zs)=((x %y*S:Nat):Int):=by
  rw [val_append,hz,Int.mul_zero,Int.add_zero,<-n2,Int.natCast_emod];omega
 have e2:val qd=((x/y:Nat):Int):=by
  rw [<-g1,<-n1,Int.natCast_ediv]
 have hdl:=a9r (hiw.append hiz);rw [e1,Int.toNat_natCast]at hdl;obtain⟨k1,k2⟩:=b0h (l:=w++zs) (hiw.append hiz) (by simp;omega) (show ns ([]++(w++zs))=ns (w++zs)from rfl);rw [e1,Int.toNat_natCast]at k1 k2;refine qK rfl k1 rfl ?_;have hsh:=c0j (a0i (x %y*S)) (d:=(S:Int)) (by simp at hdl;omega) (by omega) (by omega);rw [a0h,<-Int.natCast_ediv,Nat.mul_div_cancel _ hS,Int.toNat_natCast]at hsh;rw [<-k2]at hsh;refine qK rfl hsh rfl ?_;obtain⟨k3,k4⟩:=b0h (l:=qd) q3 (by rw [q4];simp;omega) (show ns (List.replicate 0 0++qd)=ns qd from rfl);rw [e2,Int.toNat_natCast]at k3 k4;refine qK rfl k3 rfl (qR rfl ⟨?_,rfl⟩);show DV.tup [L (List.take _ (List.drop 0 _)),L (ns (dig (x %y)))]=_;rw [List.drop_zero];exact congrArg (fun l=>DV.tup [L l,L (ns (dig (x %y)))]) k4
set_option linter.unusedVariables false
set_option maxHeartbeats 4000000
set_option maxRecDepth 100000
theorem e2g(a b:List Int)(hla:a.length<1099511627776):EvF tt 213 [.v (.sl (ns a)),.v (.sl (ns b))] (B (decide (a=b))):=by
 refine evF (eIn Tryz.func213 rfl rfl ?_);refine qC rfl (fun h=> ?_) (fun h=> ?_)
 ·rw [hlm,hlm]at h;exact qR rfl ⟨by rw [decide_eq_false (fun e=>h (by rw [e]))];rfl,rfl⟩
 rw [hlm,hlm]at h;have hl:a.length=b.length:=by omega
 refine qL (σ:=Int) (fun i=> [(13,I i)]) (fun _=> []) (fun i=>∃k:Nat,i=k/\k<=a.length/\decide (a=b)=decide (a.drop k=b.drop k)) (fun i=>a.length-i.toNat) 0 rfl rfl ⟨0,rfl,by omega,rfl⟩ ?_;rintro i ⟨k,rfl,hk,hd⟩ ih;refine qC rfl (fun h2=> ?_) (fun h2=> ?_)
 ·rw [hlm]at h2;refine qXm rfl ⟨by omega,by omega⟩ fun x hx _=> ?_;refine qXm rfl ⟨by omega,by omega⟩ fun y hy _=> ?_;rw [Int.toNat_natCast]at hx hy;rw [a3c hx,a3c hy,f2d]at hd;refine qE rfl (by kernel_rfl) (by kernel_rfl) (qC rfl (fun h3=> ?_) (fun h3=> ?_))
  ·exact qR rfl ⟨by rw [hd,decide_eq_false h3];rfl,rfl⟩
  have h3:x=y:=Classical.byContradiction h3;have hinc:=c0m h2 (by omega);exact qB (ih _ ⟨k+1,hinc.1,by omega,by rw [hd,decide_eq_true h3,Bool.true_and]⟩ hinc.2) (by kernel_rfl)
 rw [hlm]at h2;obtain rfl:k=a.length:=by omega
 exact qR rfl ⟨by rw [hd,List.drop_length,hl,List.drop_length];rfl,rfl⟩
theorem e0m(a b:Big)(hla:a.Digits.length<1099511627776):EvF tt 154 [.v (eB a),.v (eB b)] (B (decide (a=b))):=by
 refine evF (eIn Tryz.func154 rfl rfl ?_);obtain⟨s,l⟩:=a;obtain⟨t,m⟩:=b;have hd:decide ((⟨s,l⟩:Big)=⟨t,m⟩)=(decide (s=t)&&decide (l=m)):=by by_cases h:s=t<;>by_cases h2:l=m<;>simp [h,h2]
 rw [hd];refine qC rfl (fun h=> ?_) (fun h=> ?_)
 ·refine qK rfl (e2g l m hla) rfl (qR rfl ⟨?_,rfl⟩);rw [decide_eq_true (show s=t from h)];rfl
 exact qR rfl ⟨by rw [decide_eq_false (show¬s=t from h)];rfl,rfl⟩
theorem rt{x:Int}{k:Nat}(h:Sm k x)(hk:k<1099511627776):EvF tt 107 [.v (eB (toB x))] (B true):=by
 have hr:=b5v (toB x) (by have:=a0d h;show(dig x.natAbs).length<_;omega)
 rwa [a4y]at hr
theorem d2q{x:Int}{k:Nat}(h:Sm k x)(hk:k<1073741824):EvF tt 108 [.v (eB (toB x))] (.v (eB (toB (-x)))):=by
 refine evF (eIn Tryz.func108 rfl rfl ?_);have hl:=a0d h;refine qK rfl (rt h (by omega)) rfl (qN rfl rfl ?_);refine qU 1 8 rfl rfl rfl (a2r _) ?_ (by show(ns (dig x.natAbs)).length*8<=_;simp;omega);have hr:=b1i x;have hs:=a1x (IntKind.i64.wrap (0-sg x)) x.natAbs (by omega);rw [a0y (-x) (by omega) (fun hv=>by
  rw [a0t (by omega) (by omega)];rcases a0b x with⟨h1,h2⟩|⟨h1,h2⟩|⟨h1,h2⟩
  ·rw [h2,a1b (by omega)];rfl
  ·omega
  rw [h2,a1g (by omega)];rfl)]at hs
 exact qK rfl hs rfl (qE rfl (by kernel_rfl) (by kernel_rfl) (qR rfl ⟨rfl,rfl⟩))
theorem or_e(x y:Int):EvF tt 300 [.v (.sl [N x,N y])] (I (if x≠0 then x else y)):=by
 refine evF (eIn Tryz.func300 rfl rfl ?_);refine qL (σ:=Int) (fun i=> [(8,I i)]) (fun _=> []) (fun i=>i=0∨(i=1/\x=0)∨(i=2/\x=0/\y=0)) (fun i=>(2-i).toNat) 0 rfl rfl (.inl rfl) ?_;rintro i hi ih;have h2:((([N x,N y]:List VT).length:Nat):Int)=2:=rfl;refine qC rfl (fun h=> ?_) (fun h=> ?_)
 ·rw [h2]at h;rcases hi with rfl|⟨rfl,hx⟩|⟨rfl,_⟩
  ·refine qV (v:=N x) rfl rfl (qC rfl (fun h3=> ?_) (fun h3=> ?_))
   ·exact qR rfl ⟨by rw [if_pos h3];rfl,rfl⟩
   exact qB (ih (iadd .i64 0 1) (.inr (.inl ⟨by decide,by omega⟩)) (by decide)) (by kernel_rfl)
  ·refine qV (v:=N y) rfl rfl (qC rfl (fun h3=> ?_) (fun h3=> ?_))
   ·exact qR rfl ⟨by rw [if_neg (by omega)];rfl,rfl⟩
   exact qB (ih (iadd .i64 1 1) (.inr (.inr ⟨by decide,hx,by omega⟩)) (by decide)) (by kernel_rfl)
  omega
 rw [h2]at h;rcases hi with rfl|⟨rfl,_⟩|⟨rfl,hx,hy⟩
 ·omega
 ·omega
 exact qR rfl ⟨by rw [if_neg (by omega),hy];rfl,rfl⟩
theorem e9d(u v:Nat)(hu:(dig u).length<1073741824)(hv:(dig v).length<1073741824):EvF tt 118 [.v (.sl (ns (dig u))),.v (.sl (ns (dig v)))] (L (ns (dig (u+v)))):=by
 have:=e7p (a0i u) (a0i v) hu hv
 rwa [a0h,a0h,show((u:Int)+v).toNat=u+v by omega]at this
theorem e2w(u v:Nat)(hu:(dig u).length<1073741824)(hvu:v<=u):EvF tt 177 [.v (.sl (ns (dig u))),.v (.sl (ns (dig v)))] (L (ns (dig (u-v)))):=by
 have:=f1o (a0i u) (a0i v) hu (a0m hvu) (by rw [a0h,a0h];omega)
 rwa [a0h,a0h,show((u:Int)-v).toNat=u-v by omega]at this
theorem b3g(u v:Nat)(hu:(dig u).length<1073741824):EvF tt 223 [.v (.sl (ns (dig u))),.v (.sl (ns (dig v)))] (I (sg ((u:Int)-v))):=by
 have:=b9g (a3s u) (a3s v) (by omega)
 rwa [a0h,a0h]at this
theorem a4p(c:Big):EvF tt 175 [.v (.bool true),.v (eB c)] (.tup [.v (eB c),I 0]):=by
 refine evF (eIn Tryz.func175 rfl rfl ?_);exact qN rfl rfl (qR rfl ⟨rfl,rfl⟩)
theorem e9e{x y:Int}{k:Nat}(hx:Sm k x)(hy:Sm k y)(hk:k<536870912):EvF tt 266 [.v (eB (toB x)),.v (eB (toB y))] (.tup [.v (eB (toB (x+y))),I 0]):=by
 refine evF (eIn Tryz.func266 rfl rfl ?_);have lx:=a0d hx;have ly:=a0d hy;have lxy:=a0d (hx.add hy);refine qK rfl (rt hx (by omega)) rfl (qN rfl rfl (qK rfl (rt hy (by omega)) rfl ?_));refine qN rfl rfl ?_;refine qC rfl (fun hs=> ?_) (fun hs=> ?_)
 ·have hs:0<=imul .i64 (sg x) (sg y):=hs;rw [a4k]at hs;refine qK rfl (or_e (sg x) (sg y)) rfl ?_;refine qK rfl (e9d x.natAbs y.natAbs (by omega) (by omega)) rfl ?_;have hab:x.natAbs+y.natAbs=(x+y).natAbs:=by
   rw [a7m]at hs;rcases a0b x with⟨h1,h2⟩|⟨h1,h2⟩|⟨h1,h2⟩<;>rcases a0b y with⟨h3,h4⟩|⟨h3,h4⟩|⟨h3,h4⟩<;>rw [h2,h4]at hs<;>omega
  have h6:=a1x (if sg x≠0 then sg x else sg y) (x.natAbs+y.natAbs) (by rw [hab];omega);rw [a0y (x+y) hab.symm (fun hv=>by
   rw [a7m]at hs;rcases a0b x with⟨h1,h2⟩|⟨h1,h2⟩|⟨h1,h2⟩<;>rcases a0b y with⟨h3,h4⟩|⟨h3,h4⟩|⟨h3,h4⟩<;>rw [h2,h4]at hs⊢<;>
    first
     |omega
     |(rw [a1g (by omega)];decide)
     |(rw [a1b (by omega)];decide))]at h6
  exact qK rfl h6 rfl (qK rfl (a4p _) rfl (qE rfl (by kernel_rfl) (by kernel_rfl) (qR rfl ⟨rfl,rfl⟩)))
 have hs:¬0<=imul .i64 (sg x) (sg y):=hs;rw [a4k]at hs;have hne:x≠0/\y≠0:=by
  constructor
  ·intro h;subst h;rw [Int.zero_mul]at hs;exact hs (by decide)
  intro h;subst h;rw [Int.mul_zero]at hs;exact hs (by decide)
 have hop:sg x=-sg y:=by
  rw [a7m]at hs;rcases a0b x with⟨h1,h2⟩|⟨h1,h2⟩|⟨h1,h2⟩<;>rcases a0b y with⟨h3,h4⟩|⟨h3,h4⟩|⟨h3,h4⟩<;>rw [h2,h4]at hs⊢<;>omega
 refine qK rfl (b3g x.natAbs y.natAbs (by omega)) rfl ?_;have hsc:=a0b ((x.natAbs:Int)-y.natAbs);refine qC rfl (fun hlt=> ?_) (fun hlt=> ?_)
 ·have hlt:x.natAbs<y.natAbs:=by omega
  refine qK rfl (e2w y.natAbs x.natAbs (by omega) (by omega)) rfl ?_;have hab:(x+y).natAbs=y.natAbs-x.natAbs:=by
   rcases a0b x with⟨h1,h2⟩|⟨h1,h2⟩|⟨h1,h2⟩<;>rcases a0b y with⟨h3,h4⟩|⟨h3,h4⟩|⟨h3,h4⟩<;>omega
  have h6:=a1x (sg y) (y.natAbs-x.natAbs) (by rw [<-hab];omega);rw [a0y (x+y) hab (fun hv=>by
   rcases a0b y with⟨h3,h4⟩|⟨h3,h4⟩|⟨h3,h4⟩
   ·rw [h4,a1g (by omega)]
   ·omega
   rw [h4,a1b (by omega)])]at h6
  exact qK rfl h6 rfl (qK rfl (a4p _) rfl (qE rfl (by kernel_rfl) (by kernel_rfl) (qR rfl ⟨rfl,rfl⟩)))
 have hlt:¬x.natAbs<y.natAbs:=by omega
 refine qK rfl (e2w x.natAbs y.natAbs (by omega) (by omega)) rfl ?_;have hab:(x+y).natAbs=x.natAbs-y.natAbs:=by
  rcases a0b x with⟨h1,h2⟩|⟨h1,h2⟩|⟨h1,h2⟩<;>rcases a0b y with⟨h3,h4⟩|⟨h3,h4⟩|⟨h3,h4⟩<;>omega
 have h6:=a1x (sg x) (x.natAbs-y.natAbs) (by rw [<-hab];omega);rw [a0y (x+y) hab (fun hv=>by
  rcases a0b x with⟨h3,h4⟩|⟨h3,h4⟩|⟨h3,h4⟩
  ·rw [h4,a1g (by omega)]
  ·omega
  rw [h4,a1b (by omega)])]at h6
 exact qK rfl h6 rfl (qK rfl (a4p _) rfl (qE rfl (by kernel_rfl) (by kernel_rfl) (qR rfl ⟨rfl,rfl⟩)))
theorem e8u{x y:Int}{k:Nat}(hx:Sm k x)(hy:Sm k y)(hk:k<268435456):EvF tt 224 [.v (eB (toB x)),.v (eB (toB y))] (.tup [.v (eB (toB (x*y))),I 0]):=by
 refine evF (eIn Tryz.func224 rfl rfl ?_);have lx:=a0d hx;have ly:=a0d hy;have lxy:=a0d (hx.mul hy);refine qK rfl (rt hx (by omega)) rfl (qN rfl rfl (qK rfl (rt hy (by omega)) rfl ?_));refine qN rfl rfl ?_;obtain⟨l,m1,m2⟩:=c8x (a0i x.natAbs) (a0i y.natAbs) (by omega) (by omega);rw [a0h,a0h,<-Int.natCast_mul,Int.toNat_natCast,<-Int.natAbs_mul]at m1 m2;refine qK rfl m2 rfl ?_;have h6:=a1x (imul .i64 (sg x) (sg y)) (x*y).natAbs (by omega);rw [a0y (x*y) rfl (fun _=>a4k x y)]at h6;have hl:((ns l).drop 0).take (dig (x*y).natAbs).length=ns (dig (x*y).natAbs):=by rw [List.drop_zero];exact(List.map_take ..).symm.trans (congrArg ns m1)
 rw [<-hl]at h6;exact qK rfl h6 rfl (qK rfl (a4p _) rfl (qE rfl (by kernel_rfl) (by kernel_rfl) (qR rfl ⟨rfl,rfl⟩)))
theorem c8b{x y:Int}{k:Nat}(hx:Sm k x)(hy:Sm k y)(hk:k<536870912):EvF tt 165 [.v (eB (toB x)),.v (eB (toB y))] (I (sg (x-y))):=by
 refine evF (eIn Tryz.func165 rfl rfl ?_);have lx:=a0d hx;refine qK rfl (rt hx (by omega)) rfl (qN rfl rfl (qK rfl (rt hy (by omega)) rfl ?_));refine qN rfl rfl ?_;refine qC rfl (fun h=> ?_) (fun h=> ?_)
 ·have h:sg x≠sg y:=h;refine qK rfl (e4d _ _) rfl (qR rfl ⟨?_,rfl⟩);refine congrArg I ?_;show sg (sg x-sg y)=_;rcases a0b x with⟨a,b⟩|⟨a,b⟩|⟨a,b⟩<;>rcases a0b y with⟨c,d⟩|⟨c,d⟩|⟨c,d⟩<;>rw [b,d]at h⊢<;>first
   |(exfalso;omega)
   |(rw [a1g (x:=x-y) (by omega)];decide)
   |(rw [a1b (x:=x-y) (by omega)];decide)
 have h:sg x=sg y:=Classical.byContradiction h;refine qK rfl (b3g x.natAbs y.natAbs (by omega)) rfl (qE rfl (by kernel_rfl) (by kernel_rfl) (qR rfl ⟨?_,rfl⟩));refine congrArg I ?_;show imul .i64 (sg x) _=_;rw [a4k];rcases a0b x with⟨a,b⟩|⟨a,b⟩|⟨a,b⟩<;>rcases a0b y with⟨c,d⟩|⟨c,d⟩|⟨c,d⟩<;>rw [b,d]at h<;>(try omega)
 ·rw [a7m,b];rcases a0b (x-y)with⟨e,f⟩|⟨e,f⟩|⟨e,f⟩
  ·rw [f,a1b (by omega)];rfl
  ·rw [f,show(x.natAbs:Int)-y.natAbs=0 by omega];rfl
  rw [f,a1g (by omega)];rfl
 ·subst a c;rfl
 rw [a7m,b,Int.one_mul,show(x.natAbs:Int)-y.natAbs=x-y by omega]
theorem e0q{x y:Int}{k:Nat}(hx:Sm k x)(hy:Sm k y)(hk:k<8388608)(hy0:y≠0):EvF tt 110 [.v (eB (toB x)),.v (eB (toB y))] (.tup [.v (eB (toB (dq x y))),.v (eB (toB (dr x y))),I 0]):=by
 have lx:=a0d hx;have ly:=a0d hy;have hyn:y.natAbs≠0:=by omega
 have hmod:=Nat.mod_lt x.natAbs (show y.natAbs>0 by omega);have hdivle:x.natAbs/y.natAbs<=x.natAbs:=Nat.div_le_self _ _;have lq:=a0m hdivle;have lr:=a0m (Nat.le_of_lt hmod);have lq1:(dig (x.natAbs/y.natAbs+1)).length<=k+1:=by
  have h:Sm (k+1) ((x.natAbs/y.natAbs+1:Nat):Int):=by
   generalize x.natAbs/y.natAbs=q at*;unfold Sm at*;rw [Int.natAbs_natCast];simp only [pw];have:=pw_pos k;omega
  have:=a0d h
  rwa [Int.natAbs_natCast]at this
 have ls:=a0m (show y.natAbs-x.natAbs %y.natAbs<=y.natAbs by omega);refine evF (eIn Tryz.func110 rfl rfl ?_);refine qK rfl (rt hx (by omega)) rfl (qN rfl rfl (qK rfl (rt hy (by omega)) rfl (qN rfl rfl ?_)));refine qN rfl (by show(sg y==0)=false;rcases a0b y with h|h|h<;>first|(rw [h.2];rfl)|omega) ?_;refine qK rfl (e1l (x:=x.natAbs) (y:=y.natAbs) hyn (by omega) (by omega)) rfl ?_;have hso:odd x y=true↔(imul .i64 (sg x) (sg y)<0/\0<((dig (x.natAbs %y.natAbs)).length:Int)):=by
  rw [a4k];unfold odd;have e1:(sg (x*y)<0)↔(x*y<0):=by
   rcases a0b (x*y)with⟨h1,h2⟩|⟨h1,h2⟩|⟨h1,h2⟩<;>rw [h2]<;>simp<;>omega
  have e2:(0<((dig (x.natAbs %y.natAbs)).length:Int))↔(x.natAbs %y.natAbs≠0):=by
   by_cases h:x.natAbs %y.natAbs=0
   ·rw [h,dig_zero];simp
   have:=a7k h;have h3:0<(dig (x.natAbs %y.natAbs)).length:=List.length_pos_iff.2 this;simp [h];omega
  rw [e1,e2];simp
 refine qC rfl (fun c1=> ?ka) (fun c1=> ?kb)
 case' ka=>
  have c1:imul .i64 (sg x) (sg y)<0:=c1;refine qC rfl (fun c2=> ?kc) (fun c2=> ?kd)
 case kc=>
  have c2:0<((ns (dig (x.natAbs %y.natAbs))).length:Int):=c2;rw [hlm]at c2;have ho:=hso.2 ⟨c1,c2⟩;have ha:=e9d (x.natAbs/y.natAbs) 1 (by omega) (by rw [dig_one];simp);rw [dig_one]at ha;have h6:=a1x (-1) (x.natAbs/y.natAbs+1) (by omega);have h7:=a1x (sg y) (y.natAbs-x.natAbs %y.natAbs) (by omega);rw [a0y (dq x y) (c6e ho).1 (fun _=>(c6e ho).2.symm)]at h6;rw [a0y (dr x y) (c5c hy0 ho).1 (fun _=>(c5c hy0 ho).2.symm)]at h7;refine qK rfl ha rfl (qK rfl h6 rfl (qK rfl (e2w y.natAbs (x.natAbs %y.natAbs) (by omega) (by omega)) rfl (qK rfl h7 rfl ?_)));first
   |exact qR rfl ⟨rfl,rfl⟩
   |exact qE rfl (by kernel_rfl) (by kernel_rfl) (qR rfl ⟨rfl,rfl⟩)
 case' kd=>
  have ho:¬odd x y=true:=fun h=>c2 (by show 0<((ns (dig (x.natAbs %y.natAbs))).length:Int);rw [hlm];exact(hso.1 h).2)
 case' kb=>
  have ho:¬odd x y=true:=fun h=>c1 (hso.1 h).1
 all_goals
  have h6:=a1x (imul .i64 (sg x) (sg y)) (x.natAbs/y.natAbs) (by omega);have h7:=a1x (sg x) (x.natAbs %y.natAbs) (by omega);rw [a4k,a0y (dq x y) (b5o hy0 ho).1 (b5o hy0 ho).2,<-a4k]at h6;rw [a0y (dr x y) (b7g ho).1 (b7g ho).2]at h7;refine qK rfl h6 rfl (qK rfl h7 rfl ?_);first
   |exact qR rfl ⟨rfl,rfl⟩
   |exact qE rfl (by kernel_rfl) (by kernel_rfl) (qR rfl ⟨rfl,rfl⟩)
theorem e7s{x y:Int}{k:Nat}(hx:Sm k x)(hy:Sm k y)(hk:k<8388608):EvF tt 109 [.v (eB (toB x)),.v (eB (toB y))] (.tup [.v (eB (toB (Nat.gcd x.natAbs y.natAbs:Nat))),I 0]):=by
 have lx:=a0d hx;have ly:=a0d hy;have lg:(dig (Nat.gcd x.natAbs y.natAbs)).length<16777216:=by
  by_cases h:x.natAbs=0
  ·rw [h,Nat.gcd_zero_left];omega
  have:=a0m (Nat.gcd_le_left y.natAbs (show 0<x.natAbs by omega));omega
 refine evF (eIn Tryz.func109 rfl rfl ?_);refine qK rfl (rt hx (by omega)) rfl (qN rfl rfl (qK rfl (rt hy (by omega)) rfl (qN rfl rfl ?_)));refine qU 1 8 rfl rfl rfl (a2r _) ?_ (by show(ns (dig x.natAbs)).length*8<=_;simp;omega);refine qE rfl (by kernel_rfl) (by kernel_rfl) ?_;refine qB ?_ rfl;refine qI ?_;have hend:∀g:Nat,Nat.gcd x.natAbs y.natAbs=g->(dig g).length<16777216/\EvF tt 111 [.v (N 1),.v (.sl (ns (dig g)))] (.v (eB (toB (g:Int)))):=by
  rintro g rfl;have h6:=a1x 1 (Nat.gcd x.natAbs y.natAbs) (by omega);rw [a0y ((Nat.gcd x.natAbs y.natAbs:Nat):Int) (Int.natAbs_natCast _) (fun hv=>by rw [a1b (by omega)])]at h6;exact⟨lg,h6⟩
 refine qC rfl (fun h=> ?_) (fun h=> ?_)
 ·have h:0<((ns (dig y.natAbs)).length:Int):=h;rw [hlm]at h;have hy0:y.natAbs≠0:=fun e=>by rw [e,dig_zero]at h;simp at h
  refine qK rfl (e1l (x:=x.natAbs) (y:=y.natAbs) hy0 (by omega) (by omega)) rfl ?_;have hmod:=Nat.mod_lt x.natAbs (show y.natAbs>0 by omega);refine qL (σ:=Nat×Nat) (fun s=> [(6,L (ns (dig s.1))),(7,L (ns (dig s.2)))]) (fun _=> []) (fun s=>(dig s.1).length<16777216/\(dig s.2).length<16777216/\Nat.gcd x.natAbs y.natAbs=Nat.gcd s.1 s.2) (fun s=>s.2) (y.natAbs,x.natAbs %y.natAbs) rfl rfl ⟨by dsimp only;omega,by have:=a0m (Nat.le_of_lt hmod);dsimp only;omega,by rw [Nat.gcd_comm x.natAbs,Nat.gcd_rec y.natAbs,Nat.gcd_comm]⟩ ?_;rintro⟨u,v⟩ ⟨hu,hv,hg⟩ ih;dsimp only at hu hv hg;refine qC rfl (fun h=> ?_) (fun h=> ?_)
  ·have h:0<((ns (dig v)).length:Int):=h;rw [hlm]at h;have hv0:v≠0:=fun e=>by rw [e,dig_zero]at h;simp at h
   have hmod:=Nat.mod_lt u (show v>0 by omega);refine qK rfl (e1l (x:=u) (y:=v) hv0 hu hv) rfl ?_;exact qB (ih (v,u %v) ⟨hv,by have:=a0m (Nat.le_of_lt hmod);dsimp only;omega,by rw [hg,Nat.gcd_comm u,Nat.gcd_rec v,Nat.gcd_comm]⟩ hmod) (by kernel_rfl)
  have h:¬0<((ns (dig v)).length:Int):=h;rw [hlm]at h;obtain rfl:v=0:=a5a.1 (List.length_eq_zero_iff.1 (by omega));rw [Nat.gcd_zero_right]at hg;obtain⟨l1,h6⟩:=hend u hg;refine qU 1 8 rfl rfl rfl (a2r _) (qK rfl h6 rfl (qK rfl (a4p _) rfl (qR rfl ⟨by rw [hg];rfl,rfl⟩)))
 have h:¬0<((ns (dig y.natAbs)).length:Int):=h;rw [hlm]at h;have hy0:y.natAbs=0:=a5a.1 (List.length_eq_zero_iff.1 (by omega));obtain⟨l1,h6⟩:=hend x.natAbs (by rw [hy0,Nat.gcd_zero_right]);refine qU 1 8 rfl rfl rfl (a2r _) (qK rfl h6 rfl (qK rfl (a4p _) rfl (qR rfl ⟨by rw [hy0,Nat.gcd_zero_right];rfl,rfl⟩))) (by show(ns (dig x.natAbs)).length*8<=_;simp;omega)
theorem of_e{x:Int}(h1:-9223372036854775808<=x)(h2:x<=9223372036854775807):EvF tt 57 [.v (N x)] (.v (eB (toB x))):=by
 refine evF (eIn Tryz.func57 rfl rfl ?_);have hl:=a7t (u:=x.natAbs) (by omega);refine qC rfl (fun h=> ?_) (fun h=> ?_)
 case' refine_1=>
  have e:IntKind.u64.wrap (0-IntKind.u64.wrap x)=(x.natAbs:Int):=by rw [a6p,a6p];omega
  obtain⟨s,hs⟩:∃s:Int,s=-1:=⟨_,rfl⟩
  have hsg:x.natAbs≠0->s=sg x:=fun _=>by rw [hs,a1g h]
  refine qL (σ:=Int×List VT) (fun s=> [(4,.v (.int .u64 s.1))]) (fun s=> [(0,.row 3 1 s.2)]) (fun s=>∃(u:Nat)(acc:List Int),s.1=u/\u<18446744073709551616/\s.2=ns acc/\acc++dig u=dig x.natAbs) (fun s=>s.1.toNat) (IntKind.u64.wrap (0-IntKind.u64.wrap x),[]) rfl rfl ⟨x.natAbs,[],e,by omega,rfl,rfl⟩ ?_
 case' refine_2=>
  have e:IntKind.u64.wrap x=(x.natAbs:Int):=by rw [a6p];omega
  obtain⟨s,hs⟩:∃s:Int,s=1:=⟨_,rfl⟩
  have hsg:x.natAbs≠0->s=sg x:=fun _=>by rw [hs,a1b (by omega)]
  refine qL (σ:=Int×List VT) (fun s=> [(4,.v (.int .u64 s.1))]) (fun s=> [(0,.row 3 1 s.2)]) (fun s=>∃(u:Nat)(acc:List Int),s.1=u/\u<18446744073709551616/\s.2=ns acc/\acc++dig u=dig x.natAbs) (fun s=>s.1.toNat) (IntKind.u64.wrap x,[]) rfl rfl ⟨x.natAbs,[],e,by omega,rfl,rfl⟩ ?_
 all_goals
  rintro⟨u',xs⟩ ⟨u,acc,hu,hlt,hxs,hacc⟩ ih;dsimp only at hu hxs;subst hu hxs;refine qC rfl (fun h3=> ?_) (fun h3=> ?_)
  ·have h3:0<(u:Int):=h3;have hu0:u≠0:=by omega
   rw [a3o hu0]at hacc;have hal:acc.length<1099511627776:=by
    have:=congrArg List.length hacc;simp only [List.length_append,List.length_cons]at this;omega
   refine qA 8 rfl rfl (by show((ns acc).length+1)*8<=_;rw [hlm];omega) (qV rfl (e5s _) ?_);have e1:(u:Int)/1048576=((u/1048576:Nat):Int):=by omega
   have e2:(u:Int) %1048576=((u %1048576:Nat):Int):=by omega
   refine qB (ih ((u:Int)/1048576,ns acc++ [N (IntKind.i64.wrap (iand .u64 (u:Int) 1048575))]) ⟨u/1048576,acc++ [((u %1048576:Nat):Int)],e1,by omega,?_,by rw [<-hacc];simp⟩ ?_) (by kernel_rfl)
   ·dsimp only;rw [c6u (by omega) (by omega),e2,a0t (by omega) (by omega)];simp [ns]
   dsimp only;rw [e1];omega
  have h3:¬0<(u:Int):=h3;obtain rfl:u=0:=by omega
  rw [dig_zero,List.append_nil]at hacc;subst hacc;have h6:=a1x s x.natAbs (by omega);rw [a0y x rfl hsg,hs]at h6;exact qK rfl h6 rfl (qR rfl ⟨rfl,rfl⟩)
theorem f1r{x:Int}{k:Nat}(h:Sm k x)(hk:k<1099511627776):EvF tt 189 [.v (eB (toB x))] (if-9223372036854775808<=x/\x<=9223372036854775807 then .tup [I x,B true]else .tup [I 0,B false]):=by
 refine evF (eIn Tryz.func189 rfl rfl ?_);refine qK rfl (rt h hk) rfl (qN rfl rfl ?_);refine qC rfl (fun h4=> ?_) (fun h4=> ?_)
 ·have h4:4<((ns (dig x.natAbs)).length:Int):=h4;rw [hlm]at h4;exact qR rfl ⟨by rw [if_neg (fun hx=>by have:=a7t (u:=x.natAbs) (by omega);omega)];rfl,rfl⟩
 have h4:¬4<((ns (dig x.natAbs)).length:Int):=h4;rw [hlm]at h4;have hD:=a0i x.natAbs;have hv:=a0h x.natAbs;have hsx:=a0b x;obtain⟨D,hDe⟩:∃D,D=dig x.natAbs:=⟨_,rfl⟩
 refine qL (σ:=Int×Int) (fun s=> [(19,I s.1),(4,.v (.int .u64 s.2))]) (fun _=> []) (fun s=>∃k:Nat,s.1=k/\k<=(dig x.natAbs).length/\s.2=val ((dig x.natAbs).take k)) (fun s=>(dig x.natAbs).length-s.1.toNat) (0,0) rfl rfl ⟨0,rfl,by omega,rfl⟩ ?_;rintro⟨i,u⟩ ⟨j,hi,hj,hu⟩ ih;dsimp only at hi hu;subst hi;have hu0:0<=u:=by rw [hu];exact val_nonneg (InR.take hD j)
 have hu1:u<pw j:=by have:=val_lt (InR.take hD j);rw [<-hu,List.length_take,Nat.min_eq_left hj]at this;exact this
 refine qC rfl (fun h5=> ?_) (fun h5=> ?_)
 ·have h5:(j:Int)<((ns (dig x.natAbs)).length:Int):=h5;rw [hlm]at h5;have hinc:=c0m h5 (by omega);refine qXm rfl ⟨by show 0<=(j:Int);omega,by show(j:Int)<((dig x.natAbs).length:Int);omega⟩ fun d hd _=> ?_;have hd:(dig x.natAbs)[(j:Int).toNat]?=some d:=hd;rw [Int.toNat_natCast]at hd;have hdr:=hD d (List.mem_of_getElem? hd);have htk:val ((dig x.natAbs).take (j+1))=u+d*pw j:=by
   rw [List.take_add_one,hd,val_append,<-hu,List.length_take,Nat.min_eq_left hj];simp only [Option.toList_some,val,Int.mul_zero,Int.add_zero];rw [Int.mul_comm]
  have hpj:pw j<=pw 3:=pw_mono (by omega);have hp3:pw 3=1152921504606846976:=by decide
  have hp:=pw_pos j;have hgo:(j=3->d<=8)->ior .u64 u (d*2^(20*j))=u+d*2^(20*j)/\shl .u64 (IntKind.u64.wrap d) (imul .i64 20 (j:Int))=some (d*2^(20*j)):=fun h8=>by
   have hq:u+d*pw j<18446744073709551616:=by
    rcases Nat.lt_or_ge j 3 with h3|h3
    ·have h5:pw (j+1)<=pw 3:=pw_mono (by omega);have h6:(d+1)*pw j<=1048576*pw j:=Int.mul_le_mul_of_nonneg_right (by omega) (Int.le_of_lt hp);simp only [pw]at h5;rw [Int.add_mul,Int.one_mul]at h6;omega
    have:j=3:=by omega
    subst this;have:=h8 rfl;rw [hp3]at hu1⊢;omega
   have hq0:0<=d*pw j:=Int.mul_nonneg hdr.1 (Int.le_of_lt hp);have e2:imul .i64 20 (j:Int)=((20*j:Nat):Int):=by rw [a0s (by omega) (by omega)];omega
   have e3:IntKind.u64.wrap d=d:=by rw [a6p];omega
   rw [pw_two]at hq hu1 hq0;exact⟨e1w hu0 hu1 hdr.1 hq,by rw [e2,e3];exact e3a (by omega) hdr.1 (by omega)⟩
  refine qC rfl (fun h6=> ?ka) (fun h6=> ?kb)
  case' ka=>
   have h6:(j:Int)=3:=h6;refine qC rfl (fun h7=> ?kc) (fun h7=> ?kd)
  case kc=>
   have h7:8<d:=h7;refine qR rfl ⟨?_,rfl⟩;rw [if_neg];rfl;intro hx;obtain rfl:j=3:=by omega
   have h8:=val_append ((dig x.natAbs).take 4) ((dig x.natAbs).drop 4);rw [List.take_append_drop,hv,htk,hp3]at h8;have h9:=val_nonneg (InR.drop hD 4);have h10:0<=pw ((dig x.natAbs).take 4).length*val ((dig x.natAbs).drop 4):=Int.mul_nonneg (Int.le_of_lt (pw_pos _)) h9;omega
  case' kd=>
   obtain⟨e5,e6⟩:=hgo (fun _=>by have h7:¬8<d:=h7;omega)
  case' kb=>
   obtain⟨e5,e6⟩:=hgo (fun h=>by have h6:¬(j:Int)=3:=h6;omega)
  all_goals
   refine qV rfl e6 (qB (ih (iadd .i64 (j:Int) 1,ior .u64 u (d*2^(20*j))) ⟨j+1,hinc.1,by omega,by rw [htk,pw_two];exact e5⟩ hinc.2) (by kernel_rfl))
 have h5:¬(j:Int)<((ns (dig x.natAbs)).length:Int):=h5;rw [hlm]at h5;obtain rfl:j=(dig x.natAbs).length:=by omega
 rw [List.take_length,hv]at hu;subst hu;refine qC rfl (fun h6=> ?_) (fun h6=> ?_)
 ·have h6:sg x<0:=h6;refine qC rfl (fun h7=> ?_) (fun h7=> ?_)
  ·have h7:(x.natAbs:Int)<=9223372036854775808:=h7;refine qR rfl ⟨?_,rfl⟩;show DV.tup [I (IntKind.i64.wrap (IntKind.u64.wrap (0-(x.natAbs:Int)))),B true]=_;rw [if_pos (by omega)]
   congr 3
   rw [Rt.wrap64,a6p];congr 1;split<;>omega
  have h7:¬(x.natAbs:Int)<=9223372036854775808:=h7;refine qN rfl ?_ (qR rfl ⟨by rw [if_neg (by omega)];rfl,rfl⟩);show decide (0<=sg x)=false;simp;omega
 have h6:¬sg x<0:=h6;refine qT rfl (by show decide (0<=sg x)=true;simp;omega) ?_;refine qC rfl (fun h7=> ?_) (fun h7=> ?_)
 ·have h7:(x.natAbs:Int)<9223372036854775808:=h7;refine qR rfl ⟨?_,rfl⟩;show DV.tup [I (IntKind.i64.wrap (x.natAbs:Int)),B true]=_;rw [if_pos (by omega),a0t (by omega) (by omega)]
  congr 3;congr 1;omega
 have h7:¬(x.natAbs:Int)<9223372036854775808:=h7;exact qR rfl ⟨by rw [if_neg (by omega)];rfl,rfl⟩
set_option linter.unusedVariables false
set_option maxHeartbeats 4000000
set_option maxRecDepth 100000
theorem f1m{x:Int}{k:Nat}(h:Sm k x)(hk:k<1099511627776):EvF tt 121 [.v (eB (toB x))] (B (decide (x=1))):=by
 refine evF (eIn Tryz.func121 rfl rfl ?_);have hi:=f1r h hk
 by_cases hr:-9223372036854775808<=x/\x<=9223372036854775807
 ·rw [if_pos hr]at hi;refine qK rfl hi rfl (qT rfl rfl (qR rfl ⟨?_,rfl⟩))
  by_cases hx:x=1
  ·rw [hx];rfl
  rw [decide_eq_false hx];exact congrArg B (beq_eq_false_iff_ne.2 hx)
 rw [if_neg hr]at hi;refine qK rfl hi rfl (qN rfl rfl (qR rfl ⟨?_,rfl⟩));rw [decide_eq_false (by omega)];rfl
theorem a4c{f:Frac}{k:Nat}(hp:f.P.Digits.length<=k)(hq:f.Q.Digits.length<=k)(hk:k<8388608):EvF tt 62 [.v (eF f)] (B (a0f f)):=by
 refine evF (eIn Tryz.func62 rfl rfl ?_);refine qK rfl (b5v f.P (by omega)) rfl ?_;have hrf:a0f f=(a1f f.P&&a1f f.Q&&(f.Q.Sign==1)&&(Nat.gcd (ofB f.P).natAbs (ofB f.Q).natAbs==1)):=rfl;refine qC rfl (fun h1=> ?_) (fun h1=> ?_)
 ·have h1:a1f f.P=false:=by cases h:a1f f.P<;>simp_all
  exact qR rfl ⟨by rw [hrf,h1];rfl,rfl⟩
 have h1:a1f f.P=true:=by cases h:a1f f.P<;>simp_all
 refine qK rfl (b5v f.Q (by omega)) rfl ?_;refine qC rfl (fun h2=> ?_) (fun h2=> ?_)
 ·have h2:a1f f.Q=false:=by cases h:a1f f.Q<;>simp_all
  exact qR rfl ⟨by rw [hrf,h1,h2];rfl,rfl⟩
 have h2:a1f f.Q=true:=by cases h:a1f f.Q<;>simp_all
 refine qC rfl (fun h3=> ?_) (fun h3=> ?_)
 ·exact qR rfl ⟨by rw [hrf,h1,h2,beq_eq_false_iff_ne.2 h3];rfl,rfl⟩
 have h3:f.Q.Sign=1:=Classical.byContradiction h3;obtain⟨x,hx⟩:=a2b h1;obtain⟨y,hy⟩:=a2b h2;have s1:Sm k x:=a0n (by have:(toB x).Digits.length<=k:=hx▸hp;exact this);have s2:Sm k y:=a0n (by have:(toB y).Digits.length<=k:=hy▸hq;exact this);have hg:=e7s s1 s2 hk;rw [<-hx,<-hy]at hg;have ho:=f1m (b5s s1 s2) (by omega);refine qK rfl hg rfl (qT rfl rfl (qK rfl ho rfl ?_));have hr:a0f f=decide (((Nat.gcd x.natAbs y.natAbs:Nat):Int)=1):=by
  rw [hrf,h1,h2,h3,hx,hy,a3d,a3d]
  by_cases h:Nat.gcd x.natAbs y.natAbs=1
  ·rw [h];rfl
  rw [decide_eq_false (by omega)];simp [h]
 rw [hr];first
  |exact qR rfl ⟨rfl,rfl⟩
  |exact qE rfl (by kernel_rfl) (by kernel_rfl) (qR rfl ⟨rfl,rfl⟩)
theorem a4w{r:Rat}{k:Nat}(h:SmF k r)(hk:k<8388608):EvF tt 62 [.v (eF (toF r))] (B true):=by
 have:=a4c (f:=toF r) (a4a h).1 (a4a h).2 hk
 rwa [a2u]at this
theorem d4t(f g:Frac)(hp:f.P.Digits.length<1099511627776)(hq:f.Q.Digits.length<1099511627776):EvF tt 85 [.v (eF f),.v (eF g)] (B (decide (f=g))):=by
 refine evF (eIn Tryz.func85 rfl rfl ?_);obtain⟨P,Q⟩:=f;obtain⟨P',Q'⟩:=g;have hd:decide ((⟨P,Q⟩:Frac)=⟨P',Q'⟩)=(decide (P=P')&&decide (Q=Q')):=by by_cases h:P=P'<;>by_cases h2:Q=Q'<;>simp [h,h2]
 rw [hd];refine qK rfl (e0m P P' hp) rfl (qC rfl (fun h=> ?_) (fun h=> ?_))
 ·refine qK rfl (e0m Q Q' hq) rfl ?_;rw [decide_eq_true h];exact qR rfl ⟨rfl,rfl⟩
 rw [decide_eq_false h];exact qR rfl ⟨rfl,rfl⟩
section
variable{p q:Int}{k:Nat}(hp:Sm k p)(hq:Sm k q)(hk:k<8388608)
include hp hq hk
theorem e6s(h0:q≠0):EvF tt 56 [.v (eB (toB p)),.v (eB (toB q))] (.tup [.v (eF (toF (Rat.divInt p q))),I 0]):=by
 refine evF (eIn Tryz.func56 rfl rfl ?_);refine qK rfl (rt hp (by omega)) rfl (qN rfl rfl (qK rfl (rt hq (by omega)) rfl (qN rfl rfl ?_)));refine qN rfl (by show(sg q==0)=false;rcases a0b q with h|h|h<;>first|(rw [h.2];rfl)|omega) ?_;have hcore:∀{p q:Int},Sm k p->Sm k q->0<q->∃x y g:Int,Sm k g/\g≠0/\EvF tt 109 [.v (eB (toB p)),.v (eB (toB q))] (.tup [.v (eB (toB g)),I 0])/\EvF tt 110 [.v (eB (toB p)),.v (eB (toB g))] (.tup [.v (eB (toB (dq p g))),.v (eB (toB x)),I 0])/\
  EvF tt 110 [.v (eB (toB q)),.v (eB (toB g))] (.tup [.v (eB (toB (dq q g))),.v (eB (toB y)),I 0])/\toF (Rat.divInt p q)=⟨toB (dq p g),toB (dq q g)⟩:=by
  intro p q hp hq h0;have hg:0<Nat.gcd p.natAbs q.natAbs:=Nat.gcd_pos_of_pos_right _ (by omega);have hgs:=b5s hp hq;obtain⟨e1,e2⟩:=a7f (p:=p) h0;exact⟨_,_,_,hgs,by omega,e7s hp hq hk,e0q hp hgs hk (by omega),e0q hq hgs hk (by omega),by unfold toF;rw [e1,e2,<-c3u (by omega),<-c3u (by omega)]⟩
 refine qC rfl (fun hn=> ?_) (fun hn=> ?_)
 ·have hn:sg q<0:=hn;have hs:=a0b q;refine qK rfl (d2q hp (by omega)) rfl (qK rfl (d2q hq (by omega)) rfl ?_);obtain⟨x,y,g,g1,g2,g3,g4,g5,g6⟩:=hcore hp.neg hq.neg (by omega);rw [a7v,g6];first
   |refine qK rfl g3 rfl (qK rfl g4 rfl (qK rfl g5 rfl ?_))
   |refine qE rfl (by kernel_rfl) (by kernel_rfl) (qK rfl g3 rfl (qK rfl g4 rfl (qK rfl g5 rfl ?_)))
  exact qR rfl ⟨rfl,rfl⟩
 have hn:¬sg q<0:=hn;have hs:=a0b q;obtain⟨x,y,g,g1,g2,g3,g4,g5,g6⟩:=hcore hp hq (by omega);rw [g6];exact qK rfl g3 rfl (qK rfl g4 rfl (qK rfl g5 rfl (qR rfl ⟨rfl,rfl⟩)))
omit hk in
theorem c0y(hk:k<268435456):EvF tt 166 [.v (eB (toB p)),.v (eB (toB q))] (.v (eB (toB (p*q)))):=by
 refine evF (eIn Tryz.func166 rfl rfl ?_);exact qK rfl (e8u hp hq hk) rfl (qR rfl ⟨rfl,rfl⟩)
end
theorem c5z{x:Int}{k:Nat}(h:Sm k x)(hk:k<1073741824):EvF tt 313 [.v (eB (toB x))] (.v (eB (toB x))):=by
 refine evF (eIn Tryz.func313 rfl rfl ?_);refine qK rfl (d2q h hk) rfl (qK rfl (d2q h.neg hk) rfl (qR rfl ⟨?_,rfl⟩));rw [Int.neg_neg];rfl
section
variable{a b:Rat}{j k:Nat}(ha:SmF j a)(hb:SmF k b)(hk:j+k<4000000)
include ha hb hk
theorem tPQ:EvF tt 166 [.v (eB (toF a).P),.v (eB (toF b).Q)] (.v (eB (toB (a.num*b.den)))):=c0y (ha.1.mono (by omega:j<=j+k)) (hb.2.mono (by omega:k<=j+k)) (by omega)
theorem tPP:EvF tt 166 [.v (eB (toF a).P),.v (eB (toF b).P)] (.v (eB (toB (a.num*b.num)))):=c0y (ha.1.mono (by omega:j<=j+k)) (hb.1.mono (by omega:k<=j+k)) (by omega)
theorem tQQ:EvF tt 166 [.v (eB (toF a).Q),.v (eB (toF b).Q)] (.v (eB (toB ((a.den:Int)*b.den)))):=c0y (ha.2.mono (by omega:j<=j+k)) (hb.2.mono (by omega:k<=j+k)) (by omega)
theorem fadd_e:EvF tt 212 [.v (eF (toF a)),.v (eF (toF b))] (.tup [.v (eF (toF (a+b))),I 0]):=by
 have m1:Sm (j+k+1) (a.num*b.den):=(ha.1.mul hb.2).mono (by omega);have m2:Sm (j+k+1) (b.num*a.den):=(hb.1.mul ha.2).mono (by omega);have m3:Sm (j+k+1) ((a.den:Int)*b.den):=(ha.2.mul hb.2).mono (by omega);have m4:Sm (j+k+1) (a.num*b.den+b.num*a.den):=(ha.1.mul hb.2).add ((hb.1.mul ha.2).mono (by omega));have hn:=e6s m4 m3 (by omega) (b2q (a4i a) (a4i b));rw [<-b7h]at hn;refine evF (eIn Tryz.func212 rfl rfl ?_);refine qK rfl (a4w ha (by omega)) rfl (qN rfl rfl (qK rfl (a4w hb (by omega)) rfl (qN rfl rfl ?_)));refine qK rfl (tPQ ha hb hk) rfl (qK rfl (tPQ hb ha (by omega)) rfl (qK rfl (e9e m1 m2 (by omega)) rfl (qE rfl (by kernel_rfl) (by kernel_rfl) ?_)));refine qK rfl (tQQ ha hb hk) rfl (qK rfl hn rfl ?_);first
  |exact qR rfl ⟨rfl,rfl⟩
  |exact qE rfl (by kernel_rfl) (by kernel_rfl) (qR rfl ⟨rfl,rfl⟩)
theorem fmul_e:EvF tt 155 [.v (eF (toF a)),.v (eF (toF b))] (.tup [.v (eF (toF (a*b))),I 0]):=by
 have hn:=e6s (ha.1.mul hb.1) (ha.2.mul hb.2) (by omega) (b2q (a4i a) (a4i b));rw [<-c1i]at hn;refine evF (eIn Tryz.func155 rfl rfl ?_);refine qK rfl (a4w ha (by omega)) rfl (qN rfl rfl (qK rfl (a4w hb (by omega)) rfl (qN rfl rfl ?_)));refine qK rfl (tPP ha hb hk) rfl (qK rfl (tQQ ha hb hk) rfl (qK rfl hn rfl ?_));first
  |exact qR rfl ⟨rfl,rfl⟩
  |exact qE rfl (by kernel_rfl) (by kernel_rfl) (qR rfl ⟨rfl,rfl⟩)
theorem fsub_e:EvF tt 252 [.v (eF (toF a)),.v (eF (toF b))] (.tup [.v (eF (toF (a-b))),I 0]):=by
 have h:=fadd_e ha hb.neg hk;rw [<-Rat.sub_eq_add_neg]at h;refine evF (eIn Tryz.func252 rfl rfl ?_);refine qK rfl (a4w ha (by omega)) rfl (qN rfl rfl (qK rfl (a4w hb (by omega)) rfl (qN rfl rfl ?_)));refine qK rfl (d2q hb.1 (by omega)) rfl (qK rfl h rfl ?_);first
  |exact qR rfl ⟨rfl,rfl⟩
  |exact qE rfl (by kernel_rfl) (by kernel_rfl) (qR rfl ⟨rfl,rfl⟩)
theorem fcmp_e:EvF tt 96 [.v (eF (toF a)),.v (eF (toF b))] (I (cmpQ a b)):=by
 refine evF (eIn Tryz.func96 rfl rfl ?_);refine qK rfl (a4w ha (by omega)) rfl (qN rfl rfl (qK rfl (a4w hb (by omega)) rfl (qN rfl rfl ?_)));refine qK rfl (tPQ ha hb hk) rfl (qK rfl (tPQ hb ha (by omega)) rfl (qK rfl (c8b (ha.1.mul hb.2) ((hb.1.mul ha.2).mono (by omega)) (by omega)) rfl ?_));first
  |exact qR rfl ⟨rfl,rfl⟩
  |exact qE rfl (by kernel_rfl) (by kernel_rfl) (qR rfl ⟨rfl,rfl⟩)
theorem d8i(s:Int)(hs:s=1∨s=-1):EvF tt 294 [.v (eF (toF a)),.v (eF (toF b)),.v (N s)] (.tup [.v (eF (toF (if cmpQ a b*s<0 then b else a))),I 0]):=by
 have hr:=b1i (a.num*b.den-b.num*a.den);have e:imul .i64 (cmpQ a b) s=cmpQ a b*s:=by
  have h1:-1<=cmpQ a b:=hr.1;have h2:cmpQ a b<=1:=hr.2;exact a0s (by rcases hs with rfl|rfl<;>omega) (by rcases hs with rfl|rfl<;>omega)
 refine evF (eIn Tryz.func294 rfl rfl ?_);refine qK rfl (a4w ha (by omega)) rfl (qN rfl rfl (qK rfl (a4w hb (by omega)) rfl (qN rfl rfl ?_)));refine qK rfl (fcmp_e ha hb hk) rfl ?_;refine qC rfl (fun h=> ?_) (fun h=> ?_)
 ·have h:imul .i64 (cmpQ a b) s<0:=h;rw [e]at h;rw [if_pos h];refine qK rfl (c5z hb.1 (by omega)) rfl (qK rfl (c5z hb.2 (by omega)) rfl ?_);first
   |exact qR rfl ⟨rfl,rfl⟩
   |exact qE rfl (by kernel_rfl) (by kernel_rfl) (qR rfl ⟨rfl,rfl⟩)
 have h:¬imul .i64 (cmpQ a b) s<0:=h;rw [e]at h;rw [if_neg h];refine qK rfl (c5z ha.1 (by omega)) rfl (qK rfl (c5z ha.2 (by omega)) rfl ?_);first
  |exact qR rfl ⟨rfl,rfl⟩
  |exact qE rfl (by kernel_rfl) (by kernel_rfl) (qR rfl ⟨rfl,rfl⟩)
theorem fmax_e:EvF tt 253 [.v (eF (toF a)),.v (eF (toF b))] (.tup [.v (eF (toF (if a<b then b else a))),I 0]):=by
 have h:=d8i ha hb hk 1 (.inl rfl);have e:(if cmpQ a b*1<0 then b else a)=if a<b then b else a:=by
  rcases a0q a b with⟨h,e⟩|⟨h,e⟩|⟨h,e⟩
  ·rw [e,if_pos (by decide),if_pos h]
  ·rw [e,if_neg (by decide),if_neg (by grind)]
  rw [e,if_neg (by decide),if_neg (by grind)]
 rw [e]at h;exact evF (eIn Tryz.func253 rfl rfl (qK rfl h rfl (qR rfl ⟨rfl,rfl⟩)))
end
section
variable{a:Rat}{k:Nat}(ha:SmF k a)(hk:k<4000000)
include ha hk
theorem fsign_e:EvF tt 91 [.v (eF (toF a))] (I (sg a.num)):=
 evF (eIn Tryz.func91 rfl rfl (qK rfl (a4w ha (by omega)) rfl (qN rfl rfl (qR rfl ⟨rfl,rfl⟩))))
end
theorem a2f{x:Int}(h1:-9223372036854775808<=x)(h2:x<=9223372036854775807):EvF tt 20 [.v (N x)] (.v (eF (toF (x:Rat)))):=by
 have e:toF (x:Rat)=⟨toB x,toB 1⟩:=by unfold toF;rw [Rat.num_intCast,Rat.den_intCast];rfl
 rw [e];exact evF (eIn Tryz.func20 rfl rfl (qK rfl (of_e h1 h2) rfl (qK rfl (of_e (x:=1) (by decide) (by decide)) rfl (qR rfl ⟨rfl,rfl⟩))))
theorem e9b{x y:Int}(h1:-9223372036854775808<=x)(h2:x<=9223372036854775807)(h3:-9223372036854775808<=y)(h4:y<=9223372036854775807)(h0:y≠0):EvF tt 19 [.v (N x),.v (N y)] (.tup [.v (eF (toF (Rat.divInt x y))),I 0]):=by
 have s1:Sm 4 x:=a0n (a7t (by omega));have s2:Sm 4 y:=a0n (a7t (by omega));exact evF (eIn Tryz.func19 rfl rfl (qK rfl (of_e h1 h2) rfl (qK rfl (of_e h3 h4) rfl (qK rfl (e6s s1 s2 (by decide) h0) rfl (qR rfl ⟨rfl,rfl⟩)))))
set_option linter.unusedVariables false
structure Plc where
 Kind:Int
 Household:Int
 Material:Int
structure Mve where
 Day:Int
 From:Int
 To:Int
 Scale:Int
 Reading:Int
 All:Bool
structure Crt where
 Scale:Int
 From:Int
 Until:Int
 Grams:Int
 PerMille:Int
 Drift:Int
structure Rcl where
 Scale:Int
 Since:Int
structure Pur where
 Move:Int
 Material:Int
 Least:Int
 Most:Int
structure Evi where
 Materials:Int
 Households:Int
 Scales:Int
 Places:List Plc
 Moves:List Mve
 Certs:List Crt
 Recalls:List Rcl
 Purities:List Pur
def ePl(p:Plc):VT:= .agg [N p.Kind,N p.Household,N p.Material]
def eMo(m:Mve):VT:= .agg [N m.Day,N m.From,N m.To,N m.Scale,N m.Reading,.bool m.All]
def eCr(c:Crt):VT:= .agg [N c.Scale,N c.From,N c.Until,N c.Grams,N c.PerMille,N c.Drift]
def eRc(r:Rcl):VT:= .agg [N r.Scale,N r.Since]
def ePu(p:Pur):VT:= .agg [N p.Move,N p.Material,N p.Least,N p.Most]
def eEv(e:Evi):VT:= .agg [N e.Materials,N e.Households,N e.Scales,.sl (e.Places.map ePl),.sl (e.Moves.map eMo),.sl (e.Certs.map eCr),.sl (e.Recalls.map eRc),.sl (e.Purities.map ePu)]
def idx(i n:Int):Bool:=decide (0<=i)&&decide (i<n)
def btw(n lo hi:Int):Bool:=decide (lo<=n)&&decide (n<=hi)
theorem a3w{i n:Int}:idx i n=true↔0<=i/\i<n:=by simp [idx]
theorem a2q{i n m:Int}:btw i n m=true↔n<=i/\i<=m:=by simp [btw]
def b9e(e:Evi):Bool:=decide (6<e.Materials)||decide (100<e.Households)||decide (30<e.Scales)||decide (100<e.Places.length)||decide (200<e.Moves.length)||decide (100<e.Certs.length)||decide (30<e.Recalls.length)||decide (200<e.Purities.length)
def plcR(e:Evi)(p:Plc):Bool:=idx p.Kind 7&&(if p.Kind=0 then idx p.Household e.Households&&idx p.Material e.Materials else decide (p.Household=-1)&&decide (p.Material=-1))
def a4u(e:Evi)(i:Int):Int:=match e.Places[i.toNat]? with
 |some p=>p.Kind
 |none=>0
def movR(e:Evi)(m:Mve):Bool:= if idx m.From e.Places.length=false∨idx m.To e.Places.length=false∨m.From=m.To then false else if a4u e m.From=5∨a4u e m.From=6 then false else if a4u e m.From=0/\m.All=true then false else if a4u e m.To=0 then false else if m.Scale=-1 then decide (m.Reading=0) else idx m.Scale e.Scales&&btw m.Reading 0 1099511627776
def crtR(e:Evi)(c:Crt):Bool:=decide (0<=c.From)&&decide (c.From<=c.Until)&&decide (c.Until<=100000)&&idx c.Scale e.Scales&&btw c.Grams 0 1099511627776&&btw c.PerMille 0 1000&&btw c.Drift 0 10000000
def rclR(e:Evi)(r:Rcl):Bool:=idx r.Scale e.Scales&&btw r.Since 0 100000
def purR(e:Evi)(p:Pur):Bool:=idx p.Move e.Moves.length&&idx p.Material e.Materials&&decide (0<=p.Least)&&decide (p.Least<=p.Most)&&decide (p.Most<=1000)
def a7u(e:Evi):Bool:=e.Certs.all (crtR e)&&e.Recalls.all (rclR e)&&e.Purities.all (purR e)
def chkM(e:Evi):Int->List Mve->Int |_,[]=>0 |last,m::l=>if m.Day<last∨100000<m.Day then 17 else if movR e m=false then 1 else chkM e m.Day l
def a1t(e:Evi):Int:=if b9e e=true then 6 else if e.Materials<1∨e.Households<0∨e.Scales<0∨e.Places.all (plcR e)=false then 1 else if chkM e 0 e.Moves≠0 then chkM e 0 e.Moves else if a7u e=true then 0 else 1
def a0o(c:Crt):Bool:=decide (0<=c.From)&&decide (c.From<=c.Until)&&decide (c.Until<=100000)&&btw c.Scale 0 29&&btw c.Grams 0 1099511627776&&btw c.PerMille 0 1000&&btw c.Drift 0 10000000
def covC(c:Crt)(day:Int):Bool:=a0o c&&decide (c.From<=day)&&decide (day<=c.Until)
def a7i(cs:List Crt)(b:Nat):Int:=match cs[b]? with
 |some c=>c.From
 |none=>0
def a4n(cs:List Crt)(sc day:Int):Nat->List Crt->Nat×Bool->Nat×Bool |_,[],s=>s |i,c::l,s=>a4n cs sc day (i+1) l (if c.Scale=sc/\covC c day=true/\(s.2=false∨a7i cs s.1<=c.From)then(i,true)else s)
def rcld(rs:List Rcl)(sc day:Int):Bool:=rs.any fun r=>decide (r.Scale=sc)&&decide (r.Since<=day)
def errC(c:Crt)(reading day:Int):Rat:=Rat.divInt (c.PerMille*reading) 1000+((c.Grams+c.Drift*(day-c.From):Int):Rat)
def maxQ(a b:Rat):Rat:=if a<b then b else a
def itvl(e:Evi)(m:Mve):Option (Rat×Rat):=match a4n e.Certs m.Scale m.Day 0 e.Certs (0,false)with
 |(at_,true)=>if rcld e.Recalls m.Scale m.Day=true then none else match e.Certs[at_]? with
  |some c=>if covC c m.Day=true/\btw m.Reading 0 1099511627776=true then some (maxQ (m.Reading-errC c m.Reading m.Day) 0,m.Reading+errC c m.Reading m.Day)else none
  |none=>none
 |_=>none
abbrev Trm:=Int×Rat
structure Rw where
 Terms:List Trm
 Kind:Int
 Value:Rat
structure Org where
 Kind:Int
 Move:Int
 Material:Int
 Index:Int
def eTm(t:Trm):VT:= .agg [N t.1,N (toF t.2).P.Sign,.sl (ns (toF t.2).P.Digits),N (toF t.2).Q.Sign,.sl (ns (toF t.2).Q.Digits)]
def eRw(r:Rw):VT:= .agg [.sl (r.Terms.map eTm),N r.Kind,N (toF r.Value).P.Sign,.sl (ns (toF r.Value).P.Digits),N (toF r.Value).Q.Sign,.sl (ns (toF r.Value).Q.Digits)]
def eOr(o:Org):VT:= .agg [N o.Kind,N o.Move,N o.Material,N o.Index]
def zipI{α:Type}:Nat->List α->List (Nat×α) |_,[]=> [] |i,x::l=>(i,x)::zipI (i+1) l
def a8g(e:Evi)(x:Mve)(mat:Nat)(q:Nat×Mve):Option Trm:= if q.2.From=x.From then some (q.1*e.Materials+mat,-1)else if q.2.To=x.From then some (q.1*e.Materials+mat,1)else none
def stkR(e:Evi)(i:Nat)(x:Mve)(mat:Nat):Rw:=⟨(zipI 0 (e.Moves.take (i+1))).filterMap (a8g e x mat),if x.All=true then 2 else 0,0⟩
def b0a(e:Evi)(i:Nat)(by' own more:Int)(mat:Nat):Option Trm:=
 let c:=if(mat:Int)=own then by'+more else by'
 if c=0 then none else some (i*e.Materials+mat,c)
def sumT(e:Evi)(i:Nat)(by' own more:Int):List Trm:=(List.range e.Materials.toNat).filterMap (b0a e i by' own more)
def stks(e:Evi)(i:Nat)(x:Mve):List (Rw×Org):=if a4u e x.From=0 then []else(List.range e.Materials.toNat).map fun mat=>(stkR e i x mat,⟨0,i,mat,-1⟩)
def wgts(e:Evi)(i:Nat)(x:Mve):List (Rw×Org):=if x.Scale=-1 then []else match itvl e x with
 |none=> []
 |some (lo,hi)=> [(⟨sumT e i 1 (-1) 0,0,lo⟩,⟨1,i,-1,-1⟩),(⟨sumT e i 1 (-1) 0,1,hi⟩,⟨2,i,-1,-1⟩)]
def a0r(e:Evi)(i:Nat)(q:Nat×Pur):List (Rw×Org):=if q.2.Move=i then [(⟨sumT e i (-q.2.Least) q.2.Material 1000,0,0⟩,⟨3,i,-1,q.1⟩),(⟨sumT e i q.2.Most q.2.Material (-1000),0,0⟩,⟨4,i,-1,q.1⟩)] else []
def purs(e:Evi)(i:Nat):List (Rw×Org):=(zipI 0 e.Purities).flatMap (a0r e i)
def a7q(e:Evi)(q:Nat×Mve):List (Rw×Org):=stks e q.1 q.2++wgts e q.1 q.2++purs e q.1
def a8z(e:Evi):List (Rw×Org):=(zipI 0 e.Moves).flatMap (a7q e)
theorem a1p{α:Type}{l:List α}{k:Nat}{a:α}(h:l[k]?=some a):l.drop k=a::l.drop (k+1):=by
 obtain⟨h1,h2⟩:=List.getElem?_eq_some_iff.1 h;rw [List.drop_eq_getElem_cons h1,h2]
theorem a1h{α:Type}{l:List α}{k:Nat}{a:α}(h:l[k]?=some a):l.take (k+1)=l.take k++ [a]:=by
 rw [List.take_add_one,h];rfl
theorem a6o{α:Type}:∀(l:List α)(i k:Nat)(a:α),l[k]?=some a->zipI i (l.take (k+1))=zipI i (l.take k)++ [(i+k,a)]
 | [],_,_,_,h=>by simp at h
 |x::l,i,0,a,h=>by simp at h;subst h;simp [zipI]
 |x::l,i,k+1,a,h=>by
  have:=a6o l (i+1) k a (by simpa using h);simp only [List.take_succ_cons,zipI,List.cons_append];rw [this,show i+1+k=i+(k+1) by omega]
section
variable{P:Program}{T:Ty P}{fr:Fr}{s:St}{Q:DV->DH->Prop}
theorem qF{σ:Type}(n:Nat)(δ:Int->σ->List (Nat×DV))(η:Int->σ->List (Nat×Ob))(J:Nat->σ->Prop)(x0:σ){s1:St}(h:rnA T fr 2000 s= .head s1)(h0:upS s1 (δ 0 x0) (η 0 x0)=s1)(j0:J 0 x0)
 (hk:∀(k:Nat)(x:σ),k<=n->J k x->(∀(z:Int)(y:σ),z=((k+1:Nat):Int)->k<n->J (k+1) y->Tt T fr (upS s1 (δ z y) (η z y)) Q)->Tt T fr (nrm (upS s1 (δ k x) (η k x))) Q):Tt T fr s Q:=by
 refine qL (σ:=Int×σ) (fun q=>δ q.1 q.2) (fun q=>η q.1 q.2) (fun q=>∃k:Nat,q.1=k/\k<=n/\J k q.2) (fun q=>n-q.1.toNat) (0,x0) h h0 ⟨0,rfl,Nat.zero_le _,j0⟩ ?_;rintro⟨i,x⟩ ⟨k,rfl,h1,h2⟩ ih;refine hk k x h1 h2 fun z y hz hlt hy=> ?_;subst hz;exact ih (_,y) ⟨k+1,rfl,by omega,hy⟩ (by show n-((k+1:Nat):Int).toNat<n-(k:Int).toNat;omega)
def apH(H:DH):List (Nat×Bool)->DH
 | []=>H
 |(i,a)::l=>apH (match getN H i with
  |some b=>setN H i {b with ap:=a}
  |none=>H) l
def apS(s:St)(l:List (Nat×Bool)):St:=⟨s.ctl,s.its,s.env,apH s.H l⟩
theorem qLs{σ:Type}(st:σ->St)(J:σ->Prop)(μ:σ->Nat)(x0:σ){s1:St}(h:rnA T fr 2000 s= .head s1)(h0:st x0=s1)(j0:J x0)
 (hk:∀x,J x->(∀y,J y->μ y<μ x->Tt T fr (st y) Q)->Tt T fr (nrm (st x)) Q):Tt T fr s Q:=by
 simp only [c0c]at hk;refine tH h ?_;rw [<-h0];have:∀m x,J x->μ x<m->Tt T fr (st x) Q:=by
  intro m;induction m with
  |zero=>intro x _ hx;omega
  |succ m ih=>intro x jx hx;exact hk x jx fun y jy hy=>ih y jy (by omega)
 exact this _ x0 j0 (Nat.lt_succ_self _)
theorem qFa{σ:Type}(n:Nat)(δ:Int->σ->List (Nat×DV))(η:Int->σ->List (Nat×Ob))(φ:σ->List (Nat×Bool))(J:Nat->σ->Prop)(x0:σ){s1:St}(h:rnA T fr 2000 s= .head s1)(h0:apS (upS s1 (δ 0 x0) (η 0 x0)) (φ x0)=s1)(j0:J 0 x0)
 (hk:∀(k:Nat)(x:σ),k<=n->J k x->(∀(z:Int)(y:σ),z=((k+1:Nat):Int)->k<n->J (k+1) y->Tt T fr (apS (upS s1 (δ z y) (η z y)) (φ y)) Q)->Tt T fr (nrm (apS (upS s1 (δ k x) (η k x)) (φ x))) Q):Tt T fr s Q:=by
 refine qLs (σ:=Int×σ) (fun q=>apS (upS s1 (δ q.1 q.2) (η q.1 q.2)) (φ q.2)) (fun q=>∃k:Nat,q.1=k/\k<=n/\J k q.2) (fun q=>n-q.1.toNat) (0,x0) h h0 ⟨0,rfl,Nat.zero_le _,j0⟩ ?_;rintro⟨i,x⟩ ⟨k,rfl,h1,h2⟩ ih;refine hk k x h1 h2 fun z y hz hlt hy=> ?_;subst hz;exact ih (_,y) ⟨k+1,rfl,by omega,hy⟩ (by show n-((k+1:Nat):Int).toNat<n-(k:Int).toNat;omega)
theorem qXl{cm:Bool}{α:Type}{g:α->VT}{l:List α}{k:Nat}{b:Bool}{s1 s2:St}{kk:VT->St}(h:rnA T fr 2000 s= .cond b s1 s2)(hb:b=decide ((k:Int)<((l.map g).length:Int)))(h2:rnA T fr 2000 s1= .ask cm VT (ix (l.map g) (k:Int)) kk)(hle:k<=l.length)
 (k1:∀a,l[k]?=some a->l.drop k=a::l.drop (k+1)->k<l.length->Tt T fr (kk (g a)) Q) (k2:l.drop k= []->k=l.length->Tt T fr s2 Q):Tt T fr s Q:=by
 subst hb;have hl:(l.map g).length=l.length:=List.length_map ..
 by_cases hlt:k<l.length
 ·refine qT h (decide_eq_true (by rw [hl];omega)) ?_;have h1:l[k]?=some (l[k]'hlt):=List.getElem?_eq_getElem _;refine qV h2 (v:=g (l[k]'hlt)) ?_ (k1 _ h1 (a1p h1) hlt);unfold ix;rw [if_pos (by omega),List.getElem?_map,Int.toNat_natCast,h1];rfl
 exact qN h (decide_eq_false (by rw [hl];omega)) (k2 (List.drop_eq_nil_of_le (by omega)) (by omega))
theorem qXi{cm:Bool}{α:Type}{g:α->VT}{l:List α}{z:Int}{a:α}{kk:VT->St}(h:rnA T fr 2000 s= .ask cm VT (ix (l.map g) z) kk)(h0:0<=z)(ha:l[z.toNat]?=some a)(k1:Tt T fr (kk (g a)) Q):Tt T fr s Q:=by
 have hlt:=(List.getElem?_eq_some_iff.1 ha).1;refine qV h (v:=g a) ?_ k1;unfold ix;have hl:(l.map g).length=l.length:=List.length_map ..;rw [if_pos (by omega),List.getElem?_map,ha];rfl
theorem a0a{k:Nat}(h:k<9223372036854775807):iadd .i64 (k:Int) 1=((k+1:Nat):Int):=by rw [a0e (by omega) (by omega)];rfl
end
end Dp
namespace Dp
open Go Go.Proofs.YtjegnogjkddnbaaGreatDoor.Rt Go.Proofs.YtjegnogjkddnbaaGreatDoor.D
set_option linter.unusedVariables false
def c8(v:Nat):UInt8:=UInt8.ofNat (48+v %10)
def five(v:Nat):Bs:= [c8 (v/10000),c8 (v/1000),c8 (v/100),c8 (v/10),c8 v]
theorem a1c{v:Nat}(h:10<=v):Lib.decDigits v=Lib.decDigits (v/10)++ [c8 v]:=by
 rw [Lib.decDigits,dif_neg (by omega)];rfl
theorem a0v{v:Nat}(h:v<10):Lib.decDigits v= [c8 v]:=by
 rw [Lib.decDigits,dif_pos h];unfold c8;rw [Nat.mod_eq_of_lt h]
theorem d5q{v:Nat}(h:100000<=v):Lib.decDigits v=Lib.decDigits (v/100000)++five v:=by
 rw [a1c (v:=v) (by omega),a1c (v:=v/10) (by omega),a1c (v:=v/10/10) (by omega),a1c (v:=v/10/10/10) (by omega),a1c (v:=v/10/10/10/10) (by omega)];rw [show v/10/10=v/100 by omega,show v/100/10=v/1000 by omega,show v/1000/10=v/10000 by omega,show v/10000/10=v/100000 by omega];simp [five]
theorem b8t(v k:Nat)(h:k=1∨k=10∨k=100∨k=1000∨k=10000):c8 (v %100000/k)=c8 (v/k):=by
 unfold c8;congr 2;rcases h with rfl|rfl|rfl|rfl|rfl<;>omega
theorem c2r(v:Nat):Lib.repeatL [48] (5-(Lib.decDigits (v %100000)).length)++Lib.decDigits (v %100000)=five v:=by
 have e:five v= [c8 (v %100000/10000),c8 (v %100000/1000),c8 (v %100000/100),c8 (v %100000/10),c8 (v %100000)]:=by
  have:=b8t v 1 (by simp);rw [b8t v 10000 (by simp),b8t v 1000 (by simp),b8t v 100 (by simp),b8t v 10 (by simp),show c8 (v %100000)=c8 v by simpa using this];rfl
 rw [e];have hr:v %100000<100000:=Nat.mod_lt _ (by decide);generalize v %100000=r at*;have z:c8 0=48:=rfl
 by_cases h1:r<10
 ·rw [a0v h1,show r/10=0 by omega,show r/100=0 by omega,show r/1000=0 by omega,show r/10000=0 by omega,z];rfl
 by_cases h2:r<100
 ·rw [a1c (by omega),a0v (v:=r/10) (by omega),show r/100=0 by omega,show r/1000=0 by omega,show r/10000=0 by omega,z];rfl
 by_cases h3:r<1000
 ·rw [a1c (by omega),a1c (v:=r/10) (by omega),a0v (v:=r/10/10) (by omega),show r/10/10=r/100 by omega,show r/1000=0 by omega,show r/10000=0 by omega,z];rfl
 by_cases h4:r<10000
 ·rw [a1c (by omega),a1c (v:=r/10) (by omega),a1c (v:=r/10/10) (by omega),a0v (v:=r/10/10/10) (by omega),show r/10/10=r/100 by omega,show r/100/10=r/1000 by omega,show r/10000=0 by omega,z];rfl
 rw [a1c (by omega),a1c (v:=r/10) (by omega),a1c (v:=r/10/10) (by omega),a1c (v:=r/10/10/10) (by omega),a0v (v:=r/10/10/10/10) (by omega),show r/10/10=r/100 by omega,show r/100/10=r/1000 by omega,show r/1000/10=r/10000 by omega];rfl
def a2i(v:Nat):List Bs:=if v=0 then []else(if v/100000=0 then Lib.decDigits v else five v)::a2i (v/100000)
 termination_by v
 decreasing_by omega
theorem chunks_zero:a2i 0= []:=by rw [a2i];simp
theorem a9q{v:Nat}(h:v≠0):a2i v=(if v/100000=0 then Lib.decDigits v else five v)::a2i (v/100000):=by rw [a2i];simp [h]
theorem a8c(v:Nat)(h:v≠0):(a2i v).reverse.flatten=Lib.decDigits v:=by
 induction v using Nat.strongRecOn with
 |ind v ih=>
  rw [a9q h]
  by_cases h1:v/100000=0
  ·rw [h1,chunks_zero];simp
  rw [if_neg h1,List.reverse_cons,List.flatten_append,ih (v/100000) (by omega) h1,d5q (v:=v) (by omega)];simp
theorem chunks_len:∀(c v:Nat),v<65536^c->(a2i v).length<=c:=by
 intro c;induction c with
 |zero=>intro v h;have:v=0:=by simp at h;omega
        rw [this,chunks_zero];simp
 |succ c ih=>
  intro v h
  by_cases h0:v=0
  ·rw [h0,chunks_zero];simp
  rw [a9q h0,List.length_cons];have:=ih (v/100000) (by rw [Nat.pow_succ]at h;omega);omega
theorem dec_len:∀(c v:Nat),v<8^c->(Lib.decDigits v).length<=c+1:=by
 intro c;induction c with
 |zero=>intro v h;rw [a0v (by simp at h;omega)];simp
 |succ c ih=>
  intro v h
  by_cases h0:v<10
  ·rw [a0v h0];simp
  rw [a1c (by omega),List.length_append,List.length_singleton];have:=ih (v/10) (by rw [Nat.pow_succ]at h;omega);omega
theorem d5x{r:Nat}(h:r<100000):(Lib.decDigits r).length<=5:=by
 have h1:=congrArg List.length (c2r r);rw [Nat.mod_eq_of_lt h,List.length_append,Lib.repeatL_length]at h1;simp only [five,List.length_cons,List.length_nil]at h1;omega
def txt(x:Int):Bs:=if x<0 then 45::Lib.decDigits x.natAbs else Lib.decDigits x.natAbs
theorem join_nilsep:∀l:List Bs,Lib.join l []=l.flatten
 | []=>rfl
 |x::l=>by
  rw [Lib.join_cons];unfold Lib.joinTail;rw [List.flatten_cons,show(fun y:Bs=>([]:Bs)++y)=id from rfl,List.map_id]
theorem c0b{x:Int}{k:Nat}(h:Sm k x):x.natAbs<2^(20*k):=by
 unfold Sm at h;rw [pw_two]at h;have:((x.natAbs:Nat):Int)<((2^(20*k):Nat):Int):=by simpa using h
 exact Int.ofNat_lt.1 this
theorem a6q{x:Int}{k:Nat}(h:Sm k x):(txt x).length<=7*k+2:=by
 have h1:=c0b h;have h2:=dec_len (7*k) x.natAbs (Nat.lt_of_lt_of_le h1 (by rw [show(8:Nat)=2^3 from rfl,<-Nat.pow_mul];exact Nat.pow_le_pow_right (by decide) (by omega)));unfold txt;split<;>simp<;>omega
def isd(b:UInt8):Bool:=decide (48<=b.toNat)&&decide (b.toNat<=57)
def dval:Nat->Bs->Nat |v,[]=>v |v,b::l=>dval (10*v+(b.toNat-48)) l
theorem dval_append:∀(l m:Bs)(v:Nat),dval v (l++m)=dval (dval v l) m
 | [],_,_=>rfl
 |_::l,m,_=>dval_append l m _
theorem b8r(v:Nat):(c8 v).toNat=48+v %10:=by
 unfold c8;have:v %10<10:=Nat.mod_lt _ (by decide);simp;omega
theorem e0g(v:Nat):isd (c8 v)=true:=by
 unfold isd;have:v %10<10:=Nat.mod_lt _ (by decide);rw [b8r];simp;omega
theorem a6r(u:Nat):dval 0 (Lib.decDigits u)=u:=by
 induction u using Nat.strongRecOn with
 |ind u ih=>
  by_cases h:u<10
  ·have e:=b8r u;rw [a0v h];show 10*0+((c8 u).toNat-48)=u;omega
  have e:=b8r u;rw [a1c (v:=u) (by omega),dval_append,ih (u/10) (by omega)];show 10*(u/10)+((c8 u).toNat-48)=u;omega
theorem b2o(u:Nat):(Lib.decDigits u).all isd=true:=by
 induction u using Nat.strongRecOn with
 |ind u ih=>
  by_cases h:u<10
  ·rw [a0v h];simp [e0g]
  rw [a1c (v:=u) (by omega),List.all_append,ih (u/10) (by omega)];simp [e0g]
theorem d9p(u:Nat):Lib.decDigits u≠ []:=by
 by_cases h:u<10
 ·rw [a0v h];simp
 rw [a1c (v:=u) (by omega)];simp
theorem d7p(u:Nat)(h:u≠0):∃b l,Lib.decDigits u=b::l/\b≠48/\b≠45:=by
 induction u using Nat.strongRecOn with
 |ind u ih=>
  by_cases h1:u<10
  ·refine⟨c8 u,[],a0v h1,?_,?_⟩<;>intro e<;>have:=congrArg UInt8.toNat e<;>rw [b8r]at this<;>simp at this<;>omega
  obtain⟨b,l,h2,h3,h4⟩:=ih (u/10) (by omega) (by omega);exact⟨b,l++ [c8 u],by rw [a1c (v:=u) (by omega),h2];rfl,h3,h4⟩
def tens:Bs:= [48,49,50,51,52,53,54,55,56,57]
theorem d5r(b:UInt8):tens.contains b=isd b:=by
 have h:∀n,n<256->tens.contains (UInt8.ofNat n)=isd (UInt8.ofNat n):=by decide+kernel
 have:=h b.toNat (UInt8.toNat_lt b)
 rwa [UInt8.ofNat_toNat]at this
def ten1(v:Nat)(b:UInt8):Nat:=10*v+(b.toNat-48)
def dv(v:Nat)(l:Bs):Nat:=l.foldl ten1 v
theorem b4o(v:Nat):dv v []=v:=rfl
theorem c0o(v:Nat)(b:UInt8)(l:Bs):dv v (b::l)=dv (ten1 v b) l:=by unfold dv;rw [List.foldl_cons]
theorem a9d(l m:Bs)(v:Nat):dv v (l++m)=dv (dv v l) m:=by unfold dv;rw [List.foldl_append]
theorem e8c(l:Bs):∀(v:Nat),v<=dv v l:=by
 induction l with
 |nil=>intro v;rw [b4o];exact Nat.le_refl v
 |cons b l ih=>intro v;rw [c0o];have:=ih (ten1 v b);unfold ten1 at*;omega
theorem f2a(l:Bs):∀(v:Nat),l.all isd=true->dv v l<(v+1)*16^l.length:=by
 induction l with
 |nil=>intro v _;rw [b4o,List.length_nil,Nat.pow_zero];omega
 |cons b l ih=>
  intro v h;simp only [List.all_cons,Bool.and_eq_true]at h;have h1:=ih (ten1 v b) h.2;have h2:b.toNat<=57:=by have:=h.1;simp only [isd,Bool.and_eq_true,decide_eq_true_eq]at this;exact this.2
  have h3:(ten1 v b+1)*16^l.length<=((v+1)*16)*16^l.length:=Nat.mul_le_mul_right _ (by unfold ten1;omega);rw [c0o,List.length_cons,Nat.pow_succ,Nat.mul_comm (16^l.length) 16,<-Nat.mul_assoc];exact Nat.lt_of_lt_of_le h1 h3
theorem dig_ten:dig 10= [10]:=by rw [a3o (by decide),show 10/1048576=0 from rfl,dig_zero];rfl
theorem a2g{b:UInt8}(h:isd b=true):48<=b.toNat/\b.toNat<=57:=by simpa [isd]using h
def cut(s:Bs):Bs×Bool:=match s with
 |45::t=>(t,true)
 |s=>(s,false)
def good(t:Bs):Bool:= !(t== [])&& !(t.head?.getD 0==48)&&t.all isd
theorem d5y(k:Nat):((2^k:Nat):Int)=2^k:=by simp
theorem f0h{t:Bs}(h:t.all isd=true)(K:Nat)(hK:4*t.length<=K):((dv 0 t:Nat):Int)<2^K:=by
 have h1:=f2a t 0 h;rw [show(0+1)*16^t.length=16^t.length by omega]at h1;have h2:16^t.length<=2^K:=by
  rw [show(16:Nat)=2^4 from rfl,<-Nat.pow_mul];exact Nat.pow_le_pow_right (by decide) hK
 have h4:=Int.ofNat_lt.2 (Nat.lt_of_lt_of_le h1 h2)
 rwa [d5y]at h4
theorem e7e{v k:Nat}(h:∀K,K=20*k->(v:Int)<2^K):Sm k (v:Int):=by
 unfold Sm;rw [pw_two,Int.natAbs_natCast];exact h _ rfl
theorem d7t{t:Bs}(h:t.all isd=true)(hl:t.length<=500):Sm 100 ((dv 0 t:Nat):Int):=e7e fun K hK=>f0h h K (by omega)
theorem c1u(s:Bs):(cut s).1.length<=s.length:=by unfold cut;split<;>simp
theorem c5l{b:UInt8}{l:Bs}(h:b≠45):cut (b::l)=(b::l,false):=by
 unfold cut;split
 ·rename_i e;exact absurd (List.cons.inj e).1 h
 rfl
theorem d1q{b:UInt8}{l:Bs}(h:b≠48)(h2:List.all (b::l) isd=true):good (b::l)=true:=by
 unfold good;rw [h2];simp [h]
def a1s(s:Bs):Big×Int:= if s= [48]then(⟨0,[]⟩,0) else if good (cut s).1=true then(toB (if(cut s).2 then-((dv 0 (cut s).1:Nat):Int)else((dv 0 (cut s).1:Nat):Int)),0) else(⟨0,[]⟩,2)
def a3a(f:Frac):Bs:=if a0f f=true then txt (ofB f.P)++47::txt (ofB f.Q)else []
theorem a8j(r:Rat):a3a (toF r)=txt r.num++47::txt (r.den:Int):=by
 unfold a3a;rw [if_pos (a2u r)];show txt (ofB (toB r.num))++47::txt (ofB (toB (r.den:Int)))=_;rw [a3d,a3d]
def cutS:Bs->Bs×Bs×Bool | []=>([],[],false) |b::l=>if b=47 then([],l,true)else(b::(cutS l).1,(cutS l).2.1,(cutS l).2.2)
theorem cutS_spec:∀s:Bs,((cutS s).2.2=true/\Lib.indexByte s 47=((cutS s).1.length:Int)/\s=(cutS s).1++47::(cutS s).2.1)∨((cutS s).2.2=false/\Lib.indexByte s 47=-1/\(cutS s).1=s/\(cutS s).2.1= [])
 | []=> .inr ⟨rfl,rfl,rfl,rfl⟩
 |b::l=>by
  by_cases hb:b=47
  ·subst hb;exact .inl ⟨rfl,rfl,rfl⟩
  have e:cutS (b::l)=(b::(cutS l).1,(cutS l).2.1,(cutS l).2.2):=by unfold cutS;rw [if_neg hb];cases l<;>rfl
  have e2:Lib.indexByte (b::l) 47=if Lib.indexByte l 47==-1 then-1 else Lib.indexByte l 47+1:=by
   have e3:Lib.indexByte (b::l) 47=if(b==47)=true then 0 else if Lib.indexByte l 47==-1 then-1 else Lib.indexByte l 47+1:=rfl
   rw [e3,if_neg (by simpa using hb)]
  rw [e,e2];rcases cutS_spec l with⟨h1,h2,h3⟩|⟨h1,h2,h3,h4⟩
  ·refine .inl ⟨h1,?_,?_⟩
   ·rw [h2,if_neg (by simp)];rfl
   show b::l=b::((cutS l).1++47::(cutS l).2.1);rw [<-h3]
  refine .inr ⟨h1,?_,?_,h4⟩
  ·rw [h2];rfl
  show b::(cutS l).1=b::l;rw [h3]
theorem c5t(u v:Bs):ssl (u++47::v) 0 (u.length:Int)=some u:=by
 unfold ssl;rw [if_pos ⟨by omega,by omega,by simp;omega⟩];simp
theorem c4r(u v:Bs)(h:u.length<1099511627776):ssl (u++47::v) (iadd .i64 (u.length:Int) 1) (u++47::v).length=some v:=by
 rw [a0e (by omega) (by omega)];unfold ssl;rw [if_pos ⟨by omega,by simp;omega,by omega⟩,show((u.length:Int)+1).toNat=u.length+1 by omega,Int.toNat_natCast,List.take_length];simp
theorem b5j(s:Bs):(cutS s).1.length<=s.length/\(cutS s).2.1.length<=s.length:=by
 rcases cutS_spec s with⟨h1,h2,h3⟩|⟨h1,h2,h3,h4⟩
 ·have:=congrArg List.length h3;simp only [List.length_append,List.length_cons]at this;omega
 rw [h3,h4];simp
theorem cutS_append:∀(u v:Bs),(∀b∈u,b≠47)->cutS (u++47::v)=(u,v,true)
 | [],_,_=>rfl
 |b::u,v,h=>by
  have hb:b≠47:=h b (by simp);show cutS (b::(u++47::v))=_;unfold cutS;rw [if_neg hb,cutS_append u v fun c hc=>h c (by simp [hc])]
def a2m(s:Bs):Frac×Int:= if(a1s (cutS s).1).2=0/\(a1s (cutS s).2.1).2=0/\a0f ⟨(a1s (cutS s).1).1,(a1s (cutS s).2.1).1⟩=true/\a3a ⟨(a1s (cutS s).1).1,(a1s (cutS s).2.1).1⟩=s then(⟨(a1s (cutS s).1).1,(a1s (cutS s).2.1).1⟩,0)else(zeroF,2)
theorem d0e(s:Bs):(∃r,a2m s=(toF r,0)/\a3a (toF r)=s)∨a2m s=(zeroF,2):=by
 unfold a2m;split
 ·rename_i h;obtain⟨r,hr⟩:=a3g h.2.2.1;left;refine⟨r,by rw [hr],?_⟩;rw [<-hr];exact h.2.2.2
 exact .inr rfl
theorem c8k{f:Frac}{k:Nat}(h:f.P.Digits.length<=k/\f.Q.Digits.length<=k)(hr:a0f f=true):∃r,f=toF r/\SmF k r:=by
 obtain⟨r,rfl⟩:=a3g hr;exact⟨r,rfl,a0n h.1,a0n h.2⟩
end Dp
namespace Dp
open Go Go.Proofs.YtjegnogjkddnbaaGreatDoor.Rt Go.Proofs.YtjegnogjkddnbaaGreatDoor.D Go.Proofs.YtjegnogjkddnbaaGreatDoor.M
set_option linter.unusedVariables false
theorem asc(n:Nat)(b:UInt8):asciiSet_contains n tens (b.toNat:Int)=some (isd b):=by
 unfold asciiSet_contains;have:=UInt8.toNat_lt b;rw [if_pos ⟨by omega,by omega⟩,Int.toNat_natCast,UInt8.ofNat_toNat,d5r]
theorem e4h(n:Nat)(kont:Bs->Option Bs):∀(k:Nat)(s:Bs)(m:Nat),s.length<=k->k<m->s.length<1099511627776->
 ∃s',MT.strings_trimRightASCII_L1 n tens kont m s=kont s'/\s'.all isd=s.all isd/\(s.all isd=true->s'= [])/\s'.length<=s.length:=by
 intro k;induction k with
 |zero=>
  intro s m h1 h2 h3;obtain⟨m,rfl⟩:∃m',m=m'+1:=⟨m-1,by omega⟩
  obtain rfl:s= []:=List.length_eq_zero_iff.1 (by omega);exact⟨[],rfl,rfl,fun _=>rfl,by omega⟩
 |succ k ih=>
  intro s m h1 h2 h3;obtain⟨m,rfl⟩:∃m',m=m'+1:=⟨m-1,by omega⟩
  rcases List.eq_nil_or_concat s with rfl|⟨p,b,rfl⟩
  ·exact⟨[],rfl,rfl,fun _=>rfl,by omega⟩
  rw [List.concat_eq_append]at*;simp only [List.length_append,List.length_singleton]at h1 h3;unfold MT.strings_trimRightASCII_L1;rw [show decide (0<((p++ [b]).length:Int))=true by simp<;>omega,cond_true,a0c (by simp<;>omega) (by simp<;>omega),show((p++ [b]).length:Int)-1=(p.length:Int) by simp];have e1:sidx (p++ [b]) (p.length:Int)=some (b.toNat:Int):=by unfold sidx;rw [if_pos (by omega)];simp
  rw [e1,b_s,asc,b_s];cases hb:isd b with
  |false=>exact⟨p++ [b],rfl,rfl,fun h=>by simp [hb]at h,by omega⟩
  |true=>
   have e2:ssl (p++ [b]) 0 (p.length:Int)=some p:=by unfold ssl;rw [if_pos ⟨by omega,by omega,by simp<;>omega⟩];simp
   rw [show(bif !true then kont (p++ [b])else(ssl (p++ [b]) 0 (p.length:Int)).bind fun t1=>MT.strings_trimRightASCII_L1 n tens kont m t1)=MT.strings_trimRightASCII_L1 n tens kont m p by rw [e2];rfl];obtain⟨s',h4,h5,h6,h7⟩:=ih p m (by omega) (by omega) (by omega);have e3:(p++ [b]).all isd=p.all isd:=by rw [List.all_append];simp [hb]
   exact⟨s',h4,by rw [e3,h5],by rw [e3];exact h6,by simp;omega⟩
theorem d4n(n:Nat)(kont:Bs->Option Bs):∀(s:Bs)(m:Nat),s.length<m->
 ∃s',MT.strings_trimLeftASCII_L1 n tens kont m s=kont s'/\(s'== [])=s.all isd
 | [],m+1,_=>⟨[],rfl,rfl⟩
 |b::s,m+1,h=>by
  unfold MT.strings_trimLeftASCII_L1;rw [show decide (0<((b::s).length:Int))=true by simp<;>omega,cond_true];have e1:sidx (b::s) 0=some (b.toNat:Int):=by unfold sidx;rw [if_pos (by omega)];simp
  rw [e1,b_s,asc,b_s];cases hb:isd b with
  |false=>exact⟨b::s,rfl,by simp [hb]⟩
  |true=>
   have e2:ssl (b::s) 1 ((b::s).length:Int)=some s:=by unfold ssl;rw [if_pos ⟨by omega,by simp;omega,by omega⟩];simp
   rw [show(bif !true then kont (b::s)else(ssl (b::s) 1 ((b::s).length:Int)).bind fun t1=>MT.strings_trimLeftASCII_L1 n tens kont m t1)=MT.strings_trimLeftASCII_L1 n tens kont m s by rw [e2];rfl];obtain⟨s',h4,h5⟩:=d4n n kont s m (by simp at h;omega);exact⟨s',h4,by rw [h5];simp [hb]⟩
theorem e9u{t:Bs}(ht:t≠ [])(hl:t.length<1099511627776){n:Nat}(hn:t.length<n):∃r,strings_Trim n t tens=some r/\(r== [])=t.all isd:=by
 obtain⟨s1,h1,h2,h3,h4⟩:=e4h n (fun s3=>some s3) t.length t n (by omega) hn hl;obtain⟨s2,h5,h6⟩:=d4n n (fun s3=>some s3) s1 n (by omega);refine⟨s2,?_,by rw [h6,h2]⟩;unfold strings_Trim;have e0:(decide (2<=tens.length)&&(decide (tens.length<4294967281)&&tens.all fun b=>decide (b.toNat<128)))=true:=by decide+kernel
 have e3:(t== [])=false:=by cases t with
  |nil=>exact absurd rfl ht
  |cons b t=>rfl
 have e1:MT.strings_trimRightASCII n t tens=some s1:=by unfold MT.strings_trimRightASCII;exact h1
 have e2:MT.strings_trimLeftASCII n s1 tens=some s2:=by unfold MT.strings_trimLeftASCII;exact h5
 rw [e3,e0,e1];show(MT.strings_trimLeftASCII n s1 tens).bind _=_;rw [e2];rfl
theorem e7u{t:Bs}(ht:t≠ [])(hl:t.length<1099511627776):∃r,EvF tt 117 [S t,S tens] (S r)/\(r== [])=t.all isd:=by
 obtain⟨r,h1,h2⟩:=e9u (n:=t.length+2) ht hl (by omega);exact⟨r,EvF.ext (g:=xTrim) rfl rfl (by simp only [xTrim,h1]),h2⟩
end Dp
namespace Dp
open Go Go.RowKit Go.Proofs.YtjegnogjkddnbaaGreatDoor.Rt Go.Proofs Go.Proofs.YtjegnogjkddnbaaGreatDoor.D
set_option linter.unusedVariables false
set_option maxHeartbeats 4000000
set_option maxRecDepth 100000
abbrev ss(l:List Bs):List VT:=l.map VT.str
theorem c6o{α:Type}{l:List α}{z:Int}{v:α}(n:Nat)(hz:z=n)(h:l[n]?=some v):ix l z=some v:=by
 subst hz;rw [d0w];exact h
theorem f1s{l:List Bs}(hl:l.length<1099511627776):EvH tt 131 [.row 0 0] [bk (.row 9 1 (ss l))] (.tup []) [⟨0,0,false,true,false,.row 9 1 (ss l.reverse)⟩]:=by
 refine evF (eInH 1 Tryz.func131 rfl rfl rfl ?_);have hlm:(ss l).length=l.length:=List.length_map ..;refine qL (σ:=Int×Int×List VT) (fun s=> [(3,I s.2.1),(2,I s.1)]) (fun s=> [(0,.row 9 1 s.2.2)]) (fun s=>∃P M S:List Bs,s.2.2=ss (P++(M++S))/\s.1=P.length/\s.2.1=(P.length:Int)+M.length-1/\l.reverse=P++(M.reverse++S)/\l.length=P.length+M.length+S.length) (fun s=>(s.2.1-s.1+1).toNat) (0,isub .i64 (ss l).length 1,ss l) rfl rfl ⟨[],l,[],by simp,rfl,by show isub .i64 (ss l).length 1=_;rw [hlm,a0c (by omega) (by omega)];simp,by simp,by simp⟩ ?_;rintro⟨i,j,ys⟩ ⟨P,M,R,hy,hi,hj,hr,hlen⟩ ih;obtain rfl:ys=ss (P++(M++R)):=hy;obtain rfl:i=P.length:=hi;have hj:j=(P.length:Int)+M.length-1:=hj;refine qC rfl (fun h=> ?_) (fun h=> ?_)
 ·have h:(P.length:Int)<j:=h;obtain⟨a,M',b,rfl⟩:∃a M' b,M=a::(M'++ [b]):=by
   rcases M with _|⟨a,M⟩
   ·simp at hj;omega
   rcases List.eq_nil_or_concat M with rfl|⟨M',b,rfl⟩
   ·simp at hj;omega
   exact⟨a,M',b,by simp⟩
  simp only [List.length_cons,List.length_append,List.length_nil]at hj hlen;refine qV rfl (c6o (P.length+M'.length+1) (v:=VT.str b) (by show j=_;omega) ?_) ?_
  ·show(ss (P++(a::(M'++ [b])++R)))[P.length+M'.length+1]?=some (.str b);rw [List.getElem?_map,List.getElem?_append_right (by omega)];simp [show P.length+M'.length+1-P.length=M'.length+1 by omega]
  refine qV rfl (c6o P.length (v:=VT.str a) rfl ?_) ?_
  ·show(ss (P++(a::(M'++ [b])++R)))[P.length]?=some (.str a);simp
  refine qV rfl (c6o P.length (v:=VT.str a) rfl ?_) ?_
  ·show(ss (P++(a::(M'++ [b])++R)))[P.length]?=some (.str a);simp
  have hset:((ss (P++(a::(M'++ [b])++R))).set P.length (.str b)).set (P.length+M'.length+1) (.str a)=ss ((P++ [b])++(M'++(a::R))):=by
   rw [<-List.map_set,<-List.map_set]
   congr 1
   rw [List.set_append_right _ _ (Nat.le_refl _),Nat.sub_self,List.set_append_right _ _ (by omega),show P.length+M'.length+1-P.length=M'.length+1 by omega];simp [List.set_append_right]
  refine qV rfl (c6o (P.length+M'.length+1) (v:=VT.str b) (by show j=_;omega) ?_) ?_
  ·show((ss (P++(a::(M'++ [b])++R))).set P.length (.str b))[P.length+M'.length+1]?=some (.str b);rw [List.getElem?_set_ne (by omega),List.getElem?_map,List.getElem?_append_right (by omega)];simp [show P.length+M'.length+1-P.length=M'.length+1 by omega]
  refine qE rfl (by kernel_rfl) (by kernel_rfl) ?_;refine qB (ih (iadd .i64 P.length 1,isub .i64 j 1,((ss (P++(a::(M'++ [b])++R))).set (P.length:Int).toNat (.str b)).set j.toNat (.str a)) ?_ ?_) (by kernel_rfl)
  ·refine⟨P++ [b],M',a::R,?_,?_,?_,?_,?_⟩
   ·show((ss (P++(a::(M'++ [b])++R))).set (P.length:Int).toNat (.str b)).set j.toNat (.str a)=_;rw [show j.toNat=P.length+M'.length+1 by omega];exact hset
   ·show iadd .i64 P.length 1=_;rw [a0e (by omega) (by omega)];simp
   ·show isub .i64 j 1=_;rw [a0c (by omega) (by omega)];simp;omega
   ·rw [hr];simp
   simp;omega
  show(isub .i64 j 1-iadd .i64 P.length 1+1).toNat<(j-P.length+1).toNat;rw [a0c (by omega) (by omega),a0e (by omega) (by omega)];omega
 have h:¬(P.length:Int)<j:=h;refine qR rfl ⟨rfl,?_⟩;have hM:M.reverse=M:=by
  rcases M with _|⟨a,_|⟨b,M⟩⟩
  ·rfl
  ·rfl
  simp at hj;omega
 rw [hM]at hr;rw [hr];rfl
theorem c4l{n:Int}(h0:-9223372036854775808<=n)(h1:n<=9223372036854775807):EvF tt 129 [I n] (S (Lib.itoa n)):=EvF.ext (g:=xItoa) rfl rfl (by simp [xItoa,okB,h0,h1])
theorem d7m{l:Bs}{n:Int}(h0:0<=n)(h1:n<=9223372036854775807)(h2:l.length*n.toNat<=140737488355328):EvF tt 130 [S l,I n] (S (Lib.repeatL l n.toNat)):=EvF.ext (g:=xRepeat) rfl rfl (by simp [xRepeat,okB,h0,h1,h2])
theorem e6w(l:List Bs):strs (ss l)=some l:=by
 induction l with
 |nil=>rfl
 |cons x l ih=>simp only [ss,List.map_cons,strs]at ih⊢;rw [ih]
theorem e8f{l:List Bs}{sep:Bs}(h1:l.length<=140737488355328)(h2:(Lib.join l sep).length<=140737488355328):EvF tt 132 [L (ss l),S sep] (S (Lib.join l sep)):=EvF.ext (g:=xJoin) rfl rfl (by simp only [xJoin,e6w];simp [okB,h1,h2])
theorem b0x(n:Nat):Lib.itoa (n:Int)=Lib.decDigits n:=by unfold Lib.itoa;rw [if_neg (by omega)];rfl
theorem qS{P:Program}{T:Ty P}{fr:Fr}{s:St}{Q:DV->DH->Prop}{cm:Bool}{a b:Bs}{k:Bs->St}(h:rnA T fr 2000 s= .ask cm Bs (scat a b) k)(hl:a.length+b.length<=140737488355328)(hk:Tt T fr (k (a++b)) Q):Tt T fr s Q:=tV h _ (by unfold scat;rw [if_pos (by omega)]) hk
theorem e0i{x:Int}{k:Nat}(hS:Sm k x)(hk:k<1000000):EvF tt 68 [.v (eB (toB x))] (S (txt x)):=by
 have hl:(dig x.natAbs).length<=k:=a0d hS;have hch:(a2i x.natAbs).length<10000000:=by
  have h1:=chunks_len (2*k) x.natAbs (Nat.lt_of_lt_of_le (c0b hS) (by rw [show(65536:Nat)=2^16 from rfl,<-Nat.pow_mul];exact Nat.pow_le_pow_right (by decide) (by omega)));omega
 refine evF (eIn Tryz.func68 rfl rfl ?_);refine qK rfl (b5v (toB x) (by show(dig x.natAbs).length<_;omega)) rfl ?_;refine qN rfl (by rw [a4y];rfl) ?_;refine qL (σ:=Nat×List VT) (fun s=> [(4,L (ns (dig s.1)))]) (fun s=> [(0,.row 9 1 s.2)]) (fun s=>(dig s.1).length<16777216/\∃acc,s.2=ss acc/\acc++a2i s.1=a2i x.natAbs) (fun s=>s.1) (x.natAbs,[]) rfl rfl ⟨by dsimp only;omega,[],rfl,rfl⟩ ?_;rintro⟨v,xs⟩ ⟨hlv,acc,hx,hc⟩ ih;obtain rfl:xs=ss acc:=hx;have hc:acc++a2i v=a2i x.natAbs:=hc;have hlv:(dig v).length<16777216:=hlv;refine qC rfl (fun h=> ?_) (fun h=> ?_)
 ·have h:0<((ns (dig v)).length:Int):=h;have hv:v≠0:=by intro e;subst e;rw [dig_zero]at h;simp at h
  have hs:=c0j (d:=100000) (a0i v) (by omega) (by decide) (by decide);rw [a0h,show((v:Int)/100000).toNat=v/100000 by omega,show(v:Int) %100000=((v %100000:Nat):Int) by omega]at hs;refine qK rfl hs rfl ?_;have hi:EvF tt 129 [I ((v %100000:Nat):Int)] (S (Lib.decDigits (v %100000))):=by rw [<-b0x];exact c4l (by omega) (by omega)
  refine qK rfl hi rfl ?_;have hd5:=d5x (Nat.mod_lt v (show 0<100000 by decide));have hca:acc.length+(a2i v).length<10000000:=by rw [<-List.length_append,hc];exact hch
  have hlq:(dig (v/100000)).length<=(dig v).length:=a0m (Nat.div_le_self ..);rw [a9q hv]at hc hca;simp only [List.length_cons]at hca;refine qC rfl (fun h'=> ?_) (fun h'=> ?_)
  ·have hv':v/100000≠0:=by
    intro e;have h':0<((ns (dig (v/100000))).length:Int):=h';rw [e,dig_zero]at h';simp at h'
   rw [if_neg hv']at hc;have hr:EvF tt 130 [S [48],I (isub .i64 5 (Lib.decDigits (v %100000)).length)] (S (Lib.repeatL [48] (5-(Lib.decDigits (v %100000)).length))):=by
    rw [a0c (by omega) (by omega),show 5-(Lib.decDigits (v %100000)).length=((5:Int)-(Lib.decDigits (v %100000)).length).toNat by omega];exact d7m (by omega) (by omega) (by simp;omega)
   refine qK rfl hr rfl ?_;refine qS rfl (by rw [Lib.repeatL_length];simp;omega) ?_;refine qA 16 rfl rfl (by simp;omega) ?_;refine qB (ih (v/100000,ss acc++ [.str (Lib.repeatL [48] (5-(Lib.decDigits (v %100000)).length)++Lib.decDigits (v %100000))]) ?_ ?_) (by kernel_rfl)
   ·refine⟨by show(dig (v/100000)).length<_;omega,acc++ [five v],by rw [c2r];simp,by rw [<-hc];simp⟩
   show v/100000<v;omega
  have hv':v/100000=0:=by
   have h':¬0<((ns (dig (v/100000))).length:Int):=h';rw [List.length_map]at h';exact a5a.1 (List.length_eq_zero_iff.1 (by omega))
  rw [if_pos hv']at hc;refine qA 16 rfl rfl (by simp;omega) ?_;refine qB (ih (v/100000,ss acc++ [.str (Lib.decDigits (v %100000))]) ?_ ?_) (by kernel_rfl)
  ·refine⟨by show(dig (v/100000)).length<_;omega,acc++ [Lib.decDigits v],?_,by rw [<-hc];simp⟩;rw [Nat.mod_eq_of_lt (by omega)];simp
  show v/100000<v;omega
 have h:¬0<((ns (dig v)).length:Int):=h;refine qK rfl (f1s (l:=acc) (by have h9:acc.length<=(acc++a2i v).length:=(by simp);rw [hc]at h9;omega)) rfl ?_;have hv:v=0:=by
  have:(dig v).length=0:=by rw [List.length_map]at h;omega
  exact a5a.1 (List.length_eq_zero_iff.1 this)
 subst hv;rw [chunks_zero,List.append_nil]at hc;subst hc;have hj:Lib.join (a2i x.natAbs).reverse []=(a2i x.natAbs).reverse.flatten:=join_nilsep _;have htl:=a6q hS;have hjl:((a2i x.natAbs).reverse.flatten).length<=7*k+2:=by
  by_cases h0:x.natAbs=0
  ·rw [h0,chunks_zero];simp
  rw [a8c _ h0];unfold txt at htl;split at htl
  ·simp only [List.length_cons]at htl;omega
  exact htl
 have hje:=e8f (l:=(a2i x.natAbs).reverse) (sep:= []) (by simp;omega) (by rw [hj];omega);rw [hj]at hje;refine qK rfl hje rfl ?_;have hsg:(toB x).Sign=sg x:=rfl;refine qC rfl (fun h1=> ?_) (fun h1=> ?_)
 ·have h1:sg x=0:=h1;refine qR rfl ⟨?_,rfl⟩;obtain rfl:x=0:=by have:=a0b x;omega
  show S [48]=_;unfold txt;rw [if_neg (by decide),show(0:Int).natAbs=0 from rfl,a0v (by decide)];rfl
 have h1:sg x≠0:=h1;have hc:=a0b x;refine qC rfl (fun h2=> ?_) (fun h2=> ?_)
 ·have h2:sg x=-1:=h2;refine qS rfl (by show 1+_<=_;omega) ?_;refine qR rfl ⟨?_,rfl⟩;show S (45::_)=_;unfold txt;rw [a8c _ (by omega),if_pos (by omega)];rfl
 have h2:sg x≠-1:=h2;refine qR rfl ⟨?_,rfl⟩;show S _=_;unfold txt;rw [a8c _ (by omega),if_neg (by omega)]
theorem e5k{r:Rat}{k:Nat}(h:SmF k r)(hk:k<1000000):EvF tt 35 [.v (eF (toF r))] (S (txt r.num++47::txt (r.den:Int))):=by
 refine evF (eIn Tryz.func35 rfl rfl ?_);refine qK rfl (a4c (f:=toF r) (k:=k) (a0d h.1) (a0d h.2) (by omega)) rfl ?_;refine qN rfl (by rw [a2u];rfl) ?_;have h1:=a6q h.1;have h2:=a6q h.2;refine qK rfl (e0i h.1 hk) rfl ?_;refine qS rfl (by show _+1<=_;omega) ?_;refine qK rfl (e0i h.2 hk) rfl ?_;refine qS rfl (by simp only [List.length_append];show _+1+_<=_;omega) ?_;refine qE rfl (by kernel_rfl) (by kernel_rfl) ?_;refine qR rfl ⟨?_,rfl⟩;show S ((txt r.num++ [47])++txt (r.den:Int))=_;simp
theorem d2k{f:Frac}{k:Nat}(hp:f.P.Digits.length<=k)(hq:f.Q.Digits.length<=k)(hk:k<1000000)(hr:a0f f=false):EvF tt 35 [.v (eF f)] (S []):=by
 refine evF (eIn Tryz.func35 rfl rfl ?_);refine qK rfl (a4c hp hq (by omega)) rfl ?_;refine qT rfl (by rw [hr];rfl) ?_;exact qR rfl ⟨rfl,rfl⟩
theorem d0q(s:Bs):Lib.trimPrefix s [45]=(cut s).1/\Lib.hasPrefix s [45]=(cut s).2:=by
 unfold Lib.trimPrefix Lib.hasPrefix;rcases s with _|⟨b,l⟩
 ·exact⟨rfl,rfl⟩
 by_cases hb:b=45
 ·subst hb;exact⟨rfl,rfl⟩
 rw [c5l hb];have:(([45]:Bs).isPrefixOf (b::l))=false:=by simp [List.isPrefixOf,Ne.symm hb]
 rw [this];exact⟨rfl,rfl⟩
theorem a5i(s p:Bs):EvF tt 116 [S s,S p] (.tup [S (Lib.trimPrefix s p),B (Lib.hasPrefix s p)]):=EvF.ext (g:=xCutPrefix) rfl rfl rfl
theorem d8r{l:Bs}(h:l.length<=140737488355328):d8v l=some l:=by
 unfold d8v;rw [Nat.ble_eq_true_of_le h]
theorem c4n{v V:Nat}{b:UInt8}{l:List Int}{xs:List VT}(hb:48<=b.toNat/\b.toNat<=57)(hV:V=v*10)(hl:l.take (dig V).length=dig V)(hx:xs.take (dig (b.toNat-48)).length=ns (dig (b.toNat-48)))(hv:(dig (v*10)).length<1073741824):
 EvF tt 118 [.v (.sl (List.take (dig V).length (List.drop 0 (ns l)))),.v (.sl (List.take (dig (b.toNat-48)).length (List.drop 0 xs)))] (L (ns (dig (ten1 v b)))):=by
 rw [List.drop_zero,List.drop_zero,<-List.map_take,hl,hx];have h:=e7p (a0i V) (a0i (b.toNat-48)) (by rw [hV];exact hv) (by
  have h1:Sm 1 ((b.toNat-48:Nat):Int):=by unfold Sm;rw [Int.natAbs_natCast,show pw 1=1048576 by decide];omega
  have h2:=a0d h1;rw [Int.natAbs_natCast]at h2;omega)
 rw [a0h,a0h,show((V:Int)+((b.toNat-48:Nat):Int)).toNat=ten1 v b by unfold ten1;omega]at h;exact h
theorem e0c{s:Bs}(hl:s.length<=500):EvF tt 61 [S s] (.tup [.v (eB (a1s s).1),I (a1s s).2]):=by
 refine evF (eIn Tryz.func61 rfl rfl ?_);have h1:=a5i s [45];rw [(d0q s).1,(d0q s).2]at h1;have hcl:=c1u s;unfold a1s;generalize (cut s).2=neg at h1⊢;generalize (cut s).1=t at h1 hcl⊢;refine qK rfl h1 rfl ?_;refine qC rfl (fun h=> ?_) (fun h=> ?_)
 ·have h:s= [48]:=h;rw [if_pos h];exact qR rfl ⟨rfl,rfl⟩
 have h:¬s= [48]:=h;rw [if_neg h];refine qC rfl (fun h=> ?_) (fun h=> ?_)
 ·have h:t= []:=h;subst h;exact qR rfl ⟨rfl,rfl⟩
 have h0:¬t= []:=h;obtain⟨b,us,rfl⟩:=List.exists_cons_of_ne_nil h0;refine qV rfl (show sidx (b::us) 0=some (b.toNat:Int)from rfl) ?_;have hg:good (b::us)=(!(b==48)&&(b::us).all isd):=rfl;refine qC rfl (fun h=> ?_) (fun h=> ?_)
 ·have h:(b.toNat:Int)=48:=h;obtain rfl:b=48:=UInt8.toNat_inj.1 (by have:(48:UInt8).toNat=48:=rfl;omega);rw [if_neg (by rw [hg];simp)];exact qR rfl ⟨rfl,rfl⟩
 have h:¬(b.toNat:Int)=48:=h;have hb:b≠48:=by intro e;subst e;exact h rfl
 obtain⟨r,h2,h3⟩:=e7u h0 (by omega);refine qK rfl h2 rfl ?_;refine qC rfl (fun h=> ?_) (fun h=> ?_)
 ·have h:¬r= []:=h;rw [if_neg (by rw [hg,<-h3];simp [h])];exact qR rfl ⟨rfl,rfl⟩
 have h:¬¬r= []:=h;have h:r= []:=Classical.not_not.1 h;have hall:(b::us).all isd=true:=by rw [<-h3,h];rfl
 rw [if_pos (by rw [hg,hall];simp [hb])];refine qV rfl (d8r (l:=b::us) (by omega)) ?_;have hbr:48<=b.toNat/\b.toNat<=57:=a2g (by simp only [List.all_cons,Bool.and_eq_true]at hall;exact hall.1);refine qB ?_ rfl;refine qI ?_;refine qT rfl (by simp [a1q]) ?_;refine qX rfl (by simp [a1q]) fun v hv=> ?_;obtain rfl:VT.int .u8 (b.toNat:Int)=v:=Option.some.inj hv;obtain⟨l1,hl1,hm1⟩:=c8x (a:= []) (b:= [10]) InR.nil (InR.cons (by decide) (by decide) InR.nil) (by decide) (by decide);refine qK rfl hm1 rfl ?_;have hd:∀{b:UInt8},48<=b.toNat/\b.toNat<=57->∃xs,xs= [VT.int .i64 (IntKind.i64.wrap (isub .u8 (b.toNat:Int) 48))]/\EvH tt 120 [.row 0 0] [bk (.row 3 1 xs)] (.win 0 0 0 (dig (b.toNat-48)).length) [⟨0,0,false,true,false,.row 3 1 xs⟩]/\xs.take (dig (b.toNat-48)).length=ns (dig (b.toNat-48)):=by
  intro b hbr;have e2:IntKind.i64.wrap (isub .u8 (b.toNat:Int) 48)=((b.toNat-48:Nat):Int):=by
   rw [show isub .u8 (b.toNat:Int) 48=((b.toNat-48:Nat):Int) by unfold isub;rw [c5d];omega,a0t (by omega) (by omega)]
  obtain⟨k1,k2⟩:=b0h (l:= [((b.toNat-48:Nat):Int)]) (xs:= [VT.int .i64 (IntKind.i64.wrap (isub .u8 (b.toNat:Int) 48))]) (InR.cons (by omega) (by omega) InR.nil) (by simp) (by rw [e2];rfl);rw [show(val [((b.toNat-48:Nat):Int)]).toNat=b.toNat-48 by simp [val]]at k1 k2;exact⟨_,rfl,k1,k2⟩
 obtain⟨xs,hxs,ht1,ht2⟩:=hd hbr;subst hxs;refine qK rfl ht1 rfl ?_;refine qK rfl (c4n (v:=0) (V:=(val []*val [10]).toNat) hbr (by simp [val]) hl1 ht2 (by rw [Nat.zero_mul,dig_zero];decide)) rfl ?_;have hlen:∀(u:Nat),u<=dv 0 (b::us)->(dig u).length<101:=fun u hu=>by
  have h1:=d7t hall (by omega);have h2:=a0d h1;rw [Int.natAbs_natCast]at h2;have:=a0m hu;omega
 have hlv:(a1q (b::us)).length=us.length+1:=by simp [a1q]
 have hus:us.length+1<=500:=by simp only [List.length_cons]at hcl;omega
 refine qL (σ:=Int×List Int) (fun s=> [(33,I s.1),(6,L (ns s.2))]) (fun _=> []) (fun s=>∃k:Nat,s.1=k/\k<=us.length+1/\s.2=dig (dv 0 ((b::us).take k))) (fun s=>us.length+1-s.1.toNat) (1,dig (ten1 0 b)) rfl (by kernel_rfl) ⟨1,rfl,by omega,rfl⟩ ?_;rintro⟨i,ls⟩ ⟨k,hi,hk,hls⟩ ih;obtain rfl:i=k:=hi;obtain rfl:ls=dig (dv 0 ((b::us).take k)):=hls;refine qC rfl (fun h=> ?_) (fun h=> ?_)
 ·have h:(k:Int)<((a1q (b::us)).length:Int):=h;refine qXm (g:=fun b:UInt8=>VT.int .u8 (b.toNat:Int)) (l:=b::us) rfl ⟨by show(0:Int)<=k;omega,by show(k:Int)<_;simp only [List.length_cons];omega⟩ fun c hc _=> ?_;have hc:(b::us)[k]?=some c:=hc;have hcd:=a2g (List.all_eq_true.1 hall c (List.mem_of_getElem? hc));have htk:(b::us).take (k+1)=(b::us).take k++ [c]:=by rw [List.take_add_one,hc];rfl
  have hdv:dv 0 ((b::us).take (k+1))=ten1 (dv 0 ((b::us).take k)) c:=by rw [htk,a9d];rfl
  have hle:ten1 (dv 0 ((b::us).take k)) c<=dv 0 (b::us):=by
   rw [<-hdv]
   conv=>rhs;rw [<-List.take_append_drop (k+1) (b::us),a9d]
   exact e8c _ _
  have hll:=hlen _ hle;have h10:=a0m (show dv 0 ((b::us).take k)*10<=ten1 (dv 0 ((b::us).take k)) c by unfold ten1;omega);have h11:=a0m (show dv 0 ((b::us).take k)<=ten1 (dv 0 ((b::us).take k)) c by unfold ten1;omega);obtain⟨l2,hl2,hm2⟩:=c8x (a:=dig (dv 0 ((b::us).take k))) (b:= [10]) (a0i _) (InR.cons (by decide) (by decide) InR.nil) (by omega) (by decide);refine qK rfl hm2 rfl ?_;obtain⟨xs,hxs,ht3,ht4⟩:=hd hcd;subst hxs;refine qK rfl ht3 rfl ?_;refine qK rfl (c4n (v:=dv 0 ((b::us).take k)) hcd (by rw [a0h,show val [10]=10 by decide];omega) hl2 ht4 (by omega)) rfl ?_;refine qB (ih (iadd .i64 k 1,dig (ten1 (dv 0 ((b::us).take k)) c)) ?_ ?_) (by kernel_rfl)
  ·exact⟨k+1,by show iadd .i64 k 1=_;rw [a0e (by omega) (by omega)];rfl,by omega,by rw [hdv]⟩
  show us.length+1-(iadd .i64 k 1).toNat<us.length+1-(k:Int).toNat;rw [a0e (by omega) (by omega)];omega
 have h:¬(k:Int)<((a1q (b::us)).length:Int):=h;obtain rfl:k=us.length+1:=by omega
 have htk:(b::us).take (us.length+1)=b::us:=List.take_of_length_le (by simp);have hln:=hlen _ (Nat.le_refl _);refine qC rfl (fun h=> ?_) (fun h=> ?_)
 ·have h:neg=true:=h;have h5:=a1x (-1) (dv 0 (b::us)) (by omega);rw [a0y (-((dv 0 (b::us):Nat):Int)) (by omega) (fun hv=>by rw [a1g (by omega)])]at h5;rw [<-htk]at h5;refine qK rfl h5 rfl (qR rfl ⟨?_,rfl⟩);rw [htk,if_pos h];rfl
 have h:¬neg=true:=h;have h5:=a1x 1 (dv 0 (b::us)) (by omega);rw [a0y ((dv 0 (b::us):Nat):Int) (by omega) (fun hv=>by rw [a1b (by omega)])]at h5;rw [<-htk]at h5;refine qK rfl h5 rfl (qR rfl ⟨?_,rfl⟩);rw [htk,if_neg h];rfl
theorem d9k(l:Bs)(c:UInt8):EvF tt 231 [S l,.v (.int .u8 (c.toNat:Int))] (I (Lib.indexByte l c)):=EvF.ext (g:=xIndexByte) rfl rfl (by simp [xIndexByte])
theorem f2e{s:Bs}(hl:s.length<1000000):EvF tt 60 [S s,S [47]] (.tup [S (cutS s).1,S (cutS s).2.1,B (cutS s).2.2]):=by
 have hi:EvF tt 180 [S s,S [47]] (I (Lib.indexByte s 47)):=by
  refine evF (eIn Tryz.func180 rfl rfl ?_);refine qN rfl rfl ?_;refine qC rfl (fun h=> ?_) (fun h=> ?_)
  ·have h: [47]=s:=h;subst h;exact qR rfl ⟨rfl,rfl⟩
  refine qT rfl rfl ?_;refine qV rfl rfl ?_;refine qK rfl (d9k s 47) rfl ?_;exact qR rfl ⟨rfl,rfl⟩
 have hc:EvF tt 115 [S s,S [47]] (.tup [S (cutS s).1,S (cutS s).2.1,B (cutS s).2.2]):=by
  refine evF (eIn Tryz.func115 rfl rfl ?_);refine qK rfl hi rfl ?_;rcases cutS_spec s with⟨h1,h2,h3⟩|⟨h1,h2,h3,h4⟩
  ·refine qT rfl (decide_eq_true (by rw [h2];omega)) ?_;rw [h1];have e1:=c5t (cutS s).1 (cutS s).2.1;have e2:=c4r (cutS s).1 (cutS s).2.1 (by have:=(b5j s).1;omega);rw [<-h3,<-h2]at e1 e2;refine qV rfl e1 ?_;refine qV rfl e2 ?_;refine qE rfl (by kernel_rfl) (by kernel_rfl) ?_;exact qR rfl ⟨rfl,rfl⟩
  refine qN rfl (decide_eq_false (by rw [h2];omega)) ?_;rw [h1,h3,h4];exact qR rfl ⟨rfl,rfl⟩
 refine evF (eIn Tryz.func60 rfl rfl ?_);refine qK rfl hc rfl ?_;exact qR rfl ⟨rfl,rfl⟩
theorem a4r(s:Bs)(hl:s.length<=500):(a1s s).1.Digits.length<=100:=by
 unfold a1s;split
 ·decide
 split
 ·rename_i hg;have hall:(cut s).1.all isd=true:=by unfold good at hg;simp only [Bool.and_eq_true]at hg;exact hg.2
  have hc:=c1u s;have h:=d7t hall (by omega);split
  ·exact a0d h.neg
  exact a0d h
 decide
theorem b8b{f:Frac}{k:Nat}(hp:f.P.Digits.length<=k)(hq:f.Q.Digits.length<=k)(hk:k<1000000):EvF tt 35 [.v (eF f)] (S (a3a f)):=by
 cases hr:a0f f with
 |false=>
  have:=d2k hp hq hk hr;unfold a3a;rw [hr];exact this
 |true=>
  obtain⟨r,rfl⟩:=a3g hr;rw [a8j];exact e5k (k:=k) ⟨a0n hp,a0n hq⟩ hk
theorem e6e{s:Bs}(hl:s.length<1000000)(h1:(cutS s).1.length<=500)(h2:(cutS s).2.1.length<=500):EvF tt 28 [S s] (.tup [.v (eF (a2m s).1),I (a2m s).2]):=by
 refine evF (eIn Tryz.func28 rfl rfl ?_);have hc:=f2e hl;refine qK rfl hc rfl ?_;have l1:=a4r (cutS s).1 h1;have l2:=a4r (cutS s).2.1 h2;have r1:=e0c h1;have r2:=e0c h2;unfold a2m;generalize a1s (cutS s).1=p at*;generalize a1s (cutS s).2.1=q at*;refine qK rfl r1 rfl ?_;refine qK rfl r2 rfl ?_;refine qC rfl (fun e1=> ?_) (fun e1=> ?_)
 ·have e1:p.2=0:=e1;refine qC rfl (fun e2=> ?_) (fun e2=> ?_)
  ·have e2:q.2=0:=e2;refine qK rfl (a4c (f:=⟨p.1,q.1⟩) l1 l2 (by decide)) rfl ?_;refine qC rfl (fun e3=> ?_) (fun e3=> ?_)
   ·have e3:a0f ⟨p.1,q.1⟩=true:=e3;refine qK rfl (b8b (f:=⟨p.1,q.1⟩) l1 l2 (by decide)) rfl ?_;refine qC rfl (fun e4=> ?_) (fun e4=> ?_)
    ·have e4:a3a ⟨p.1,q.1⟩=s:=e4;rw [if_pos ⟨e1,e2,e3,e4⟩];exact qR rfl ⟨rfl,rfl⟩
    have e4:¬a3a ⟨p.1,q.1⟩=s:=e4;rw [if_neg fun h=>e4 h.2.2.2];exact qR rfl ⟨rfl,rfl⟩
   have e3:¬a0f ⟨p.1,q.1⟩=true:=e3;rw [if_neg fun h=>e3 h.2.2.1];exact qR rfl ⟨rfl,rfl⟩
  have e2:¬q.2=0:=e2;rw [if_neg fun h=>e2 h.2.1];exact qR rfl ⟨rfl,rfl⟩
 have e1:¬p.2=0:=e1;rw [if_neg fun h=>e1 h.1];exact qR rfl ⟨rfl,rfl⟩
end Dp
end Go.Proofs.YtjegnogjkddnbaaGreatDoor
