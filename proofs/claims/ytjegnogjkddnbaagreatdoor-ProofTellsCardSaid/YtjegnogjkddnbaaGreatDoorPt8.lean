/- THE CARD OF ProofTells. -/
import Derived.Test.YtjegnogjkddnbaaGreatDoorCards
import Derived.Test.YtjegnogjkddnbaaGreatDoorTie
import Derived.Test.YtjegnogjkddnbaaGreatDoorPt7
namespace Go.Proofs.YtjegnogjkddnbaaGreatDoor
set_option linter.unusedSimpArgs false
namespace ProofTells
open Go Go.Proofs.YtjegnogjkddnbaaGreatDoor.Rt Go.Proofs
set_option maxRecDepth 100000
theorem and2{a b:Bool}(ha:a=true)(hb:b=true):(a&&b)=true:=by rw [ha,hb];rfl
theorem k2:laidOutB Tryz.prog=true:=by kernel_rfl
theorem k3:mapsRowed Tryz.prog=true:=by kernel_rfl
theorem k10:(Rows.proofTellsRow.inPlace==Tryz.prog.inPlace 3)=true:=by kernel_rfl
theorem k11:(Rows.proofTellsRow.unfollowed==Tryz.prog.unfollowed 3)=true:=by kernel_rfl
theorem k12:(Rows.proofTellsRow.recurses==Tryz.prog.recurses 3)=true:=by kernel_rfl
theorem k13:(Rows.proofTellsRow.named==Tryz.prog.varsNamed 3)=true:=by kernel_rfl
theorem k23:(Rows.proofTellsRow.plainKeys==Tryz.prog.plainKeys)=true:=by kernel_rfl
theorem k25:Tryz.prog.stopsHeard=true:=by kernel_rfl
theorem k26:Tryz.prog.mayEnter=true:=by kernel_rfl
theorem k27:(Rows.proofTellsRow.lifted==Tryz.prog.liftsFinal)=true:=by kernel_rfl
theorem k28:(Tryz.prog.make==some Rows.proofTellsRow.make)=true:=by kernel_rfl
theorem closed:joinedFacts Tryz.pinned.checked.prog 3 Tryz.f3 (OpenSpec.ofChange Rows.proofTellsSpec).bare Rows.proofTellsRow=true:=by
 unfold joinedFacts;exact and2 (and2 (and2 (and2 (and2 (and2 (and2 (and2 (and2 (and2 (and2 (and2 (and2 (and2 (and2 (and2 (and2 (and2 (and2 (and2 (and2 (and2 (and2 (and2 (and2 (and2 (and2 (and2 (and2 (and2 (and2 (by kernel_rfl) k2) k3) (by kernel_rfl)) (by kernel_rfl)) (by kernel_rfl)) (by kernel_rfl)) (by kernel_rfl)) (by kernel_rfl)) k10) k11) k12) k13) (by kernel_rfl)) (by kernel_rfl)) (by kernel_rfl)) (by kernel_rfl)) (by kernel_rfl)) (by kernel_rfl)) (by kernel_rfl)) (by kernel_rfl)) (by kernel_rfl)) k23) (by kernel_rfl)) k25) k26) k27) k28) (by kernel_rfl)) (by kernel_rfl)) (by kernel_rfl)) (by kernel_rfl)
theorem nameOk:Tryz.prog.funcNamed "kerbside/kerbsidelaw50.ProofTells" =some 3:=by kernel_rfl
theorem instOk:Tryz.f3.isInstance Tryz.prog Rows.proofTellsRow.origin Rows.proofTellsRow.targs:=of_decide_eq_true (by kernel_rfl)
theorem wrapOk:Tryz.f3.isWrapper Tryz.prog Rows.proofTellsRow.wrapper Rows.proofTellsRow.mainSum:=by unfold Func.isWrapper;first|(rw [if_pos (by decide+kernel)];kernel_rfl)|(rw [if_neg (by decide+kernel)];exact⟨rfl,rfl⟩)
end ProofTells
namespace ProofTells
open Go Go.ChangeShapes Go.WideShapes Go.ChangeAt Go.RowKit Go.Proofs.YtjegnogjkddnbaaGreatDoor.Rt Go.Proofs Go.Proofs.YtjegnogjkddnbaaGreatDoor.Wrap Go.Proofs.YtjegnogjkddnbaaGreatDoor.Dp
set_option linter.unusedVariables false
set_option maxRecDepth 100000 in
theorem d5n(H:Type)(enc:TypeId×Value->H)(W:World)(base:Nat)(args:Array Value)(ds gs:List (DataW H))(before:List MemPlace)
 (hval:∀(j:Nat)t v,Tryz.f3.params[j]?=some t->args[j]?=some v->Value.okWide Tryz.prog W .any base t v)
 (hW:DataW.Whole enc Tryz.prog Tryz.f3.params.toList Rows.proofTellsSpec.vars false W args.toList ds gs before) (hL:laidMetH Tryz.prog tabs W):
 Calls Tryz.prog 3 args W fun e W'=>∃v,e= .returned v/\Rows.proofTellsSpec.post enc Tryz.prog Tryz.f3 false true false false W args v W':=by
 have hW':=hW;obtain⟨p,q,hA0,hV,rfl,hfz,hnd⟩:=hW;have hA:DataW.TrodAll enc Tryz.prog W 0 (fun _=>true) true Tryz.f3.params.toList args.toList ds p:=hA0;rw [Tryz.params3]at hA hval;obtain⟨v0,vs0,d0,ds0,p0,q0,hargs,rfl,rfl,h0,r0⟩:=trodAll_cons hA;obtain⟨v1,vs1,d1,ds1,p1,q1,rfl,rfl,rfl,h1,r1⟩:=trodAll_cons r0;obtain⟨v2,vs2,d2,ds2,p2,q2,rfl,rfl,rfl,h2,r2⟩:=trodAll_cons r1;obtain⟨v3,vs3,d3,ds3,p3,q3,rfl,rfl,rfl,h3,r3⟩:=trodAll_cons r2;obtain⟨v4,vs4,d4,ds4,p4,q4,rfl,rfl,rfl,h4,r4⟩:=trodAll_cons r3;obtain⟨v5,vs5,d5,ds5,p5,q5,rfl,rfl,rfl,h5,r5⟩:=trodAll_cons r4;obtain⟨v6,vs6,d6,ds6,p6,q6,rfl,rfl,rfl,h6,r6⟩:=trodAll_cons r5;obtain⟨v7,vs7,d7,ds7,p7,q7,rfl,rfl,rfl,h7,r7⟩:=trodAll_cons r6;obtain⟨rfl,rfl,rfl⟩:=trodAll_nil r7;obtain rfl:args= #[v0,v1,v2,v3,v4,v5,v6,v7]:=by cases args;simp_all
 obtain⟨rfl,rfl⟩:=trodVars_none hV;obtain⟨y0,u0,c0,k0,t0⟩:=a6e sh_ev h0;obtain rfl:=b0c sh_ev (hval 0 _ v0 rfl rfl) k0 t0 c0;obtain⟨y1,u1,c1,k1,t1⟩:=a6e sh_pks h1;obtain rfl:=b0c sh_pks (hval 1 _ v1 rfl rfl) k1 t1 c1;obtain⟨y2,u2,c2,k2,t2⟩:=a6e sh_rg h2;obtain rfl:=b0c sh_rg (hval 2 _ v2 rfl rfl) k2 t2 c2;obtain⟨y3,u3,c3,k3,t3⟩:=a6e sh_bt h3;obtain rfl:=b0c sh_bt (hval 3 _ v3 rfl rfl) k3 t3 c3;obtain⟨y4,u4,c4,k4,t4⟩:=a6e sh_int h4;obtain rfl:=b0c sh_int (hval 4 _ v4 rfl rfl) k4 t4 c4;obtain⟨y5,u5,c5,k5,t5⟩:=a6e sh_fs h5;obtain rfl:=b0c sh_fs (hval 5 _ v5 rfl rfl) k5 t5 c5;obtain⟨y6,u6,c6,k6,t6⟩:=a6e sh_fs h6;obtain rfl:=b0c sh_fs (hval 6 _ v6 rfl rfl) k6 t6 c6;obtain⟨y7,u7,c7,k7,t7⟩:=a6e sh_str h7;obtain rfl:=b0c sh_str (hval 7 _ v7 rfl rfl) k7 t7 c7;obtain⟨l0,rfl⟩:=e7i t0;obtain⟨l1,rfl⟩:=a6k e7r t1;obtain⟨l2,rfl⟩:=f0g t2;obtain⟨l3,rfl⟩:=e8a t3;obtain⟨l4,rfl⟩:=e9z t4;obtain⟨l5,rfl⟩:=a6k a7a t5;obtain⟨l6,rfl⟩:=a6k a7a t6;obtain⟨l7,rfl,_⟩:=t7;refine(d2x (ys:= [eEv l0,.sl (l1.map ePk),eRg l2,eBt l3,N l4,.sl (fs l5),.sl (fs l6),.str l7]) (d8g l0 l1 l2 l3 l4 l5 l6 l7) (glr hL) (us:= [_,_,_,_,_,_,_,_]) ⟨_,_,rfl,k0,_,_,rfl,k1,_,_,rfl,k2,_,_,rfl,k3,_,_,rfl,k4,_,_,rfl,k5,_,_,rfl,k6,_,_,rfl,k7,rfl⟩).mono ?_;rintro e W' ⟨rfl,hh⟩;refine⟨_,rfl,d3f laidOut ?_ rfl (by kernel_rfl) Tryz.underlying4 rfl hW' hh⟩;rw [Tryz.params3];intro t ht;have ht:t∈ [28,29,39,41,3,35,35,9]:=ht;rcases List.mem_cons.1 ht with rfl|ht
 ·exact⟨by kernel_rfl,of_decide_eq_true (by kernel_rfl)⟩
 rcases List.mem_cons.1 ht with rfl|ht
 ·exact⟨by kernel_rfl,of_decide_eq_true (by kernel_rfl)⟩
 rcases List.mem_cons.1 ht with rfl|ht
 ·exact⟨by kernel_rfl,of_decide_eq_true (by kernel_rfl)⟩
 rcases List.mem_cons.1 ht with rfl|ht
 ·exact⟨by kernel_rfl,of_decide_eq_true (by kernel_rfl)⟩
 rcases List.mem_cons.1 ht with rfl|ht
 ·exact⟨by kernel_rfl,of_decide_eq_true (by kernel_rfl)⟩
 rcases List.mem_cons.1 ht with rfl|ht
 ·exact⟨by kernel_rfl,of_decide_eq_true (by kernel_rfl)⟩
 rcases List.mem_cons.1 ht with rfl|ht
 ·exact⟨by kernel_rfl,of_decide_eq_true (by kernel_rfl)⟩
 rcases List.mem_cons.1 ht with rfl|ht
 ·exact⟨by kernel_rfl,of_decide_eq_true (by kernel_rfl)⟩
 exact absurd ht (List.not_mem_nil)
abbrev zEv:Value:= .agg #[.int .i64 0,.int .i64 0,.int .i64 0,.slice none 0 0,.slice none 0 0,.slice none 0 0,.slice none 0 0,.slice none 0 0]
abbrev zBt:Value:= .agg #[.int .i64 0,.slice none 0 0]
abbrev zRg:Value:= .agg #[.int .i64 0,.int .i64 0,.slice none 0 0,.int .i64 0,.slice none 0 0,.slice none 0 0,.slice none 0 0,.slice none 0 0,.int .i64 0,.int .i64 0,.slice none 0 0,.int .i64 0,.slice none 0 0,.slice none 0 0,.slice none 0 0,.slice none 0 0]
theorem reads(os:Os){H:Type}(enc:TypeId×Value->H):∃places,DataW.whole enc Tryz.prog ((b1o os).forCall (fun _ _=>0) ⟨#[], #[zEv,.slice none 0 0,zRg,zBt,.int .i64 0,.slice none 0 0,.slice none 0 0,.string ⟨#[]⟩],[]⟩).memory Tryz.f3.params.toList Rows.proofTellsSpec.vars false (#[zEv,.slice none 0 0,zRg,zBt,.int .i64 0,.slice none 0 0,.slice none 0 0,.string ⟨#[]⟩]:Array Value).toList 8=some ([.agg [.lit (.int .i64 0),.lit (.int .i64 0),.lit (.int .i64 0),.nil,.nil,.nil,.nil,.nil],.nil,.agg [.agg [.lit (.int .i64 0),.agg [.agg [.lit (.int .i64 0),.nil],.agg [.lit (.int .i64 0),.nil]],.nil,.nil,.nil],.agg [.lit (.int .i64 0),.agg [.agg [.lit (.int .i64 0),.nil],.agg [.lit (.int .i64 0),.nil]],.nil,.nil,.nil]],.agg [.lit (.int .i64 0),.nil],.lit (.int .i64 0),.nil,.nil,.lit (.string [])],[],places):=
 ⟨[],by kernel_rfl⟩
set_option maxRecDepth 100000 in
theorem f0o(os:Os)(started:os.Started)(H:Type)(enc:TypeId×Value->H)(F:Stop.Interp):
 ReturnsInHanded {} Tryz.checked os 3 .any ((OpenSpec.ofChange Rows.proofTellsSpec).preRow enc Tryz.prog Tryz.f3 Rows.proofTellsRow.domain false Rows.proofTellsRow.laid) (((OpenSpec.ofChange Rows.proofTellsSpec).at F).post enc Tryz.prog Tryz.f3 false true false false):=by
 obtain⟨places,hx⟩:=reads os enc;refine returnsInHanded_of_row (C:=Tryz.checked) (s:=OpenSpec.ofChange Rows.proofTellsSpec) own started (by kernel_rfl) Tryz.func3
  (witness_row_at (enc:=enc) (C:=Tryz.checked) false (b1o os) #[zEv,.slice none 0 0,zRg,zBt,.int .i64 0,.slice none 0 0,.slice none 0 0,.string ⟨#[]⟩] rfl (by kernel_rfl) (by kernel_rfl) (by kernel_rfl)
    (OpenSpec.preRow_of_cond 8 hx (by kernel_rfl) (fun k hk=>by cases hk) (by kernel_rfl) (d7z os _))) ?_
 intro W base args ds gs before hval hW _ _ _ hL _ _;exact d5n H enc W base args ds gs before hval hW hL
theorem said:Rows.ProofTellsSaid:=
 OpenClaim.holds_of_cond 3 Tryz.f3 rfl rfl rfl rfl rfl rfl rfl ⟨rfl,rfl,rfl,rfl,rfl⟩ rfl rfl rfl rfl rfl nameOk Tryz.func3 closed
  instOk wrapOk
  (fun os started H enc _ F=>by rw [OpenClaim.pre_eq_preRow];exact f0o os started H enc F)
theorem plain(f:FuncId)(fn:Func)(hf:Tryz.pinned.checked.prog.funcNamed "kerbside/kerbsidelaw50.ProofTells" =some f)(hfn:Tryz.pinned.checked.prog.funcs[f]?=some fn):
 true=Tryz.pinned.checked.prog.looks []/\∀(j:Nat)t,fn.params[j]?=some t->Tryz.pinned.checked.prog.wantsStandIn t=false:=by
 obtain rfl:f=3:=Option.some.inj (nameOk.symm.trans hf)|>.symm
 obtain rfl:fn=Tryz.f3:=(Option.some.inj (Tryz.func3.symm.trans hfn)).symm;refine⟨by kernel_rfl,fun j t ht=> ?_⟩;rw [Tryz.params3]at ht;have ht:t∈ [28,29,39,41,3,35,35,9]:=Array.mem_toList_iff.2 (Array.mem_of_getElem? ht);rcases List.mem_cons.1 ht with rfl|ht
 ·exact(show Tryz.prog.wantsStandIn 28=false by kernel_rfl)
 rcases List.mem_cons.1 ht with rfl|ht
 ·exact(show Tryz.prog.wantsStandIn 29=false by kernel_rfl)
 rcases List.mem_cons.1 ht with rfl|ht
 ·exact(show Tryz.prog.wantsStandIn 39=false by kernel_rfl)
 rcases List.mem_cons.1 ht with rfl|ht
 ·exact(show Tryz.prog.wantsStandIn 41=false by kernel_rfl)
 rcases List.mem_cons.1 ht with rfl|ht
 ·exact(show Tryz.prog.wantsStandIn 3=false by kernel_rfl)
 rcases List.mem_cons.1 ht with rfl|ht
 ·exact(show Tryz.prog.wantsStandIn 35=false by kernel_rfl)
 rcases List.mem_cons.1 ht with rfl|ht
 ·exact(show Tryz.prog.wantsStandIn 35=false by kernel_rfl)
 rcases List.mem_cons.1 ht with rfl|ht
 ·exact(show Tryz.prog.wantsStandIn 9=false by kernel_rfl)
 exact absurd ht (List.not_mem_nil)
theorem card:Rows.ProofTellsCardSaid:=
 Claim7.holds_tied_plain_at .later [] _ _ _ _ said (fun _ h=>by cases h) (by kernel_rfl) (fun _ h=>by cases h) proofTells_row_tie rfl ⟨rfl,rfl⟩ (by kernel_rfl) rfl plain (by kernel_rfl)
end ProofTells
end Go.Proofs.YtjegnogjkddnbaaGreatDoor
