/- ClientPlays: for every f, id, configuration and both lists of acts the law returns true. No condition. -/
import Derived.Test.YtipmjleohadoeaaGreatWClientPlaysPy
import Derived.Test.YtipmjleohadoeaaGreatRows
import Derived.Test.YtipmjleohadoeaaGreatJ1Py
import Derived.Test.YtipmjleohadoeaaGreatJ15Py
import Derived.WalkKit
import Derived.ProofKit
import Derived.OpenShut
import Derived.ShutString
import Derived.ChangeOld
import Derived.Below
set_option maxRecDepth 100000
set_option maxHeartbeats 16000000
set_option linter.unusedVariables false
set_option linter.unusedSimpArgs false
namespace Go.Proofs.YtipmjleohadoeaaGreat.clientPlays
open Go.ChangeShapes Go.WideShapes Go.ChangeAt Go.RowKit
theorem own:ownKnob Tryz.prog.godebug=none:=by kernel_rfl
theorem laidOut:laidOutB Tryz.prog=true:=by kernel_rfl
theorem lifted (os:Os) (b:os.Started) (H:Type) (enc:TypeId×Value→H):
 ReturnsInHanded {} Tryz.checked os 7 .any (Rows.clientPlaysSpec.pre6 enc Tryz.prog Tryz.f7 Rows.clientPlaysRow.domain false) (Rows.clientPlaysSpec.post enc Tryz.prog Tryz.f7 false true false false):=by
 refine returnsInHanded_of_change (C:=Tryz.checked) own b (by kernel_rfl) Tryz.func7
  (ChangeSpec.witness6 (enc:=enc) (C:=Tryz.checked) false ⟨#[],#[.int .i64 0,.int .i64 0,.slice none 0 0,.slice none 0 0,.slice none 0 0],[]⟩ 8 (by kernel_rfl) (by kernel_rfl) (by kernel_rfl) (by kernel_rfl)) ?_
 intro W base args ds gs f c hW w _
 have a:∀(j:Nat) t v,Tryz.f7.params[j]? =some t→args[j]? =some v→Value.okWide Tryz.prog W .any base t v:=c
 have u:=hW
 obtain⟨p,q,d,hV,rfl,F,E⟩:=hW
 have hA:DataW.TrodAll enc Tryz.prog W 0 (fun _=>true) true Tryz.f7.params.toList args.toList ds p:=d
 rw[Tryz.params7] at hA a
 obtain⟨v0,D,d0,L,p0,q0,s,rfl,rfl,h0,r0⟩:=trodAll_cons hA
 obtain⟨v1,B,d1,K,p1,q1,rfl,rfl,rfl,h1,r1⟩:=trodAll_cons r0
 obtain⟨v2,A,d2,J,p2,q2,rfl,rfl,rfl,h2,r2⟩:=trodAll_cons r1
 obtain⟨v3,z,d3,I,p3,q3,rfl,rfl,rfl,h3,r3⟩:=trodAll_cons r2
 obtain⟨v4,y,d4,G,p4,q4,rfl,rfl,rfl,h4,r4⟩:=trodAll_cons r3
 obtain⟨rfl,rfl,rfl⟩:=trodAll_nil r4
 obtain rfl:args=#[v0,v1,v2,v3,v4]:=by cases args;simp_all
 obtain⟨rfl,rfl⟩:=trodVars_none hV
 have k0:=h0
 have r:∀x∈p0,x.block < W.heap.size:=by obtain⟨m,hm⟩:=k0;exact DataW.trod_lt m _ _ _ hm
 have k1:=h1
 have lt1:∀x∈p1,x.block < W.heap.size:=by obtain⟨m,hm⟩:=k1;exact DataW.trod_lt m _ _ _ hm
 have k2:=h2
 have o:∀x∈p2,x.block < W.heap.size:=by obtain⟨m,hm⟩:=k2;exact DataW.trod_lt m _ _ _ hm
 have k3:=h3
 have n:∀x∈p3,x.block < W.heap.size:=by obtain⟨m,hm⟩:=k3;exact DataW.trod_lt m _ _ _ hm
 have k4:=h4
 have l:∀x∈p4,x.block < W.heap.size:=by obtain⟨m,hm⟩:=k4;exact DataW.trod_lt m _ _ _ hm
 obtain⟨a0,rfl,b0⟩:=kB Tryz.underlying3 h0 (okWide_int Tryz.underlying3 (a 0 3 v0 rfl rfl))
 obtain⟨a1,rfl,b1⟩:=kB Tryz.underlying3 h1 (okWide_int Tryz.underlying3 (a 1 3 v1 rfl rfl))
 obtain⟨l2,k,b2⟩:=nj Tryz.underlying22 (nh Tryz.underlying3 (by kernel_rfl)) h2 (okWide_slice Tryz.underlying22 (a 2 22 v2 rfl rfl))
 obtain⟨l3,i,b3⟩:=gQ h3 (okWide_slice Tryz.underlying75 (a 3 75 v3 rfl rfl))
 obtain⟨l4,g,b4⟩:=gQ h4 (okWide_slice Tryz.underlying75 (a 4 75 v4 rfl rfl))
 clear d c
 refine (walk a0 a1 v2 l2 v3 l3 v4 l4 W b0 b1 k b2 i b3 g b4).mono fun e W' ⟨he,bel⟩=>?_
 subst he
 exact⟨_,rfl,_,_,_,[],_,[],u,trodAll_mk1 (shut_bool Tryz.underlying4 _),(trodAll_cons_mk (Below.trod laidOut (by kernel_rfl) (of_decide_eq_true (by kernel_rfl)) k0 bel r) (trodAll_cons_mk (Below.trod laidOut (by kernel_rfl) (of_decide_eq_true (by kernel_rfl)) k1 bel lt1) (trodAll_cons_mk (Below.trod laidOut (by kernel_rfl) (of_decide_eq_true (by kernel_rfl)) k2 bel o) (trodAll_cons_mk (Below.trod laidOut (by kernel_rfl) (of_decide_eq_true (by kernel_rfl)) k3 bel n) (trodAll_cons_mk (Below.trod laidOut (by kernel_rfl) (of_decide_eq_true (by kernel_rfl)) k4 bel l) trodAll_mk0))))),rfl,bel.frame _,fun h=>by cases h⟩
theorem over:Rows.clientPlaysRow.holds Tryz.pinned (OpenSpec.ofChange Rows.clientPlaysSpec):=
 OpenClaim.holds_of_wide 7 Tryz.f7 rfl rfl rfl rfl rfl rfl rfl ⟨rfl,rfl,rfl,rfl,rfl⟩ rfl rfl rfl rfl rfl (by kernel_rfl) Tryz.func7 (by kernel_rfl)
  (of_decide_eq_true (by kernel_rfl)) (by unfold Func.isWrapper;first|(rw[if_pos (by decide+kernel)];kernel_rfl)|(rw[if_neg (by decide+kernel)];exact⟨rfl,rfl⟩))
  (fun os a H enc _=>lifted os a H enc)
theorem proved:Rows.ClientPlaysSaid:=over
#print axioms proved
end Go.Proofs.YtipmjleohadoeaaGreat.clientPlays
