import Derived.Test.YtipmjleohadoeaaGreatJ7Py
import Derived.Test.YtipmjleohadoeaaGreatJ5Py
import Derived.Deep.RegionHeld3
import Derived.Test.YtipmjleohadoeaaGreatJ13Py
import Derived.Test.YtipmjleohadoeaaGreatJ8Py
import Derived.Test.YtipmjleohadoeaaGreatJ9Py
import Derived.Test.YtipmjleohadoeaaGreatJ10Py
import Derived.Test.YtipmjleohadoeaaGreatJ12Py
set_option maxRecDepth 100000
set_option maxHeartbeats 16000000
set_option linter.unusedVariables false
set_option linter.unusedSimpArgs false
section
namespace Go.Proofs.YtipmjleohadoeaaGreat
open Go.RowKit
theorem sj (m:Psp.Msg) (vb vo vc vp:Value) (f cl:Int) (w:World) (P:Nat→Prop) (hx:MsgOk w P ⟨m,vb,vo,vc,vp⟩) (hw:cr m) (hf:Psp.may f=true) (hk:m.k=9):
 Calls Tryz.prog 61 #[.agg #[.int .i64 m.k,.int .i64 m.f,.int .i64 m.v,.int .i64 m.i,.int .i64 m.q,.int .i64 m.r,vb,vo,vc,vp],.int .i64 f,.int .i64 cl] w fun e w'=>e= .returned (.bool (Psp.aF m f cl))∧Below w.heap.size w w':=by
 obtain⟨Ab,Ao,Ac,Ap,cb,co,cc,cp,rfl,rfl,rfl,rfl⟩:=aG hx
 have HX:=tt hx
 have Hw:=tt hw
 obtain⟨q,hq⟩:∃q,Psp.aO f=q:=⟨_,rfl⟩
 have af:(q==0)=false:=by rw[←hq,bl,hf];rfl
 have E:=bg f
 rw[hq] at E
 have Y:=tt E
 obtain⟨nb,hnb⟩:∃x,Psp.bB m.f f=x:=⟨_,rfl⟩
 have Q:Hid (∀w':World,Calls Tryz.prog 90 #[.agg #[.int .i64 f,.int .i64 cl],.int .i64 m.f] w' fun e w''=>e= .returned (.bool nb)∧Below w'.heap.size w' w''):=tt fun w'=>by rw[←hnb];exact cC _ _ _ w'
 have t1:(m.k==1)=false:=by rw[hk];rfl
 have t2:(m.k==2)=false:=by rw[hk];rfl
 have t3:(m.k==3)=false:=by rw[hk];rfl
 have t4:(m.k==4)=false:=by rw[hk];rfl
 have t5:(m.k==5)=false:=by rw[hk];rfl
 have t6:(m.k==6)=false:=by rw[hk];rfl
 have t7:(m.k==7)=false:=by rw[hk];rfl
 have t8:(m.k==8)=false:=by rw[hk];rfl
 have t9:(m.k==9)=true:=by rw[hk];rfl
 have aa:(m.k==10)=false:=by rw[hk];rfl
 obtain⟨b0,hb0⟩:∃x,Psp.noB [m.v,m.i,m.q,m.r]=x:=⟨_,rfl⟩
 have A:Hid (∀(w':World) (b:Nat),Lies w' b 0 ([m.v,m.i,m.q,m.r].map iv)→Calls Tryz.prog 87 #[.slice (some ⟨b,0,none⟩) 4 4] w' fun e w''=>e= .returned (.bool b0)∧w'=w''):=tt fun w' b hl=>by rw[←hb0];exact fz [m.v,m.i,m.q,m.r] b 4 w' rfl hl (by omega)
 obtain⟨b1,hb1⟩:∃x,Psp.bZ m false false true false=x:=⟨_,rfl⟩
 have d:Hid (∀w':World,Calls Tryz.prog 88 #[.agg #[.int .i64 m.k,.int .i64 m.f,.int .i64 m.v,.int .i64 m.i,.int .i64 m.q,.int .i64 m.r,.slice Ab m.b.length cb,.slice Ao m.o.length co,.slice Ac m.c.length cc,.slice Ap m.p.length cp],.bool false,.bool false,.bool true,.bool false] w' fun e w''=>e= .returned (.bool b1)∧Below w'.heap.size w' w''):=tt fun w'=>by rw[←hb1];exact eH _ _ _ _ _ _ _ _ _ _ _ _ _ _ _ _ _ _ _ _ _ _ w'
 obtain⟨b2,hb2⟩:∃x,Psp.fU m.c f cl=x:=⟨_,rfl⟩
 have R:Hid (Psp.fU m.c f cl=b2):=tt hb2
 have Hr:Hid (Psp.aF m f cl=(nb&&(b0&&(b1&&(b2))))):=tt (by unfold Psp.aF;rw[hf,hk,hnb];simp only[Int.reduceEq,if_false,if_true,or_false,or_true,Bool.true_and,false_or];rw[hb0,hb1,hb2])
 clear hq E hnb hx hw hb0 hb1 hb2 hk hf
 have S:=cE w m (.slice Ab m.b.length cb) (.slice Ao m.o.length co) (.slice Ac m.c.length cc) (.slice Ap m.p.length cp) f cl
 obtain⟨HF,c0,c1,c2,c3,c4,c5,c6,c7,c8,c9,c10,c11⟩:=aD S (Below.refl _ _)
 go_enter Tryz.func61,Tryz.ntmps61
 go_wp2_with (first|(go_at_call 58;refine (Y.out _).mono ?_;rintro e w' ⟨rfl,rfl⟩))
 refine (Q.out _).mono ?_
 rintro e w2 ⟨rfl,O⟩
 obtain⟨HF,c0,c1,c2,c3,c4,c5,c6,c7,c8,c9,c10,c11⟩:=aD HF O
 clear O S
 cases nb with
 |false=>
  go_wp2_with fail
  go_ret
  exact⟨by rw[Hr.out];rfl,HF.out.be⟩
 |true=>
  cases b0 with
  |false=>
   go_wp2_with fail
   have l0:=ab (w:=w2.drew) c0
   have l1:=ab (w:=w2.drew) c1
   have l2:=ab (w:=w2.drew) c2
   have l3:=ab (w:=w2.drew) c3
   have l4:=ab (w:=w2.drew) c4
   have l5:=ab (w:=w2.drew) c5
   have l6:=ab (w:=w2.drew) c6
   have l7:=ab (w:=w2.drew) c7
   have l8:=ab (w:=w2.drew) c8
   have l9:=ab (w:=w2.drew) c9
   refine aw [(true,0),(true,1),(true,2),(true,3),(true,4),(true,5),(true,6),(true,7)] 2 (by kernel_rfl) (by kernel_rfl) ?_
   simp only[phW,tu,tx,Option.toList,tC,tD,Nat.reduceAdd,tE,List.drop_zero,List.take_succ_cons,List.take_zero]
   repeat (first|go_big_quiet_step (fail)|quiet_step (fail)|refine wpQuiet_nil ?_)
   clear l0 l1 l2 l3 l4 l5 l6 l7 l8 l9 c0 c1 c2 c3 c4 c5 c6 c7 c8 c9 c10 c11
   go_wp2_with fail
   refine (A.out _ _ (aJ w2.drew [.int .i64 m.v,.int .i64 m.i,.int .i64 m.q,.int .i64 m.r] 3 _ rfl)).mono ?_
   rintro e w3 ⟨rfl,rfl⟩
   go_wp2_with fail
   obtain⟨a,c0,c1,c2,c3,c4,c5,c6,c7,c8,c9,c10,c11⟩:=aD HF ((ae w2 (.cells #[.int .i64 m.v,.int .i64 m.i,.int .i64 m.q,.int .i64 m.r] 3)).drew)
   obtain⟨w3,hw3⟩:∃w3,(w2.alloc (.cells #[.int .i64 m.v,.int .i64 m.i,.int .i64 m.q,.int .i64 m.r] 3)).drew=w3:=⟨_,rfl⟩
   rw[hw3] at a c0 c1 c2 c3 c4 c5 c6 c7 c8 c9 c10 c11
   try rw[hw3]
   clear hw3
   have l0:=ab (w:=w3) c0
   have l1:=ab (w:=w3) c1
   have l2:=ab (w:=w3) c2
   have l3:=ab (w:=w3) c3
   have l4:=ab (w:=w3) c4
   have l5:=ab (w:=w3) c5
   have l6:=ab (w:=w3) c6
   have l7:=ab (w:=w3) c7
   have l8:=ab (w:=w3) c8
   have l9:=ab (w:=w3) c9
   have C:=ab (w:=w3) c10
   have B:=ab (w:=w3) c11
   have l:Hid (∀w':World,(∃p:Later w3,w'=p.W)→w'.rangeAt (w.heap.size+1) 0 [.int .i64 f,.int .i64 cl]):=tt (by rintro w' ⟨p,rfl⟩;exact (a.out.below p.h).lk)
   have j:Hid (∀w':World,(∃p:Later w3,w'=p.W)→w'.rangeAt w.heap.size 0 [.int .i64 m.k,.int .i64 m.f,.int .i64 m.v,.int .i64 m.i,.int .i64 m.q,.int .i64 m.r,.slice Ab m.b.length cb,.slice Ao m.o.length co,.slice Ac m.c.length cc,.slice Ap m.p.length cp]):=tt (by rintro w' ⟨p,rfl⟩;exact (a.out.below p.h).range)
   show wpQuiet _ _ _ _ _ _
   repeat (first|go_big_quiet_step (first|(go_at_call 88;exact ag _ (d.out _)))|(refine aj (by simp[Region.wanted,yielded]) 153 (.tmp 7) (by rfl) (w.heap.size+1) (0) (by rfl) [.int .i64 f,.int .i64 cl] _ l.out Tryz.underlying153 rfl bh ?_;intro K hK;go_simp;refine hK _ ?_;clear hK K)|(refine aj (by simp[Region.wanted,yielded]) 56 (.tmp 3) (by rfl) w.heap.size (0) (by rfl) [.int .i64 m.k,.int .i64 m.f,.int .i64 m.v,.int .i64 m.i,.int .i64 m.q,.int .i64 m.r,.slice Ab m.b.length cb,.slice Ao m.o.length co,.slice Ac m.c.length cc,.slice Ap m.p.length cp] _ j.out Tryz.underlying56 rfl ax ?_;intro K hK;go_simp;refine hK _ ?_;clear hK K)|quiet_step (first|(go_at_call 88;exact ag _ (d.out _))))
   refine wpQuiet_nil ?_
   intro w4 g
   have hb4:=ay g
   clear g
   have n:=tt (a.out.below hb4)
   clear hb4
   go_wp2_with fail
   go_ret
   exact⟨by rw[Hr.out];rfl,n.out.be⟩
  |true=>
  cases b1 with
  |false=>
   go_wp2_with fail
   have l0:=ab (w:=w2.drew) c0
   have l1:=ab (w:=w2.drew) c1
   have l2:=ab (w:=w2.drew) c2
   have l3:=ab (w:=w2.drew) c3
   have l4:=ab (w:=w2.drew) c4
   have l5:=ab (w:=w2.drew) c5
   have l6:=ab (w:=w2.drew) c6
   have l7:=ab (w:=w2.drew) c7
   have l8:=ab (w:=w2.drew) c8
   have l9:=ab (w:=w2.drew) c9
   refine aw [(true,0),(true,1),(true,2),(true,3),(true,4),(true,5),(true,6),(true,7)] 2 (by kernel_rfl) (by kernel_rfl) ?_
   simp only[phW,tu,tx,Option.toList,tC,tD,Nat.reduceAdd,tE,List.drop_zero,List.take_succ_cons,List.take_zero]
   repeat (first|go_big_quiet_step (fail)|quiet_step (fail)|refine wpQuiet_nil ?_)
   clear l0 l1 l2 l3 l4 l5 l6 l7 l8 l9 c0 c1 c2 c3 c4 c5 c6 c7 c8 c9 c10 c11
   go_wp2_with fail
   refine (A.out _ _ (aJ w2.drew [.int .i64 m.v,.int .i64 m.i,.int .i64 m.q,.int .i64 m.r] 3 _ rfl)).mono ?_
   rintro e w3 ⟨rfl,rfl⟩
   go_wp2_with fail
   obtain⟨a,c0,c1,c2,c3,c4,c5,c6,c7,c8,c9,c10,c11⟩:=aD HF ((ae w2 (.cells #[.int .i64 m.v,.int .i64 m.i,.int .i64 m.q,.int .i64 m.r] 3)).drew)
   obtain⟨w3,hw3⟩:∃w3,(w2.alloc (.cells #[.int .i64 m.v,.int .i64 m.i,.int .i64 m.q,.int .i64 m.r] 3)).drew=w3:=⟨_,rfl⟩
   rw[hw3] at a c0 c1 c2 c3 c4 c5 c6 c7 c8 c9 c10 c11
   try rw[hw3]
   clear hw3
   have l0:=ab (w:=w3) c0
   have l1:=ab (w:=w3) c1
   have l2:=ab (w:=w3) c2
   have l3:=ab (w:=w3) c3
   have l4:=ab (w:=w3) c4
   have l5:=ab (w:=w3) c5
   have l6:=ab (w:=w3) c6
   have l7:=ab (w:=w3) c7
   have l8:=ab (w:=w3) c8
   have l9:=ab (w:=w3) c9
   have C:=ab (w:=w3) c10
   have B:=ab (w:=w3) c11
   have l:Hid (∀w':World,(∃p:Later w3,w'=p.W)→w'.rangeAt (w.heap.size+1) 0 [.int .i64 f,.int .i64 cl]):=tt (by rintro w' ⟨p,rfl⟩;exact (a.out.below p.h).lk)
   have j:Hid (∀w':World,(∃p:Later w3,w'=p.W)→w'.rangeAt w.heap.size 0 [.int .i64 m.k,.int .i64 m.f,.int .i64 m.v,.int .i64 m.i,.int .i64 m.q,.int .i64 m.r,.slice Ab m.b.length cb,.slice Ao m.o.length co,.slice Ac m.c.length cc,.slice Ap m.p.length cp]):=tt (by rintro w' ⟨p,rfl⟩;exact (a.out.below p.h).range)
   show wpQuiet _ _ _ _ _ _
   repeat (first|go_big_quiet_step (first|(go_at_call 88;exact ag _ (d.out _)))|(refine aj (by simp[Region.wanted,yielded]) 153 (.tmp 7) (by rfl) (w.heap.size+1) (0) (by rfl) [.int .i64 f,.int .i64 cl] _ l.out Tryz.underlying153 rfl bh ?_;intro K hK;go_simp;refine hK _ ?_;clear hK K)|(refine aj (by simp[Region.wanted,yielded]) 56 (.tmp 3) (by rfl) w.heap.size (0) (by rfl) [.int .i64 m.k,.int .i64 m.f,.int .i64 m.v,.int .i64 m.i,.int .i64 m.q,.int .i64 m.r,.slice Ab m.b.length cb,.slice Ao m.o.length co,.slice Ac m.c.length cc,.slice Ap m.p.length cp] _ j.out Tryz.underlying56 rfl ax ?_;intro K hK;go_simp;refine hK _ ?_;clear hK K)|quiet_step (first|(go_at_call 88;exact ag _ (d.out _))))
   refine wpQuiet_nil ?_
   intro w4 g
   have hb4:=ay g
   clear g
   have n:=tt (a.out.below hb4)
   clear hb4
   go_wp2_with fail
   go_ret
   exact⟨by rw[Hr.out];rfl,n.out.be⟩
  |true=>
  by_cases hlen:m.c.length=1
  case neg=>
   have hlb:((m.c.length:Int)==1)=false:=beq_eq_false_iff_ne.2 (by omega)
   have N:b2=false:=by rw[←R.out];match hc:m.c with| []=>rfl| [c]=>rw[hc] at hlen;exact absurd rfl hlen|_ :: _ :: _=>rfl
   subst N
   go_wp2_with fail
   have l0:=ab (w:=w2.drew) c0
   have l1:=ab (w:=w2.drew) c1
   have l2:=ab (w:=w2.drew) c2
   have l3:=ab (w:=w2.drew) c3
   have l4:=ab (w:=w2.drew) c4
   have l5:=ab (w:=w2.drew) c5
   have l6:=ab (w:=w2.drew) c6
   have l7:=ab (w:=w2.drew) c7
   have l8:=ab (w:=w2.drew) c8
   have l9:=ab (w:=w2.drew) c9
   refine aw [(true,0),(true,1),(true,2),(true,3),(true,4),(true,5),(true,6),(true,7)] 2 (by kernel_rfl) (by kernel_rfl) ?_
   simp only[phW,tu,tx,Option.toList,tC,tD,Nat.reduceAdd,tE,List.drop_zero,List.take_succ_cons,List.take_zero]
   repeat (first|go_big_quiet_step (fail)|quiet_step (fail)|refine wpQuiet_nil ?_)
   clear l0 l1 l2 l3 l4 l5 l6 l7 l8 l9 c0 c1 c2 c3 c4 c5 c6 c7 c8 c9 c10 c11
   go_wp2_with fail
   refine (A.out _ _ (aJ w2.drew [.int .i64 m.v,.int .i64 m.i,.int .i64 m.q,.int .i64 m.r] 3 _ rfl)).mono ?_
   rintro e w3 ⟨rfl,rfl⟩
   go_wp2_with fail
   obtain⟨a,c0,c1,c2,c3,c4,c5,c6,c7,c8,c9,c10,c11⟩:=aD HF ((ae w2 (.cells #[.int .i64 m.v,.int .i64 m.i,.int .i64 m.q,.int .i64 m.r] 3)).drew)
   obtain⟨w3,hw3⟩:∃w3,(w2.alloc (.cells #[.int .i64 m.v,.int .i64 m.i,.int .i64 m.q,.int .i64 m.r] 3)).drew=w3:=⟨_,rfl⟩
   rw[hw3] at a c0 c1 c2 c3 c4 c5 c6 c7 c8 c9 c10 c11
   try rw[hw3]
   clear hw3
   have l0:=ab (w:=w3) c0
   have l1:=ab (w:=w3) c1
   have l2:=ab (w:=w3) c2
   have l3:=ab (w:=w3) c3
   have l4:=ab (w:=w3) c4
   have l5:=ab (w:=w3) c5
   have l6:=ab (w:=w3) c6
   have l7:=ab (w:=w3) c7
   have l8:=ab (w:=w3) c8
   have l9:=ab (w:=w3) c9
   have C:=ab (w:=w3) c10
   have B:=ab (w:=w3) c11
   have l:Hid (∀w':World,(∃p:Later w3,w'=p.W)→w'.rangeAt (w.heap.size+1) 0 [.int .i64 f,.int .i64 cl]):=tt (by rintro w' ⟨p,rfl⟩;exact (a.out.below p.h).lk)
   have j:Hid (∀w':World,(∃p:Later w3,w'=p.W)→w'.rangeAt w.heap.size 0 [.int .i64 m.k,.int .i64 m.f,.int .i64 m.v,.int .i64 m.i,.int .i64 m.q,.int .i64 m.r,.slice Ab m.b.length cb,.slice Ao m.o.length co,.slice Ac m.c.length cc,.slice Ap m.p.length cp]):=tt (by rintro w' ⟨p,rfl⟩;exact (a.out.below p.h).range)
   show wpQuiet _ _ _ _ _ _
   repeat (first|go_big_quiet_step (first|(go_at_call 88;exact ag _ (d.out _)))|(refine aj (by simp[Region.wanted,yielded]) 153 (.tmp 7) (by rfl) (w.heap.size+1) (0) (by rfl) [.int .i64 f,.int .i64 cl] _ l.out Tryz.underlying153 rfl bh ?_;intro K hK;go_simp;refine hK _ ?_;clear hK K)|(refine aj (by simp[Region.wanted,yielded]) 56 (.tmp 3) (by rfl) w.heap.size (0) (by rfl) [.int .i64 m.k,.int .i64 m.f,.int .i64 m.v,.int .i64 m.i,.int .i64 m.q,.int .i64 m.r,.slice Ab m.b.length cb,.slice Ao m.o.length co,.slice Ac m.c.length cc,.slice Ap m.p.length cp] _ j.out Tryz.underlying56 rfl ax ?_;intro K hK;go_simp;refine hK _ ?_;clear hK K)|quiet_step (first|(go_at_call 88;exact ag _ (d.out _))))
   refine wpQuiet_nil ?_
   intro w4 g
   have hb4:=ay g
   clear g
   have n:=tt (a.out.below hb4)
   clear hb4
   go_wp2_with fail
   go_ret
   exact⟨by rw[Hr.out];rfl,n.out.be⟩
  obtain⟨L,hL,D,F⟩:=HX.out.2.2.1
  obtain⟨x,hx1⟩:∃x,L=[x]:=by match L,hL with| [x],_=>exact⟨x,rfl⟩| [],h=>(rw[←h] at hlen;cases hlen)|_ :: _ :: _,h=>(rw[←h] at hlen;simp at hlen)
  rw[hx1] at hL D F
  have z:m.c=[x.c]:=hL.symm
  have T:=F x (List.mem_singleton.2 rfl)
  have Z:Hid (((m.c.length:Int)==1)=true):=tt (by rw[hlen];rfl)
  obtain⟨_,A9,d9,e9,ad,ac,y⟩:=D.parts
  injection e9 with e7 e8 e9
  obtain⟨bc,oc,M,_,U,J⟩:=y (by simp)
  rw[M] at e7
  have E7:=tt e7
  clear e7 e8 e9
  obtain⟨⟨tv,ti,tq,tb,tw⟩,ub,uw⟩:=x
  obtain⟨g1,g2⟩:=T
  simp only at g1 g2 z
  obtain⟨_,Tb,t,rfl,_,_,_⟩:=g1.parts
  obtain⟨_,Tw,s,rfl,_,_,_⟩:=g2.parts
  have I:=Hw.out.2.2.2.2.2.2.2.2.1 (⟨tv,ti,tq,tb,tw⟩:Psp.Cert) (by rw[z];exact List.mem_singleton.2 rfl)
  have X:=tt I
  have G:=tt (⟨g1,g2⟩:CertOk w P ⟨⟨tv,ti,tq,tb,tw⟩,.slice Tb tb.length t,.slice Tw tw.length s⟩)
  have hb2:Psp.cT (⟨tv,ti,tq,tb,tw⟩:Psp.Cert) f cl=b2:=by have h:=R.out;rw[z] at h;exact h
  have V:=tt J
  have al:=tt (show (1:Int)≤(m.c.length:Int) by omega)
  have hlen0:(0:Int) < (m.c.length:Int):=by omega
  have u:Hid (∀w':World,Below w.heap.size w w'→Calls Tryz.prog 96 #[.agg #[.int .i64 f,.int .i64 cl],.agg #[.int .i64 tv,.int .i64 ti,.int .i64 tq,.slice Tb tb.length t,.slice Tw tw.length s]] w' fun e w''=>e= .returned (.bool b2)∧Below w'.heap.size w' w''):=tt fun w' hb=>by rw[←hb2];exact pL (⟨tv,ti,tq,tb,tw⟩:Psp.Cert) _ _ f cl w' P (CertOk.keeps G.out (Keeps.below hb)) (fun v hv=>X.out.2.2.2.2 v hv)
  clear g1 g2 I hb2 J D F hL M hlen z hx1 y
  go_wp2_with fail
  have l0:=ab (w:=w2.drew) c0
  have l1:=ab (w:=w2.drew) c1
  have l2:=ab (w:=w2.drew) c2
  have l3:=ab (w:=w2.drew) c3
  have l4:=ab (w:=w2.drew) c4
  have l5:=ab (w:=w2.drew) c5
  have l6:=ab (w:=w2.drew) c6
  have l7:=ab (w:=w2.drew) c7
  have l8:=ab (w:=w2.drew) c8
  have l9:=ab (w:=w2.drew) c9
  refine aw [(true,0),(true,1),(true,2),(true,3),(true,4),(true,5),(true,6),(true,7)] 2 (by kernel_rfl) (by kernel_rfl) ?_
  simp only[phW,tu,tx,Option.toList,tC,tD,Nat.reduceAdd,tE,List.drop_zero,List.take_succ_cons,List.take_zero]
  repeat (first|go_big_quiet_step (fail)|quiet_step (fail)|refine wpQuiet_nil ?_)
  clear l0 l1 l2 l3 l4 l5 l6 l7 l8 l9 c0 c1 c2 c3 c4 c5 c6 c7 c8 c9 c10 c11
  go_wp2_with fail
  refine (A.out _ _ (aJ w2.drew [.int .i64 m.v,.int .i64 m.i,.int .i64 m.q,.int .i64 m.r] 3 _ rfl)).mono ?_
  rintro e w3 ⟨rfl,rfl⟩
  go_wp2_with fail
  obtain⟨a,c0,c1,c2,c3,c4,c5,c6,c7,c8,c9,c10,c11⟩:=aD HF ((ae w2 (.cells #[.int .i64 m.v,.int .i64 m.i,.int .i64 m.q,.int .i64 m.r] 3)).drew)
  obtain⟨w3,hw3⟩:∃w3,(w2.alloc (.cells #[.int .i64 m.v,.int .i64 m.i,.int .i64 m.q,.int .i64 m.r] 3)).drew=w3:=⟨_,rfl⟩
  rw[hw3] at a c0 c1 c2 c3 c4 c5 c6 c7 c8 c9 c10 c11
  try rw[hw3]
  clear hw3
  have l0:=ab (w:=w3) c0
  have l1:=ab (w:=w3) c1
  have l2:=ab (w:=w3) c2
  have l3:=ab (w:=w3) c3
  have l4:=ab (w:=w3) c4
  have l5:=ab (w:=w3) c5
  have l6:=ab (w:=w3) c6
  have l7:=ab (w:=w3) c7
  have l8:=ab (w:=w3) c8
  have l9:=ab (w:=w3) c9
  have C:=ab (w:=w3) c10
  have B:=ab (w:=w3) c11
  have l:Hid (∀w':World,(∃p:Later w3,w'=p.W)→w'.rangeAt (w.heap.size+1) 0 [.int .i64 f,.int .i64 cl]):=tt (by rintro w' ⟨p,rfl⟩;exact (a.out.below p.h).lk)
  have j:Hid (∀w':World,(∃p:Later w3,w'=p.W)→w'.rangeAt w.heap.size 0 [.int .i64 m.k,.int .i64 m.f,.int .i64 m.v,.int .i64 m.i,.int .i64 m.q,.int .i64 m.r,.slice Ab m.b.length cb,.slice Ao m.o.length co,.slice Ac m.c.length cc,.slice Ap m.p.length cp]):=tt (by rintro w' ⟨p,rfl⟩;exact (a.out.below p.h).range)
  have H:Hid (∀w':World,(∃p:Later w3,w'=p.W)→w'.rangeAt bc oc [.int .i64 tv,.int .i64 ti,.int .i64 tq,.slice Tb tb.length t,.slice Tw tw.length s]):=tt (by rintro w' ⟨p,rfl⟩;have hbb:=(a.out.below p.h).be.block bc U;have r1:=cM (bF (f:=cv) (k:=5) (fun _=>rfl) V.out (i:=0) (by simp)) hbb;simpa [cv,iv] using r1)
  show wpQuiet _ _ _ _ _ _
  iterate 3 (first|go_big_quiet_step (first|(go_at_call 88;exact ag _ (d.out _))|(go_at_call 96;exact ag _ (u.out _ (a.out.below (Later.h _)).be)))|(refine aj (by simp[Region.wanted,yielded]) 153 (.tmp 7) (by rfl) (w.heap.size+1) (0) (by rfl) [.int .i64 f,.int .i64 cl] _ l.out Tryz.underlying153 rfl bh ?_;intro K hK;go_simp;refine hK _ ?_;clear hK K)|(refine aj (by simp[Region.wanted,yielded]) 56 (.tmp 3) (by rfl) w.heap.size (0) (by rfl) [.int .i64 m.k,.int .i64 m.f,.int .i64 m.v,.int .i64 m.i,.int .i64 m.q,.int .i64 m.r,.slice Ab m.b.length cb,.slice Ao m.o.length co,.slice Ac m.c.length cc,.slice Ap m.p.length cp] _ j.out Tryz.underlying56 rfl ax ?_;intro K hK;go_simp;refine hK _ ?_;clear hK K)|(refine aj (by simp[Region.wanted,yielded]) 162 (.tmp 255) (by rfl) bc oc (by rfl) [.int .i64 tv,.int .i64 ti,.int .i64 tq,.slice Tb tb.length t,.slice Tw tw.length s] _ H.out Tryz.underlying162 rfl dI ?_;intro K hK;go_simp;refine hK _ ?_;clear hK K)|quiet_step (first|(go_at_call 88;exact ag _ (d.out _))|(go_at_call 96;exact ag _ (u.out _ (a.out.below (Later.h _)).be))))
  have hlb:=Z.out
  iterate 11 (first|go_big_quiet_step (first|(go_at_call 88;exact ag _ (d.out _))|(go_at_call 96;exact ag _ (u.out _ (a.out.below (Later.h _)).be)))|(refine aj (by simp[Region.wanted,yielded]) 153 (.tmp 7) (by rfl) (w.heap.size+1) (0) (by rfl) [.int .i64 f,.int .i64 cl] _ l.out Tryz.underlying153 rfl bh ?_;intro K hK;go_simp;refine hK _ ?_;clear hK K)|(refine aj (by simp[Region.wanted,yielded]) 56 (.tmp 3) (by rfl) w.heap.size (0) (by rfl) [.int .i64 m.k,.int .i64 m.f,.int .i64 m.v,.int .i64 m.i,.int .i64 m.q,.int .i64 m.r,.slice Ab m.b.length cb,.slice Ao m.o.length co,.slice Ac m.c.length cc,.slice Ap m.p.length cp] _ j.out Tryz.underlying56 rfl ax ?_;intro K hK;go_simp;refine hK _ ?_;clear hK K)|(refine aj (by simp[Region.wanted,yielded]) 162 (.tmp 255) (by rfl) bc oc (by rfl) [.int .i64 tv,.int .i64 ti,.int .i64 tq,.slice Tb tb.length t,.slice Tw tw.length s] _ H.out Tryz.underlying162 rfl dI ?_;intro K hK;go_simp;refine hK _ ?_;clear hK K)|quiet_step (first|(go_at_call 88;exact ag _ (d.out _))|(go_at_call 96;exact ag _ (u.out _ (a.out.below (Later.h _)).be))))
  have e7:=E7.out
  repeat (first|go_big_quiet_step (first|(go_at_call 88;exact ag _ (d.out _))|(go_at_call 96;exact ag _ (u.out _ (a.out.below (Later.h _)).be)))|(refine aj (by simp[Region.wanted,yielded]) 153 (.tmp 7) (by rfl) (w.heap.size+1) (0) (by rfl) [.int .i64 f,.int .i64 cl] _ l.out Tryz.underlying153 rfl bh ?_;intro K hK;go_simp;refine hK _ ?_;clear hK K)|(refine aj (by simp[Region.wanted,yielded]) 56 (.tmp 3) (by rfl) w.heap.size (0) (by rfl) [.int .i64 m.k,.int .i64 m.f,.int .i64 m.v,.int .i64 m.i,.int .i64 m.q,.int .i64 m.r,.slice Ab m.b.length cb,.slice Ao m.o.length co,.slice Ac m.c.length cc,.slice Ap m.p.length cp] _ j.out Tryz.underlying56 rfl ax ?_;intro K hK;go_simp;refine hK _ ?_;clear hK K)|(refine aj (by simp[Region.wanted,yielded]) 162 (.tmp 255) (by rfl) bc oc (by rfl) [.int .i64 tv,.int .i64 ti,.int .i64 tq,.slice Tb tb.length t,.slice Tw tw.length s] _ H.out Tryz.underlying162 rfl dI ?_;intro K hK;go_simp;refine hK _ ?_;clear hK K)|quiet_step (first|(go_at_call 88;exact ag _ (d.out _))|(go_at_call 96;exact ag _ (u.out _ (a.out.below (Later.h _)).be))))
  refine wpQuiet_nil ?_
  intro w4 g
  have hb4:=ay g
  clear g
  have n:=tt (a.out.below hb4)
  clear hb4
  go_wp2_with fail
  go_ret
  exact⟨by rw[Hr.out];rfl,n.out.be⟩
theorem sw (m:Psp.Msg) (vb vo vc vp:Value) (f cl:Int) (w:World) (P:Nat→Prop) (hx:MsgOk w P ⟨m,vb,vo,vc,vp⟩) (hf:Psp.may f=false):
 Calls Tryz.prog 61 #[.agg #[.int .i64 m.k,.int .i64 m.f,.int .i64 m.v,.int .i64 m.i,.int .i64 m.q,.int .i64 m.r,vb,vo,vc,vp],.int .i64 f,.int .i64 cl] w fun e w'=>e= .returned (.bool (Psp.aF m f cl))∧Below w.heap.size w w':=by
 obtain⟨Ab,Ao,Ac,Ap,cb,co,cc,cp,rfl,rfl,rfl,rfl⟩:=aG hx
 have hq:Psp.aO f=0:=by
  have h:(Psp.aO f==0)=true:=by rw[bl,hf];rfl
  simpa using h
 have a:=bg f
 rw[hq] at a
 have d:=tt a
 have Hr:Hid (Psp.aF m f cl=false):=tt (by unfold Psp.aF;rw[hf];rfl)
 have g:=cE w m (.slice Ab m.b.length cb) (.slice Ao m.o.length co) (.slice Ac m.c.length cc) (.slice Ap m.p.length cp) f cl
 clear hq a hx hf
 go_enter Tryz.func61,Tryz.ntmps61
 go_wp2_with (first|(go_at_call 58;refine (d.out _).mono ?_;rintro e w' ⟨rfl,rfl⟩))
 go_ret
 exact⟨by rw[Hr.out];rfl,g.out.be⟩
theorem pk (m:Psp.Msg) (vb vo vc vp:Value) (f cl:Int) (w:World) (P:Nat→Prop) (hx:MsgOk w P ⟨m,vb,vo,vc,vp⟩) (hw:cr m) (hcl:m.k=10→ -9223372036854775808 < cl∧cl≤9223372036854775807):
 Calls Tryz.prog 61 #[.agg #[.int .i64 m.k,.int .i64 m.f,.int .i64 m.v,.int .i64 m.i,.int .i64 m.q,.int .i64 m.r,vb,vo,vc,vp],.int .i64 f,.int .i64 cl] w fun e w'=>e= .returned (.bool (Psp.aF m f cl))∧Below w.heap.size w w':=by
 cases hf:Psp.may f with
 |false=>exact sw m vb vo vc vp f cl w P hx hf
 |true=>
  by_cases h1:m.k=1;·exact su m vb vo vc vp f cl w P hx hw hf h1
  by_cases h2:m.k=2;·exact st m vb vo vc vp f cl w P hx hw hf h2
  by_cases h3:m.k=3;·exact ss m vb vo vc vp f cl w P hx hw hf h3
  by_cases h4:m.k=4;·exact sr m vb vo vc vp f cl w P hx hw hf h4
  by_cases h5:m.k=5;·exact sq m vb vo vc vp f cl w P hx hw hf h5
  by_cases h6:m.k=6;·exact sp m vb vo vc vp f cl w P hx hw hf h6
  by_cases h7:m.k=7;·exact so m vb vo vc vp f cl w P hx hw hf h7
  by_cases h8:m.k=8;·exact sk m vb vo vc vp f cl w P hx hw hf h8
  by_cases h9:m.k=9;·exact sj m vb vo vc vp f cl w P hx hw hf h9
  by_cases a:m.k=10;·exact mq m vb vo vc vp f cl w P hx hw hf a (hcl a).1 (hcl a).2
  exact qI m vb vo vc vp f cl w P hx hw hf fun j c b hj=>by
   have:j=1∨j=2∨j=3∨j=4∨j=5∨j=6∨j=7∨j=8∨j=9∨j=10:=by omega
   rcases this with rfl|rfl|rfl|rfl|rfl|rfl|rfl|rfl|rfl|rfl <;> contradiction
theorem lF (m:Psp.Msg) (f cl:Int) (hcl:m.k=10→ -9223372036854775808 < cl∧cl≤9223372036854775807):eV f cl m:=
 fun vb vo vc vp w P hx hw=>pk m vb vo vc vp f cl w P hx hw hcl
theorem mp (U:Nat→Prop) (g bm k ct:Nat) (K:List Key) (c:Cf) (id:Int) (s:CS) (kk y v:Int) (r:Psp.Req) (w:World) (h:Cn w U g bm K k ct c id s) (hf:1≤c.f∧c.f≤4) (hcl:c.cl≤4) (cf:0≤id∧id < 4) (hw:s.waits=false) (hlen:s.issued.length≤100000) (d2:s.out.length≤1000000) (hK:K.length < 900000)
 (hv:Psp.aZ (bI id s kk y v) c.cl=true) (hq:r={bI id s kk y v with s:=aV K (kR (bI id s kk y v))}):
 Calls Tryz.prog 12 #[.pointer (some ⟨k,0,none⟩),.agg #[.int .i64 kk,.int .i64 y,.int .i64 v]] w fun e w'=>e= .returned (.tuple #[.agg #[.int .i64 r.c,.int .i64 r.t,.int .i64 r.k,.int .i64 r.y,.int .i64 r.v,.int .i64 r.s],.int .i64 0])∧
  ∃U',Cn w' U' g bm (dl c id (bi K (kR (bI id s kk y v))) {s with issued:=s.issued++[r],waits:=true,at_:=s.now,ans:=[]}).2 k ct c id (dl c id (bi K (kR (bI id s kk y v))) {s with issued:=s.issued++[r],waits:=true,at_:=s.now,ans:=[]}).1∧(∀b,U' b→U b∨w.heap.size≤b)∧Fp (fun b=>U b∨b=bm) w w':=by
 have m:=ae w (.cells #[.int .i64 kk,.int .i64 y,.int .i64 v] 40)
 have l:=tL w (.cells #[.int .i64 kk,.int .i64 y,.int .i64 v] 40)
 have hbb:=ae (w.alloc (.cells #[.int .i64 kk,.int .i64 y,.int .i64 v] 40)) (.cells #[.int .i64 0,.int .i64 0,.int .i64 0,.int .i64 0,.int .i64 0,.int .i64 0] 42)
 have hcb:=tL (w.alloc (.cells #[.int .i64 kk,.int .i64 y,.int .i64 v] 40)) (.cells #[.int .i64 0,.int .i64 0,.int .i64 0,.int .i64 0,.int .i64 0,.int .i64 0] 42)
 have b4:(w.alloc (.cells #[.int .i64 kk,.int .i64 y,.int .i64 v] 40)).heap.size=w.heap.size+1:=by simp
 have hsb:((w.alloc (.cells #[.int .i64 kk,.int .i64 y,.int .i64 v] 40)).alloc (.cells #[.int .i64 0,.int .i64 0,.int .i64 0,.int .i64 0,.int .i64 0,.int .i64 0] 42)).heap.size=w.heap.size+2:=by simp
 rw[b4] at hcb
 have Q:=(hbb.block w.heap.size (by omega)).trans l
 have Y:=m.trans (hbb.mono (by omega))
 clear m l hbb
 have HN:=tt h
 have HQ:=tt hq
 have d7:=h.nt.lt
 have e9:=h.cm.lt k h.cm.uk
 have J:k≠bm:=fun he=>h.sep.2 (he▸h.cm.uk)
 clear h hq
 go_enter Tryz.func12,Tryz.ntmps12
 go_upto_region 1 with fail
 obtain⟨W,hW⟩:∃W,(w.alloc (.cells #[.int .i64 kk,.int .i64 y,.int .i64 v] 40)).alloc (.cells #[.int .i64 0,.int .i64 0,.int .i64 0,.int .i64 0,.int .i64 0,.int .i64 0] 42)=W:=⟨_,rfl⟩
 rw[hW] at Q Y hcb hsb ⊢
 have bs:=tt (HN.out.below Y)
 obtain⟨Ai,ci,Aa,ca,Ac,cc,Ao,co,L,ho⟩:=bs.out.cm.opens
 have HO:=tt ho
 have i:=ho.row
 rw[hw] at i
 have bd:W.cell? ⟨k,18,none⟩=some (.bool false):=am i 18 rfl
 have e8:w.heap.size+2≤W.heap.size:=by omega
 have ex:=tt Y
 have er:=tt hcb
 have es:=tt Q
 clear hW Q Y hcb hsb b4 ho
 go_upto_region 3 with fail
 clear bd
 obtain⟨Wd,hWd⟩:∃Wd,W.drew=Wd:=⟨_,rfl⟩
 have D:Wd.heap=W.heap:=by rw[←hWd];rfl
 have a8:Below W.heap.size W Wd:=by rw[←hWd];exact (Below.refl _ _).drew
 have cn:Wd.heap.size=W.heap.size:=by rw[D]
 have ac:=tt cn
 clear cn
 have dj:=aT (w:=Wd) (T:=fun b=>b=bm) (show Wd.cell? ⟨k,16,none⟩=some (.pointer (some ⟨g,0,none⟩)) from am (show Wd.heap[k]? =_ by rw[D];exact i) 16 rfl) J
 have l1:=aT (w:=Wd) (T:=fun b=>b=bm) (show Wd.cell? ⟨k,1,none⟩=some (.int .i64 c.cl) from am (show Wd.heap[k]? =_ by rw[D];exact i) 1 rfl) J
 have dr:=aT (w:=Wd) (T:=fun b=>b=bm) (show Wd.cell? ⟨k,15,none⟩=some (.int .i64 id) from am (show Wd.heap[k]? =_ by rw[D];exact i) 15 rfl) J
 have a6:=aT (w:=Wd) (T:=fun b=>b=bm) (show Wd.cell? ⟨k,19,none⟩=some (.slice Ai s.issued.length ci) from am (show Wd.heap[k]? =_ by rw[D];exact i) 19 rfl) J
 have e1:=db HO.out.oi
 have e7:IntKind.i64.wrap ((s.issued.length:Int)+1)=(s.issued.length:Int)+1:=IntWalk.i64_in _ (by omega)
 have af:Hid (∀w':World,(∃p:LaterF Wd (fun b=>b=bm),w'=p.W)→w'.rangeAt w.heap.size 0 [.int .i64 kk,.int .i64 y,.int .i64 v]):=tt (by rintro w' ⟨p,rfl⟩;exact aB ((p.h.block _ (by rw[D];omega) (by omega)).trans (by rw[D];exact es.out)))
 have E:Hid (∀b,U b→b < w.heap.size):=tt HN.out.cm.lt
 have a7:=fun W' (hN:Nt W' g bm K)=>pa g bm K c.cl id ((s.issued.length:Int)+1) kk y v W' hN (by omega) (by omega) hv
 obtain⟨sN,hsN⟩:∃sN,aV K (kR ⟨id,(s.issued.length:Int)+1,kk,y,v,0⟩)=sN:=⟨_,rfl⟩
 obtain⟨K1,hK1⟩:∃K1,bi K (kR ⟨id,(s.issued.length:Int)+1,kk,y,v,0⟩)=K1:=⟨_,rfl⟩
 have X:r=⟨id,(s.issued.length:Int)+1,kk,y,v,sN⟩:=by rw[HQ.out,←hsN];rfl
 rw[hsN,hK1] at a7
 have bQ:=tt a7
 have a:Hid (Fp (fun b=>b=bm) Wd Wd):=tt (Fp.refl _ _)
 have bq:=tt (bs.out.nt.below a8)
 have c6:=tt a8
 clear i a7 D a8
 go_cut [6,7] from 13 (fun rv el wx=>∃j,rv= .pointer (some ⟨j,0,none⟩)∧el= .int .i64 0∧Hid (wx.heap[j]? =some (.cells #[.int .i64 id,.int .i64 ((s.issued.length:Int)+1),.int .i64 kk,.int .i64 y,.int .i64 v,.int .i64 sN] 42 (0,0)))∧W.heap.size≤j∧Hid (Fp (fun b=>b=bm) W wx)∧Hid (Nt wx g bm K1))
 case first=>
  refine cJ (fun w'=>∃p:LaterF Wd (fun b=>b=bm),w'=p.W) [0,1,2,3,4,5,6,7,8,9,10,11,12,13,14,15,16,17,18,19,20,21,22,23,24,25,26] 27 (by kernel_rfl) (by kernel_rfl) ?_
  rw[hWd]
  clear hWd
  refine aS [] [0,1,2,3,4,5,6,7,8,9,10,11,12,13,14,15,16,17,18,19] 20 rfl (by kernel_rfl) (fun _ d _ _ _ h=>by cases d <;> exact h) ⟨⟨_,a.out⟩,rfl⟩ ?_
  simp only[phR,tu,tx,Option.toList]
  repeat (first|go_big_quiet_step (fail)|(refine aj (by simp[Region.wanted,yielded]) 40 (.tmp 3) (by rfl) w.heap.size 0 (by rfl) [.int .i64 kk,.int .i64 y,.int .i64 v] _ af.out Tryz.underlying40 rfl cR ?_;intro K hK;go_simp;refine hK _ ?_;clear hK K)|quiet_step (fail)|refine wpQuiet_nil ?_)
  clear dj l1 dr a6 af
  refine cK 20 24 (by kernel_rfl) ?_ ?_
  ·have bN:=bq
   simp only[tu,tx,Option.toList]
   go_wp2_with fail
   refine (bQ.out Wd (bN.out)).mono ?_
   rintro e w5 ⟨rfl,R,z⟩
   replace a:=tt (a.out.trans z fun k hk=>.inl hk)
   have dv:=z.size
   have bO:=tt R
   have c4:=tt z
   clear R z
   go_wp2_with fail
   first|refine And.intro (fun _=>⟨⟨_,a.out⟩,rfl⟩) ?_|refine And.intro ⟨⟨_,a.out⟩,rfl⟩ ?_
   refine aS [0,1,2,3,4,5,6,7,8,9,10,11,12,13,14,15,16,17,18,19,20] [21,22,23] 3 rfl (by kernel_rfl) (fun _ d _ _ _ h=>by cases d <;> exact h) ⟨⟨_,a.out⟩,rfl⟩ ?_
   simp only[phR,tu,tx,Option.toList]
   repeat (first|go_big_quiet_step (fail)|(refine aj (by simp[Region.wanted,yielded]) 40 (.tmp 3) (by rfl) w.heap.size 0 (by rfl) [.int .i64 kk,.int .i64 y,.int .i64 v] _ af.out Tryz.underlying40 rfl cR ?_;intro K hK;go_simp;refine hK _ ?_;clear hK K)|quiet_step (fail)|refine wpQuiet_nil ?_)
   have eG:W.heap.size≤w5.heap.size:=by have:=ac.out;omega
   refine ap 24 (by kernel_rfl) ?_
   simp only[tu,tx,Option.toList]
   go_wp2_with fail
   replace a:=tt (a.out.alloc (.cells #[.int .i64 0,.int .i64 0,.int .i64 0,.int .i64 0,.int .i64 0,.int .i64 0] 42))
   have m:=ae w5 (.cells #[.int .i64 0,.int .i64 0,.int .i64 0,.int .i64 0,.int .i64 0,.int .i64 0] 42)
   have l:=tL w5 (.cells #[.int .i64 0,.int .i64 0,.int .i64 0,.int .i64 0,.int .i64 0,.int .i64 0] 42)
   first|refine And.intro (fun _=>⟨⟨_,a.out⟩,rfl⟩) ?_|refine And.intro ⟨⟨_,a.out⟩,rfl⟩ ?_
   obtain⟨w6,hW_⟩:∃W_,(w5).alloc (.cells #[.int .i64 0,.int .i64 0,.int .i64 0,.int .i64 0,.int .i64 0,.int .i64 0] 42)=W_:=⟨_,rfl⟩
   rw[hW_] at m l a ⊢
   have a0:=(tz l).1
   have H:=tt l
   have b1:=tt m
   clear hW_ m l
   refine ap 25 (by kernel_rfl) ?_
   simp only[tu,tx,Option.toList]
   have B:=au H.out
   obtain⟨s1,s2⟩:=aQ H.out [.int .i64 id,.int .i64 ((s.issued.length:Int)+1),.int .i64 kk,.int .i64 y,.int .i64 v,.int .i64 sN] rfl
   have C:Fp (fun b=>b=w5.heap.size) w6 (w6.setCells (w5.heap.size) 0 [.int .i64 id,.int .i64 ((s.issued.length:Int)+1),.int .i64 kk,.int .i64 y,.int .i64 v,.int .i64 sN]):=(Fp.refl (fun b=>b=w5.heap.size) w6).setCells (Or.inl rfl) _
   have S:=tt B
   have S1:=tt s1
   have V:=tt C
   have A:Hid (Fp (fun b=>b=bm) Wd (w6.setCells (w5.heap.size) 0 [.int .i64 id,.int .i64 ((s.issued.length:Int)+1),.int .i64 kk,.int .i64 y,.int .i64 v,.int .i64 sN])):=tt (a.out.setCells (Or.inr (by omega)) _)
   clear B s1 s2 C
   go_wp2_with (refine wpList_store_mid rfl 42 (.tmp 6) (.tmp 35) rfl (w5.heap.size) 0 #[.int .i64 id,.int .i64 ((s.issued.length:Int)+1),.int .i64 kk,.int .i64 y,.int .i64 v,.int .i64 sN] rfl rfl S.out az (by simp[Value.oneCell']) ?_)
   first|refine And.intro (fun _=>⟨⟨_,A.out⟩,rfl⟩) ?_|refine And.intro ⟨⟨_,A.out⟩,rfl⟩ ?_
   refine ap 26 (by kernel_rfl) ?_
   simp only[tu,tx,Option.toList]
   go_wp2_with fail
   first|refine And.intro (fun _=>⟨⟨_,A.out⟩,rfl⟩) ?_|refine And.intro ⟨⟨_,A.out⟩,rfl⟩ ?_
   refine And.intro (by kernel_rfl) ?_
   go_wp2_with fail
   go_meet
   have O:Fp (fun b=>b=bm) W w6:=(Fp.of_below c6.out _).trans a.out fun k hk=>.inl hk
   have ds:W.heap.size≤w6.heap.size:=O.size
   have hwz:=ac.out
   refine⟨_,rfl,rfl,tt S1.out,by omega,tt (O.trans V.out fun b hb=>.inr (by omega)),tt ?_⟩
   exact (bO.out.below b1.out).fp V.out (by omega) (by omega)
  ·clear hsN
   simp only[tu,tx,Option.toList]
   go_wp2_with fail
   replace a:=tt (a.out.alloc (.cells #[.int .i64 0,.int .i64 0,.int .i64 0,.int .i64 0,.int .i64 0,.int .i64 0] 42))
   have m:=ae Wd (.cells #[.int .i64 0,.int .i64 0,.int .i64 0,.int .i64 0,.int .i64 0,.int .i64 0] 42)
   have l:=tL Wd (.cells #[.int .i64 0,.int .i64 0,.int .i64 0,.int .i64 0,.int .i64 0,.int .i64 0] 42)
   first|refine And.intro (fun _=>⟨⟨_,a.out⟩,rfl⟩) ?_|refine And.intro ⟨⟨_,a.out⟩,rfl⟩ ?_
   obtain⟨w5,hW_⟩:∃W_,(Wd).alloc (.cells #[.int .i64 0,.int .i64 0,.int .i64 0,.int .i64 0,.int .i64 0,.int .i64 0] 42)=W_:=⟨_,rfl⟩
   rw[hW_] at m l a ⊢
   have a0:=(tz l).1
   have H:=tt l
   have b1:=tt m
   clear hW_ m l
   have bN:Hid (Nt w5 g bm K):=tt (bq.out.below b1.out)
   refine ap 20 (by kernel_rfl) ?_
   simp only[tu,tx,Option.toList]
   go_wp2_with fail
   refine (bQ.out w5 (bN.out)).mono ?_
   rintro e w6 ⟨rfl,R,z⟩
   replace a:=tt (a.out.trans z fun k hk=>.inl hk)
   have dv:=z.size
   have bO:=tt R
   have c4:=tt z
   clear R z
   go_wp2_with fail
   first|refine And.intro (fun _=>⟨⟨_,a.out⟩,rfl⟩) ?_|refine And.intro ⟨⟨_,a.out⟩,rfl⟩ ?_
   refine aS [0,1,2,3,4,5,6,7,8,9,10,11,12,13,14,15,16,17,18,19,24,20] [21,22,23] 3 rfl (by kernel_rfl) (fun _ d _ _ _ h=>by cases d <;> exact h) ⟨⟨_,a.out⟩,rfl⟩ ?_
   simp only[phR,tu,tx,Option.toList]
   repeat (first|go_big_quiet_step (fail)|(refine aj (by simp[Region.wanted,yielded]) 40 (.tmp 3) (by rfl) w.heap.size 0 (by rfl) [.int .i64 kk,.int .i64 y,.int .i64 v] _ af.out Tryz.underlying40 rfl cR ?_;intro K hK;go_simp;refine hK _ ?_;clear hK K)|quiet_step (fail)|refine wpQuiet_nil ?_)
   have ck:Wd.heap.size < w5.heap.size:=a0
   have d4:¬ (Wd.heap.size=bm):=by have:=ac.out;omega
   replace H:=tt ((c4.out.block _ ck d4).trans H.out)
   refine ap 25 (by kernel_rfl) ?_
   simp only[tu,tx,Option.toList]
   have B:=au H.out
   obtain⟨s1,s2⟩:=aQ H.out [.int .i64 id,.int .i64 ((s.issued.length:Int)+1),.int .i64 kk,.int .i64 y,.int .i64 v,.int .i64 sN] rfl
   have C:Fp (fun b=>b=Wd.heap.size) w6 (w6.setCells (Wd.heap.size) 0 [.int .i64 id,.int .i64 ((s.issued.length:Int)+1),.int .i64 kk,.int .i64 y,.int .i64 v,.int .i64 sN]):=(Fp.refl (fun b=>b=Wd.heap.size) w6).setCells (Or.inl rfl) _
   have S:=tt B
   have S1:=tt s1
   have V:=tt C
   have A:Hid (Fp (fun b=>b=bm) Wd (w6.setCells (Wd.heap.size) 0 [.int .i64 id,.int .i64 ((s.issued.length:Int)+1),.int .i64 kk,.int .i64 y,.int .i64 v,.int .i64 sN])):=tt (a.out.setCells (Or.inr (by omega)) _)
   clear B s1 s2 C
   go_wp2_with (refine wpList_store_mid rfl 42 (.tmp 6) (.tmp 35) rfl (Wd.heap.size) 0 #[.int .i64 id,.int .i64 ((s.issued.length:Int)+1),.int .i64 kk,.int .i64 y,.int .i64 v,.int .i64 sN] rfl rfl S.out az (by simp[Value.oneCell']) ?_)
   first|refine And.intro (fun _=>⟨⟨_,A.out⟩,rfl⟩) ?_|refine And.intro ⟨⟨_,A.out⟩,rfl⟩ ?_
   refine ap 26 (by kernel_rfl) ?_
   simp only[tu,tx,Option.toList]
   go_wp2_with fail
   first|refine And.intro (fun _=>⟨⟨_,A.out⟩,rfl⟩) ?_|refine And.intro ⟨⟨_,A.out⟩,rfl⟩ ?_
   refine And.intro (by kernel_rfl) ?_
   go_wp2_with fail
   go_meet
   have O:Fp (fun b=>b=bm) W w6:=(Fp.of_below c6.out _).trans a.out fun k hk=>.inl hk
   have ds:W.heap.size≤w6.heap.size:=O.size
   have hwz:=ac.out
   refine⟨_,rfl,rfl,tt S1.out,by omega,tt (O.trans V.out fun b hb=>.inr (by omega)),tt ?_⟩
   exact (bO.out).fp V.out (by omega) (by omega)
 case rest=>
 obtain⟨j,rfl,rfl,bp,fm,HF,c1⟩:=hcut
 have Z:=HF.out
 have e3:W.heap.size≤wc.heap.size:=Z.size
 have b9:=(tz bp.out).1
 have ho:=HO.out.fp Z (fun b hb he=>by have:=E.out b hb;have h1:=HN.out.sep.2;rw[he] at hb;exact h1 hb)
 have cz:=(Z.block (w.heap.size+1) (by omega) (by omega)).trans er.out
 have c7:=tt cz
 have i:=ho.row
 rw[hw] at i
 have d6:k < wc.heap.size:=by omega
 have fi:j≠k:=by omega
 have G:=tt ho
 clear Z cz ho HO
 go_upto_region 6 with fail
 have a6:=aT (w:=wc.drew) (T:=fun b=>b≠k∧b≠j) (show wc.drew.cell? ⟨k,19,none⟩=some (.slice Ai s.issued.length ci) from am i 19 rfl) (fun hh=>hh.1 rfl)
 have ad:Hid (∀w':World,(∃p:LaterF wc.drew (fun b=>b≠k∧b≠j),w'=p.W)→w'.rangeAt j 0 [.int .i64 id,.int .i64 ((s.issued.length:Int)+1),.int .i64 kk,.int .i64 y,.int .i64 v,.int .i64 sN]):=tt (by rintro w' ⟨p,rfl⟩;exact aB ((p.h.block _ (show j < wc.heap.size from b9) (fun hh=>hh.2 rfl)).trans bp.out))
 have en:=tt (show wc.drew.ownsRow 0 42 6 _ _ _ from G.out.oi)
 have a3:=tt (aC G.out.oi G.out.row (by decide))
 have c0:Hid (∀b,(Value.slice Ai s.issued.length ci).ownBlock=some b→b≠j):=tt fun b hb=>by have:=E.out b (G.out.ui b hb);omega
 clear i
 refine aU (fun b=>b≠k∧b≠j) [(true,0),(true,1),(true,2),(true,3),(true,4),(true,5),(false,6),(false,7)] (by kernel_rfl) (by kernel_rfl) ?_
 simp only[phS,tu,tx,Option.toList,tC,tD,Nat.reduceAdd,tE,List.drop_zero]
 repeat (first|go_big_quiet_step (fail)|(refine aj (by simp[Region.wanted,yielded]) 42 (.tmp 6) (by rfl) j 0 (by rfl) [.int .i64 id,.int .i64 ((s.issued.length:Int)+1),.int .i64 kk,.int .i64 y,.int .i64 v,.int .i64 sN] _ ad.out Tryz.underlying42 rfl az ?_;intro K hK;go_simp;refine hK _ ?_;clear hK K)|quiet_step (fail)|refine wpQuiet_nil ?_)
 clear a6 ad
 go_wp2_with fail
 refine And.intro ⟨⟨_,(Fp.refl _ wc.drew).alloc _⟩,rfl⟩ ?_
 go_wp2_with (at_builtin;refine aW mU rfl _ _ rfl 0 (.slice Ai s.issued.length ci) s.issued.length (s.issued.flatMap rq) rfl en.out _ rfl rfl (by simp[Value.oneCell']) (by omega) (by decide) (Nat.zero_le _) ?_;intro v5 w5 N ch _ b3;have M:=tt N;have b0:=tt ch;have cA:=tt b3;clear N ch b3;obtain⟨A5,c5,rfl,_,_,_⟩:=ao M.out)
 refine And.intro ⟨⟨w5,(Fp.refl _ wc.drew).grown b0.out (fun b hb=>Or.inl ⟨a3.out b hb,c0.out b hb⟩)⟩,rfl⟩ ?_
 have F:Hid (Fp (fun b=>(Value.slice Ai s.issued.length ci).ownBlock=some b) wc w5):=tt (((Fp.refl _ wc).drew).grown b0.out (fun b hb=>Or.inl hb))
 have q:=(F.out.block k d6 (fun hh=>a3.out k hh rfl)).trans G.out.row
 have cZ:=tt q
 have eb:w5.cell? ⟨k,19,none⟩=some (.slice Ai s.issued.length ci):=am q 19 rfl
 have dc:=frozen_of_row _ _ 19 _ _ q
 have e6:wc.heap.size≤w5.heap.size:=F.out.size
 clear q
 go_upto_region 7 with fail
 clear eb dc
 have ho:=G.out
 have a1:=(F.out.block ct (ho.lt ct ho.uct) (fun hh=>aC ho.oi ho.clk (by decide) ct hh rfl)).trans ho.clk
 have a9:=dh (W:=w5) (U:=fun b=>U b∨(wc.heap.size≤b∧b < w5.heap.size)) (k:=k) (ct:=ct) (g:=g) (c:=c) (id:=id) (j:=19) (u:=.slice A5 (s.issued.length+1) c5) (s':={s with issued:=s.issued++[r]}) (vi':=.slice A5 (s.issued.length+1) c5) cZ.out rfl a1 (.inl ho.uk) (.inl ho.uct) (fun b hb=>by rcases hb with hb|hb;(have:=E.out b hb;omega);exact hb.2)
  (by rw[X];show w5.ownsRow _ _ _ _ (s.issued++[_]).length ((s.issued++[_]).flatMap rq);rw[tH,List.flatMap_append];simpa [rq,iv] using M.out) (ar ho.oa fun b hb=>F.out.block b (ho.oa.lt b hb).2 (bC ho.oa ho.oi (by decide) b hb)) (ar ho.oc fun b hb=>F.out.block b (ho.oc.lt b hb).2 (bC ho.oc ho.oi (by decide) b hb)) ho.om
  (ho.oo.keep fun b hb hlt d1=>⟨F.out.block b hlt (by rcases d1 with h1|⟨x,hx,h1⟩;exact bC ho.oo.own ho.oi (by decide) b h1;exact bC (ho.oo.ok x hx).1 ho.oi (by decide) b h1),.inl hb⟩) (fun b hb=>by
    rcases cA.out with h1|h1
    ·rw[h1] at hb;exact .inl (ho.ui b hb)
    ·have h2:=(M.out.lt b hb).2
     rw[h1] at hb;injection hb with hb
     have fl:wc.heap.size+1=b:=hb
     right;omega) (fun b hb=>.inl (ho.ua b hb)) (fun b hb=>.inl (ho.uc b hb))
 have bc:Fp (fun b=>U b) wc (w5.setCell ⟨k,19,none⟩ (.slice A5 (s.issued.length+1) c5)):=(F.out.mono fun b _ hb=>ho.ui b hb).setCell (p:=⟨k,19,none⟩) (Or.inl ho.uk) _
 obtain⟨w6,hw6⟩:∃w6,w5.setCell ⟨k,19,none⟩ (.slice A5 (s.issued.length+1) c5)=w6:=⟨_,rfl⟩
 have dO:w6.heap.size=w5.heap.size:=by rw[←hw6];simp
 have eS:w5.heap.size≤w6.heap.size:=by omega
 have eX:w6.heap.size≤w5.heap.size:=by omega
 rw[hw6] at a9 bc ⊢
 have n:=tt a9
 have c3:=tt bc
 clear hw6 dO ho a1 a9 bc M b0 cA F cZ
 have ec:w6.cell? ⟨k,17,none⟩=some (.pointer (some ⟨ct,0,none⟩)):=am n.out.row 17 rfl
 have bd:w6.cell? ⟨k,18,none⟩=some (.bool s.waits):=am n.out.row 18 rfl
 have d9:w6.cell? ⟨k,20,none⟩=some (.int .i64 s.at_):=am n.out.row 20 rfl
 have d8:w6.cell? ⟨k,21,none⟩=some (.slice Aa s.ans.length ca):=am n.out.row 21 rfl
 have di:w6.frozen? ⟨k,18,none⟩=false:=frozen_of_row _ _ 18 _ _ n.out.row
 have da:w6.frozen? ⟨k,20,none⟩=false:=frozen_of_row _ _ 20 _ _ n.out.row
 have c9:w6.frozen? ⟨k,21,none⟩=false:=frozen_of_row _ _ 21 _ _ n.out.row
 go_upto_region 8 with (go_at_call 36;refine (pH ct s.now _ _ n.out.clk).mono ?_;rintro e w' ⟨rfl,rfl⟩)
 clear ec bd d9 d8 di da c9
 have x1:=n.out
 have x2:=dh (j:=18) (u:=.bool true) (s':={s with issued:=s.issued++[r],waits:=true}) x1.row rfl x1.clk x1.uk x1.uct x1.lt x1.oi x1.oa x1.oc x1.om x1.oo x1.ui x1.ua x1.uc
 have x3:=dh (j:=20) (u:=.int .i64 s.now) (s':={s with issued:=s.issued++[r],waits:=true,at_:=s.now}) x2.row rfl x2.clk x2.uk x2.uct x2.lt x2.oi x2.oa x2.oc x2.om x2.oo x2.ui x2.ua x2.uc
 have x4:=dh (j:=21) (u:=.slice none 0 0) (s':={s with issued:=s.issued++[r],waits:=true,at_:=s.now,ans:=[]}) (va':=.slice none 0 0) x3.row rfl x3.clk x3.uk x3.uct x3.lt x3.oi (World.ownsRow_nil _ _ _ _) x3.oc x3.om x3.oo x3.ui (fun b hb=>by simp[Value.ownBlock] at hb) x3.uc
 have bb:Fp (fun b=>b=k) w6 (((w6.setCell ⟨k,18,none⟩ (.bool true)).setCell ⟨k,20,none⟩ (.int .i64 s.now)).setCell ⟨k,21,none⟩ (.slice none 0 0)):=(((Fp.refl (fun b=>b=k) w6).setCell (p:=⟨k,18,none⟩) (Or.inl (show k=k from rfl)) _).setCell (p:=⟨k,20,none⟩) (Or.inl (show k=k from rfl)) _).setCell (p:=⟨k,21,none⟩) (Or.inl (show k=k from rfl)) _
 obtain⟨w8,hw8⟩:∃w8,((w6.setCell ⟨k,18,none⟩ (.bool true)).setCell ⟨k,20,none⟩ (.int .i64 s.now)).setCell ⟨k,21,none⟩ (.slice none 0 0)=w8:=⟨_,rfl⟩
 rw[hw8] at x4 bb ⊢
 have d0:U k:=HN.out.cm.uk
 have o:Fp (fun b=>U b) wc w8:=c3.out.trans bb fun b hb=>.inl (by rw[hb];exact d0)
 have I:=HN.out.sep
 have eq:Hid (Cn w8 (fun b=>U b∨(wc.heap.size≤b∧b < w5.heap.size)) g bm K1 k ct c id {s with issued:=s.issued++[r],waits:=true,at_:=s.now,ans:=[]}):=tt ⟨c1.out.fp o I.1 I.2,x4.clm,fun hh=>by rcases hh with hh|hh;exact I.1 hh;omega,fun hh=>by rcases hh with hh|hh;exact I.2 hh;omega⟩
 have cW:=tt ((o.block j b9 (fun hu=>by have:=E.out j hu;omega)).trans bp.out)
 have c8:=tt ((o.block (w.heap.size+1) (by omega) (fun hu=>by have:=E.out _ hu;omega)).trans c7.out)
 have a2:Fp (fun b=>U b∨b=bm) w w8:=((Fp.of_below ex.out _).trans HF.out fun b hb=>.inl (.inr hb)).trans o fun b hb=>.inl (.inl hb)
 have a4:=tt a2
 have e5:wc.heap.size≤w8.heap.size:=o.size
 have hlr:({s with issued:=s.issued++[r],waits:=true,at_:=s.now,ans:=[]}:CS).last=r:=by unfold CS.last;simp
 have b2:Psp.aZ r c.cl=true:=by
  have h0:=hv
  have h1:=kp K (kR ⟨id,(s.issued.length:Int)+1,kk,y,v,0⟩)
  rw[hsN] at h1
  rw[X]
  unfold bI Psp.aZ at h0
  unfold Psp.aZ
  rw[decide_eq_true_eq] at h0 ⊢
  dsimp only at h0 ⊢
  omega
 have cy:=fo K (kR ⟨id,(s.issued.length:Int)+1,kk,y,v,0⟩)
 rw[hK1] at cy
 obtain⟨o1,o2⟩:=oz (id:=id) ⟨cf.1,by omega⟩ b2 hcl
 have cs:K1.length < 1000000:=by omega
 have d3:=ei (K:=K1) o1 o2 cs
 have b6:bi K (kR (bI id s kk y v))=K1:=hK1
 have ep:=tt b6
 have eo:=tt hlr
 have ad:=tt X
 clear x1 x2 x3 x4 bb hw8 o a2 hlr b2 cy o1 o2 X hsN hK1 b6 n c3 G bQ bq c1 bs hv HQ
 go_wp2_with fail
 refine (od _ g bm k ct K1 c id {s with issued:=s.issued++[r],waits:=true,at_:=s.now,ans:=[]} w8 eq.out hf ⟨cf.1,by omega⟩ (by show s.issued++[r]≠[];simp) (by show (s.issued++[r]).length≤_;rw[tH,List.length_singleton];omega) d2 (by rw[eo.out];exact d3) (by omega)).mono ?_
 rintro e w9 ⟨rfl,U9,hcn,cq,aa⟩
 have d5:∀b,b < w8.heap.size→U b∨(wc.heap.size≤b∧b < w5.heap.size)→False∨True:=fun _ _ _=>.inr trivial
 have cb:¬ ((U j∨(wc.heap.size≤j∧j < w5.heap.size))∨j=bm):=by
  rintro ((hh|hh)|hh)
  ·have:=E.out j hh;omega
  ·omega
  ·omega
 have cj:¬ ((U (w.heap.size+1)∨(wc.heap.size≤w.heap.size+1∧w.heap.size+1 < w5.heap.size))∨w.heap.size+1=bm):=by
  rintro ((hh|hh)|hh)
  ·have:=E.out _ hh;omega
  ·omega
  ·omega
 have al:=(aa.block j (by omega) cb).trans cW.out
 have P:=(aa.block (w.heap.size+1) (by omega) cj).trans c8.out
 have b5:w9.rangeAt j 0 [.int .i64 id,.int .i64 ((s.issued.length:Int)+1),.int .i64 kk,.int .i64 y,.int .i64 v,.int .i64 sN]:=aB al
 have em:=tt b5
 have B:=au P
 obtain⟨s1,s2⟩:=aQ P [.int .i64 id,.int .i64 ((s.issued.length:Int)+1),.int .i64 kk,.int .i64 y,.int .i64 v,.int .i64 sN] rfl
 have S:=tt B
 have S1:=tt s1
 have a5:=tt hcn
 have cQ:=tt cq
 have c2:=tt aa
 clear d5 cb cj al P b5 B s1 s2 hcn cq aa
 go_wp2_with (first|(refine aA rfl 42 (.tmp 6) rfl j 0 rfl [.int .i64 id,.int .i64 ((s.issued.length:Int)+1),.int .i64 kk,.int .i64 y,.int .i64 v,.int .i64 sN] _ em.out Tryz.underlying42 rfl az ?_)|(refine wpList_store_mid rfl 42 (.tmp 4) (.tmp 67) rfl (w.heap.size+1) 0 #[.int .i64 id,.int .i64 ((s.issued.length:Int)+1),.int .i64 kk,.int .i64 y,.int .i64 v,.int .i64 sN] rfl rfl S.out az (by simp[Value.oneCell']) ?_))
 refine bodyPost_ret (v:=.tuple #[.agg #[.int .i64 id,.int .i64 ((s.issued.length:Int)+1),.int .i64 kk,.int .i64 y,.int .i64 v,.int .i64 sN],.int .i64 0]) ?_ rfl ?_
 ·exact aI Tryz.results12 _ _ (w.heap.size+1) _ _ _ _ rfl S1.out Tryz.underlying42 rfl az
 ·rw[ep.out]
  have C:Fp (fun b=>b=w.heap.size+1) w9 (w9.setCells (w.heap.size+1) 0 [.int .i64 id,.int .i64 ((s.issued.length:Int)+1),.int .i64 kk,.int .i64 y,.int .i64 v,.int .i64 sN]):=(Fp.refl (fun b=>b=w.heap.size+1) w9).setCells (Or.inl rfl) _
  have e0:=a5.out.cm.lt
  have e4:=c2.out.size
  have e2:bm < w.heap.size:=d7.2
  have cp:∀b,U9 b→b≠w.heap.size+1:=fun b hb he=>by
   rcases cQ.out b hb with (h1|h1)|h1
   ·have:=E.out b h1;omega
   ·omega
   ·omega
  refine⟨by rw[ad.out],U9,a5.out.fp C cp (by omega) (by omega),fun b hb=>?_,?_⟩
  ·rcases cQ.out b hb with (h1|h1)|h1
   ·exact .inl h1
   ·right;omega
   ·right;have:=a4.out.size;omega
  ·exact (a4.out.trans c2.out fun b hb=>by
    rcases hb with (h1|h1)|h1
    ·exact .inl (.inl h1)
    ·right;omega
    ·exact .inl (.inr h1)).trans C fun b hb=>.inr (by omega)
theorem mN (U:Nat→Prop) (k ct g:Nat) (c:Cf) (id:Int) (s:CS) (v:Value) (w:World) (h:Clm w U k ct g c id s) (hw:s.waits=false):
 Calls Tryz.prog 14 #[.pointer (some ⟨k,0,none⟩),v] w fun e w'=>e= .returned (.bool false)∧w=w':=by
 obtain⟨Ai,ci,Aa,ca,Ac,cc,Ao,co,L,ho⟩:=h.opens
 have a:=ho.row
 rw[hw] at a
 have b:w.cell? ⟨k,18,none⟩=some (.bool false):=am a 18 rfl
 clear a ho h
 go_enter Tryz.func14,Tryz.ntmps14
 go_wp2_with fail
 go_ret
 exact⟨rfl,rfl⟩
theorem mM (U:Nat→Prop) (g bm k ct:Nat) (K:List Key) (c:Cf) (id:Int) (s:CS) (b:List UInt8) (v:Value) (w:World) (h:Cn w U g bm K k ct c id s) (hw:s.waits=true) (hx:RdP w (fun x=>x < w.heap.size) 1 v b.length (b.map bv))
 (hF:∀n a m,dN b 0=some (n,a)→Psp.aY (b.drop a.toNat)=some m→eV c.f c.cl m) (hop:bW b c.f c.cl K=none):
 Calls Tryz.prog 14 #[.pointer (some ⟨k,0,none⟩),v] w fun e w'=>e= .returned (.bool false)∧Below w.heap.size w w':=by
 have HN:=tt h
 have HX:=tt hx
 have N:=tt hF
 have J:=tt hop
 obtain⟨Ai,ci,Aa,ca,Ac,cc,Ao,co,L,ho⟩:=h.cm.opens
 clear h hx hF hop
 have C:=ho.row
 rw[hw] at C
 have Q:w.cell? ⟨k,18,none⟩=some (.bool true):=am C 18 rfl
 clear C
 go_enter Tryz.func14,Tryz.ntmps14
 go_upto_region 3 with fail
 clear Q
 have r:=ho.row
 have X:=ho.lt k ho.uk
 have l0:=ab (w:=w.drew) (show w.drew.cell? ⟨k,0,none⟩=some (.int .i64 c.f) from am r 0 rfl)
 have l1:=ab (w:=w.drew) (show w.drew.cell? ⟨k,1,none⟩=some (.int .i64 c.cl) from am r 1 rfl)
 have F:=ab (w:=w.drew) (show w.drew.cell? ⟨k,16,none⟩=some (.pointer (some ⟨g,0,none⟩)) from am r 16 rfl)
 have HO:=tt ho
 have i:Hid (Below w.drew.heap.size w.drew w.drew):=tt (Below.refl _ _)
 clear r ho
 go_cut [5,6,7] from 16 (fun mv V R wx=>R= .int .i64 2∧Hid (Below w.heap.size w wx))
 case first=>
  refine cJ (fun w'=>∃p:Later w.drew,w'=p.W) [0,1,2,3,4,5,6,7,8,9,10,11,12,13,14,15,16,17,18,19,20,21,22,23] 24 (by kernel_rfl) (by kernel_rfl) ?_
  obtain⟨Wd,hWd⟩:∃Wd,w.drew=Wd:=⟨_,rfl⟩
  have H:Wd.heap.size=w.heap.size:=by rw[←hWd];rfl
  have z:Below w.heap.size w Wd:=by rw[←hWd];exact (Below.refl _ _).drew
  have Y:=tt H
  have A:=tt z
  rw[hWd] at l0 l1 F i ⊢
  have M:=tt (HN.out.nt.below z)
  have I:=tt (RdP.keeps HX.out (Keeps.on z))
  clear hWd H z
  refine aS [] [0,1,2,3,4,5,6,7,8,9,10,11,12,13,14] 15 rfl (by kernel_rfl) (fun _ d _ _ _ h=>by cases d <;> exact h) ⟨⟨_,i.out⟩,rfl⟩ ?_
  simp only[phR,tu,tx,Option.toList]
  repeat (first|go_big_quiet_step (fail)|quiet_step (fail)|refine wpQuiet_nil ?_)
  clear l0 l1 F
  refine cK 15 20 (by kernel_rfl) ?_ ?_
  ·skip
   simp only[tu,tx,Option.toList]
   go_wp2_with fail
   refine (jT b v c.f c.cl g bm K Wd I.out M.out N.out).mono ?_
   rintro e w5 ⟨h1,h2,hbq⟩
   obtain rfl:=h2 J.out
   replace i:=tt (Below.then i.out hbq i.out.size)
   have O:=tt hbq
   have P:=hbq.size
   clear h1 h2 hbq
   go_wp2_with fail
   first|refine And.intro (fun _=>⟨⟨_,i.out⟩,rfl⟩) ?_|refine And.intro ⟨⟨_,i.out⟩,rfl⟩ ?_
   refine aS [0,1,2,3,4,5,6,7,8,9,10,11,12,13,14,15] [16,17,18,19] 4 rfl (by kernel_rfl) (fun _ d _ _ _ h=>by cases d <;> exact h) ⟨⟨_,i.out⟩,rfl⟩ ?_
   simp only[phR,tu,tx,Option.toList]
   repeat (first|go_big_quiet_step (fail)|quiet_step (fail)|refine wpQuiet_nil ?_)
   refine ap 20 (by kernel_rfl) ?_
   simp only[tu,tx,Option.toList]
   go_wp2_with fail
   have o:=ae w5 (.cells #[.int .i64 0,.int .i64 0,.int .i64 0,.int .i64 0,.int .i64 0,.int .i64 0,.slice none 0 0,.slice none 0 0,.slice none 0 0,.slice none 0 0] 56)
   have l:=tL w5 (.cells #[.int .i64 0,.int .i64 0,.int .i64 0,.int .i64 0,.int .i64 0,.int .i64 0,.slice none 0 0,.slice none 0 0,.slice none 0 0,.slice none 0 0] 56)
   replace i:=tt (Below.then i.out o i.out.size)
   first|refine And.intro (fun _=>⟨⟨_,i.out⟩,rfl⟩) ?_|refine And.intro ⟨⟨_,i.out⟩,rfl⟩ ?_
   obtain⟨w6,hW_⟩:∃W_,(w5).alloc (.cells #[.int .i64 0,.int .i64 0,.int .i64 0,.int .i64 0,.int .i64 0,.int .i64 0,.slice none 0 0,.slice none 0 0,.slice none 0 0,.slice none 0 0] 56)=W_:=⟨_,rfl⟩
   rw[hW_] at o l i ⊢
   have B:=(tz l).1
   have q:=tt l
   have E:=tt o
   clear hW_ o l
   refine ap 21 (by kernel_rfl) ?_
   simp only[tu,tx,Option.toList]
   have t:=au q.out
   obtain⟨s1,s2⟩:=aQ q.out [.int .i64 0,.int .i64 0,.int .i64 0,.int .i64 0,.int .i64 0,.int .i64 0,.slice none 0 0,.slice none 0 0,.slice none 0 0,.slice none 0 0] rfl
   have u:Wd.heap.size≤w5.heap.size:=by omega
   have j:Hid (Below Wd.heap.size Wd (w6.setCells (w5.heap.size) 0 [.int .i64 0,.int .i64 0,.int .i64 0,.int .i64 0,.int .i64 0,.int .i64 0,.slice none 0 0,.slice none 0 0,.slice none 0 0,.slice none 0 0])):=tt (((Fp.of_below i.out (fun _=>False)).setCells (Or.inr u) _).to_below (tJ _) fun _ _ h=>h.elim)
   have D:=tt t
   have S1:=tt s1
   clear t s1 s2
   go_wp2_with (refine wpList_store_mid rfl 56 (.tmp 5) (.tmp 33) rfl (w5.heap.size) 0 #[.int .i64 0,.int .i64 0,.int .i64 0,.int .i64 0,.int .i64 0,.int .i64 0,.slice none 0 0,.slice none 0 0,.slice none 0 0,.slice none 0 0] rfl rfl D.out ax (by simp[Value.oneCell']) ?_)
   first|refine And.intro (fun _=>⟨⟨_,j.out⟩,rfl⟩) ?_|refine And.intro ⟨⟨_,j.out⟩,rfl⟩ ?_
   refine ap 22 (by kernel_rfl) ?_
   simp only[tu,tx,Option.toList]
   go_wp2_with fail
   first|refine And.intro (fun _=>⟨⟨_,j.out⟩,rfl⟩) ?_|refine And.intro ⟨⟨_,j.out⟩,rfl⟩ ?_
   refine ap 23 (by kernel_rfl) ?_
   simp only[tu,tx,Option.toList]
   go_wp2_with fail
   first|refine And.intro (fun _=>⟨⟨_,j.out⟩,rfl⟩) ?_|refine And.intro ⟨⟨_,j.out⟩,rfl⟩ ?_
   refine And.intro (by kernel_rfl) ?_
   go_wp2_with fail
   go_meet
   have y:=Below.then A.out j.out A.out.size
   exact⟨rfl,tt y⟩
  ·skip
   simp only[tu,tx,Option.toList]
   go_wp2_with fail
   have o:=ae Wd (.cells #[.int .i64 0,.int .i64 0,.int .i64 0,.int .i64 0,.int .i64 0,.int .i64 0,.slice none 0 0,.slice none 0 0,.slice none 0 0,.slice none 0 0] 56)
   have l:=tL Wd (.cells #[.int .i64 0,.int .i64 0,.int .i64 0,.int .i64 0,.int .i64 0,.int .i64 0,.slice none 0 0,.slice none 0 0,.slice none 0 0,.slice none 0 0] 56)
   replace i:=tt (Below.then i.out o i.out.size)
   first|refine And.intro (fun _=>⟨⟨_,i.out⟩,rfl⟩) ?_|refine And.intro ⟨⟨_,i.out⟩,rfl⟩ ?_
   obtain⟨w5,hW_⟩:∃W_,(Wd).alloc (.cells #[.int .i64 0,.int .i64 0,.int .i64 0,.int .i64 0,.int .i64 0,.int .i64 0,.slice none 0 0,.slice none 0 0,.slice none 0 0,.slice none 0 0] 56)=W_:=⟨_,rfl⟩
   rw[hW_] at o l i ⊢
   have B:=(tz l).1
   have q:=tt l
   have E:=tt o
   clear hW_ o l
   have S:=tt (RdP.keeps I.out (Keeps.on E.out))
   refine ap 15 (by kernel_rfl) ?_
   simp only[tu,tx,Option.toList]
   go_wp2_with fail
   refine (jT b v c.f c.cl g bm K w5 S.out (M.out.below E.out) N.out).mono ?_
   rintro e w6 ⟨h1,h2,hbq⟩
   obtain rfl:=h2 J.out
   replace i:=tt (Below.then i.out hbq i.out.size)
   have O:=tt hbq
   have P:=hbq.size
   clear h1 h2 hbq
   go_wp2_with fail
   first|refine And.intro (fun _=>⟨⟨_,i.out⟩,rfl⟩) ?_|refine And.intro ⟨⟨_,i.out⟩,rfl⟩ ?_
   refine aS [0,1,2,3,4,5,6,7,8,9,10,11,12,13,14,20,15] [16,17,18,19] 4 rfl (by kernel_rfl) (fun _ d _ _ _ h=>by cases d <;> exact h) ⟨⟨_,i.out⟩,rfl⟩ ?_
   simp only[phR,tu,tx,Option.toList]
   repeat (first|go_big_quiet_step (fail)|quiet_step (fail)|refine wpQuiet_nil ?_)
   replace q:=tt ((O.out.block _ B).trans q.out)
   refine ap 21 (by kernel_rfl) ?_
   simp only[tu,tx,Option.toList]
   have t:=au q.out
   obtain⟨s1,s2⟩:=aQ q.out [.int .i64 0,.int .i64 0,.int .i64 0,.int .i64 0,.int .i64 0,.int .i64 0,.slice none 0 0,.slice none 0 0,.slice none 0 0,.slice none 0 0] rfl
   have u:Wd.heap.size≤Wd.heap.size:=by omega
   have j:Hid (Below Wd.heap.size Wd (w6.setCells (Wd.heap.size) 0 [.int .i64 0,.int .i64 0,.int .i64 0,.int .i64 0,.int .i64 0,.int .i64 0,.slice none 0 0,.slice none 0 0,.slice none 0 0,.slice none 0 0])):=tt (((Fp.of_below i.out (fun _=>False)).setCells (Or.inr u) _).to_below (tJ _) fun _ _ h=>h.elim)
   have D:=tt t
   have S1:=tt s1
   clear t s1 s2
   go_wp2_with (refine wpList_store_mid rfl 56 (.tmp 5) (.tmp 33) rfl (Wd.heap.size) 0 #[.int .i64 0,.int .i64 0,.int .i64 0,.int .i64 0,.int .i64 0,.int .i64 0,.slice none 0 0,.slice none 0 0,.slice none 0 0,.slice none 0 0] rfl rfl D.out ax (by simp[Value.oneCell']) ?_)
   first|refine And.intro (fun _=>⟨⟨_,j.out⟩,rfl⟩) ?_|refine And.intro ⟨⟨_,j.out⟩,rfl⟩ ?_
   refine ap 22 (by kernel_rfl) ?_
   simp only[tu,tx,Option.toList]
   go_wp2_with fail
   first|refine And.intro (fun _=>⟨⟨_,j.out⟩,rfl⟩) ?_|refine And.intro ⟨⟨_,j.out⟩,rfl⟩ ?_
   refine ap 23 (by kernel_rfl) ?_
   simp only[tu,tx,Option.toList]
   go_wp2_with fail
   first|refine And.intro (fun _=>⟨⟨_,j.out⟩,rfl⟩) ?_|refine And.intro ⟨⟨_,j.out⟩,rfl⟩ ?_
   refine And.intro (by kernel_rfl) ?_
   go_wp2_with fail
   go_meet
   have y:=Below.then A.out j.out A.out.size
   exact⟨rfl,tt y⟩
 case rest=>
  obtain⟨rfl,HB⟩:=hcut
  go_wp2_with fail
  refine ai (by kernel_rfl) (by kernel_rfl) ?_
  repeat (first|go_big_quiet_step (fail))
  refine wpQuiet_nil ?_
  intro w3 G
  have hb3:=ay G
  clear G
  have T:=tt hb3
  clear hb3
  go_wp2_with fail
  go_ret
  exact⟨rfl,Below.then HB.out T.out HB.out.size⟩
theorem take_some (U:Nat→Prop) (g bm k ct:Nat) (K:List Key) (c:Cf) (id:Int) (s:CS) (b:List UInt8) (v:Value) (m:Psp.Msg) (x_:Int) (w:World) (h:Cn w U g bm K k ct c id s) (hw:s.waits=true) (hx:RdP w (fun x=>x < w.heap.size) 1 v b.length (b.map bv))
 (hF:∀n a m,dN b 0=some (n,a)→Psp.aY (b.drop a.toNat)=some m→eV c.f c.cl m) (hop:bW b c.f c.cl K=some (m,x_)) (hf:1≤c.f∧c.f≤4) (hl:s.issued≠[]) (hlen:s.issued.length≤1000000) (hp:s.ans.length≤1000000) (hE:s.acc.length≤1000000) (hb:Bool) (s2:CS) (eq:s.hears id m=hb) (eo:s2=if hb=true then s.heard c m else s):
 Calls Tryz.prog 14 #[.pointer (some ⟨k,0,none⟩),v] w fun e w'=>e= .returned (.bool hb)∧∃U',Cn w' U' g bm K k ct c id s2∧(∀b,U' b→U b∨w.heap.size≤b)∧Fp (fun b=>U b∨b=bm) w w':=by
 have HN:=tt h
 have HX:=tt hx
 have gd:=tt hF
 have f7:=tt hop
 obtain⟨Ai,ci,Aa,ca,Ac,cc,Ao,co,L,ho⟩:=h.cm.opens
 clear h hx hF hop
 have c3:=ho.row
 rw[hw] at c3
 have dr:w.cell? ⟨k,18,none⟩=some (.bool true):=am c3 18 rfl
 clear c3
 go_enter Tryz.func14,Tryz.ntmps14
 go_upto_region 3 with fail
 clear dr
 have cn:=tt eq
 have bd:=tt eo
 clear eq eo
 have a5:=ho.row
 have hT:=ho.lt k ho.uk
 have l0:=ab (w:=w.drew) (show w.drew.cell? ⟨k,0,none⟩=some (.int .i64 c.f) from am a5 0 rfl)
 have l1:=ab (w:=w.drew) (show w.drew.cell? ⟨k,1,none⟩=some (.int .i64 c.cl) from am a5 1 rfl)
 have d9:=ab (w:=w.drew) (show w.drew.cell? ⟨k,16,none⟩=some (.pointer (some ⟨g,0,none⟩)) from am a5 16 rfl)
 have HO:=tt ho
 have z:Hid (Below w.drew.heap.size w.drew w.drew):=tt (Below.refl _ _)
 clear a5 ho
 go_cut [5,6,7] from 16 (fun mv hJ hz wx=>∃j Gb gb I H Gc gc Gp gp,mv= .pointer (some ⟨j,0,none⟩)∧w.heap.size≤j∧Hid (wx.heap[j]? =some (.cells #[.int .i64 m.k,.int .i64 m.f,.int .i64 m.v,.int .i64 m.i,.int .i64 m.q,.int .i64 m.r,.slice Gb m.b.length gb,.slice I m.o.length H,.slice Gc m.c.length gc,.slice Gp m.p.length gp] 56 (0,0)))∧hz= .int .i64 0∧Hid (Below w.heap.size w wx))
 case first=>
  refine cJ (fun w'=>∃p:Later w.drew,w'=p.W) [0,1,2,3,4,5,6,7,8,9,10,11,12,13,14,15,16,17,18,19,20,21,22,23] 24 (by kernel_rfl) (by kernel_rfl) ?_
  obtain⟨Wd,hWd⟩:∃Wd,w.drew=Wd:=⟨_,rfl⟩
  have ex:Wd.heap.size=w.heap.size:=by rw[←hWd];rfl
  have ch:Below w.heap.size w Wd:=by rw[←hWd];exact (Below.refl _ _).drew
  have go:=tt ex
  have cq:=tt ch
  rw[hWd] at l0 l1 d9 z ⊢
  have f8:=tt (HN.out.nt.below ch)
  have fr:=tt (RdP.keeps HX.out (Keeps.on ch))
  clear hWd ex ch
  refine aS [] [0,1,2,3,4,5,6,7,8,9,10,11,12,13,14] 15 rfl (by kernel_rfl) (fun _ d _ _ _ h=>by cases d <;> exact h) ⟨⟨_,z.out⟩,rfl⟩ ?_
  simp only[phR,tu,tx,Option.toList]
  repeat (first|go_big_quiet_step (fail)|quiet_step (fail)|refine wpQuiet_nil ?_)
  clear l0 l1 d9
  refine cK 15 20 (by kernel_rfl) ?_ ?_
  ·skip
   simp only[tu,tx,Option.toList]
   go_wp2_with fail
   refine (jT b v c.f c.cl g bm K Wd fr.out f8.out gd.out).mono ?_
   rintro e w5 ⟨h1,h2,hbq⟩
   obtain⟨vb,vo,vc,vp,rfl,b1⟩:=h1 _ _ f7.out
   obtain⟨Gb,I,Gc,Gp,gb,H,gc,gp,rfl,rfl,rfl,rfl⟩:=aG b1
   clear b1
   replace z:=tt (Below.then z.out hbq z.out.size)
   have gs:=tt hbq
   have g9:=hbq.size
   clear h1 h2 hbq
   go_wp2_with fail
   first|refine And.intro (fun _=>⟨⟨_,z.out⟩,rfl⟩) ?_|refine And.intro ⟨⟨_,z.out⟩,rfl⟩ ?_
   refine aS [0,1,2,3,4,5,6,7,8,9,10,11,12,13,14,15] [16,17,18,19] 4 rfl (by kernel_rfl) (fun _ d _ _ _ h=>by cases d <;> exact h) ⟨⟨_,z.out⟩,rfl⟩ ?_
   simp only[phR,tu,tx,Option.toList]
   repeat (first|go_big_quiet_step (fail)|quiet_step (fail)|refine wpQuiet_nil ?_)
   refine ap 20 (by kernel_rfl) ?_
   simp only[tu,tx,Option.toList]
   go_wp2_with fail
   have F:=ae w5 (.cells #[.int .i64 0,.int .i64 0,.int .i64 0,.int .i64 0,.int .i64 0,.int .i64 0,.slice none 0 0,.slice none 0 0,.slice none 0 0,.slice none 0 0] 56)
   have E:=tL w5 (.cells #[.int .i64 0,.int .i64 0,.int .i64 0,.int .i64 0,.int .i64 0,.int .i64 0,.slice none 0 0,.slice none 0 0,.slice none 0 0,.slice none 0 0] 56)
   replace z:=tt (Below.then z.out F z.out.size)
   first|refine And.intro (fun _=>⟨⟨_,z.out⟩,rfl⟩) ?_|refine And.intro ⟨⟨_,z.out⟩,rfl⟩ ?_
   obtain⟨w6,hW_⟩:∃W_,(w5).alloc (.cells #[.int .i64 0,.int .i64 0,.int .i64 0,.int .i64 0,.int .i64 0,.int .i64 0,.slice none 0 0,.slice none 0 0,.slice none 0 0,.slice none 0 0] 56)=W_:=⟨_,rfl⟩
   rw[hW_] at F E z ⊢
   have Q:=(tz E).1
   have a0:=tt E
   have d8:=tt F
   clear hW_ F E
   refine ap 21 (by kernel_rfl) ?_
   simp only[tu,tx,Option.toList]
   have bs:=au a0.out
   obtain⟨s1,s2⟩:=aQ a0.out [.int .i64 m.k,.int .i64 m.f,.int .i64 m.v,.int .i64 m.i,.int .i64 m.q,.int .i64 m.r,.slice Gb m.b.length gb,.slice I m.o.length H,.slice Gc m.c.length gc,.slice Gp m.p.length gp] rfl
   have b2:Wd.heap.size≤w5.heap.size:=by omega
   have D:Hid (Below Wd.heap.size Wd (w6.setCells (w5.heap.size) 0 [.int .i64 m.k,.int .i64 m.f,.int .i64 m.v,.int .i64 m.i,.int .i64 m.q,.int .i64 m.r,.slice Gb m.b.length gb,.slice I m.o.length H,.slice Gc m.c.length gc,.slice Gp m.p.length gp])):=tt (((Fp.of_below z.out (fun _=>False)).setCells (Or.inr b2) _).to_below (tJ _) fun _ _ h=>h.elim)
   have dv:=tt bs
   have S1:=tt s1
   clear bs s1 s2
   go_wp2_with (refine wpList_store_mid rfl 56 (.tmp 5) (.tmp 33) rfl (w5.heap.size) 0 #[.int .i64 m.k,.int .i64 m.f,.int .i64 m.v,.int .i64 m.i,.int .i64 m.q,.int .i64 m.r,.slice Gb m.b.length gb,.slice I m.o.length H,.slice Gc m.c.length gc,.slice Gp m.p.length gp] rfl rfl dv.out ax (by simp[Value.oneCell']) ?_)
   first|refine And.intro (fun _=>⟨⟨_,D.out⟩,rfl⟩) ?_|refine And.intro ⟨⟨_,D.out⟩,rfl⟩ ?_
   refine ap 22 (by kernel_rfl) ?_
   simp only[tu,tx,Option.toList]
   go_wp2_with fail
   first|refine And.intro (fun _=>⟨⟨_,D.out⟩,rfl⟩) ?_|refine And.intro ⟨⟨_,D.out⟩,rfl⟩ ?_
   refine ap 23 (by kernel_rfl) ?_
   simp only[tu,tx,Option.toList]
   go_wp2_with fail
   first|refine And.intro (fun _=>⟨⟨_,D.out⟩,rfl⟩) ?_|refine And.intro ⟨⟨_,D.out⟩,rfl⟩ ?_
   refine And.intro (by kernel_rfl) ?_
   go_wp2_with fail
   go_meet
   have b3:=Below.then cq.out D.out cq.out.size
   exact⟨_,Gb,gb,I,H,Gc,gc,Gp,gp,rfl,by have:=go.out;omega,tt S1.out,rfl,tt b3⟩
  ·skip
   simp only[tu,tx,Option.toList]
   go_wp2_with fail
   have F:=ae Wd (.cells #[.int .i64 0,.int .i64 0,.int .i64 0,.int .i64 0,.int .i64 0,.int .i64 0,.slice none 0 0,.slice none 0 0,.slice none 0 0,.slice none 0 0] 56)
   have E:=tL Wd (.cells #[.int .i64 0,.int .i64 0,.int .i64 0,.int .i64 0,.int .i64 0,.int .i64 0,.slice none 0 0,.slice none 0 0,.slice none 0 0,.slice none 0 0] 56)
   replace z:=tt (Below.then z.out F z.out.size)
   first|refine And.intro (fun _=>⟨⟨_,z.out⟩,rfl⟩) ?_|refine And.intro ⟨⟨_,z.out⟩,rfl⟩ ?_
   obtain⟨w5,hW_⟩:∃W_,(Wd).alloc (.cells #[.int .i64 0,.int .i64 0,.int .i64 0,.int .i64 0,.int .i64 0,.int .i64 0,.slice none 0 0,.slice none 0 0,.slice none 0 0,.slice none 0 0] 56)=W_:=⟨_,rfl⟩
   rw[hW_] at F E z ⊢
   have Q:=(tz E).1
   have a0:=tt E
   have d8:=tt F
   clear hW_ F E
   have hA:=tt (RdP.keeps fr.out (Keeps.on d8.out))
   refine ap 15 (by kernel_rfl) ?_
   simp only[tu,tx,Option.toList]
   go_wp2_with fail
   refine (jT b v c.f c.cl g bm K w5 hA.out (f8.out.below d8.out) gd.out).mono ?_
   rintro e w6 ⟨h1,h2,hbq⟩
   obtain⟨vb,vo,vc,vp,rfl,b1⟩:=h1 _ _ f7.out
   obtain⟨Gb,I,Gc,Gp,gb,H,gc,gp,rfl,rfl,rfl,rfl⟩:=aG b1
   clear b1
   replace z:=tt (Below.then z.out hbq z.out.size)
   have gs:=tt hbq
   have g9:=hbq.size
   clear h1 h2 hbq
   go_wp2_with fail
   first|refine And.intro (fun _=>⟨⟨_,z.out⟩,rfl⟩) ?_|refine And.intro ⟨⟨_,z.out⟩,rfl⟩ ?_
   refine aS [0,1,2,3,4,5,6,7,8,9,10,11,12,13,14,20,15] [16,17,18,19] 4 rfl (by kernel_rfl) (fun _ d _ _ _ h=>by cases d <;> exact h) ⟨⟨_,z.out⟩,rfl⟩ ?_
   simp only[phR,tu,tx,Option.toList]
   repeat (first|go_big_quiet_step (fail)|quiet_step (fail)|refine wpQuiet_nil ?_)
   replace a0:=tt ((gs.out.block _ Q).trans a0.out)
   refine ap 21 (by kernel_rfl) ?_
   simp only[tu,tx,Option.toList]
   have bs:=au a0.out
   obtain⟨s1,s2⟩:=aQ a0.out [.int .i64 m.k,.int .i64 m.f,.int .i64 m.v,.int .i64 m.i,.int .i64 m.q,.int .i64 m.r,.slice Gb m.b.length gb,.slice I m.o.length H,.slice Gc m.c.length gc,.slice Gp m.p.length gp] rfl
   have b2:Wd.heap.size≤Wd.heap.size:=by omega
   have D:Hid (Below Wd.heap.size Wd (w6.setCells (Wd.heap.size) 0 [.int .i64 m.k,.int .i64 m.f,.int .i64 m.v,.int .i64 m.i,.int .i64 m.q,.int .i64 m.r,.slice Gb m.b.length gb,.slice I m.o.length H,.slice Gc m.c.length gc,.slice Gp m.p.length gp])):=tt (((Fp.of_below z.out (fun _=>False)).setCells (Or.inr b2) _).to_below (tJ _) fun _ _ h=>h.elim)
   have dv:=tt bs
   have S1:=tt s1
   clear bs s1 s2
   go_wp2_with (refine wpList_store_mid rfl 56 (.tmp 5) (.tmp 33) rfl (Wd.heap.size) 0 #[.int .i64 m.k,.int .i64 m.f,.int .i64 m.v,.int .i64 m.i,.int .i64 m.q,.int .i64 m.r,.slice Gb m.b.length gb,.slice I m.o.length H,.slice Gc m.c.length gc,.slice Gp m.p.length gp] rfl rfl dv.out ax (by simp[Value.oneCell']) ?_)
   first|refine And.intro (fun _=>⟨⟨_,D.out⟩,rfl⟩) ?_|refine And.intro ⟨⟨_,D.out⟩,rfl⟩ ?_
   refine ap 22 (by kernel_rfl) ?_
   simp only[tu,tx,Option.toList]
   go_wp2_with fail
   first|refine And.intro (fun _=>⟨⟨_,D.out⟩,rfl⟩) ?_|refine And.intro ⟨⟨_,D.out⟩,rfl⟩ ?_
   refine ap 23 (by kernel_rfl) ?_
   simp only[tu,tx,Option.toList]
   go_wp2_with fail
   first|refine And.intro (fun _=>⟨⟨_,D.out⟩,rfl⟩) ?_|refine And.intro ⟨⟨_,D.out⟩,rfl⟩ ?_
   refine And.intro (by kernel_rfl) ?_
   go_wp2_with fail
   go_meet
   have b3:=Below.then cq.out D.out cq.out.size
   exact⟨_,Gb,gb,I,H,Gc,gc,Gp,gp,rfl,by have:=go.out;omega,tt S1.out,rfl,tt b3⟩
 case rest=>
  obtain⟨j,Gb,gb,I,H,Gc,gc,Gp,gp,rfl,hS,bp,rfl,HB⟩:=hcut
  have M:=HO.out.below HB.out
  have eS:=HN.out.below HB.out
  have hk:=(tz bp.out).1
  have d0:=tt M
  have bq:=tt eS
  have dc:Hid (∀b,U b→b < w.heap.size):=tt HN.out.cm.lt
  have hN:w.heap.size≤wc.heap.size:=HB.out.size
  have hU:k < wc.heap.size:=M.lt k M.uk
  clear M eS HO
  obtain⟨B,Q⟩:∃B,s.last.t=B:=⟨_,rfl⟩
  have C:Hid (∀p:Later wc,Calls Tryz.prog 39 #[.pointer (some ⟨k,0,none⟩)] p.W fun e w'=>e= .returned (.agg #[.int .i64 s.last.c,.int .i64 B,.int .i64 s.last.k,.int .i64 s.last.y,.int .i64 s.last.v,.int .i64 s.last.s])∧Below p.W.heap.size p.W w'):=tt fun p=>by rw[←Q];exact j6 U k ct g c id s p.W (bq.out.cm.below p.h) hl hlen
  have cj:=tt Q
  clear Q
  have cp:Hid (∀W:World,(Instr.field 42 (.agg #[.int .i64 s.last.c,.int .i64 B,.int .i64 s.last.k,.int .i64 s.last.y,.int .i64 s.last.v,.int .i64 s.last.s]) 1).run Tryz.prog W= .ok (.int .i64 B) W):=tt fun _=>by kernel_rfl
  go_wp2_with fail
  have m0:=ab (w:=wc) (show wc.cell? ⟨j,0,none⟩=some (.int .i64 m.k) from am bp.out 0 rfl)
  have m3:=ab (w:=wc) (show wc.cell? ⟨j,3,none⟩=some (.int .i64 m.i) from am bp.out 3 rfl)
  have m4:=ab (w:=wc) (show wc.cell? ⟨j,4,none⟩=some (.int .i64 m.q) from am bp.out 4 rfl)
  have cf:=ab (w:=wc) (show wc.cell? ⟨k,15,none⟩=some (.int .i64 id) from am d0.out.row 15 rfl)
  by_cases h1:m.k=10
  case neg=>
   have fn:(m.k != 10)=true:=by simp[h1]
   have fm:(m.k==10)=false:=by simp[h1]
   have fl:decide (m.k=10)=false:=tA h1
   have fi:decide (¬m.k=10)=true:=tB h1
   have A:s.hears id m=false:=by unfold CS.hears;rw[cj.out];simp[h1]
   have HH:Hid (hb=false):=tt (by rw[←cn.out,A])
   clear A
   refine ai (by kernel_rfl) (by kernel_rfl) ?_
   repeat ((with_reducible show wpQuiet _ _ _ _ _ _);first|((with_reducible refine aq ?_ ?_);(·rfl))|go_big_quiet_step ((go_at_call 39;exact ag _ (C.out _)))|quiet_step ((go_at_call 39;exact ag _ (C.out _)))|(refine bt (by simp[Region.wanted,yielded]) (.int .i64 B) (fun W_ _=>by show Sem.run _ (do pure (Next.value (←Instr.field 42 (.agg #[.int .i64 s.last.c,.int .i64 B,.int .i64 s.last.k,.int .i64 s.last.y,.int .i64 s.last.v,.int .i64 s.last.s]) 1))) W_=_;rw[Sem.run_bind,cp.out];rfl) ?_;intro K hK;go_simp;refine hK _ ?_;clear hK K))
   refine wpQuiet_nil ?_
   intro w3 J
   have hb3:=ay J
   clear J
   have G:=tt hb3
   clear hb3 m0 m3 m4 cf
   go_wp2_with fail
   go_ret
   rw[bd.out,HH.out]
   exact⟨rfl,U,by rw[if_neg (by decide)];exact bq.out.below G.out,fun b hb=>.inl hb,Fp.of_below (Below.then HB.out G.out HB.out.size) _⟩
  have fn:(m.k != 10)=false:=by simp[h1]
  have fm:(m.k==10)=true:=by simp[h1]
  have fl:decide (m.k=10)=true:=tB h1
  have fi:decide (¬m.k=10)=false:=tA (fun hh=>hh h1)
  by_cases h2:m.i=id
  case neg=>
   have e9:(m.i != id)=true:=by simp[h2]
   have e8:(m.i==id)=false:=by simp[h2]
   have e7:decide (m.i=id)=false:=tA h2
   have e6:decide (¬m.i=id)=true:=tB h2
   have A:s.hears id m=false:=by unfold CS.hears;rw[cj.out];simp[h2]
   have HH:Hid (hb=false):=tt (by rw[←cn.out,A])
   clear A
   refine ai (by kernel_rfl) (by kernel_rfl) ?_
   repeat ((with_reducible show wpQuiet _ _ _ _ _ _);first|((with_reducible refine aq ?_ ?_);(·rfl))|go_big_quiet_step ((go_at_call 39;exact ag _ (C.out _)))|quiet_step ((go_at_call 39;exact ag _ (C.out _)))|(refine bt (by simp[Region.wanted,yielded]) (.int .i64 B) (fun W_ _=>by show Sem.run _ (do pure (Next.value (←Instr.field 42 (.agg #[.int .i64 s.last.c,.int .i64 B,.int .i64 s.last.k,.int .i64 s.last.y,.int .i64 s.last.v,.int .i64 s.last.s]) 1))) W_=_;rw[Sem.run_bind,cp.out];rfl) ?_;intro K hK;go_simp;refine hK _ ?_;clear hK K))
   refine wpQuiet_nil ?_
   intro w3 J
   have hb3:=ay J
   clear J
   have G:=tt hb3
   clear hb3 m0 m3 m4 cf
   go_wp2_with fail
   go_ret
   rw[bd.out,HH.out]
   exact⟨rfl,U,by rw[if_neg (by decide)];exact bq.out.below G.out,fun b hb=>.inl hb,Fp.of_below (Below.then HB.out G.out HB.out.size) _⟩
  have e9:(m.i != id)=false:=by simp[h2]
  have e8:(m.i==id)=true:=by simp[h2]
  have e7:decide (m.i=id)=true:=tB h2
  have e6:decide (¬m.i=id)=false:=tA (fun hh=>hh h2)
  by_cases h3:m.q=B
  case neg=>
   have e5:(m.q != B)=true:=by simp[h3]
   have e4:(m.q==B)=false:=by simp[h3]
   have e3:decide (m.q=B)=false:=tA h3
   have e2:decide (¬m.q=B)=true:=tB h3
   have A:s.hears id m=false:=by unfold CS.hears;rw[cj.out];simp[h3]
   have HH:Hid (hb=false):=tt (by rw[←cn.out,A])
   clear A
   refine ai (by kernel_rfl) (by kernel_rfl) ?_
   repeat ((with_reducible show wpQuiet _ _ _ _ _ _);first|((with_reducible refine aq ?_ ?_);(·rfl))|go_big_quiet_step ((go_at_call 39;exact ag _ (C.out _)))|quiet_step ((go_at_call 39;exact ag _ (C.out _)))|(refine bt (by simp[Region.wanted,yielded]) (.int .i64 B) (fun W_ _=>by show Sem.run _ (do pure (Next.value (←Instr.field 42 (.agg #[.int .i64 s.last.c,.int .i64 B,.int .i64 s.last.k,.int .i64 s.last.y,.int .i64 s.last.v,.int .i64 s.last.s]) 1))) W_=_;rw[Sem.run_bind,cp.out];rfl) ?_;intro K hK;go_simp;refine hK _ ?_;clear hK K))
   refine wpQuiet_nil ?_
   intro w3 J
   have hb3:=ay J
   clear J
   have G:=tt hb3
   clear hb3 m0 m3 m4 cf
   go_wp2_with fail
   go_ret
   rw[bd.out,HH.out]
   exact⟨rfl,U,by rw[if_neg (by decide)];exact bq.out.below G.out,fun b hb=>.inl hb,Fp.of_below (Below.then HB.out G.out HB.out.size) _⟩
  have e5:(m.q != B)=false:=by simp[h3]
  have e4:(m.q==B)=true:=by simp[h3]
  have e3:decide (m.q=B)=true:=tB h3
  have e2:decide (¬m.q=B)=false:=tA (fun hh=>hh h3)
  have A:s.hears id m= !(s.ans.any fun a=>a.1==m.f):=by unfold CS.hears;rw[cj.out,tB h1,tB h2,tB h3];rfl
  have HH:Hid (hb= !(s.ans.any fun a=>a.1==m.f)):=tt (by rw[←cn.out,A])
  clear A
  refine ai (by kernel_rfl) (by kernel_rfl) ?_
  repeat ((with_reducible show wpQuiet _ _ _ _ _ _);first|((with_reducible refine aq ?_ ?_);(·rfl))|go_big_quiet_step ((go_at_call 39;exact ag _ (C.out _)))|quiet_step ((go_at_call 39;exact ag _ (C.out _)))|(refine bt (by simp[Region.wanted,yielded]) (.int .i64 B) (fun W_ _=>by show Sem.run _ (do pure (Next.value (←Instr.field 42 (.agg #[.int .i64 s.last.c,.int .i64 B,.int .i64 s.last.k,.int .i64 s.last.y,.int .i64 s.last.v,.int .i64 s.last.s]) 1))) W_=_;rw[Sem.run_bind,cp.out];rfl) ?_;intro K hK;go_simp;refine hK _ ?_;clear hK K))
  refine wpQuiet_nil ?_
  intro w3 J
  have hb3:=ay J
  clear J
  have G:=tt hb3
  clear hb3 m0 m3 m4 cf
  clear h1 fn fm fl fi h2 e9 e8 e7 e6 h3 e5 e4 e3 e2 C
  have cs:=tt (Below.then HB.out G.out HB.out.size)
  have d1:=tt (d0.out.below G.out)
  have d2:=tt (bq.out.below G.out)
  have f4:=tt ((G.out.block j hk).trans bp.out)
  have hR:wc.heap.size≤w3.heap.size:=G.out.size
  obtain⟨n,hn⟩:∃n,s.ans.length=n:=⟨_,rfl⟩
  have dj:w3.cell? ⟨k,21,none⟩=some (.slice Aa n ca):=by rw[←hn];exact am d1.out.row 21 rfl
  have cW:=db d1.out.oa
  have Hn:=tt hn
  rw[hn] at cW hp
  obtain⟨hI,hG⟩:=cW
  clear hn d0 bq bp
  go_wp2_with fail
  clear dj
  go_loopw [8,65] (fun sm ix wr=>∃i:Nat,ix= .int .i64 (i:Int)∧i≤n∧sm= .int .i64 (1+(((s.ans.take i).countP fun a=>a.2==m.r:Nat):Int))∧Hid (((s.ans.take i).any fun a=>a.1==m.f)=false)∧Hid (Below w3.heap.size w3 wr)) (fun _ ix _=>n - (intOf ix).toNat)
  case atStart=>exact⟨0,rfl,Nat.zero_le _,rfl,tt rfl,tt (Below.refl _ _)⟩
  case round=>
   obtain⟨i,rfl,hi,rfl,HA,a3⟩:=hrel
   have eG:((s.ans.take i).countP fun a=>a.2==m.r)≤i:=by
    have h_:=List.countP_le_length (p:=fun a:Int×Int=>a.2==m.r) (l:=s.ans.take i)
    rw[List.length_take] at h_
    omega
   have hM:w3.heap.size≤wr.heap.size:=a3.out.size
   have al:=tt (d1.out.below a3.out)
   have V:=tt ((a3.out.block j (by omega)).trans f4.out)
   obtain⟨P,hct_⟩:∃P,((s.ans.take i).countP fun a=>a.2==m.r)=P:=⟨_,rfl⟩
   rw[hct_] at eG ⊢
   have d6:=tt hct_
   clear hct_
   by_cases hlt:i < n
   ·have hm:decide ((i:Int) < (n:Int))=true:=by simp;omega
    have a6:i < s.ans.length:=by rw[Hn.out];exact hlt
    obtain⟨A',c',e_,_,_,eb⟩:=ao al.out.oa
    obtain⟨b0,rfl,_,hb0,ep⟩:=eb (by omega)
    injection e_ with e1 _ _
    subst e1
    have bN:=bF (f:=av) (k:=2) (fun _=>rfl) ep a6
    rw[Nat.zero_add] at bN
    have af:s.ans.take (i+1)=s.ans.take i++[s.ans[i]]:=List.take_succ_eq_append_getElem a6
    obtain⟨a,ha⟩:∃a,s.ans[i]=a:=⟨_,rfl⟩
    rw[ha] at bN af
    have cA:a∈s.ans:=by rw[←ha];exact List.getElem_mem a6
    obtain⟨a1,a2⟩:=a
    have x0:=bN 0 _ rfl
    have x1:=bN 1 _ rfl
    simp only[Nat.add_zero,iv] at x0 x1
    have ds:=tt af
    have fq:=tt cA
    have k0:(0:Int)≤(i:Int):=by omega
    have k1:(i:Int) < (n:Int):=by omega
    clear eb ep bN ha af cA a6
    go_upto_region 10 with fail
    clear x0 x1
    have F:=ae wr (.cells #[.int .i64 a1,.int .i64 a2] 105)
    have E:=tL wr (.cells #[.int .i64 a1,.int .i64 a2] 105)
    obtain⟨w4,hw4⟩:∃w4,wr.alloc (.cells #[.int .i64 a1,.int .i64 a2] 105)=w4:=⟨_,rfl⟩
    rw[hw4] at F E ⊢
    have q0:w4.cell? ⟨wr.heap.size,0,none⟩=some (.int .i64 a1):=am E 0 rfl
    have q1:w4.cell? ⟨wr.heap.size,1,none⟩=some (.int .i64 a2):=am E 1 rfl
    have c4:=(F.block j (by omega)).trans V.out
    have p1:w4.cell? ⟨j,1,none⟩=some (.int .i64 m.f):=am c4 1 rfl
    have p5:w4.cell? ⟨j,5,none⟩=some (.int .i64 m.r):=am c4 5 rfl
    have cy:=tt (Below.then a3.out F a3.out.size)
    clear hw4 F E c4
    by_cases g1:a1=m.f
    ·have R:(s.ans.any fun a=>a.1==m.f)=true:=by
      rw[List.any_eq_true]
      exact⟨_,fq.out,by simp[g1]⟩
     have g0:=tt R
     have hv:(a1==m.f)=true:=by simp[g1]
     have ht:decide (a1=m.f)=true:=decide_eq_true g1
     have G1:=tt g1
     clear R g1
     go_wp2_with fail
     go_ret
     rw[bd.out,HH.out,g0.out]
     exact⟨rfl,U,by rw[if_neg (by decide)];exact d2.out.below cy.out,fun b hb=>.inl hb,Fp.of_below (Below.then cs.out cy.out cs.out.size) _⟩
    ·have hv:(a1==m.f)=false:=by simp[g1]
     have ht:decide (a1=m.f)=false:=decide_eq_false g1
     have e0:((s.ans.take (i+1)).any fun a=>a.1==m.f)=false:=by rw[ds.out,List.any_append,HA.out];simp[g1]
     have g3:=tt e0
     clear e0
     by_cases g2:a2=m.r
     ·have hs:(a2==m.r)=true:=by simp[g2]
      have hr:decide (a2=m.r)=true:=decide_eq_true g2
      have hcn:((s.ans.take (i+1)).countP fun a=>a.2==m.r)=P+1:=by rw[ds.out,List.countP_append,d6.out];simp[g2]
      have d7:=tt hcn
      have hw1:IntKind.i64.wrap (1+(P:Int)+1)=1+(P:Int)+1:=IntWalk.i64_in _ (by omega)
      have G2:=tt g2
      clear hcn g2
      go_wp2_with fail
      refine⟨⟨i+1,by go_num,by omega,?_,g3,tt cy.out⟩,?_⟩
      ·rw[d7.out];congr 1
      ·simp[intOf];omega
     ·have hs:(a2==m.r)=false:=by simp[g2]
      have hr:decide (a2=m.r)=false:=decide_eq_false g2
      have hcn:((s.ans.take (i+1)).countP fun a=>a.2==m.r)=P:=by rw[ds.out,List.countP_append,d6.out];simp[g2]
      have d7:=tt hcn
      clear hcn
      go_wp2_with fail
      refine⟨⟨i+1,by go_num,by omega,by rw[d7.out],g3,tt cy.out⟩,?_⟩
      simp[intOf];omega
   ·have hin:i=n:=by omega
    subst hin
    have hm:decide ((i:Int) < (i:Int))=false:=by simp
    have af:s.ans.take i=s.ans:=List.take_of_length_le (by rw[Hn.out];exact tJ _)
    have R:=HA.out
    rw[af] at R
    have b5:=d6.out
    rw[af] at b5
    have ck:Hid (hb=true):=tt (by rw[HH.out,R];rfl)
    have en:s.same m.r=1+(P:Int):=by unfold CS.same;rw[b5]
    have f2:=tt en
    have hj:=(tz V.out).1
    have he:k < wr.heap.size:=by omega
    have hV:j≠k:=by omega
    have hL:w.heap.size≤wr.heap.size:=by omega
    clear af R b5 en
    go_upto_region 15 with fail
    have g8:=aT (w:=wr.drew) (T:=fun b=>b≠k∧b≠j) (show wr.drew.cell? ⟨k,21,none⟩=some (.slice Aa i ca) by rw[←Hn.out];exact am al.out.row 21 rfl) (fun hh=>hh.1 rfl)
    have l1:=aT (w:=wr.drew) (T:=fun b=>b≠k∧b≠j) (show wr.drew.cell? ⟨j,1,none⟩=some (.int .i64 m.f) from am V.out 1 rfl) (fun hh=>hh.2 rfl)
    have l5:=aT (w:=wr.drew) (T:=fun b=>b≠k∧b≠j) (show wr.drew.cell? ⟨j,5,none⟩=some (.int .i64 m.r) from am V.out 5 rfl) (fun hh=>hh.2 rfl)
    have N:Hid (wr.drew.ownsRow 0 105 2 (.slice Aa i ca) i (s.ans.flatMap av)):=tt (by have h_:=al.out.oa;rw[Hn.out] at h_;exact h_)
    have O:=tt (aC N.out (show wr.drew.heap[k]? =_ from al.out.row) (by decide))
    have aa:=tt (aC N.out (show wr.drew.heap[j]? =_ from V.out) (by decide))
    refine aU (fun b=>b≠k∧b≠j) [(true,0),(true,1),(true,2),(true,3),(true,4),(true,5),(true,6),(true,7),(true,8),(true,9),(false,10),(false,11)] (by kernel_rfl) (by kernel_rfl) ?_
    simp only[phS,tu,tx,Option.toList,tC,tD,Nat.reduceAdd,tE,List.drop_zero]
    repeat (first|go_big_quiet_step (fail)|quiet_step (fail)|refine wpQuiet_nil ?_)
    clear g8 l1 l5
    go_wp2_with fail
    refine And.intro ⟨⟨_,(Fp.refl _ wr.drew).alloc _⟩,rfl⟩ ?_
    go_wp2_with (at_builtin;refine aW ansE rfl _ _ rfl 0 (.slice Aa i ca) i (s.ans.flatMap av) rfl N.out _ rfl rfl (by simp[Value.oneCell']) (by omega) (by decide) (Nat.zero_le _) ?_;intro v5 w5 bQ es _ em;have a9:=tt bQ;have d4:=tt es;have f1:=tt em;clear bQ es em;obtain⟨A5,c5,rfl,_,_,_⟩:=ao a9.out)
    refine And.intro ⟨⟨w5,(Fp.refl _ wr.drew).grown d4.out (fun b hb=>Or.inl ⟨O.out b hb,aa.out b hb⟩)⟩,rfl⟩ ?_
    have ad:Hid (Fp (fun b=>(Value.slice Aa i ca).ownBlock=some b) wr w5):=tt (((Fp.refl _ wr).drew).grown d4.out (fun b hb=>Or.inl hb))
    have Y:=(ad.out.block k he (fun hh=>O.out k hh rfl)).trans al.out.row
    have f6:=tt Y
    have dj:w5.cell? ⟨k,21,none⟩=some (.slice Aa i ca):=by rw[←Hn.out];exact am Y 21 rfl
    have g5:=frozen_of_row _ _ 21 _ _ Y
    have hQ:wr.heap.size≤w5.heap.size:=ad.out.size
    clear Y
    go_upto_region 16 with fail
    clear dj g5
    have ho:=al.out
    have bb:wr.ownsRow 0 105 2 (.slice Aa i ca) i (s.ans.flatMap av):=N.out
    have c2:∀b,(Value.slice Aa i ca).ownBlock=some b→U b:=fun b hb=>by have h_:=ho.ua b;rw[Hn.out] at h_;exact h_ hb
    have Z:=(ad.out.block ct (ho.lt ct ho.uct) (fun hh=>aC bb ho.clk (by decide) ct hh rfl)).trans ho.clk
    have da:=dh (W:=w5) (U:=fun b=>U b∨(wr.heap.size≤b∧b < w5.heap.size)) (k:=k) (ct:=ct) (g:=g) (c:=c) (id:=id) (j:=21) (u:=.slice A5 (i+1) c5) (s':={s with ans:=s.ans++[(m.f,m.r)]}) (va':=.slice A5 (i+1) c5) f6.out rfl Z (.inl ho.uk) (.inl ho.uct) (fun b hb=>by rcases hb with hb|hb;(have:=dc.out b hb;omega);exact hb.2)
     (ar ho.oi fun b hb=>ad.out.block b (ho.oi.lt b hb).2 (bC ho.oi bb (by decide) b hb)) (by show w5.ownsRow _ _ _ _ (s.ans++[_]).length ((s.ans++[_]).flatMap av);rw[tH,List.flatMap_append,Hn.out];simpa [av,iv] using a9.out) (ar ho.oc fun b hb=>ad.out.block b (ho.oc.lt b hb).2 (bC ho.oc bb (by decide) b hb)) ho.om
     (ho.oo.keep fun b hb hlt c6=>⟨ad.out.block b hlt (by rcases c6 with h1|⟨x,hx,h1⟩;exact bC ho.oo.own bb (by decide) b h1;exact bC (ho.oo.ok x hx).1 bb (by decide) b h1),.inl hb⟩) (fun b hb=>.inl (ho.ui b hb)) (fun b hb=>by
       rcases f1.out with h1|h1
       ·rw[h1] at hb;exact .inl (c2 b hb)
       ·have h2:=(a9.out.lt b hb).2
        rw[h1] at hb;injection hb with hb
        have hY:wr.heap.size+1=b:=hb
        right;omega) (fun b hb=>.inl (ho.uc b hb))
    have b6:Fp (fun b=>U b) wr (w5.setCell ⟨k,21,none⟩ (.slice A5 (i+1) c5)):=(ad.out.mono fun b _ hb=>c2 b hb).setCell (p:=⟨k,21,none⟩) (Or.inl ho.uk) _
    obtain⟨w6,hw6⟩:∃w6,w5.setCell ⟨k,21,none⟩ (.slice A5 (i+1) c5)=w6:=⟨_,rfl⟩
    have hc:w6.heap.size=w5.heap.size:=by rw[←hw6];simp
    have hC:w5.heap.size≤w6.heap.size:=by omega
    have hD:w6.heap.size≤w5.heap.size:=by omega
    rw[hw6] at da b6 ⊢
    have b9:=tt da
    have d5:=tt b6
    have cZ:=tt ((b6.block j hj (fun hu=>by have:=dc.out j hu;omega)).trans V.out)
    have c1:=tt (Below.then cs.out a3.out cs.out.size)
    have a4:=d2.out.sep
    have cz:=(d2.out.nt.below a3.out).fp b6 a4.1 a4.2
    have c0:=tt cz
    have S:=tt a4
    have hW:=HN.out.nt.lt
    clear hw6 hc ho bb c2 Z da b6 cz a4 a9 d4 f1 ad f6 N O aa al
    have f0:w6.cell? ⟨k,0,none⟩=some (.int .i64 c.f):=am b9.out.row 0 rfl
    by_cases ec:Psp.dE c.f≤1+(P:Int)
    case neg=>
     have hd:decide (1+(P:Int)≥Psp.dE c.f)=false:=tA ec
     go_wp2_with (go_at_call 40;refine (iU _ _).mono ?_;rintro e w' ⟨rfl,rfl⟩)
     clear f0
     go_ret
     refine⟨by rw[ck.out];rfl,(fun b=>U b∨(wr.heap.size≤b∧b < w5.heap.size)),?_,fun b hb=>?_,((Fp.of_below c1.out (fun b=>U b)).trans d5.out fun b hb=>.inl hb).mono fun b _ hb=>.inl hb⟩
     ·rw[bd.out,ck.out,if_pos rfl]
      unfold CS.heard
      rw[f2.out,if_neg (by omega)]
      exact⟨c0.out,b9.out.clm,fun hh=>by rcases hh with hh|hh;exact S.out.1 hh;omega,fun hh=>by rcases hh with hh|hh;exact S.out.2 hh;omega⟩
     ·rcases hb with hb|hb
      ·exact .inl hb
      ·right;omega
    have hd:decide (1+(P:Int)≥Psp.dE c.f)=true:=tB ec
    go_upto_region 17 with (go_at_call 40;refine (iU _ _).mono ?_;rintro e w' ⟨rfl,rfl⟩)
    clear f0
    have g7:=aT (w:=w6.drew) (T:=fun b=>b≠k∧b≠j) (show w6.drew.cell? ⟨k,22,none⟩=some (.slice Ac s.acc.length cc) from am b9.out.row 22 rfl) (fun hh=>hh.1 rfl)
    have l5:=aT (w:=w6.drew) (T:=fun b=>b≠k∧b≠j) (show w6.drew.cell? ⟨j,5,none⟩=some (.int .i64 m.r) from am cZ.out 5 rfl) (fun hh=>hh.2 rfl)
    refine aU (fun b=>b≠k∧b≠j) [(true,0),(true,1),(true,2),(true,3),(true,4),(true,5),(true,7),(true,8),(false,6),(true,9),(false,10),(false,11)] (by kernel_rfl) (by kernel_rfl) ?_
    simp only[phS,tu,tx,Option.toList,tC,tD,Nat.reduceAdd,tE,List.drop_zero]
    repeat (first|go_big_quiet_step (fail)|quiet_step (fail)|refine wpQuiet_nil ?_)
    clear g7 l5
    go_wp2_with fail
    have b4:Below w6.heap.size w6 w6.drew:=(Below.refl _ _).drew
    refine (j6 _ k ct g c id {s with ans:=s.ans++[(m.f,m.r)]} w6.drew (b9.out.clm.below b4) hl hlen).mono ?_
    rintro e w7 ⟨rfl,c7⟩
    have a7:Below w6.heap.size w6 w7:=b4.trans c7
    have F7:=tt (Fp.of_below c7 (fun b=>b≠k∧b≠j))
    have bc:=tt (b9.out.below a7)
    have cb:=tt a7
    have hP:w6.heap.size≤w7.heap.size:=a7.size
    obtain⟨lr,hlr⟩:∃lr,s.last=lr:=⟨_,rfl⟩
    have cQ:({s with ans:=s.ans++[(m.f,m.r)]}:CS).last=lr:=hlr
    rw[cQ]
    have hB:=tt hlr
    clear c7 a7 b4 hlr cQ
    go_wp2_with fail
    refine And.intro ⟨⟨w7,F7.out⟩,rfl⟩ ?_
    repeat (first|go_big_quiet_step (fail)|quiet_step (fail)|refine wpQuiet_nil ?_)
    go_wp2_with fail
    refine And.intro ⟨⟨_,F7.out.alloc _⟩,rfl⟩ ?_
    have N:Hid (w7.ownsRow 0 61 7 (.slice Ac s.acc.length cc) s.acc.length (s.acc.flatMap ev)):=tt bc.out.oc
    have O:=tt (aC N.out bc.out.row (by decide))
    have f3:=tt ((cb.out.block j (by have:=d5.out.size;omega)).trans cZ.out)
    have aa:=tt (aC N.out f3.out (by decide))
    go_wp2_with (at_builtin;refine aW qN rfl _ _ rfl 0 (.slice Ac s.acc.length cc) s.acc.length (s.acc.flatMap ev) rfl N.out _ rfl rfl (by simp[Value.oneCell']) (by omega) (by decide) (Nat.zero_le _) ?_;intro v8 w8 bO er _ el;have a8:=tt bO;have d3:=tt er;have fv:=tt el;clear bO er el;obtain⟨A8,c8,rfl,_,_,_⟩:=ao a8.out)
    refine And.intro ⟨⟨w8,F7.out.grown d3.out (fun b hb=>Or.inl ⟨O.out b hb,aa.out b hb⟩)⟩,rfl⟩ ?_
    have ac:Hid (Fp (fun b=>(Value.slice Ac s.acc.length cc).ownBlock=some b) w7 w8):=tt ((Fp.refl _ w7).grown d3.out (fun b hb=>Or.inl hb))
    have hg:k < w7.heap.size:=by omega
    have X:=(ac.out.block k hg (fun hh=>O.out k hh rfl)).trans bc.out.row
    have f5:=tt X
    have hy:w8.cell? ⟨k,22,none⟩=some (.slice Ac s.acc.length cc):=am X 22 rfl
    have g4:=frozen_of_row _ _ 22 _ _ X
    have hO:w7.heap.size≤w8.heap.size:=ac.out.size
    clear X
    go_upto_region 18 with fail
    clear hy g4
    have ho:=bc.out
    have M:w7.ownsRow 0 61 7 (.slice Ac s.acc.length cc) s.acc.length (s.acc.flatMap ev):=N.out
    have Z:=(ac.out.block ct (ho.lt ct ho.uct) (fun hh=>aC M ho.clk (by decide) ct hh rfl)).trans ho.clk
    have c9:=dh (W:=w8) (U:=fun b=>U b∨(wr.heap.size≤b∧b < w8.heap.size)) (k:=k) (ct:=ct) (g:=g) (c:=c) (id:=id) (j:=22) (u:=.slice A8 (s.acc.length+1) c8) (s':={s with ans:=s.ans++[(m.f,m.r)],acc:=s.acc++[(lr,m.r)]}) (vc':=.slice A8 (s.acc.length+1) c8) f5.out rfl Z (.inl (by rcases ho.uk with h_|h_;exact h_;(exfalso;omega))) (by rcases ho.uct with h_|h_;exact .inl h_;exact .inr ⟨h_.1,by omega⟩) (fun b hb=>by rcases hb with hb|hb;(have:=dc.out b hb;omega);exact hb.2)
     (ar ho.oi fun b hb=>ac.out.block b (ho.oi.lt b hb).2 (bC ho.oi M (by decide) b hb)) (ar ho.oa fun b hb=>ac.out.block b (ho.oa.lt b hb).2 (bC ho.oa M (by decide) b hb)) (by show w8.ownsRow _ _ _ _ (s.acc++[_]).length ((s.acc++[_]).flatMap ev);rw[tH,List.flatMap_append];simpa [ev,iv] using a8.out) ho.om
     (ho.oo.keep fun b hb hlt c6=>⟨ac.out.block b hlt (by rcases c6 with h1|⟨x,hx,h1⟩;exact bC ho.oo.own M (by decide) b h1;exact bC (ho.oo.ok x hx).1 M (by decide) b h1),by rcases hb with h_|h_;exact .inl h_;exact .inr ⟨h_.1,by omega⟩⟩) (fun b hb=>by rcases ho.ui b hb with h_|h_;exact .inl h_;exact .inr ⟨h_.1,by omega⟩) (fun b hb=>by rcases ho.ua b hb with h_|h_;exact .inl h_;exact .inr ⟨h_.1,by omega⟩) (fun b hb=>by
       rcases fv.out with h1|h1
       ·rw[h1] at hb
        rcases ho.uc b hb with h_|h_
        ·exact .inl h_
        ·exact .inr ⟨h_.1,by omega⟩
       ·have h2:=(a8.out.lt b hb).2
        rw[h1] at hb;injection hb with hb
        right;omega)
    have di:Fp (fun b=>U b∨wr.heap.size≤b) w7 (w8.setCell ⟨k,22,none⟩ (.slice A8 (s.acc.length+1) c8)):=(ac.out.mono fun b _ hb=>by rcases ho.uc b hb with h_|h_;exact .inl h_;exact .inr h_.1).setCell (p:=⟨k,22,none⟩) (Or.inl (by rcases ho.uk with h_|h_;exact .inl h_;exact .inr h_.1)) _
    obtain⟨w9,hw9⟩:∃w9,w8.setCell ⟨k,22,none⟩ (.slice A8 (s.acc.length+1) c8)=w9:=⟨_,rfl⟩
    rw[hw9] at c9 di ⊢
    have dO:=tt c9
    have gg:=tt di
    clear hw9 ho M Z c9 di a8 d3 fv ac f5 N O aa
    have dr:w9.cell? ⟨k,18,none⟩=some (.bool s.waits):=am dO.out.row 18 rfl
    have g6:=frozen_of_row _ _ 18 _ _ dO.out.row
    go_wp2_with fail
    clear dr g6
    go_ret
    have x1:=dO.out
    have x2:=dh (j:=18) (u:=.bool false) (s':={s with ans:=s.ans++[(m.f,m.r)],acc:=s.acc++[(lr,m.r)],waits:=false}) x1.row rfl x1.clk x1.uk x1.uct x1.lt x1.oi x1.oa x1.oc x1.om x1.oo x1.ui x1.ua x1.uc
    have hq:Fp (fun b=>U b∨wr.heap.size≤b) w (w9.setCell ⟨k,18,none⟩ (.bool false)):=((((Fp.of_below c1.out (fun b=>U b∨wr.heap.size≤b)).trans d5.out fun b hb=>.inl (.inl hb)).trans (Fp.of_below cb.out (fun b=>U b∨wr.heap.size≤b)) fun b hb=>.inl hb).trans gg.out fun b hb=>.inl hb).setCell (p:=⟨k,18,none⟩) (Or.inl (by rcases bc.out.uk with h_|h_;exact .inl h_;exact .inr h_.1)) _
    have eX:Fp (fun b=>U b∨wr.heap.size≤b) w6 (w9.setCell ⟨k,18,none⟩ (.bool false)):=((Fp.of_below cb.out (fun b=>U b∨wr.heap.size≤b)).trans gg.out fun b hb=>.inl hb).setCell (p:=⟨k,18,none⟩) (Or.inl (by rcases bc.out.uk with h_|h_;exact .inl h_;exact .inr h_.1)) _
    refine⟨by rw[ck.out];rfl,(fun b=>U b∨(wr.heap.size≤b∧b < w8.heap.size)),?_,fun b hb=>?_,hq.mono fun b hlt hb=>?_⟩
    ·rw[bd.out,ck.out,if_pos rfl]
     unfold CS.heard
     rw[f2.out,if_pos (by omega),hB.out]
     exact⟨c0.out.fp eX (fun hh=>by rcases hh with hh|hh;exact S.out.1 hh;omega) (fun hh=>by rcases hh with hh|hh;exact S.out.2 hh;omega),x2.clm,fun hh=>by rcases hh with hh|hh;exact S.out.1 hh;omega,fun hh=>by rcases hh with hh|hh;exact S.out.2 hh;omega⟩
    ·rcases hb with hb|hb
     ·exact .inl hb
     ·right;omega
    ·rcases hb with hb|hb
     ·exact .inl hb
     ·exfalso;omega
end Go.Proofs.YtipmjleohadoeaaGreat
end
