import Derived.Test.YtipmjleohadoeaaGreatJ7Py
import Derived.Deep.RegionHeld3
import Derived.Test.YtipmjleohadoeaaGreatJ6Py
import Derived.Test.YtipmjleohadoeaaGreatGfPy
import Derived.Test.YtipmjleohadoeaaGreatJ5Py
import Derived.Test.YtipmjleohadoeaaGreatJ2Py
import Derived.ChangeSame
import Derived.Test.YtipmjleohadoeaaGreatJ1Py
import Derived.Test.YtipmjleohadoeaaGreatGgPy
set_option maxRecDepth 100000
set_option maxHeartbeats 16000000
set_option linter.unusedVariables false
set_option linter.unusedSimpArgs false
section
namespace Go.Proofs.YtipmjleohadoeaaGreat
open Go.RowKit
theorem sr (m:Psp.Msg) (vb vo vc vp:Value) (f cl:Int) (w:World) (P:Nat→Prop) (hx:MsgOk w P ⟨m,vb,vo,vc,vp⟩) (hw:cr m) (hf:Psp.may f=true) (hk:m.k=4):
 Calls Tryz.prog 61 #[.agg #[.int .i64 m.k,.int .i64 m.f,.int .i64 m.v,.int .i64 m.i,.int .i64 m.q,.int .i64 m.r,vb,vo,vc,vp],.int .i64 f,.int .i64 cl] w fun e w'=>e= .returned (.bool (Psp.aF m f cl))∧Below w.heap.size w w':=by
 obtain⟨Ab,Ao,Ac,Ap,cb,co,cc,cp,rfl,rfl,rfl,rfl⟩:=aG hx
 have HX:=tt hx
 have Hw:=tt hw
 obtain⟨q,hq⟩:∃q,Psp.aO f=q:=⟨_,rfl⟩
 have y:(q==0)=false:=by rw[←hq,bl,hf];rfl
 have l:=bg f
 rw[hq] at l
 have t:=tt l
 obtain⟨nb,hnb⟩:∃x,Psp.bB m.f f=x:=⟨_,rfl⟩
 have n:Hid (∀w':World,Calls Tryz.prog 90 #[.agg #[.int .i64 f,.int .i64 cl],.int .i64 m.f] w' fun e w''=>e= .returned (.bool nb)∧Below w'.heap.size w' w''):=tt fun w'=>by rw[←hnb];exact cC _ _ _ w'
 have t1:(m.k==1)=false:=by rw[hk];rfl
 have t2:(m.k==2)=false:=by rw[hk];rfl
 have t3:(m.k==3)=false:=by rw[hk];rfl
 have t4:(m.k==4)=true:=by rw[hk];rfl
 have t5:(m.k==5)=false:=by rw[hk];rfl
 have t6:(m.k==6)=false:=by rw[hk];rfl
 have t7:(m.k==7)=false:=by rw[hk];rfl
 have t8:(m.k==8)=false:=by rw[hk];rfl
 have t9:(m.k==9)=false:=by rw[hk];rfl
 have u:(m.k==10)=false:=by rw[hk];rfl
 obtain⟨b0,hb0⟩:∃x,(m.r==0)=x:=⟨_,rfl⟩
 have hz:(m.r==0)=b0:=hb0
 obtain⟨b1,hb1⟩:∃x,Psp.bZ m true false false false=x:=⟨_,rfl⟩
 have j:Hid (∀w':World,Calls Tryz.prog 88 #[.agg #[.int .i64 m.k,.int .i64 m.f,.int .i64 m.v,.int .i64 m.i,.int .i64 m.q,.int .i64 m.r,.slice Ab m.b.length cb,.slice Ao m.o.length co,.slice Ac m.c.length cc,.slice Ap m.p.length cp],.bool true,.bool false,.bool false,.bool false] w' fun e w''=>e= .returned (.bool b1)∧Below w'.heap.size w' w''):=tt fun w'=>by rw[←hb1];exact eH _ _ _ _ _ _ _ _ _ _ _ _ _ _ _ _ _ _ _ _ _ _ w'
 obtain⟨b2,hb2⟩:∃x,Psp.cH m.v m.i m.q f=x:=⟨_,rfl⟩
 have d:Hid (∀w':World,Calls Tryz.prog 91 #[.agg #[.int .i64 f,.int .i64 cl],.int .i64 m.v,.int .i64 m.i,.int .i64 m.q] w' fun e w''=>e= .returned (.bool b2)∧Below w'.heap.size w' w''):=tt fun w'=>by rw[←hb2];exact fx _ _ _ _ _ w'
 obtain⟨b3,hb3⟩:∃x,Psp.bn m.b cl 0 4=x:=⟨_,rfl⟩
 have g:Hid (∀w':World,Hid (Fb w w' m (.slice Ab m.b.length cb) (.slice Ao m.o.length co) (.slice Ac m.c.length cc) (.slice Ap m.p.length cp) f cl)→Calls Tryz.prog 89 #[.agg #[.int .i64 f,.int .i64 cl],.slice Ab m.b.length cb,.int .i64 0,.int .i64 4] w' fun e w''=>e= .returned (.bool b3)∧Below w'.heap.size w' w''):=tt fun w' h=>by rw[←hb3];exact fD m.b m.b.length _ f cl 0 4 w' P (HX.out.1.keeps' (Keeps.below h.out.be)) rfl
 have Hr:Hid (Psp.aF m f cl=(nb&&(b0&&(b1&&(b2&&(b3)))))):=tt (by unfold Psp.aF;rw[hf,hk,hnb];simp only[Int.reduceEq,if_false,if_true,or_false,or_true,Bool.true_and,false_or];rw[hb0,hb1,hb2,hb3])
 clear hq l hnb hx hw hb0 hb1 hb2 hb3 hk hf
 have s:=cE w m (.slice Ab m.b.length cb) (.slice Ao m.o.length co) (.slice Ac m.c.length cc) (.slice Ap m.p.length cp) f cl
 obtain⟨HF,c0,c1,c2,c3,c4,c5,c6,c7,c8,c9,c10,c11⟩:=aD s (Below.refl _ _)
 go_enter Tryz.func61,Tryz.ntmps61
 go_wp2_with (first|(go_at_call 58;refine (t.out _).mono ?_;rintro e w' ⟨rfl,rfl⟩))
 refine (n.out _).mono ?_
 rintro e w2 ⟨rfl,a⟩
 obtain⟨HF,c0,c1,c2,c3,c4,c5,c6,c7,c8,c9,c10,c11⟩:=aD HF a
 clear a s
 cases nb with
 |false=>
  go_wp2_with fail
  go_ret
  exact⟨by rw[Hr.out];rfl,HF.out.be⟩
 |true=>
  cases b0 with
  |false=>
   go_wp2_with (first|(go_at_call 88;refine (j.out _).mono ?_;rintro e w' ⟨rfl,a⟩;obtain⟨HF,c0,c1,c2,c3,c4,c5,c6,c7,c8,c9,c10,c11⟩:=aD HF a;clear a)|(go_at_call 91;refine (d.out _).mono ?_;rintro e w' ⟨rfl,a⟩;obtain⟨HF,c0,c1,c2,c3,c4,c5,c6,c7,c8,c9,c10,c11⟩:=aD HF a;clear a)|(go_at_call 89;refine (g.out _ HF).mono ?_;rintro e w' ⟨rfl,a⟩;obtain⟨HF,c0,c1,c2,c3,c4,c5,c6,c7,c8,c9,c10,c11⟩:=aD HF a;clear a))
   go_ret
   exact⟨by rw[Hr.out];rfl,by first|exact HF.out.be|exact ak HF.out.be _⟩
  |true=>
   cases b1 with
   |false=>
    go_wp2_with (first|(go_at_call 88;refine (j.out _).mono ?_;rintro e w' ⟨rfl,a⟩;obtain⟨HF,c0,c1,c2,c3,c4,c5,c6,c7,c8,c9,c10,c11⟩:=aD HF a;clear a)|(go_at_call 91;refine (d.out _).mono ?_;rintro e w' ⟨rfl,a⟩;obtain⟨HF,c0,c1,c2,c3,c4,c5,c6,c7,c8,c9,c10,c11⟩:=aD HF a;clear a)|(go_at_call 89;refine (g.out _ HF).mono ?_;rintro e w' ⟨rfl,a⟩;obtain⟨HF,c0,c1,c2,c3,c4,c5,c6,c7,c8,c9,c10,c11⟩:=aD HF a;clear a))
    go_ret
    exact⟨by rw[Hr.out];rfl,by first|exact HF.out.be|exact ak HF.out.be _⟩
   |true=>
    cases b2 with
    |false=>
     go_wp2_with (first|(go_at_call 88;refine (j.out _).mono ?_;rintro e w' ⟨rfl,a⟩;obtain⟨HF,c0,c1,c2,c3,c4,c5,c6,c7,c8,c9,c10,c11⟩:=aD HF a;clear a)|(go_at_call 91;refine (d.out _).mono ?_;rintro e w' ⟨rfl,a⟩;obtain⟨HF,c0,c1,c2,c3,c4,c5,c6,c7,c8,c9,c10,c11⟩:=aD HF a;clear a)|(go_at_call 89;refine (g.out _ HF).mono ?_;rintro e w' ⟨rfl,a⟩;obtain⟨HF,c0,c1,c2,c3,c4,c5,c6,c7,c8,c9,c10,c11⟩:=aD HF a;clear a))
     go_ret
     exact⟨by rw[Hr.out];rfl,by first|exact HF.out.be|exact ak HF.out.be _⟩
    |true=>
     go_wp2_with (first|(go_at_call 88;refine (j.out _).mono ?_;rintro e w' ⟨rfl,a⟩;obtain⟨HF,c0,c1,c2,c3,c4,c5,c6,c7,c8,c9,c10,c11⟩:=aD HF a;clear a)|(go_at_call 91;refine (d.out _).mono ?_;rintro e w' ⟨rfl,a⟩;obtain⟨HF,c0,c1,c2,c3,c4,c5,c6,c7,c8,c9,c10,c11⟩:=aD HF a;clear a)|(go_at_call 89;refine (g.out _ HF).mono ?_;rintro e w' ⟨rfl,a⟩;obtain⟨HF,c0,c1,c2,c3,c4,c5,c6,c7,c8,c9,c10,c11⟩:=aD HF a;clear a))
     go_ret
     exact⟨by rw[Hr.out];rfl,by first|exact HF.out.be|exact ak HF.out.be _⟩
theorem sq (m:Psp.Msg) (vb vo vc vp:Value) (f cl:Int) (w:World) (P:Nat→Prop) (hx:MsgOk w P ⟨m,vb,vo,vc,vp⟩) (hw:cr m) (hf:Psp.may f=true) (hk:m.k=5):
 Calls Tryz.prog 61 #[.agg #[.int .i64 m.k,.int .i64 m.f,.int .i64 m.v,.int .i64 m.i,.int .i64 m.q,.int .i64 m.r,vb,vo,vc,vp],.int .i64 f,.int .i64 cl] w fun e w'=>e= .returned (.bool (Psp.aF m f cl))∧Below w.heap.size w w':=by
 obtain⟨Ab,Ao,Ac,Ap,cb,co,cc,cp,rfl,rfl,rfl,rfl⟩:=aG hx
 have HX:=tt hx
 have Hw:=tt hw
 obtain⟨q,hq⟩:∃q,Psp.aO f=q:=⟨_,rfl⟩
 have y:(q==0)=false:=by rw[←hq,bl,hf];rfl
 have l:=bg f
 rw[hq] at l
 have t:=tt l
 obtain⟨nb,hnb⟩:∃x,Psp.bB m.f f=x:=⟨_,rfl⟩
 have n:Hid (∀w':World,Calls Tryz.prog 90 #[.agg #[.int .i64 f,.int .i64 cl],.int .i64 m.f] w' fun e w''=>e= .returned (.bool nb)∧Below w'.heap.size w' w''):=tt fun w'=>by rw[←hnb];exact cC _ _ _ w'
 have t1:(m.k==1)=false:=by rw[hk];rfl
 have t2:(m.k==2)=false:=by rw[hk];rfl
 have t3:(m.k==3)=false:=by rw[hk];rfl
 have t4:(m.k==4)=false:=by rw[hk];rfl
 have t5:(m.k==5)=true:=by rw[hk];rfl
 have t6:(m.k==6)=false:=by rw[hk];rfl
 have t7:(m.k==7)=false:=by rw[hk];rfl
 have t8:(m.k==8)=false:=by rw[hk];rfl
 have t9:(m.k==9)=false:=by rw[hk];rfl
 have u:(m.k==10)=false:=by rw[hk];rfl
 obtain⟨b0,hb0⟩:∃x,(m.r==0)=x:=⟨_,rfl⟩
 have hz:(m.r==0)=b0:=hb0
 obtain⟨b1,hb1⟩:∃x,Psp.bZ m true false false false=x:=⟨_,rfl⟩
 have j:Hid (∀w':World,Calls Tryz.prog 88 #[.agg #[.int .i64 m.k,.int .i64 m.f,.int .i64 m.v,.int .i64 m.i,.int .i64 m.q,.int .i64 m.r,.slice Ab m.b.length cb,.slice Ao m.o.length co,.slice Ac m.c.length cc,.slice Ap m.p.length cp],.bool true,.bool false,.bool false,.bool false] w' fun e w''=>e= .returned (.bool b1)∧Below w'.heap.size w' w''):=tt fun w'=>by rw[←hb1];exact eH _ _ _ _ _ _ _ _ _ _ _ _ _ _ _ _ _ _ _ _ _ _ w'
 obtain⟨b2,hb2⟩:∃x,Psp.cH m.v m.i m.q f=x:=⟨_,rfl⟩
 have d:Hid (∀w':World,Calls Tryz.prog 91 #[.agg #[.int .i64 f,.int .i64 cl],.int .i64 m.v,.int .i64 m.i,.int .i64 m.q] w' fun e w''=>e= .returned (.bool b2)∧Below w'.heap.size w' w''):=tt fun w'=>by rw[←hb2];exact fx _ _ _ _ _ w'
 obtain⟨b3,hb3⟩:∃x,Psp.bn m.b cl 0 4=x:=⟨_,rfl⟩
 have g:Hid (∀w':World,Hid (Fb w w' m (.slice Ab m.b.length cb) (.slice Ao m.o.length co) (.slice Ac m.c.length cc) (.slice Ap m.p.length cp) f cl)→Calls Tryz.prog 89 #[.agg #[.int .i64 f,.int .i64 cl],.slice Ab m.b.length cb,.int .i64 0,.int .i64 4] w' fun e w''=>e= .returned (.bool b3)∧Below w'.heap.size w' w''):=tt fun w' h=>by rw[←hb3];exact fD m.b m.b.length _ f cl 0 4 w' P (HX.out.1.keeps' (Keeps.below h.out.be)) rfl
 have Hr:Hid (Psp.aF m f cl=(nb&&(b0&&(b1&&(b2&&(b3)))))):=tt (by unfold Psp.aF;rw[hf,hk,hnb];simp only[Int.reduceEq,if_false,if_true,or_false,or_true,Bool.true_and,false_or];rw[hb0,hb1,hb2,hb3])
 clear hq l hnb hx hw hb0 hb1 hb2 hb3 hk hf
 have s:=cE w m (.slice Ab m.b.length cb) (.slice Ao m.o.length co) (.slice Ac m.c.length cc) (.slice Ap m.p.length cp) f cl
 obtain⟨HF,c0,c1,c2,c3,c4,c5,c6,c7,c8,c9,c10,c11⟩:=aD s (Below.refl _ _)
 go_enter Tryz.func61,Tryz.ntmps61
 go_wp2_with (first|(go_at_call 58;refine (t.out _).mono ?_;rintro e w' ⟨rfl,rfl⟩))
 refine (n.out _).mono ?_
 rintro e w2 ⟨rfl,a⟩
 obtain⟨HF,c0,c1,c2,c3,c4,c5,c6,c7,c8,c9,c10,c11⟩:=aD HF a
 clear a s
 cases nb with
 |false=>
  go_wp2_with fail
  go_ret
  exact⟨by rw[Hr.out];rfl,HF.out.be⟩
 |true=>
  cases b0 with
  |false=>
   go_wp2_with (first|(go_at_call 88;refine (j.out _).mono ?_;rintro e w' ⟨rfl,a⟩;obtain⟨HF,c0,c1,c2,c3,c4,c5,c6,c7,c8,c9,c10,c11⟩:=aD HF a;clear a)|(go_at_call 91;refine (d.out _).mono ?_;rintro e w' ⟨rfl,a⟩;obtain⟨HF,c0,c1,c2,c3,c4,c5,c6,c7,c8,c9,c10,c11⟩:=aD HF a;clear a)|(go_at_call 89;refine (g.out _ HF).mono ?_;rintro e w' ⟨rfl,a⟩;obtain⟨HF,c0,c1,c2,c3,c4,c5,c6,c7,c8,c9,c10,c11⟩:=aD HF a;clear a))
   go_ret
   exact⟨by rw[Hr.out];rfl,by first|exact HF.out.be|exact ak HF.out.be _⟩
  |true=>
   cases b1 with
   |false=>
    go_wp2_with (first|(go_at_call 88;refine (j.out _).mono ?_;rintro e w' ⟨rfl,a⟩;obtain⟨HF,c0,c1,c2,c3,c4,c5,c6,c7,c8,c9,c10,c11⟩:=aD HF a;clear a)|(go_at_call 91;refine (d.out _).mono ?_;rintro e w' ⟨rfl,a⟩;obtain⟨HF,c0,c1,c2,c3,c4,c5,c6,c7,c8,c9,c10,c11⟩:=aD HF a;clear a)|(go_at_call 89;refine (g.out _ HF).mono ?_;rintro e w' ⟨rfl,a⟩;obtain⟨HF,c0,c1,c2,c3,c4,c5,c6,c7,c8,c9,c10,c11⟩:=aD HF a;clear a))
    go_ret
    exact⟨by rw[Hr.out];rfl,by first|exact HF.out.be|exact ak HF.out.be _⟩
   |true=>
    cases b2 with
    |false=>
     go_wp2_with (first|(go_at_call 88;refine (j.out _).mono ?_;rintro e w' ⟨rfl,a⟩;obtain⟨HF,c0,c1,c2,c3,c4,c5,c6,c7,c8,c9,c10,c11⟩:=aD HF a;clear a)|(go_at_call 91;refine (d.out _).mono ?_;rintro e w' ⟨rfl,a⟩;obtain⟨HF,c0,c1,c2,c3,c4,c5,c6,c7,c8,c9,c10,c11⟩:=aD HF a;clear a)|(go_at_call 89;refine (g.out _ HF).mono ?_;rintro e w' ⟨rfl,a⟩;obtain⟨HF,c0,c1,c2,c3,c4,c5,c6,c7,c8,c9,c10,c11⟩:=aD HF a;clear a))
     go_ret
     exact⟨by rw[Hr.out];rfl,by first|exact HF.out.be|exact ak HF.out.be _⟩
    |true=>
     go_wp2_with (first|(go_at_call 88;refine (j.out _).mono ?_;rintro e w' ⟨rfl,a⟩;obtain⟨HF,c0,c1,c2,c3,c4,c5,c6,c7,c8,c9,c10,c11⟩:=aD HF a;clear a)|(go_at_call 91;refine (d.out _).mono ?_;rintro e w' ⟨rfl,a⟩;obtain⟨HF,c0,c1,c2,c3,c4,c5,c6,c7,c8,c9,c10,c11⟩:=aD HF a;clear a)|(go_at_call 89;refine (g.out _ HF).mono ?_;rintro e w' ⟨rfl,a⟩;obtain⟨HF,c0,c1,c2,c3,c4,c5,c6,c7,c8,c9,c10,c11⟩:=aD HF a;clear a))
     go_ret
     exact⟨by rw[Hr.out];rfl,by first|exact HF.out.be|exact ak HF.out.be _⟩
theorem sp (m:Psp.Msg) (vb vo vc vp:Value) (f cl:Int) (w:World) (P:Nat→Prop) (hx:MsgOk w P ⟨m,vb,vo,vc,vp⟩) (hw:cr m) (hf:Psp.may f=true) (hk:m.k=6):
 Calls Tryz.prog 61 #[.agg #[.int .i64 m.k,.int .i64 m.f,.int .i64 m.v,.int .i64 m.i,.int .i64 m.q,.int .i64 m.r,vb,vo,vc,vp],.int .i64 f,.int .i64 cl] w fun e w'=>e= .returned (.bool (Psp.aF m f cl))∧Below w.heap.size w w':=by
 obtain⟨Ab,Ao,Ac,Ap,cb,co,cc,cp,rfl,rfl,rfl,rfl⟩:=aG hx
 have HX:=tt hx
 have Hw:=tt hw
 obtain⟨q,hq⟩:∃q,Psp.aO f=q:=⟨_,rfl⟩
 have u:(q==0)=false:=by rw[←hq,bl,hf];rfl
 have d:=bg f
 rw[hq] at d
 have s:=tt d
 obtain⟨nb,hnb⟩:∃x,Psp.bB m.f f=x:=⟨_,rfl⟩
 have j:Hid (∀w':World,Calls Tryz.prog 90 #[.agg #[.int .i64 f,.int .i64 cl],.int .i64 m.f] w' fun e w''=>e= .returned (.bool nb)∧Below w'.heap.size w' w''):=tt fun w'=>by rw[←hnb];exact cC _ _ _ w'
 have t1:(m.k==1)=false:=by rw[hk];rfl
 have t2:(m.k==2)=false:=by rw[hk];rfl
 have t3:(m.k==3)=false:=by rw[hk];rfl
 have t4:(m.k==4)=false:=by rw[hk];rfl
 have t5:(m.k==5)=false:=by rw[hk];rfl
 have t6:(m.k==6)=true:=by rw[hk];rfl
 have t7:(m.k==7)=false:=by rw[hk];rfl
 have t8:(m.k==8)=false:=by rw[hk];rfl
 have t9:(m.k==9)=false:=by rw[hk];rfl
 have t:(m.k==10)=false:=by rw[hk];rfl
 obtain⟨b0,hb0⟩:∃x,Psp.noB [m.i,m.q,m.r]=x:=⟨_,rfl⟩
 have g:Hid (∀(w':World) (b:Nat),Lies w' b 0 ([m.i,m.q,m.r].map iv)→Calls Tryz.prog 87 #[.slice (some ⟨b,0,none⟩) 3 3] w' fun e w''=>e= .returned (.bool b0)∧w'=w''):=tt fun w' b hl=>by rw[←hb0];exact fz [m.i,m.q,m.r] b 3 w' rfl hl (by omega)
 obtain⟨b1,hb1⟩:∃x,Psp.bZ m false false false false=x:=⟨_,rfl⟩
 have h:Hid (∀w':World,Calls Tryz.prog 88 #[.agg #[.int .i64 m.k,.int .i64 m.f,.int .i64 m.v,.int .i64 m.i,.int .i64 m.q,.int .i64 m.r,.slice Ab m.b.length cb,.slice Ao m.o.length co,.slice Ac m.c.length cc,.slice Ap m.p.length cp],.bool false,.bool false,.bool false,.bool false] w' fun e w''=>e= .returned (.bool b1)∧Below w'.heap.size w' w''):=tt fun w'=>by rw[←hb1];exact eH _ _ _ _ _ _ _ _ _ _ _ _ _ _ _ _ _ _ _ _ _ _ w'
 obtain⟨b2,hb2⟩:∃x,Psp.win m.v 0 11=x:=⟨_,rfl⟩
 have n:Psp.win m.v 0 11=b2:=hb2
 have Hr:Hid (Psp.aF m f cl=(nb&&(b0&&(b1&&(b2))))):=tt (by unfold Psp.aF;rw[hf,hk,hnb];simp only[Int.reduceEq,if_false,if_true,or_false,or_true,Bool.true_and,false_or];rw[hb0,hb1,hb2])
 clear hq d hnb hx hw hb0 hb1 hb2 hk hf
 have l:=cE w m (.slice Ab m.b.length cb) (.slice Ao m.o.length co) (.slice Ac m.c.length cc) (.slice Ap m.p.length cp) f cl
 obtain⟨HF,c0,c1,c2,c3,c4,c5,c6,c7,c8,c9,c10,c11⟩:=aD l (Below.refl _ _)
 go_enter Tryz.func61,Tryz.ntmps61
 go_wp2_with (first|(go_at_call 58;refine (s.out _).mono ?_;rintro e w' ⟨rfl,rfl⟩))
 refine (j.out _).mono ?_
 rintro e w2 ⟨rfl,a⟩
 obtain⟨HF,c0,c1,c2,c3,c4,c5,c6,c7,c8,c9,c10,c11⟩:=aD HF a
 clear a l
 cases nb with
 |false=>
  go_wp2_with fail
  go_ret
  exact⟨by rw[Hr.out];rfl,HF.out.be⟩
 |true=>
  cases b0 with
  |false=>
   go_wp2_with (first|(go_at_call 87;refine (g.out _ _ (aJ _ [.int .i64 m.i,.int .i64 m.q,.int .i64 m.r] _ _ (by simp))).mono ?_;rintro e w' ⟨rfl,rfl⟩;obtain⟨HF,c0,c1,c2,c3,c4,c5,c6,c7,c8,c9,c10,c11⟩:=aD HF (ae _ (.cells #[.int .i64 m.i,.int .i64 m.q,.int .i64 m.r] 3)))|(go_at_call 88;refine (h.out _).mono ?_;rintro e w' ⟨rfl,a⟩;obtain⟨HF,c0,c1,c2,c3,c4,c5,c6,c7,c8,c9,c10,c11⟩:=aD HF a;clear a)|(go_at_call 93;refine (br _ _ _ _).mono ?_;rintro e w' ⟨rfl,rfl⟩))
   go_ret
   exact⟨by rw[Hr.out];rfl,by first|exact HF.out.be|exact ak HF.out.be _⟩
  |true=>
   cases b1 with
   |false=>
    go_wp2_with (first|(go_at_call 87;refine (g.out _ _ (aJ _ [.int .i64 m.i,.int .i64 m.q,.int .i64 m.r] _ _ (by simp))).mono ?_;rintro e w' ⟨rfl,rfl⟩;obtain⟨HF,c0,c1,c2,c3,c4,c5,c6,c7,c8,c9,c10,c11⟩:=aD HF (ae _ (.cells #[.int .i64 m.i,.int .i64 m.q,.int .i64 m.r] 3)))|(go_at_call 88;refine (h.out _).mono ?_;rintro e w' ⟨rfl,a⟩;obtain⟨HF,c0,c1,c2,c3,c4,c5,c6,c7,c8,c9,c10,c11⟩:=aD HF a;clear a)|(go_at_call 93;refine (br _ _ _ _).mono ?_;rintro e w' ⟨rfl,rfl⟩))
    go_ret
    exact⟨by rw[Hr.out];rfl,by first|exact HF.out.be|exact ak HF.out.be _⟩
   |true=>
    go_wp2_with (first|(go_at_call 87;refine (g.out _ _ (aJ _ [.int .i64 m.i,.int .i64 m.q,.int .i64 m.r] _ _ (by simp))).mono ?_;rintro e w' ⟨rfl,rfl⟩;obtain⟨HF,c0,c1,c2,c3,c4,c5,c6,c7,c8,c9,c10,c11⟩:=aD HF (ae _ (.cells #[.int .i64 m.i,.int .i64 m.q,.int .i64 m.r] 3)))|(go_at_call 88;refine (h.out _).mono ?_;rintro e w' ⟨rfl,a⟩;obtain⟨HF,c0,c1,c2,c3,c4,c5,c6,c7,c8,c9,c10,c11⟩:=aD HF a;clear a)|(go_at_call 93;refine (br _ _ _ _).mono ?_;rintro e w' ⟨rfl,rfl⟩))
    go_ret
    exact⟨by rw[Hr.out];rfl,by first|exact HF.out.be|exact ak HF.out.be _⟩
theorem so (m:Psp.Msg) (vb vo vc vp:Value) (f cl:Int) (w:World) (P:Nat→Prop) (hx:MsgOk w P ⟨m,vb,vo,vc,vp⟩) (hw:cr m) (hf:Psp.may f=true) (hk:m.k=7):
 Calls Tryz.prog 61 #[.agg #[.int .i64 m.k,.int .i64 m.f,.int .i64 m.v,.int .i64 m.i,.int .i64 m.q,.int .i64 m.r,vb,vo,vc,vp],.int .i64 f,.int .i64 cl] w fun e w'=>e= .returned (.bool (Psp.aF m f cl))∧Below w.heap.size w w':=by
 obtain⟨Ab,Ao,Ac,Ap,cb,co,cc,cp,rfl,rfl,rfl,rfl⟩:=aG hx
 have HX:=tt hx
 have Hw:=tt hw
 obtain⟨q,hq⟩:∃q,Psp.aO f=q:=⟨_,rfl⟩
 have y:(q==0)=false:=by rw[←hq,bl,hf];rfl
 have d:=bg f
 rw[hq] at d
 have t:=tt d
 obtain⟨nb,hnb⟩:∃x,Psp.bB m.f f=x:=⟨_,rfl⟩
 have n:Hid (∀w':World,Calls Tryz.prog 90 #[.agg #[.int .i64 f,.int .i64 cl],.int .i64 m.f] w' fun e w''=>e= .returned (.bool nb)∧Below w'.heap.size w' w''):=tt fun w'=>by rw[←hnb];exact cC _ _ _ w'
 have t1:(m.k==1)=false:=by rw[hk];rfl
 have t2:(m.k==2)=false:=by rw[hk];rfl
 have t3:(m.k==3)=false:=by rw[hk];rfl
 have t4:(m.k==4)=false:=by rw[hk];rfl
 have t5:(m.k==5)=false:=by rw[hk];rfl
 have t6:(m.k==6)=false:=by rw[hk];rfl
 have t7:(m.k==7)=true:=by rw[hk];rfl
 have t8:(m.k==8)=false:=by rw[hk];rfl
 have t9:(m.k==9)=false:=by rw[hk];rfl
 have u:(m.k==10)=false:=by rw[hk];rfl
 obtain⟨b0,hb0⟩:∃x,Psp.noB [m.i,m.q,m.r]=x:=⟨_,rfl⟩
 have g:Hid (∀(w':World) (b:Nat),Lies w' b 0 ([m.i,m.q,m.r].map iv)→Calls Tryz.prog 87 #[.slice (some ⟨b,0,none⟩) 3 3] w' fun e w''=>e= .returned (.bool b0)∧w'=w''):=tt fun w' b hl=>by rw[←hb0];exact fz [m.i,m.q,m.r] b 3 w' rfl hl (by omega)
 obtain⟨b1,hb1⟩:∃x,Psp.bZ m false true true false=x:=⟨_,rfl⟩
 have l:Hid (∀w':World,Calls Tryz.prog 88 #[.agg #[.int .i64 m.k,.int .i64 m.f,.int .i64 m.v,.int .i64 m.i,.int .i64 m.q,.int .i64 m.r,.slice Ab m.b.length cb,.slice Ao m.o.length co,.slice Ac m.c.length cc,.slice Ap m.p.length cp],.bool false,.bool true,.bool true,.bool false] w' fun e w''=>e= .returned (.bool b1)∧Below w'.heap.size w' w''):=tt fun w'=>by rw[←hb1];exact eH _ _ _ _ _ _ _ _ _ _ _ _ _ _ _ _ _ _ _ _ _ _ w'
 obtain⟨b2,hb2⟩:∃x,Psp.cx m.v m.o m.c f cl=x:=⟨_,rfl⟩
 have j:Hid (∀w':World,Hid (Fb w w' m (.slice Ab m.b.length cb) (.slice Ao m.o.length co) (.slice Ac m.c.length cc) (.slice Ap m.p.length cp) f cl)→Calls Tryz.prog 94 #[.agg #[.int .i64 f,.int .i64 cl],.int .i64 m.v,.slice Ao m.o.length co,.slice Ac m.c.length cc] w' fun e w''=>e= .returned (.bool b2)∧Below w'.heap.size w' w''):=tt fun w' h=>by rw[←hb2];exact kN m.v m.o m.c _ _ f cl w' P (HX.out.2.1.keeps' (Keeps.below h.out.be)) (HX.out.2.2.1.keeps (Keeps.below h.out.be)) Hw.out.2.2.2.2.2.2.2.1 Hw.out.2.2.2.2.2.2.2.2.1
 have Hr:Hid (Psp.aF m f cl=(nb&&(b0&&(b1&&(b2))))):=tt (by unfold Psp.aF;rw[hf,hk,hnb];simp only[Int.reduceEq,if_false,if_true,or_false,or_true,Bool.true_and,false_or];rw[hb0,hb1,hb2])
 clear hq d hnb hx hw hb0 hb1 hb2 hk hf
 have s:=cE w m (.slice Ab m.b.length cb) (.slice Ao m.o.length co) (.slice Ac m.c.length cc) (.slice Ap m.p.length cp) f cl
 obtain⟨HF,c0,c1,c2,c3,c4,c5,c6,c7,c8,c9,c10,c11⟩:=aD s (Below.refl _ _)
 go_enter Tryz.func61,Tryz.ntmps61
 go_wp2_with (first|(go_at_call 58;refine (t.out _).mono ?_;rintro e w' ⟨rfl,rfl⟩))
 refine (n.out _).mono ?_
 rintro e w2 ⟨rfl,a⟩
 obtain⟨HF,c0,c1,c2,c3,c4,c5,c6,c7,c8,c9,c10,c11⟩:=aD HF a
 clear a s
 cases nb with
 |false=>
  go_wp2_with fail
  go_ret
  exact⟨by rw[Hr.out];rfl,HF.out.be⟩
 |true=>
  cases b0 with
  |false=>
   go_wp2_with (first|(go_at_call 87;refine (g.out _ _ (aJ _ [.int .i64 m.i,.int .i64 m.q,.int .i64 m.r] _ _ (by simp))).mono ?_;rintro e w' ⟨rfl,rfl⟩;obtain⟨HF,c0,c1,c2,c3,c4,c5,c6,c7,c8,c9,c10,c11⟩:=aD HF (ae _ (.cells #[.int .i64 m.i,.int .i64 m.q,.int .i64 m.r] 3)))|(go_at_call 88;refine (l.out _).mono ?_;rintro e w' ⟨rfl,a⟩;obtain⟨HF,c0,c1,c2,c3,c4,c5,c6,c7,c8,c9,c10,c11⟩:=aD HF a;clear a)|(go_at_call 94;refine (j.out _ HF).mono ?_;rintro e w' ⟨rfl,a⟩;obtain⟨HF,c0,c1,c2,c3,c4,c5,c6,c7,c8,c9,c10,c11⟩:=aD HF a;clear a))
   go_ret
   exact⟨by rw[Hr.out];rfl,by first|exact HF.out.be|exact ak HF.out.be _⟩
  |true=>
   cases b1 with
   |false=>
    go_wp2_with (first|(go_at_call 87;refine (g.out _ _ (aJ _ [.int .i64 m.i,.int .i64 m.q,.int .i64 m.r] _ _ (by simp))).mono ?_;rintro e w' ⟨rfl,rfl⟩;obtain⟨HF,c0,c1,c2,c3,c4,c5,c6,c7,c8,c9,c10,c11⟩:=aD HF (ae _ (.cells #[.int .i64 m.i,.int .i64 m.q,.int .i64 m.r] 3)))|(go_at_call 88;refine (l.out _).mono ?_;rintro e w' ⟨rfl,a⟩;obtain⟨HF,c0,c1,c2,c3,c4,c5,c6,c7,c8,c9,c10,c11⟩:=aD HF a;clear a)|(go_at_call 94;refine (j.out _ HF).mono ?_;rintro e w' ⟨rfl,a⟩;obtain⟨HF,c0,c1,c2,c3,c4,c5,c6,c7,c8,c9,c10,c11⟩:=aD HF a;clear a))
    go_ret
    exact⟨by rw[Hr.out];rfl,by first|exact HF.out.be|exact ak HF.out.be _⟩
   |true=>
    go_wp2_with (first|(go_at_call 87;refine (g.out _ _ (aJ _ [.int .i64 m.i,.int .i64 m.q,.int .i64 m.r] _ _ (by simp))).mono ?_;rintro e w' ⟨rfl,rfl⟩;obtain⟨HF,c0,c1,c2,c3,c4,c5,c6,c7,c8,c9,c10,c11⟩:=aD HF (ae _ (.cells #[.int .i64 m.i,.int .i64 m.q,.int .i64 m.r] 3)))|(go_at_call 88;refine (l.out _).mono ?_;rintro e w' ⟨rfl,a⟩;obtain⟨HF,c0,c1,c2,c3,c4,c5,c6,c7,c8,c9,c10,c11⟩:=aD HF a;clear a)|(go_at_call 94;refine (j.out _ HF).mono ?_;rintro e w' ⟨rfl,a⟩;obtain⟨HF,c0,c1,c2,c3,c4,c5,c6,c7,c8,c9,c10,c11⟩:=aD HF a;clear a))
    go_ret
    exact⟨by rw[Hr.out];rfl,by first|exact HF.out.be|exact ak HF.out.be _⟩
theorem mq (m:Psp.Msg) (vb vo vc vp:Value) (f cl:Int) (w:World) (P:Nat→Prop) (hx:MsgOk w P ⟨m,vb,vo,vc,vp⟩) (hw:cr m) (hf:Psp.may f=true) (hk:m.k=10) (hcl: -9223372036854775808 < cl) (u:cl≤9223372036854775807):
 Calls Tryz.prog 61 #[.agg #[.int .i64 m.k,.int .i64 m.f,.int .i64 m.v,.int .i64 m.i,.int .i64 m.q,.int .i64 m.r,vb,vo,vc,vp],.int .i64 f,.int .i64 cl] w fun e w'=>e= .returned (.bool (Psp.aF m f cl))∧Below w.heap.size w w':=by
 obtain⟨Ab,Ao,Ac,Ap,cb,co,cc,cp,rfl,rfl,rfl,rfl⟩:=aG hx
 have HX:=tt hx
 have Hw:=tt hw
 obtain⟨q,hq⟩:∃q,Psp.aO f=q:=⟨_,rfl⟩
 have z:(q==0)=false:=by rw[←hq,bl,hf];rfl
 have g:=bg f
 rw[hq] at g
 have t:=tt g
 obtain⟨nb,hnb⟩:∃x,Psp.bB m.f f=x:=⟨_,rfl⟩
 have h:Hid (∀w':World,Calls Tryz.prog 90 #[.agg #[.int .i64 f,.int .i64 cl],.int .i64 m.f] w' fun e w''=>e= .returned (.bool nb)∧Below w'.heap.size w' w''):=tt fun w'=>by rw[←hnb];exact cC _ _ _ w'
 have t1:(m.k==1)=false:=by rw[hk];rfl
 have t2:(m.k==2)=false:=by rw[hk];rfl
 have t3:(m.k==3)=false:=by rw[hk];rfl
 have t4:(m.k==4)=false:=by rw[hk];rfl
 have t5:(m.k==5)=false:=by rw[hk];rfl
 have t6:(m.k==6)=false:=by rw[hk];rfl
 have t7:(m.k==7)=false:=by rw[hk];rfl
 have t8:(m.k==8)=false:=by rw[hk];rfl
 have t9:(m.k==9)=false:=by rw[hk];rfl
 have y:(m.k==10)=true:=by rw[hk];rfl
 obtain⟨b0,hb0⟩:∃x,(m.v==0)=x:=⟨_,rfl⟩
 have hz:(m.v==0)=b0:=hb0
 obtain⟨b1,hb1⟩:∃x,Psp.bZ m false false false false=x:=⟨_,rfl⟩
 have d:Hid (∀w':World,Calls Tryz.prog 88 #[.agg #[.int .i64 m.k,.int .i64 m.f,.int .i64 m.v,.int .i64 m.i,.int .i64 m.q,.int .i64 m.r,.slice Ab m.b.length cb,.slice Ao m.o.length co,.slice Ac m.c.length cc,.slice Ap m.p.length cp],.bool false,.bool false,.bool false,.bool false] w' fun e w''=>e= .returned (.bool b1)∧Below w'.heap.size w' w''):=tt fun w'=>by rw[←hb1];exact eH _ _ _ _ _ _ _ _ _ _ _ _ _ _ _ _ _ _ _ _ _ _ w'
 obtain⟨b2,hb2⟩:∃x,Psp.win m.i 0 (cl - 1)=x:=⟨_,rfl⟩
 have s:Psp.win m.i 0 (cl - 1)=b2:=hb2
 obtain⟨b3,hb3⟩:∃x,Psp.win m.q 1 1048576=x:=⟨_,rfl⟩
 have n:Psp.win m.q 1 1048576=b3:=hb3
 obtain⟨b4,hb4⟩:∃x,Psp.win m.r (-549755813887) 549755813887=x:=⟨_,rfl⟩
 have l:Psp.win m.r (-549755813887) 549755813887=b4:=hb4
 have Hr:Hid (Psp.aF m f cl=(nb&&(b0&&(b1&&(b2&&(b3&&(b4))))))):=tt (by unfold Psp.aF;rw[hf,hk,hnb];simp only[Int.reduceEq,if_false,if_true,or_false,or_true,Bool.true_and,false_or];rw[hb0,hb1,hb2,hb3,hb4])
 clear hq g hnb hx hw hb0 hb1 hb2 hb3 hb4 hk hf
 have j:=cE w m (.slice Ab m.b.length cb) (.slice Ao m.o.length co) (.slice Ac m.c.length cc) (.slice Ap m.p.length cp) f cl
 obtain⟨HF,c0,c1,c2,c3,c4,c5,c6,c7,c8,c9,c10,c11⟩:=aD j (Below.refl _ _)
 go_enter Tryz.func61,Tryz.ntmps61
 go_wp2_with (first|(go_at_call 58;refine (t.out _).mono ?_;rintro e w' ⟨rfl,rfl⟩))
 refine (h.out _).mono ?_
 rintro e w2 ⟨rfl,a⟩
 obtain⟨HF,c0,c1,c2,c3,c4,c5,c6,c7,c8,c9,c10,c11⟩:=aD HF a
 clear a j
 cases nb with
 |false=>
  go_wp2_with fail
  go_ret
  exact⟨by rw[Hr.out];rfl,HF.out.be⟩
 |true=>
  cases b0 with
  |false=>
   go_wp2_with (first|(go_at_call 88;refine (d.out _).mono ?_;rintro e w' ⟨rfl,a⟩;obtain⟨HF,c0,c1,c2,c3,c4,c5,c6,c7,c8,c9,c10,c11⟩:=aD HF a;clear a)|(go_at_call 93;refine (br _ _ _ _).mono ?_;rintro e w' ⟨rfl,rfl⟩))
   go_ret
   exact⟨by rw[Hr.out];rfl,by first|exact HF.out.be|exact ak HF.out.be _⟩
  |true=>
   cases b1 with
   |false=>
    go_wp2_with (first|(go_at_call 88;refine (d.out _).mono ?_;rintro e w' ⟨rfl,a⟩;obtain⟨HF,c0,c1,c2,c3,c4,c5,c6,c7,c8,c9,c10,c11⟩:=aD HF a;clear a)|(go_at_call 93;refine (br _ _ _ _).mono ?_;rintro e w' ⟨rfl,rfl⟩))
    go_ret
    exact⟨by rw[Hr.out];rfl,by first|exact HF.out.be|exact ak HF.out.be _⟩
   |true=>
    cases b2 with
    |false=>
     go_wp2_with (first|(go_at_call 88;refine (d.out _).mono ?_;rintro e w' ⟨rfl,a⟩;obtain⟨HF,c0,c1,c2,c3,c4,c5,c6,c7,c8,c9,c10,c11⟩:=aD HF a;clear a)|(go_at_call 93;refine (br _ _ _ _).mono ?_;rintro e w' ⟨rfl,rfl⟩))
     go_ret
     exact⟨by rw[Hr.out];rfl,by first|exact HF.out.be|exact ak HF.out.be _⟩
    |true=>
     cases b3 with
     |false=>
      go_wp2_with (first|(go_at_call 88;refine (d.out _).mono ?_;rintro e w' ⟨rfl,a⟩;obtain⟨HF,c0,c1,c2,c3,c4,c5,c6,c7,c8,c9,c10,c11⟩:=aD HF a;clear a)|(go_at_call 93;refine (br _ _ _ _).mono ?_;rintro e w' ⟨rfl,rfl⟩))
      go_ret
      exact⟨by rw[Hr.out];rfl,by first|exact HF.out.be|exact ak HF.out.be _⟩
     |true=>
      go_wp2_with (first|(go_at_call 88;refine (d.out _).mono ?_;rintro e w' ⟨rfl,a⟩;obtain⟨HF,c0,c1,c2,c3,c4,c5,c6,c7,c8,c9,c10,c11⟩:=aD HF a;clear a)|(go_at_call 93;refine (br _ _ _ _).mono ?_;rintro e w' ⟨rfl,rfl⟩))
      go_ret
      exact⟨by rw[Hr.out];rfl,by first|exact HF.out.be|exact ak HF.out.be _⟩
theorem qI (m:Psp.Msg) (vb vo vc vp:Value) (f cl:Int) (w:World) (P:Nat→Prop) (hx:MsgOk w P ⟨m,vb,vo,vc,vp⟩) (hw:cr m) (hf:Psp.may f=true) (hk:∀j:Int,1≤j→j≤10→m.k≠j):
 Calls Tryz.prog 61 #[.agg #[.int .i64 m.k,.int .i64 m.f,.int .i64 m.v,.int .i64 m.i,.int .i64 m.q,.int .i64 m.r,vb,vo,vc,vp],.int .i64 f,.int .i64 cl] w fun e w'=>e= .returned (.bool (Psp.aF m f cl))∧Below w.heap.size w w':=by
 obtain⟨Ab,Ao,Ac,Ap,cb,co,cc,cp,rfl,rfl,rfl,rfl⟩:=aG hx
 have HX:=tt hx
 have Hw:=tt hw
 obtain⟨q,hq⟩:∃q,Psp.aO f=q:=⟨_,rfl⟩
 have s:(q==0)=false:=by rw[←hq,bl,hf];rfl
 have a:=bg f
 rw[hq] at a
 have l:=tt a
 obtain⟨nb,hnb⟩:∃x,Psp.bB m.f f=x:=⟨_,rfl⟩
 have g:Hid (∀w':World,Calls Tryz.prog 90 #[.agg #[.int .i64 f,.int .i64 cl],.int .i64 m.f] w' fun e w''=>e= .returned (.bool nb)∧Below w'.heap.size w' w''):=tt fun w'=>by rw[←hnb];exact cC _ _ _ w'
 have t1:(m.k==1)=false:=beq_eq_false_iff_ne.2 (hk 1 (by omega) (by omega))
 have t2:(m.k==2)=false:=beq_eq_false_iff_ne.2 (hk 2 (by omega) (by omega))
 have t3:(m.k==3)=false:=beq_eq_false_iff_ne.2 (hk 3 (by omega) (by omega))
 have t4:(m.k==4)=false:=beq_eq_false_iff_ne.2 (hk 4 (by omega) (by omega))
 have t5:(m.k==5)=false:=beq_eq_false_iff_ne.2 (hk 5 (by omega) (by omega))
 have t6:(m.k==6)=false:=beq_eq_false_iff_ne.2 (hk 6 (by omega) (by omega))
 have t7:(m.k==7)=false:=beq_eq_false_iff_ne.2 (hk 7 (by omega) (by omega))
 have t8:(m.k==8)=false:=beq_eq_false_iff_ne.2 (hk 8 (by omega) (by omega))
 have t9:(m.k==9)=false:=beq_eq_false_iff_ne.2 (hk 9 (by omega) (by omega))
 have n:(m.k==10)=false:=beq_eq_false_iff_ne.2 (hk 10 (by omega) (by omega))
 have Hr:Hid (Psp.aF m f cl=(nb&&false)):=tt (by unfold Psp.aF;rw[hf,hnb];simp only[hk 1 (by omega) (by omega),hk 2 (by omega) (by omega),hk 3 (by omega) (by omega),hk 4 (by omega) (by omega),hk 5 (by omega) (by omega),hk 6 (by omega) (by omega),hk 7 (by omega) (by omega),hk 8 (by omega) (by omega),hk 9 (by omega) (by omega),hk 10 (by omega) (by omega),if_false,or_self,Bool.true_and])
 clear hq a hnb hx hw hk hf
 have h:=cE w m (.slice Ab m.b.length cb) (.slice Ao m.o.length co) (.slice Ac m.c.length cc) (.slice Ap m.p.length cp) f cl
 obtain⟨HF,c0,c1,c2,c3,c4,c5,c6,c7,c8,c9,c10,c11⟩:=aD h (Below.refl _ _)
 go_enter Tryz.func61,Tryz.ntmps61
 go_wp2_with (first|(go_at_call 58;refine (l.out _).mono ?_;rintro e w' ⟨rfl,rfl⟩))
 refine (g.out _).mono ?_
 rintro e w2 ⟨rfl,d⟩
 obtain⟨HF,c0,c1,c2,c3,c4,c5,c6,c7,c8,c9,c10,c11⟩:=aD HF d
 clear d h
 cases nb with
 |false=>
  go_wp2_with fail
  go_ret
  exact⟨by rw[Hr.out];rfl,HF.out.be⟩
 |true=>
  go_wp2_with fail
  go_ret
  exact⟨by rw[Hr.out];rfl,by first|exact HF.out.be|exact ak HF.out.be _⟩
theorem ns {m:Psp.Msg} {s f cl:Int} {K:List Key} (h:Psp.okB m=true) (hs:okE s (Psp.bu m)=true):
 bW (Psp.aK s++Psp.bu m) f cl K=if (Psp.aF m f cl&&gH K (kM m) s)=true then some (m,s) else none:=by
 unfold okE at hs
 rw[tI,decide_eq_true_eq] at hs
 rw[fQ (by rw[tH];exact hs.2),codec_N.back hs.1]
 simp only[Option.bind_some,Int.toNat_natCast,List.drop_left,Psp.iC h]
 rfl
theorem nk {m:Psp.Msg} {s f cl:Int} (h:Psp.okB m=true) (hs:Psp.okN s=true) (hF:eV f cl m):
 ∀n a m',dN (Psp.aK s++Psp.bu m) 0=some (n,a)→Psp.aY ((Psp.aK s++Psp.bu m).drop a.toNat)=some m'→eV f cl m':=by
 intro n a m' h1 h2
 rw[codec_N.back hs] at h1
 injection h1 with h1
 injection h1 with h1 h3
 subst h3
 rw[Int.toNat_natCast,List.drop_left,Psp.iC h] at h2
 injection h2 with h2
 subst h2
 exact hF
end Go.Proofs.YtipmjleohadoeaaGreat
end
section
namespace Psp
open Go.Proofs.YtipmjleohadoeaaGreat (dN)
theorem dx {α γ:Type} {d:Dec α} {b:List UInt8} {o:Option Int} {x:α} (h:Is d b o x) (f:α×Int→Option γ):(o.bind fun a=>(d b a).bind f)=(nxt d b o).bind fun a'=>f (x,a'):=by
 cases o with
 |none=>rfl
 |some a=>
  unfold nxt
  cases hd:d b a with
  |none=>simp[hd]
  |some p=>
   have:=h p (by simp[hd])
   subst this
   simp[hd]
theorem sB {b:List UInt8} {n0 n1 n2 n3 n4 n5:Int} {l6:List Req} {l7:List Vote} {l8:List Cert} {l9:List Part} {o0 o1 o2 o3 o4 o5 o6 o7 o8 o9 o10:Option Int} (e0:o0=some 0)
 (h0:Is dN b o0 n0) (e1:o1=nxt dN b o0) (h1:Is dN b o1 n1) (e2:o2=nxt dN b o1) (h2:Is dN b o2 n2) (e3:o3=nxt dN b o2) (h3:Is dN b o3 n3) (e4:o4=nxt dN b o3) (h4:Is dN b o4 n4) (e5:o5=nxt dN b o4) (h5:Is dS b o5 n5) (e6:o6=nxt dS b o5)
 (h6:Is (dL dR) b o6 l6) (e7:o7=nxt (dL dR) b o6) (h7:Is (dL dV) b o7 l7) (e8:o8=nxt (dL dV) b o7) (h8:Is (dL dC) b o8 l8) (e9:o9=nxt (dL dC) b o8) (h9:Is (dL dP) b o9 l9) (c:o10=nxt (dL dP) b o9):
 dM b 0=o10.bind fun a=>some (⟨n0,n1,n2,n3,n4,n5,l6,l7,l8,l9⟩,a):=by
 have h:dM b 0=o0.bind fun a=>dM b a:=by rw[e0];rfl
 rw[h]
 unfold dM
 simp only[Option.map_eq_bind]
 rw[dx h0,←e1];dsimp only
 rw[dx h1,←e2];dsimp only
 rw[dx h2,←e3];dsimp only
 rw[dx h3,←e4];dsimp only
 rw[dx h4,←e5];dsimp only
 rw[dx h5,←e6];dsimp only
 rw[dx h6,←e7];dsimp only
 rw[dx h7,←e8];dsimp only
 rw[dx h8,←e9];dsimp only
 rw[dx h9,←c]
 rfl
theorem nf {b:List UInt8} {m:Msg} {o:Option Int} (h:dM b 0=o.bind fun a=>some (m,a)):aY b=o.bind fun a=>if a=(b.length:Int)∧b.length≤65536 then some m else none:=by
 unfold aY
 rw[h]
 cases o <;> rfl
end Psp
namespace Go.Proofs.YtipmjleohadoeaaGreat
open Go.RowKit
structure Er (w0 W:World) (cs:Array Value) (x:Value) (o:Option Int):Prop where
 vr:W.heap[w0.heap.size+1+1]? =some (.cells cs 56 (0,0))
 rr:W.heap[w0.heap.size]? =some (.cells zs 56 (0,0))
 rs:Rs 193 W (w0.heap.size+1) x o
 be:Below w0.heap.size w0 W
theorem Er.lt {w0 W:World} {cs:Array Value} {x:Value} {o:Option Int} (h:Er w0 W cs x o):w0.heap.size+1+1 < W.heap.size:=(tz h.vr).1
theorem Er.new (w0:World) (x:Value):Er w0 (((w0.alloc (.cells zs 56)).alloc (.cells #[x,.int .i64 0,.bool false] 193)).alloc (.cells zs 56)) zs x (some 0):=by
 refine⟨?_,?_,?_,((ae w0 _).trans ((ae _ _).mono (by simp))).trans ((ae _ _).mono (by simp;omega))⟩
 ·have:=tL ((w0.alloc (.cells zs 56)).alloc (.cells #[x,.int .i64 0,.bool false] 193)) (.cells zs 56)
  simpa using this
 ·rw[(ae _ _).block _ (by simp;omega),(ae _ _).block _ (by simp)];exact tL w0 _
 ·refine Rs.keep (w:=(w0.alloc (.cells zs 56)).alloc (.cells #[x,.int .i64 0,.bool false] 193)) ?_ ((ae _ _).block _ (by simp))
  have:=Rs.new (w:=w0.alloc (.cells zs 56)) 193 x (a:=0) ⟨by omega,by omega⟩
  simpa using this
theorem Er.call {w0 W W':World} {cs:Array Value} {x:Value} {o o':Option Int} (h:Er w0 W cs x o) (hr:Rs 193 W' (w0.heap.size+1) x o') (hf:Fp (fun k=>k=w0.heap.size+1) W W'):Er w0 W' cs x o':=by
 have:=h.lt
 exact⟨(hf.block _ (by omega) (by omega)).trans h.vr,(hf.block _ (by omega) (by omega)).trans h.rr,hr,h.be.trans (hf.to_below (by omega) fun k _ hk=>by omega)⟩
theorem Er.store {w0 W:World} {cs cs':Array Value} {x:Value} {o:Option Int} (h:Er w0 W cs x o) (i:Nat) (v:Value) (hc:cs.setIfInBounds i v=cs'):Er w0 (W.setCell ⟨w0.heap.size+1+1,i,none⟩ v) cs' x o:=by
 refine⟨?_,?_,?_,h.be.setCell (by show w0.heap.size≤w0.heap.size+1+1;omega) _⟩
 ·rw[heap_setCell_same W _ i _ _ _ h.vr,hc]
 ·exact (Below.heap_setCell W ⟨w0.heap.size+1+1,i,none⟩ v _ (by show w0.heap.size≠w0.heap.size+1+1;omega)).trans h.rr
 ·exact h.rs.keep (Below.heap_setCell W ⟨w0.heap.size+1+1,i,none⟩ v _ (by show w0.heap.size+1≠w0.heap.size+1+1;omega))
theorem Er.cell {w0 W:World} {cs:Array Value} {x:Value} {o:Option Int} (h:Er w0 W cs x o) (i:Nat) {u:Value} (hi:cs[i]? =some u):W.cell? ⟨w0.heap.size+1+1,i,none⟩=some u∧W.frozen? ⟨w0.heap.size+1+1,i,none⟩=false:=by
 refine⟨?_,frozen_of_row _ _ i _ _ h.vr⟩
 rw[cell_of_row _ _ i _ _ _ h.vr];exact hi
theorem kU (W:World) (z:Array Value) (t:TypeId) (N:Nat) (h:W.heap.size=N):(W.alloc (.cells z t)).there N 0 z.size:=by subst h;exact jc W z t
theorem Er.zero {w0 W:World} {cs:Array Value} {x:Value} {o:Option Int} (h:Er w0 W cs x o) (hc:cs.size=10):Er w0 (W.setCells (w0.heap.size+1+1) 0 zs.toList) zs x o:=by
 obtain⟨h1,h2⟩:=aQ h.vr zs.toList (by rw[hc];rfl)
 exact⟨h1,(h2 _ (by omega)).trans h.rr,h.rs.keep (h2 _ (by omega)),bY h.be _ (by omega) _⟩
theorem Er.fin {w0 W:World} {cs:Array Value} {x:Value} {o:Option Int} (h:Er w0 W cs x o) (l:List Value) (hl:l.length=10):
 (W.setCells w0.heap.size 0 l).heap[w0.heap.size]? =some (.cells l.toArray 56 (0,0))∧Below w0.heap.size w0 (W.setCells w0.heap.size 0 l)∧∀b,b≠w0.heap.size→(W.setCells w0.heap.size 0 l).heap[b]? =W.heap[b]?:=by
 obtain⟨h1,h2⟩:=aQ h.rr l hl
 exact⟨h1,bY h.be _ (tJ _) l,h2⟩
theorem Keeps.onf {N:Nat} {w W:World} (hb:Below w.heap.size w W) (hN:w.heap.size=N):Keeps (fun k=>k < w.heap.size) (fun k=>k≠N+1) w W:=⟨hb.size,fun b h _=>⟨hb.block b h,by omega⟩⟩
theorem Keeps.set2 (N j:Nat) (W:World) (v:Value):Keeps (fun k=>N+1+1 < k) (fun k=>N+1+1 < k) W (W.setCell ⟨N+1+1,j,none⟩ v):=
 ⟨by simp[World.setCell],fun b hb _=>⟨Below.heap_setCell W ⟨N+1+1,j,none⟩ v b (by show b≠N+1+1;omega),hb⟩⟩
theorem Keeps.fpf {N:Nat} {W W':World} (hf:Fp (fun k=>k=N+1) W W'):Keeps (fun k=>N+1+1 < k) (fun k=>N+1+1 < k) W W':=⟨hf.size,fun b hb hlt=>⟨hf.block b hlt (by omega),hb⟩⟩
theorem Keeps.fin2 {N:Nat} {W W':World} (hs:W.heap.size≤W'.heap.size) (h:∀b,b≠N→W'.heap[b]? =W.heap[b]?):Keeps (fun k=>N+1+1 < k) (fun k=>N≤k) W W':=⟨hs,fun b hb _=>⟨h b (by omega),by omega⟩⟩
theorem Keeps.into2 {N M:Nat} {W:World} (h:N+1+1 < M):Keeps (fun k=>M≤k) (fun k=>N+1+1 < k) W W:=Keeps.mono fun b _ hb=>by omega
theorem kt (b:List UInt8) (x:Value) (w:World) (hx:RdP w (fun k=>k < w.heap.size) 1 x b.length (b.map bv)):
 Calls Tryz.prog 104 #[x] w (TakenM b w):=by
 obtain⟨_,A,c,rfl,af,ad,_⟩:=hx.parts
 have HX:=tt hx
 have hP:=Er.new w (.slice A b.length c)
 have HP:=tt hP
 clear hx hP
 go_enter Tryz.func104,Tryz.ntmps104
 go_upto_region 2 with fail
 go_upto_region 3 with (first|(refine wpList_store_mid rfl 56 (.tmp 5) (.tmp 9) rfl (w.heap.size+1+1) 0 zs rfl rfl (kU _ zs _ _ (by simp)) ax (by simp[Value.oneCell']) ?_))
 replace HP:=tt (HP.out.zero rfl)
 obtain⟨W1z,hW⟩:∃Wx,(((w.alloc (.cells zs 56)).alloc (.cells #[.slice A b.length c,.int .i64 0,.bool false] 193)).alloc (.cells zs 56)).setCells (w.heap.size+1+1) 0 zs.toList=Wx:=⟨_,rfl⟩
 rw[hW] at HP
 rw[show (((w.alloc (.cells zs 56)).alloc (.cells #[.slice A b.length c,.int .i64 0,.bool false] 193)).alloc (.cells zs 56)).setCells (w.heap.size+1+1) 0 [.int .i64 0,.int .i64 0,.int .i64 0,.int .i64 0,.int .i64 0,.int .i64 0,.slice none 0 0,.slice none 0 0,.slice none 0 0,.slice none 0 0]=W1z from hW]
 clear hW
 go_wp2_with fail
 obtain⟨o0,ho⟩:∃o:Option Int,o=some 0:=⟨_,rfl⟩
 rw[←ho] at HP
 have J:=tt ho
 clear ho
 refine (bo b _ (w.heap.size+1) o0 W1z _ (HX.out.keeps (Keeps.on HP.out.be)) HP.out.rs).mono ?_
 rintro e ac ⟨n0,rfl,q1,q2,hi,hr,hf⟩
 have T:=tt hi
 obtain⟨o1,ho⟩:∃o,o=Psp.nxt dN b o0:=⟨_,rfl⟩
 rw[←ho] at hr
 have I:=tt ho
 replace HP:=tt (HP.out.call hr hf)
 clear ho hr hf hi
 obtain⟨k0,y0⟩:=HP.out.cell 0 (u:=.int .i64 0) rfl
 replace HP:=tt (HP.out.store 0 (.int .i64 n0) (cs':=#[.int .i64 n0,.int .i64 0,.int .i64 0,.int .i64 0,.int .i64 0,.int .i64 0,.slice none 0 0,.slice none 0 0,.slice none 0 0,.slice none 0 0]) rfl)
 obtain⟨W1,hW⟩:∃Wx,ac.setCell ⟨w.heap.size+1+1,0,none⟩ (.int .i64 n0)=Wx:=⟨_,rfl⟩
 rw[hW] at HP
 go_wp2_with fail
 clear k0 y0 q1 q2
 try clear hW
 refine (bo b _ (w.heap.size+1) o1 W1 _ (HX.out.keeps (Keeps.on HP.out.be)) HP.out.rs).mono ?_
 rintro e Z ⟨n1,rfl,q1,q2,hi,hr,hf⟩
 have S:=tt hi
 obtain⟨o2,ho⟩:∃o,o=Psp.nxt dN b o1:=⟨_,rfl⟩
 rw[←ho] at hr
 have H:=tt ho
 replace HP:=tt (HP.out.call hr hf)
 clear ho hr hf hi
 obtain⟨k1,y1⟩:=HP.out.cell 1 (u:=.int .i64 0) rfl
 replace HP:=tt (HP.out.store 1 (.int .i64 n1) (cs':=#[.int .i64 n0,.int .i64 n1,.int .i64 0,.int .i64 0,.int .i64 0,.int .i64 0,.slice none 0 0,.slice none 0 0,.slice none 0 0,.slice none 0 0]) rfl)
 obtain⟨W2,hW⟩:∃Wx,Z.setCell ⟨w.heap.size+1+1,1,none⟩ (.int .i64 n1)=Wx:=⟨_,rfl⟩
 rw[hW] at HP
 go_wp2_with fail
 clear k1 y1 q1 q2
 try clear hW
 refine (bo b _ (w.heap.size+1) o2 W2 _ (HX.out.keeps (Keeps.on HP.out.be)) HP.out.rs).mono ?_
 rintro e Y ⟨n2,rfl,q1,q2,hi,hr,hf⟩
 have R:=tt hi
 obtain⟨o3,ho⟩:∃o,o=Psp.nxt dN b o2:=⟨_,rfl⟩
 rw[←ho] at hr
 have G:=tt ho
 replace HP:=tt (HP.out.call hr hf)
 clear ho hr hf hi
 obtain⟨k2,y2⟩:=HP.out.cell 2 (u:=.int .i64 0) rfl
 replace HP:=tt (HP.out.store 2 (.int .i64 n2) (cs':=#[.int .i64 n0,.int .i64 n1,.int .i64 n2,.int .i64 0,.int .i64 0,.int .i64 0,.slice none 0 0,.slice none 0 0,.slice none 0 0,.slice none 0 0]) rfl)
 obtain⟨W3,hW⟩:∃Wx,Y.setCell ⟨w.heap.size+1+1,2,none⟩ (.int .i64 n2)=Wx:=⟨_,rfl⟩
 rw[hW] at HP
 go_wp2_with fail
 clear k2 y2 q1 q2
 try clear hW
 refine (bo b _ (w.heap.size+1) o3 W3 _ (HX.out.keeps (Keeps.on HP.out.be)) HP.out.rs).mono ?_
 rintro e X ⟨n3,rfl,q1,q2,hi,hr,hf⟩
 have Q:=tt hi
 obtain⟨o4,ho⟩:∃o,o=Psp.nxt dN b o3:=⟨_,rfl⟩
 rw[←ho] at hr
 have F:=tt ho
 replace HP:=tt (HP.out.call hr hf)
 clear ho hr hf hi
 obtain⟨k3,y3⟩:=HP.out.cell 3 (u:=.int .i64 0) rfl
 replace HP:=tt (HP.out.store 3 (.int .i64 n3) (cs':=#[.int .i64 n0,.int .i64 n1,.int .i64 n2,.int .i64 n3,.int .i64 0,.int .i64 0,.slice none 0 0,.slice none 0 0,.slice none 0 0,.slice none 0 0]) rfl)
 obtain⟨W4,hW⟩:∃Wx,X.setCell ⟨w.heap.size+1+1,3,none⟩ (.int .i64 n3)=Wx:=⟨_,rfl⟩
 rw[hW] at HP
 go_wp2_with fail
 clear k3 y3 q1 q2
 try clear hW
 refine (bo b _ (w.heap.size+1) o4 W4 _ (HX.out.keeps (Keeps.on HP.out.be)) HP.out.rs).mono ?_
 rintro e W ⟨n4,rfl,q1,q2,hi,hr,hf⟩
 have P:=tt hi
 obtain⟨o5,ho⟩:∃o,o=Psp.nxt dN b o4:=⟨_,rfl⟩
 rw[←ho] at hr
 have E:=tt ho
 replace HP:=tt (HP.out.call hr hf)
 clear ho hr hf hi
 obtain⟨k4,y4⟩:=HP.out.cell 4 (u:=.int .i64 0) rfl
 replace HP:=tt (HP.out.store 4 (.int .i64 n4) (cs':=#[.int .i64 n0,.int .i64 n1,.int .i64 n2,.int .i64 n3,.int .i64 n4,.int .i64 0,.slice none 0 0,.slice none 0 0,.slice none 0 0,.slice none 0 0]) rfl)
 obtain⟨W5,hW⟩:∃Wx,W.setCell ⟨w.heap.size+1+1,4,none⟩ (.int .i64 n4)=Wx:=⟨_,rfl⟩
 rw[hW] at HP
 go_wp2_with fail
 clear k4 y4 q1 q2
 try clear hW
 refine (bo b _ (w.heap.size+1) o5 W5 _ (HX.out.keeps (Keeps.on HP.out.be)) HP.out.rs).mono ?_
 rintro e t ⟨n5,rfl,q1,q2,hi,hr,hf⟩
 have q:=tt (qD hi)
 rw[←mb] at hr
 obtain⟨o6,ho⟩:∃o,o=Psp.nxt Psp.dS b o5:=⟨_,rfl⟩
 rw[←ho] at hr
 have D:=tt ho
 replace HP:=tt (HP.out.call hr hf)
 clear ho hr hf hi
 go_wp2_with fail
 refine (gy n5 t (by omega) (by omega)).mono ?_
 rintro e wz ⟨rfl,rfl⟩
 obtain⟨m5,hn5⟩:∃y,Psp.zag n5=y:=⟨_,rfl⟩
 rw[hn5] at q ⊢
 clear hn5
 obtain⟨k5,y5⟩:=HP.out.cell 5 (u:=.int .i64 0) rfl
 replace HP:=tt (HP.out.store 5 (.int .i64 m5) (cs':=#[.int .i64 n0,.int .i64 n1,.int .i64 n2,.int .i64 n3,.int .i64 n4,.int .i64 m5,.slice none 0 0,.slice none 0 0,.slice none 0 0,.slice none 0 0]) rfl)
 obtain⟨W6,hW⟩:∃Wx,t.setCell ⟨w.heap.size+1+1,5,none⟩ (.int .i64 m5)=Wx:=⟨_,rfl⟩
 rw[hW] at HP
 go_wp2_with fail
 clear k5 y5 q1 q2
 try clear hW
 have hlt:=HP.out.lt
 refine (kG b _ (w.heap.size+1) o6 W6 (HX.out.keeps (Keeps.onf HP.out.be rfl)) HP.out.rs).mono ?_
 rintro e V ⟨v6,l6,rfl,hv,hi,hr,hf⟩
 have O:=tt hi
 obtain⟨_,A6,c6,rfl,_⟩:=RdP.parts (show RdP _ _ 6 v6 l6.length (l6.flatMap rq) from hv)
 have d:=tt (RdR.keeps' hv (Keeps.into2 hlt))
 clear hv hlt
 obtain⟨o7,ho⟩:∃o,o=Psp.nxt (Psp.dL Psp.dR) b o6:=⟨_,rfl⟩
 rw[←ho] at hr
 have C:=tt ho
 replace HP:=tt (HP.out.call hr hf)
 clear ho hr hf hi
 obtain⟨k6,y6⟩:=HP.out.cell 6 (u:=.slice none 0 0) rfl
 replace HP:=tt (HP.out.store 6 (.slice A6 l6.length c6) (cs':=#[.int .i64 n0,.int .i64 n1,.int .i64 n2,.int .i64 n3,.int .i64 n4,.int .i64 m5,.slice A6 l6.length c6,.slice none 0 0,.slice none 0 0,.slice none 0 0]) rfl)
 replace d:=tt (d.out.keeps' (Keeps.set2 w.heap.size 6 _ (.slice A6 l6.length c6)))
 obtain⟨W7,hW⟩:∃Wx,V.setCell ⟨w.heap.size+1+1,6,none⟩ (.slice A6 l6.length c6)=Wx:=⟨_,rfl⟩
 rw[hW] at HP d
 go_wp2_with fail
 clear k6 y6
 try clear hW
 have hlt:=HP.out.lt
 refine (iN b _ (w.heap.size+1) o7 W7 (HX.out.keeps (Keeps.onf HP.out.be rfl)) HP.out.rs).mono ?_
 rintro e U ⟨v7,l7,rfl,hv,hi,hr,hf⟩
 have M:=tt hi
 obtain⟨_,A7,c7,rfl,_⟩:=RdP.parts (show RdP _ _ 2 v7 l7.length (l7.flatMap vt) from hv)
 have f:=tt (RdV.keeps' hv (Keeps.into2 hlt))
 clear hv hlt
 replace d:=tt (d.out.keeps' (Keeps.fpf hf))
 obtain⟨o8,ho⟩:∃o,o=Psp.nxt (Psp.dL Psp.dV) b o7:=⟨_,rfl⟩
 rw[←ho] at hr
 have B:=tt ho
 replace HP:=tt (HP.out.call hr hf)
 clear ho hr hf hi
 obtain⟨k7,y7⟩:=HP.out.cell 7 (u:=.slice none 0 0) rfl
 replace HP:=tt (HP.out.store 7 (.slice A7 l7.length c7) (cs':=#[.int .i64 n0,.int .i64 n1,.int .i64 n2,.int .i64 n3,.int .i64 n4,.int .i64 m5,.slice A6 l6.length c6,.slice A7 l7.length c7,.slice none 0 0,.slice none 0 0]) rfl)
 replace d:=tt (d.out.keeps' (Keeps.set2 w.heap.size 7 _ (.slice A7 l7.length c7)))
 replace f:=tt (f.out.keeps' (Keeps.set2 w.heap.size 7 _ (.slice A7 l7.length c7)))
 obtain⟨W8,hW⟩:∃Wx,U.setCell ⟨w.heap.size+1+1,7,none⟩ (.slice A7 l7.length c7)=Wx:=⟨_,rfl⟩
 rw[hW] at HP d f
 go_wp2_with fail
 clear k7 y7
 try clear hW
 have hlt:=HP.out.lt
 refine (kH b _ (w.heap.size+1) o8 W8 (HX.out.keeps (Keeps.onf HP.out.be rfl)) HP.out.rs).mono ?_
 rintro e s ⟨v8,l8,rfl,hv,hi,hr,hf⟩
 have L:=tt hi
 obtain⟨L8,r1,r2,r3⟩:=hv
 obtain⟨_,A8,c8,rfl,_⟩:=r2.parts
 have hv:RdC s _ (.slice A8 L8.length c8) l8:=⟨L8,r1,r2,r3⟩
 clear r1 r2 r3
 have g:=tt (RdC.keeps hv (Keeps.into2 hlt))
 clear hv hlt
 replace d:=tt (d.out.keeps' (Keeps.fpf hf))
 replace f:=tt (f.out.keeps' (Keeps.fpf hf))
 obtain⟨o9,ho⟩:∃o,o=Psp.nxt (Psp.dL Psp.dC) b o8:=⟨_,rfl⟩
 rw[←ho] at hr
 have z:=tt ho
 replace HP:=tt (HP.out.call hr hf)
 clear ho hr hf hi
 obtain⟨k8,y8⟩:=HP.out.cell 8 (u:=.slice none 0 0) rfl
 replace HP:=tt (HP.out.store 8 (.slice A8 L8.length c8) (cs':=#[.int .i64 n0,.int .i64 n1,.int .i64 n2,.int .i64 n3,.int .i64 n4,.int .i64 m5,.slice A6 l6.length c6,.slice A7 l7.length c7,.slice A8 L8.length c8,.slice none 0 0]) rfl)
 replace d:=tt (d.out.keeps' (Keeps.set2 w.heap.size 8 _ (.slice A8 L8.length c8)))
 replace f:=tt (f.out.keeps' (Keeps.set2 w.heap.size 8 _ (.slice A8 L8.length c8)))
 replace g:=tt (g.out.keeps (Keeps.set2 w.heap.size 8 _ (.slice A8 L8.length c8)))
 obtain⟨W9,hW⟩:∃Wx,s.setCell ⟨w.heap.size+1+1,8,none⟩ (.slice A8 L8.length c8)=Wx:=⟨_,rfl⟩
 rw[hW] at HP d f g
 go_wp2_with fail
 clear k8 y8
 try clear hW
 have hlt:=HP.out.lt
 refine (pt b _ (w.heap.size+1) o9 W9 (HX.out.keeps (Keeps.onf HP.out.be rfl)) HP.out.rs).mono ?_
 rintro e r ⟨v9,l9,rfl,hv,hi,hr,hf⟩
 have K:=tt hi
 obtain⟨L9,r1,r2,r3⟩:=hv
 obtain⟨_,A9,c9,rfl,_⟩:=r2.parts
 have hv:RdA r _ (.slice A9 L9.length c9) l9:=⟨L9,r1,r2,r3⟩
 clear r1 r2 r3
 have l:=tt (RdA.keeps hv (Keeps.into2 hlt))
 clear hv hlt
 replace d:=tt (d.out.keeps' (Keeps.fpf hf))
 replace f:=tt (f.out.keeps' (Keeps.fpf hf))
 replace g:=tt (g.out.keeps (Keeps.fpf hf))
 obtain⟨o10,ho⟩:∃o,o=Psp.nxt (Psp.dL Psp.dP) b o9:=⟨_,rfl⟩
 rw[←ho] at hr
 have p:=tt ho
 replace HP:=tt (HP.out.call hr hf)
 clear ho hr hf hi
 obtain⟨k9,y9⟩:=HP.out.cell 9 (u:=.slice none 0 0) rfl
 replace HP:=tt (HP.out.store 9 (.slice A9 L9.length c9) (cs':=#[.int .i64 n0,.int .i64 n1,.int .i64 n2,.int .i64 n3,.int .i64 n4,.int .i64 m5,.slice A6 l6.length c6,.slice A7 l7.length c7,.slice A8 L8.length c8,.slice A9 L9.length c9]) rfl)
 replace d:=tt (d.out.keeps' (Keeps.set2 w.heap.size 9 _ (.slice A9 L9.length c9)))
 replace f:=tt (f.out.keeps' (Keeps.set2 w.heap.size 9 _ (.slice A9 L9.length c9)))
 replace g:=tt (g.out.keeps (Keeps.set2 w.heap.size 9 _ (.slice A9 L9.length c9)))
 replace l:=tt (l.out.keeps (Keeps.set2 w.heap.size 9 _ (.slice A9 L9.length c9)))
 obtain⟨W10,hW⟩:∃Wx,r.setCell ⟨w.heap.size+1+1,9,none⟩ (.slice A9 L9.length c9)=Wx:=⟨_,rfl⟩
 rw[hW] at HP d f g l
 have hM:=Psp.nf (Psp.sB J.out T.out I.out S.out H.out R.out G.out Q.out F.out P.out E.out q.out D.out O.out C.out M.out B.out L.out z.out K.out p.out)
 have HM:=tt hM
 clear hM J T I S H R G Q F P E q D O C M B L z K p HX
 obtain⟨aa,bad,g0,g1,g2,_,_,_,hs,hnn⟩:=HP.out.rs.cells
 rcases o10 with _|a
 ·have hb:=hnn rfl
  subst hb
  have Hn:Hid (Psp.aY b=none):=tt (by rw[HM.out];rfl)
  clear HM hs hnn
  have i:=tt (au HP.out.rr)
  obtain⟨t1,t2,_⟩:=HP.out.fin zs.toList rfl
  have T1:=tt t1
  have T2:=tt t2
  clear t1 t2
  go_wp2_with (first|(refine wpList_store_mid rfl 56 (.tmp 2) (.tmp 59) rfl w.heap.size 0 zs rfl rfl i.out ax (by simp[Value.oneCell']) ?_))
  refine bodyPost_ret (v:=.tuple #[.agg zs,.bool false]) ?_ rfl ?_
  ·exact aI Tryz.results104 _ _ w.heap.size _ _ _ _ rfl T1.out Tryz.underlying56 rfl ax
  ·exact⟨fun m h=>(by rw[Hn.out] at h;cases h),fun _=>rfl,T2.out⟩
 obtain⟨rfl,hb⟩:=hs _ rfl
 subst hb
 have j:Hid (Psp.aY b=if aa=(b.length:Int)∧b.length≤65536 then some ⟨n0,n1,n2,n3,n4,m5,l6,l7,l8,l9⟩ else none):=tt (by rw[HM.out];rfl)
 clear HM hs hnn
 by_cases he:aa=(b.length:Int)
 case' neg=>
  have d9:(aa != (b.length:Int))=true:=by rw[bne_iff_ne];exact he
  have Hn:Hid (Psp.aY b=none):=tt (by rw[j.out];exact if_neg fun h=>he h.1)
  clear j he
  have i:=tt (au HP.out.rr)
  obtain⟨t1,t2,_⟩:=HP.out.fin zs.toList rfl
  have T1:=tt t1
  have T2:=tt t2
  clear t1 t2
  go_wp2_with (first|(refine wpList_store_mid rfl 56 (.tmp 2) (.tmp 59) rfl w.heap.size 0 zs rfl rfl i.out ax (by simp[Value.oneCell']) ?_))
  refine bodyPost_ret (v:=.tuple #[.agg zs,.bool false]) ?_ rfl ?_
  ·exact aI Tryz.results104 _ _ w.heap.size _ _ _ _ rfl T1.out Tryz.underlying56 rfl ax
  ·exact⟨fun m h=>(by rw[Hn.out] at h;cases h),fun _=>rfl,T2.out⟩
 have d9:(aa != (b.length:Int))=false:=by rw[he];simp
 by_cases n:b.length≤65536
 case' neg=>
  have d0:decide ((b.length:Int) > 65536)=true:=by simp;omega
  have Hn:Hid (Psp.aY b=none):=tt (by rw[j.out];exact if_neg fun h=>n h.2)
  clear j he
  have i:=tt (au HP.out.rr)
  obtain⟨t1,t2,_⟩:=HP.out.fin zs.toList rfl
  have T1:=tt t1
  have T2:=tt t2
  clear t1 t2
  go_wp2_with (first|(refine wpList_store_mid rfl 56 (.tmp 2) (.tmp 59) rfl w.heap.size 0 zs rfl rfl i.out ax (by simp[Value.oneCell']) ?_))
  refine bodyPost_ret (v:=.tuple #[.agg zs,.bool false]) ?_ rfl ?_
  ·exact aI Tryz.results104 _ _ w.heap.size _ _ _ _ rfl T1.out Tryz.underlying56 rfl ax
  ·exact⟨fun m h=>(by rw[Hn.out] at h;cases h),fun _=>rfl,T2.out⟩
 have d0:decide ((b.length:Int) > 65536)=false:=by simp;omega
 have Hy:Hid (Psp.aY b=some ⟨n0,n1,n2,n3,n4,m5,l6,l7,l8,l9⟩):=tt (by rw[j.out];exact if_pos ⟨he,n⟩)
 clear j he
 have x0:=(HP.out.cell 0 (u:=.int .i64 n0) rfl).1
 have x1:=(HP.out.cell 1 (u:=.int .i64 n1) rfl).1
 have x2:=(HP.out.cell 2 (u:=.int .i64 n2) rfl).1
 have x3:=(HP.out.cell 3 (u:=.int .i64 n3) rfl).1
 have x4:=(HP.out.cell 4 (u:=.int .i64 n4) rfl).1
 have x5:=(HP.out.cell 5 (u:=.int .i64 m5) rfl).1
 have x6:=(HP.out.cell 6 (u:=.slice A6 l6.length c6) rfl).1
 have x7:=(HP.out.cell 7 (u:=.slice A7 l7.length c7) rfl).1
 have x8:=(HP.out.cell 8 (u:=.slice A8 L8.length c8) rfl).1
 have x9:=(HP.out.cell 9 (u:=.slice A9 L9.length c9) rfl).1
 have i:=tt (au HP.out.rr)
 obtain⟨t1,t2,t3⟩:=HP.out.fin [.int .i64 n0,.int .i64 n1,.int .i64 n2,.int .i64 n3,.int .i64 n4,.int .i64 m5,.slice A6 l6.length c6,.slice A7 l7.length c7,.slice A8 L8.length c8,.slice A9 L9.length c9] rfl
 have HK:=tt (Keeps.fin2 (N:=w.heap.size) ((Fp.refl (fun _=>True) W10).setCells (Or.inl trivial) _).size t3)
 have T1:=tt t1
 have T2:=tt t2
 clear t1 t2 t3
 go_wp2_with (first|(refine wpList_store_mid rfl 56 (.tmp 2) (.tmp 60) rfl w.heap.size 0 #[.int .i64 n0,.int .i64 n1,.int .i64 n2,.int .i64 n3,.int .i64 n4,.int .i64 m5,.slice A6 l6.length c6,.slice A7 l7.length c7,.slice A8 L8.length c8,.slice A9 L9.length c9] rfl rfl i.out ax (by simp[Value.oneCell']) ?_))
 refine bodyPost_ret (v:=.tuple #[.agg #[.int .i64 n0,.int .i64 n1,.int .i64 n2,.int .i64 n3,.int .i64 n4,.int .i64 m5,.slice A6 l6.length c6,.slice A7 l7.length c7,.slice A8 L8.length c8,.slice A9 L9.length c9],.bool true]) ?_ rfl ?_
 ·exact aI Tryz.results104 _ _ w.heap.size _ _ _ _ rfl T1.out Tryz.underlying56 rfl ax
 ·refine⟨fun m h=>?_,fun h=>(by rw[Hy.out] at h;cases h),T2.out⟩
  rw[Hy.out] at h
  injection h with h
  subst h
  exact⟨_,_,_,_,rfl,MsgOk.keeps ⟨d.out,f.out,g.out,l.out⟩ HK.out⟩
theorem TakenM.any {b:List UInt8} {w w':World} {e:Ending} (h:TakenM b w e w'):∃(m:Psp.Msg) (Ab Ao Ac Ap:Option Addr) (cb co cc cp:Nat),
 e= .returned (.tuple #[.agg #[.int .i64 m.k,.int .i64 m.f,.int .i64 m.v,.int .i64 m.i,.int .i64 m.q,.int .i64 m.r,.slice Ab m.b.length cb,.slice Ao m.o.length co,.slice Ac m.c.length cc,.slice Ap m.p.length cp],.bool (Psp.aY b).isSome])∧
 MsgOk w' (fun k=>w.heap.size≤k) ⟨m,.slice Ab m.b.length cb,.slice Ao m.o.length co,.slice Ac m.c.length cc,.slice Ap m.p.length cp⟩∧(Psp.aY b).getD zM=m∧Below w.heap.size w w':=by
 obtain⟨h1,h2,h3⟩:=h
 cases hp:Psp.aY b with
 |none=>exact⟨zM,none,none,none,none,0,0,0,0,h2 hp,zM_ok,rfl,h3⟩
 |some m=>
  obtain⟨vb,vo,vc,vp,he,hm⟩:=h1 m hp
  obtain⟨Ab,Ao,Ac,Ap,cb,co,cc,cp,rfl,rfl,rfl,rfl⟩:=aG hm
  exact⟨m,Ab,Ao,Ac,Ap,cb,co,cc,cp,he,hm,rfl,h3⟩
structure LaterF (w:World) (T:Nat→Prop) where
 W:World
 h:Fp T w W
instance (w:World) (T:Nat→Prop):Nonempty (LaterF w T):=⟨⟨w,Fp.refl _ _⟩⟩
theorem aT {w:World} {T:Nat→Prop} {b o:Nat} {v:Value} (h:w.cell? ⟨b,o,none⟩=some v) (hT:¬T b):∀p:LaterF w T,p.W.cell? ⟨b,o,none⟩=some v:=
 fun p=>by
  have hb:=p.h.block b (World.block_lt_of_cell? w ⟨b,o,none⟩ h) hT
  unfold World.cell? at h ⊢
  simp only at h ⊢
  rw[hb];exact h
section
variable {P:Program} {ops:Array Oper} {md:Region.Mode}
def phS (P:Program) (l:List Oper) (S:World→Prop) (E:Act→World→Prop):List (Bool×Nat)→Act→World→Prop
 | [],a,w=>E a w
 |(true,i) :: t,a,w=>wpQuiet P l.toArray S (fun a'=>phS P l S E t a' w) (l[i]?).toList a
 |(false,i) :: t,a,w=>wpList P l.toArray (eJ fun a' w'=>S w'∧phS P l S E t a' w') (l[i]?).toList a w
theorem phAny.walkS {l:List Oper} {S:World→Prop} {E:Act→World→Prop} {fin:Array Bool→Bool} {fl:List Nat} (d:Region.noSelect l.toArray=true)
 (e:∀listed,fin listed=true→∀j∈Region.ready md l.toArray listed,j∉fl)
 :
 ∀(t:List (Bool×Nat)) (listed:Array Bool) (a:Act) (w:World),(∀p∈t,p.2∈fl∧(p.1=true→∀j,j < l.toArray.size→j∉fl→j∈waitAcc md p.2 l.toArray.toList 0 []))→closedL md l.toArray listed→
  phB md l fin t listed=true→S w→phS P l S E t a w→
  phAny P md l.toArray S fl (fun listed a w=>fin listed=true∧E a w) t.length listed a w
 | [],listed,a,w,_,_,hB,_,h=>⟨by simpa [phB] using hB,h⟩
 |(true,i) :: t,listed,a,w,hp,hcl,hB,hS,h=>by
  simp only[phB,tI] at hB
  obtain⟨⟨⟨ho,hr⟩,hf⟩,n⟩:=hB
  have b:i∈Region.ready md l.toArray listed:=by simpa using hr
  obtain⟨_,o,c,_⟩:=mem_ready.1 b
  have f:l[i]? =some o:=by simpa using c
  rw[f] at ho
  have h':wpQuiet P l.toArray S (fun a'=>phS P l S E t a' w) [o] a:=by
   have:=h
   unfold phS at this
   rw[f] at this
   exact this
  obtain⟨v,hy,hK⟩:=cB (i:=i) (by simpa using ho) h'
  obtain⟨h1,h2⟩:=hp (true,i) List.mem_cons_self
  exact phAny.first c (Region.noSelect_spec d) h1 (h2 rfl) (fun listed a w hL=>e listed hL.1) _ _ _ _ hcl (Region.free_spec c hf) b hy hS
   (phAny.walkS d e t _ _ _ (fun p k=>hp p (by simp[k])) (hcl.set b) n hS hK)
 |(false,i) :: t,listed,a,w,hp,hcl,hB,hS,h=>by
  simp only[phB,tI,decide_eq_true_eq] at hB
  refine⟨by rw[hB.1];simp,fun j hj=>?_⟩
  rw[hB.1] at hj
  have m:j=i:=by simpa using hj
  subst m
  refine⟨(hp (false,j) List.mem_cons_self).1,?_⟩
  have b:j∈Region.ready md l.toArray listed:=by rw[hB.1];simp
  obtain⟨_,o,c,_⟩:=mem_ready.1 b
  have f:l[j]? =some o:=by simpa using c
  have h':wpList P l.toArray (eJ fun a' w'=>S w'∧phS P l S E t a' w') [o] a w:=by
   have:=h
   unfold phS at this
   rw[f] at this
   exact this
  have h2:wpOp P l.toArray noQ j (fun a' w'=>S w'∧phS P l S E t a' w') a w:=by
   unfold wpOp
   simp only[c]
   unfold wpList at h'
   split
   ·rename_i g
    rw[if_pos g] at h'
    rcases h' with h'|⟨_,_,_,h'⟩
    ·exact .inl (eZ (Oper.wp_mono (fun a w h=>h) h'))
    ·exact absurd h' id
   ·rename_i g
    rw[if_neg g] at h'
    exact h'
  exact wpOp_mono (fun a' w' h3=>⟨h3.1,phAny.walkS d e t _ _ _ (fun p k=>hp p (by simp[k])) (hcl.set b) hB.2 h3.1 h3.2⟩) h2
theorem fY {id:Nat} {Q:Exit→Act→World→Prop} {a:Act} {w:World} {l:List Oper} (S:World→Prop) (b:List (Bool×Nat)) (hm:P.follows .mixedOrders=true) (hB:iz .any l b=true)
 (hS:S w.drew) (h:phS P l S (fun a' w'=>wpList P l.toArray Q (l.drop b.length) a' w') b a w.drew):(Code.region id l.toArray true).wp P Q a w:=by
 simp only[iz,tI,decide_eq_true_eq] at hB
 obtain⟨⟨⟨d,f⟩,hw⟩,hP⟩:=hB
 have H:=phAny.walkS (md:=.any) (fin:=im .any l b) (fl:=b.map (·.2)) d (fun listed hf j hj=>by
  simp only[im,tI] at hf
  intro hm
  have h1:=seqB_ready hf.1 j hj
  have h2:=of_decide_eq_true (List.all_eq_true.1 hf.2 j hm)
  omega) b _ a w.drew (gz hw) (closedL.start _) hP hS h
 refine wp_region_any hm ?_
 have c:l.toArray.size=l.length:=by simp
 have:=phAny.any (Q:=Q) (g:=l.length - b.length) (fun listed a' w' hL=>by
  have h1:=hL.1
  simp only[im,tI] at h1
  have e:(l.drop b.length).length=l.length - b.length:=by simp
  have:=wpAny_of_seq (md:=.any) (Q':=Q) (l.drop b.length) b.length listed a' w' (fun j=>by simp[List.getElem?_drop]) (by rw[e];exact h1.1) hL.2
  rwa [e] at this) _ _ _ _ H
 rw[show b.length+(l.length - b.length)=l.toArray.size by rw[c];omega,←c] at this
 exact this
theorem aU {id:Nat} {Q:Exit→Act→World→Prop} {a:Act} {w:World} {l:List Oper} (T:Nat→Prop) (b:List (Bool×Nat)) (hm:P.follows .mixedOrders=true) (hB:iz .any l b=true)
 (h:phS P l (fun w'=>∃p:LaterF w.drew T,w'=p.W) (fun a' w'=>wpList P l.toArray Q (l.drop b.length) a' w') b a w.drew):(Code.region id l.toArray true).wp P Q a w:=
 fY _ b hm hB ⟨⟨w.drew,Fp.refl _ _⟩,rfl⟩ h
end
structure Tw (W:World) (S:Nat→Prop) (g bm h:Nat) (K:List Key):Prop where
 nt:Nt W g bm K
 nr:Ntr W S h K
 sep:¬S g∧¬S bm
 lt:∀b,S b→b < W.heap.size
 sh:S h
theorem Tw.below {W W':World} {S:Nat→Prop} {g bm h:Nat} {K:List Key} (t:Tw W S g bm h K) (hb:Below W.heap.size W W'):Tw W' S g bm h K:=
 ⟨t.nt.below hb,t.nr.below hb,t.sep,fun b hS=>Nat.lt_of_lt_of_le (t.lt b hS) hb.size,t.sh⟩
theorem Tw.fp {W W':World} {S T:Nat→Prop} {g bm h:Nat} {K:List Key} (t:Tw W S g bm h K) (hf:Fp T W W') (h1:¬T g) (h2:¬T bm) (h3:∀b,S b→¬T b):Tw W' S g bm h K:=
 ⟨t.nt.fp hf h1 h2,t.nr.fp hf h3,t.sep,fun b hS=>Nat.lt_of_lt_of_le (t.lt b hS) hf.size,t.sh⟩
def jk (K:List Key) (m:Psp.Msg):Int:=if Psp.okB m then aV K (kM m) else 0
theorem ge:(Tryz.prog.info? 31).map (·.size)=some 2:=by kernel_rfl
def gf (K:List Key) (m:Psp.Msg) (s:Int):Bool:=Psp.okB m&&gH K (kM m) s
theorem my {K:List Key} {k:Key} {s:Int}:gH K k s=true↔k∈K∧num K k=s:=by unfold gH;simp
theorem qG {K:List Key} {k:Key} (h:k∉K):List.idxOf k (K++[k])=K.length:=by
 rw[List.idxOf_append,if_neg h]
 simp
theorem pJ (K:List Key) (k:Key):gH (bi K k) k (aV K k)=true:=by
 rw[my]
 by_cases h:k∈K
 ·unfold bi aV num
  simp only[if_pos h,and_true]
  exact h
 ·have hm:k∈K++[k]:=by simp
  unfold bi aV num
  simp only[if_neg h,if_pos hm,qG h,and_true]
  exact hm
theorem rZ {K:List Key} {k:Key} (h:k∈K):∃j:Nat,num K k=(j:Int)+1∧K[j]? =some k:=by
 unfold num
 rw[if_pos h]
 refine⟨_,rfl,?_⟩
 have hl:K.idxOf k < K.length:=List.idxOf_lt_length_of_mem h
 rw[tK hl,List.getElem_idxOf]
theorem sE {K:List Key} {k:Key} {s:Int} (h:gH K k s=true):1≤s∧s≤(K.length:Int):=by
 rw[my] at h
 obtain⟨j,e1,e2⟩:=rZ h.1
 have:=(List.getElem?_eq_some_iff.1 e2).1
 have:=h.2
 omega
theorem gK {K:List Key} {m:Psp.Msg} (h:Psp.okB m=true):gf (sealK K m) m (jk K m)=true:=by
 unfold gf sealK jk
 rw[if_pos h,if_pos h,h,pJ]
 rfl
theorem jj {K:List Key} {m:Psp.Msg} {s:Int} (h:gf K m s=true):1≤s∧s≤(K.length:Int):=by
 unfold gf at h
 rw[tI] at h
 exact sE h.2
theorem cY (K:List Key) (m:Psp.Msg):(sealK K m).length≤K.length+1:=by
 unfold sealK bi
 split
 ·split
  ·omega
  ·simp
 ·omega
theorem oZ {f:Int} (hf:1≤f∧f≤4):Psp.may f=true:=by unfold Psp.may;simp;omega
theorem bL {n:Int} (h:0≤n) (h1:n < 1099511627776):Psp.okN n=true:=(Psp.bM _).2 ⟨h,h1⟩
theorem nu {n:Int} (h:0≤n) (h1:n < 1000):Psp.okS n=true:=(Psp.dw _).2 ⟨by omega,by omega⟩
theorem fd {f:Int} (hf:1≤f∧f≤4):Psp.aO f=3 * f+1:=by unfold Psp.aO;rw[if_pos hf]
theorem mr {α:Type} (e:α→List UInt8) (k:Nat):∀l:List α,(∀x∈l,(e x).length≤k)→(l.flatMap e).length≤l.length * k
 | [],_=>by simp
 |x :: l,h=>by
  have h1:=h x List.mem_cons_self
  have h2:=mr e k l fun y hy=>h y (List.mem_cons_of_mem _ hy)
  rw[List.flatMap_cons,tH,tC,Nat.succ_mul]
  omega
theorem ms {α:Type} {e:α→List UInt8} {k n:Nat} {l:List α} (hn:l.length≤n) (hn2:n≤256) (h:∀x∈l,(e x).length≤k):(Psp.bw e l).length≤6+n * k:=by
 have h1:=mr e k l h
 have h2:=Psp.dq (n:=(l.length:Int)) ((Psp.bM _).2 (by omega))
 have h3:=Nat.mul_le_mul_right k hn
 unfold Psp.bw
 rw[tH]
 omega
theorem rX {α:Type} {ok:α→Bool} {l:List α} (hn:l.length≤256) (h:∀x∈l,ok x=true):Psp.okL ok l=true:=by
 unfold Psp.okL
 rw[tB hn,Bool.true_and,List.all_eq_true]
 exact h
theorem nv {m:Psp.Msg} (h1:0≤m.k∧m.k < 1000) (h2:0≤m.f∧m.f < 1000) (h3:0≤m.v∧m.v < 1000) (h4:0≤m.i∧m.i < 1000) (h5:0≤m.q∧m.q < 1000) (h6:0≤m.r∧m.r < 1000)
 (b:Psp.okL Psp.okR m.b=true∧(Psp.bw Psp.bR m.b).length≤10000) (o:Psp.okL Psp.okV m.o=true∧(Psp.bw Psp.cI m.o).length≤10000) (c:Psp.okL Psp.okC m.c=true∧(Psp.bw Psp.cO m.c).length≤10000) (p:Psp.okL Psp.okP m.p=true∧(Psp.bw Psp.cP m.p).length≤10000):Psp.okB m=true∧(Psp.bu m).length≤50000:=by
 have a1:Psp.okN m.k=true:=bL (by omega) (by omega)
 have a2:Psp.okN m.f=true:=bL (by omega) (by omega)
 have a3:Psp.okN m.v=true:=bL (by omega) (by omega)
 have a4:Psp.okN m.i=true:=bL (by omega) (by omega)
 have a5:Psp.okN m.q=true:=bL (by omega) (by omega)
 have a6:Psp.okS m.r=true:=nu (by omega) (by omega)
 have hlen:(Psp.bu m).length≤50000:=by
  unfold Psp.bu
  simp only[tH]
  have:=Psp.dq a1
  have:=Psp.dq a2
  have:=Psp.dq a3
  have:=Psp.dq a4
  have:=Psp.dq a5
  have:=(Psp.dB m.r).2
  omega
 refine⟨?_,hlen⟩
 unfold Psp.okB Psp.okM
 rw[a1,a2,a3,a4,a5,a6,b.1,o.1,c.1,p.1,tI,decide_eq_true_eq]
 exact⟨rfl,by omega⟩
theorem fR {α:Type} (ok:α→Bool) (e:α→List UInt8):Psp.okL ok []=true∧(Psp.bw e []).length≤10000:=by
 refine⟨rfl,?_⟩
 have:=ms (e:=e) (k:=0) (n:=0) (l:=[]) (tJ _) (by omega) (fun x h=>by cases h)
 omega
theorem iE {K:List Key} {m:Psp.Msg} (h:okS K m=true):okE (aV K (kM m)) (Psp.bu m)=true:=by
 unfold okS at h
 rw[tI] at h
 exact h.2
theorem kA {K:List Key} {m:Psp.Msg} {f cl:Int} (a:Psp.okB m=true) (hl:(Psp.bu m).length≤50000) (hF:Psp.aF m f cl=true) (hK:K.length < 1000000):
 okS K m=true∧bW (Psp.aK (aV K (kM m))++Psp.bu m) f cl (sealK K m)=some (m,aV K (kM m)):=by
 have hs:=gK (K:=K) a
 have b:jk K m=aV K (kM m):=by unfold jk;rw[if_pos a]
 rw[b] at hs
 have hb:=jj hs
 have c:=cY K m
 have hN:Psp.okN (aV K (kM m))=true:=bL (by omega) (by omega)
 have hE:okE (aV K (kM m)) (Psp.bu m)=true:=by
  unfold okE
  have:=Psp.dq hN
  rw[hN,Bool.true_and,decide_eq_true_eq]
  omega
 refine⟨by unfold okS;rw[a,hE];rfl,?_⟩
 have hc:gH (sealK K m) (kM m) (aV K (kM m))=true:=by
  unfold gf at hs
  rw[tI] at hs
  exact hs.2
 rw[ns a hE,hF,hc]
 rfl
def gX (r:Psp.Req):Psp.Req:={r with s:=0}
def kR (r:Psp.Req):Key:=(100+r.c,res (Psp.bR (gX r)) (Psp.okR (gX r)))
theorem Bytes.from_ {e:List UInt8} {ok:Bool} {w w1 w':World} {en:Ending} (h:Bytes e ok w1 en w') (hb:Below w.heap.size w w1):Bytes e ok w en w':=by
 obtain⟨v,h1,h2,h3⟩:=h
 exact⟨v,h1,bA h2 hb.size,hb.trans (h3.mono hb.size)⟩
theorem pM (r:Psp.Req) (w:World):Calls Tryz.prog 55 #[.agg #[.int .i64 r.c,.int .i64 r.t,.int .i64 r.k,.int .i64 r.y,.int .i64 r.v,.int .i64 r.s]] w (Bytes (Psp.bR (gX r)) (Psp.okR (gX r)) w):=by
 have a:=ae w (.cells #[.int .i64 r.c,.int .i64 r.t,.int .i64 r.k,.int .i64 r.y,.int .i64 r.v,.int .i64 0] 42)
 go_enter Tryz.func55,Tryz.ntmps55
 go_wp2_with fail
 refine (rV r.c r.t r.k r.y r.v 0 _).mono ?_
 intro e w1 h
 have H:=tt (h.from_ a)
 obtain⟨A,c,rfl,_,_⟩:=h.open_
 clear h
 go_wp2_with fail
 go_ret2
 exact H.out
theorem mW (r:Psp.Req) (w:World):Calls Tryz.prog 74 #[.agg #[.int .i64 r.c,.int .i64 r.t,.int .i64 r.k,.int .i64 r.y,.int .i64 r.v,.int .i64 r.s]] w (Bytes (Psp.bR (gX r)) (Psp.okR (gX r)) w):=by
 have a:=ae w (.cells #[.int .i64 r.c,.int .i64 r.t,.int .i64 r.k,.int .i64 r.y,.int .i64 r.v,.int .i64 0] 42)
 go_enter Tryz.func74,Tryz.ntmps74
 go_wp2_with fail
 refine (rR r.c r.t r.k r.y r.v 0 _).mono ?_
 intro e w1 h
 have H:=tt (h.from_ a)
 obtain⟨A,c,rfl,_,_⟩:=h.open_
 clear h
 go_wp2_with fail
 go_ret2
 exact H.out
structure Cf where
 f:Int
 cl:Int
 c2:Int
 c3:Int
 c4:Int
 c5:Int
 c6:Int
 c7:Int
 c8:Int
 c9:Int
 c10:Int
 c11:Int
 c12:Int
 c13:Int
 re:Int
def Cf.ok (c:Cf):Bool:=
 Psp.win c.f 1 4&&(Psp.win c.cl 1 4&&(Psp.win c.c2 1 4&&(Psp.win c.c3 1 16&&(Psp.win c.c4 1 256&&(Psp.win c.c5 1 64&&(Psp.win c.c6 1 64&&(Psp.win c.c7 2 64&&(Psp.win c.c8 0 8&&(Psp.win c.c9 1 8&&(Psp.win c.c10 2 64&&(Psp.win c.c11 0 64&&(Psp.win c.c12 2 64&&(Psp.win c.c13 1 16&&Psp.win c.re 1 64)))))))))))))
structure CS where
 now:Int
 waits:Bool
 issued:List Psp.Req
 at_:Int
 ans:List (Int×Int)
 acc:List (Psp.Req×Int)
 out:List (Int×List UInt8)
def cs0:CS:=⟨0,false,[],0,[],[],[]⟩
def zR0:Psp.Req:=⟨0,0,0,0,0,0⟩
def CS.last (s:CS):Psp.Req:=s.issued.getD (s.issued.length - 1) zR0
def b7 (id:Int) (r:Psp.Req):Psp.Msg:=⟨1,100+id,0,0,0,0,[r],[],[],[]⟩
def aR (n i q r:Int):Psp.Msg:=⟨10,n,0,i,q,r,[],[],[],[]⟩
def cX (K:List Key) (m:Psp.Msg):List UInt8:=Psp.aK (aV K (kM m))++Psp.bu m
def bK (n:Nat) (b:List UInt8):List (Int×List UInt8):=(List.range n).map fun (j:Nat)=>((j:Int),b)
def dl (c:Cf) (id:Int) (K:List Key) (s:CS):CS×List Key:=
 (if okS K (b7 id s.last) then {s with out:=s.out++bK (Psp.aO c.f).toNat (cX K (b7 id s.last))} else s,sealK K (b7 id s.last))
def bI (id:Int) (s:CS) (k y v:Int):Psp.Req:=⟨id,(s.issued.length:Int)+1,k,y,v,0⟩
def fS (c:Cf) (id:Int) (K:List Key) (s:CS) (k y v:Int):(Psp.Req×Int)×CS×List Key:=
 if s.waits then ((zR0,5),s,K)
 else if Psp.aZ (bI id s k y v) c.cl then
  (({bI id s k y v with s:=aV K (kR (bI id s k y v))},0),
    dl c id (bi K (kR (bI id s k y v))) {s with issued:=s.issued++[{bI id s k y v with s:=aV K (kR (bI id s k y v))}],waits:=true,at_:=s.now,ans:=[]})
 else ((zR0,1),s,K)
def CS.hears (s:CS) (id:Int) (m:Psp.Msg):Bool:=decide (m.k=10)&&(decide (m.i=id)&&(decide (m.q=s.last.t)&& !(s.ans.any fun a=>a.1==m.f)))
def CS.same (s:CS) (r:Int):Int:=1+((s.ans.countP fun a=>a.2==r:Nat):Int)
def CS.heard (s:CS) (c:Cf) (m:Psp.Msg):CS:=
 if Psp.dE c.f≤s.same m.r then {s with ans:=s.ans++[(m.f,m.r)],acc:=s.acc++[(s.last,m.r)],waits:=false} else {s with ans:=s.ans++[(m.f,m.r)]}
def cL (c:Cf) (id:Int) (K:List Key) (s:CS) (b:List UInt8):Bool×CS:=
 if s.waits then match bW b c.f c.cl K with
  |some (m,_)=>if s.hears id m then (true,s.heard c m) else (false,s)
  |none=>(false,s)
 else (false,s)
def eY (c:Cf) (id:Int) (K:List Key) (s:CS):CS×List Key:=
 if s.now < 1048576 then
  if s.waits=true∧(s.now+1 - s.at_) % c.re=0 then dl c id K {s with now:=s.now+1} else ({s with now:=s.now+1},K)
 else (s,K)
theorem kp (K:List Key) (k:Key):1≤aV K k∧aV K k≤(K.length:Int)+1:=by
 unfold aV
 split
 ·rename_i h
  have:=List.idxOf_lt_length_iff.2 h
  omega
 ·omega
theorem fo (K:List Key) (k:Key):(bi K k).length≤K.length+1:=by
 unfold bi
 split
 ·omega
 ·rw[tH,List.length_singleton];omega
theorem lp {n i q r:Int} (hn:0≤n∧n < 1000) (hi:0≤i∧i < 1000) (hq:0≤q∧q < 2000000) (hr: -100000≤r∧r≤100000):Psp.okB (aR n i q r)=true∧(Psp.bu (aR n i q r)).length≤50000:=by
 have a1:Psp.okN (aR n i q r).k=true:=bL (by show (0:Int)≤10;omega) (by show (10:Int) < _;omega)
 have a2:Psp.okN (aR n i q r).f=true:=bL (by show 0≤n;omega) (by show n < _;omega)
 have a3:Psp.okN (aR n i q r).v=true:=rfl
 have a4:Psp.okN (aR n i q r).i=true:=bL (by show 0≤i;omega) (by show i < _;omega)
 have a5:Psp.okN (aR n i q r).q=true:=bL (by show 0≤q;omega) (by show q < _;omega)
 have a6:Psp.okS (aR n i q r).r=true:=by unfold Psp.okS;exact decide_eq_true ⟨by show _≤r;omega,by show r < _;omega⟩
 have b:=fR Psp.okR Psp.bR
 have o:=fR Psp.okV Psp.cI
 have c:=fR Psp.okC Psp.cO
 have p:=fR Psp.okP Psp.cP
 have eb:(aR n i q r).b=[]:=rfl
 have eo:(aR n i q r).o=[]:=rfl
 have ec:(aR n i q r).c=[]:=rfl
 have ep:(aR n i q r).p=[]:=rfl
 have hlen:(Psp.bu (aR n i q r)).length≤50000:=by
  unfold Psp.bu
  simp only[tH]
  rw[eb,eo,ec,ep]
  have:=Psp.dq a1
  have:=Psp.dq a2
  have:=Psp.dq a3
  have:=Psp.dq a4
  have:=Psp.dq a5
  have:=(Psp.dB (aR n i q r).r).2
  omega
 refine⟨?_,hlen⟩
 unfold Psp.okB Psp.okM
 rw[a1,a2,a3,a4,a5,a6,eb,eo,ec,ep,b.1,o.1,c.1,p.1,tI,decide_eq_true_eq]
 exact⟨rfl,by omega⟩
theorem oB {n i q r f cl:Int} (hf:1≤f∧f≤4) (hn:0≤n∧n≤3 * f) (hi:0≤i∧i < cl) (hq:1≤q∧q≤1048576) (hr: -100000≤r∧r≤100000):Psp.aF (aR n i q r) f cl=true:=by
 have e:Psp.aF (aR n i q r) f cl=(Psp.may f&&(Psp.bB n f&&(((0:Int)==0)&&(Psp.bZ (aR n i q r) false false false false&&(Psp.win i 0 (cl - 1)&&(Psp.win q 1 1048576&&Psp.win r (-549755813887) 549755813887)))))):=rfl
 have h1:Psp.bB n f=true:=by unfold Psp.bB;rw[fd hf];exact (Psp.aN _ _ _).2 ⟨by omega,by omega⟩
 rw[e,oZ hf,h1,(Psp.aN i 0 (cl - 1)).2 ⟨by omega,by omega⟩,(Psp.aN q 1 1048576).2 hq,(Psp.aN r _ _).2 ⟨by omega,by omega⟩]
 rfl
theorem oA {K:List Key} {n i q r f cl:Int} (hf:1≤f∧f≤4) (hn:0≤n∧n≤3 * f) (hi:0≤i∧i < cl) (hcl:cl≤4) (hq:1≤q∧q≤1048576) (hr: -100000≤r∧r≤100000) (hK:K.length < 1000000):
 okS K (aR n i q r)=true∧bW (cX K (aR n i q r)) f cl (sealK K (aR n i q r))=some (aR n i q r,aV K (kM (aR n i q r))):=by
 obtain⟨h1,h2⟩:=lp (n:=n) (i:=i) (q:=q) (r:=r) ⟨by omega,by omega⟩ ⟨by omega,by omega⟩ ⟨by omega,by omega⟩ hr
 exact kA h1 h2 (oB hf hn hi hq hr) hK
theorem ja {r:Psp.Req} {cl:Int} (hv:Psp.aZ r cl=true) (hcl:cl≤4):Psp.okR r=true:=by
 unfold Psp.aZ at hv
 rw[decide_eq_true_eq] at hv
 unfold Psp.okR
 rw[bL (n:=r.c) (by omega) (by omega),bL (n:=r.t) (by omega) (by omega),bL (n:=r.k) (by omega) (by omega),(Psp.dw r.y).2 ⟨by omega,by omega⟩,(Psp.dw r.v).2 ⟨by omega,by omega⟩,bL (n:=r.s) (by omega) (by omega)]
 rfl
theorem oz {id:Int} {r:Psp.Req} {cl:Int} (a:0≤id∧id < 100) (hv:Psp.aZ r cl=true) (hcl:cl≤4):Psp.okB (b7 id r)=true∧(Psp.bu (b7 id r)).length≤50000:=by
 have hR:Psp.okR r=true∧(Psp.bR r).length≤60:=⟨ja hv hcl,by have:=Psp.sd (ja hv hcl);omega⟩
 have b:Psp.okL Psp.okR (b7 id r).b=true∧(Psp.bw Psp.bR (b7 id r).b).length≤10000:=by
  have h:=ms (e:=Psp.bR) (l:=[r]) (n:=1) (k:=60) (by simp) (by omega) fun x hx=>by rw[List.mem_singleton.1 hx];exact hR.2
  exact⟨rX (by simp[b7]) (fun x hx=>by rw[show x=r from List.mem_singleton.1 hx];exact hR.1),by show (Psp.bw Psp.bR [r]).length≤_;omega⟩
 refine nv (m:=b7 id r) ?_ ?_ ?_ ?_ ?_ ?_ b (fR _ _) (fR _ _) (fR _ _)
 ·show (0:Int)≤1∧(1:Int) < 1000;omega
 ·show 0≤100+id∧100+id < 1000;omega
 ·show (0:Int)≤0∧(0:Int) < 1000;omega
 ·show (0:Int)≤0∧(0:Int) < 1000;omega
 ·show (0:Int)≤0∧(0:Int) < 1000;omega
 ·show (0:Int)≤0∧(0:Int) < 1000;omega
theorem ei {K:List Key} {m:Psp.Msg} (a:Psp.okB m=true) (hl:(Psp.bu m).length≤50000) (hK:K.length < 1000000):okS K m=true:=by
 have hs:=gK (K:=K) a
 have b:jk K m=aV K (kM m):=by unfold jk;rw[if_pos a]
 rw[b] at hs
 have hb:=jj hs
 have c:=cY K m
 have hN:Psp.okN (aV K (kM m))=true:=bL (by omega) (by omega)
 have hE:okE (aV K (kM m)) (Psp.bu m)=true:=by
  unfold okE
  have:=Psp.dq hN
  rw[hN,Bool.true_and,decide_eq_true_eq]
  omega
 unfold okS
 rw[a,hE]
 rfl
end Go.Proofs.YtipmjleohadoeaaGreat
end
