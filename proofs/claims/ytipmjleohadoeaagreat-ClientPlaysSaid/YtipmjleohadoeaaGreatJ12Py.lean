import Derived.Test.YtipmjleohadoeaaGreatJ11Py
import Derived.Test.YtipmjleohadoeaaGreatJ6Py
import Derived.Test.YtipmjleohadoeaaGreatJ8Py
import Derived.Test.YtipmjleohadoeaaGreatJ7Py
import Derived.Test.YtipmjleohadoeaaGreatJ10Py
set_option maxRecDepth 100000
set_option maxHeartbeats 16000000
set_option linter.unusedVariables false
set_option linter.unusedSimpArgs false
section
namespace Go.Proofs.YtipmjleohadoeaaGreat
open Go.RowKit
theorem qk (m:Psp.Msg) (vb vo vc vp:Value) (f cl:Int) (w:World) (P:Nat→Prop) (hx:MsgOk w P ⟨m,vb,vo,vc,vp⟩) (hw:cr m) (hf:Psp.may f=true) (hk:m.k=6):
 Calls Tryz.prog 105 #[.agg #[.int .i64 m.k,.int .i64 m.f,.int .i64 m.v,.int .i64 m.i,.int .i64 m.q,.int .i64 m.r,vb,vo,vc,vp],.int .i64 f,.int .i64 cl] w fun e w'=>e= .returned (.bool (Psp.aF m f cl))∧Below w.heap.size w w':=by
 obtain⟨Ab,Ao,Ac,Ap,cb,co,cc,cp,rfl,rfl,rfl,rfl⟩:=aG hx
 have HX:=tt hx
 have Hw:=tt hw
 obtain⟨nn,hnn⟩:∃q,Psp.aO f=q:=⟨_,rfl⟩
 have y:(nn==0)=false:=by rw[←hnn,bl,hf];rfl
 have HN:Hid (∀W:World,Calls Tryz.prog 13 #[.int .i64 f] W fun e w'=>e= .returned (.int .i64 nn)∧W=w'):=tt fun W=>by rw[←hnn];exact aM f W
 obtain⟨t,s⟩:=Psp.cd f
 rw[hnn] at t s
 obtain⟨g0,hg0⟩:∃x,decide (m.f < 0)=x:=⟨_,rfl⟩
 obtain⟨g1,hg1⟩:∃x,decide (m.f≥nn)=x:=⟨_,rfl⟩
 have hnb:Psp.bB m.f f=(!g0&& !g1):=by unfold Psp.bB;rw[hnn,←hg0,←hg1,Bool.eq_iff_iff,Psp.aN];simp;omega
 obtain⟨t0,ht0⟩:∃x,bx true false false false false false false false m.v m.i m.q m.r m.b.length m.o.length m.c.length m.p.length=x:=⟨_,rfl⟩
 obtain⟨t1,ht1⟩:∃x,decide (m.v≥0)=x:=⟨_,rfl⟩
 obtain⟨t2,ht2⟩:∃x,decide (m.v < 12)=x:=⟨_,rfl⟩
 have h:Hid (Psp.aF m f cl=((!g0&& !g1)&&(t0&&(t1&&(t2))))):=tt (by
  unfold Psp.aF
  rw[hf,Bool.true_and,←hnb,hk]
  simp only[Int.reduceEq,if_false,if_true,true_or,or_true]
  congr 1
  rw[←ht0,←ht1,←ht2]
  simp only[Psp.noB,Psp.bZ,bx,Psp.win,Psp.bn,List.all_cons,List.all_nil,Bool.false_or,Bool.true_or,Bool.true_and,Bool.and_true]
  first
   |rfl
   |(rw[Bool.eq_iff_iff];simp[and_assoc];omega)
   |(rw[Bool.eq_iff_iff];simp[and_assoc,and_left_comm,and_comm];try omega))
 have u:=tt ht0
 clear hx hw hnn hf hnb ht0
 have Hk:=tt hk
 rw[hk]
 have n:=tt (Mk.new w #[.int .i64 6,.int .i64 m.f,.int .i64 m.v,.int .i64 m.i,.int .i64 m.q,.int .i64 m.r,.slice Ab m.b.length cb,.slice Ao m.o.length co,.slice Ac m.c.length cc,.slice Ap m.p.length cp])
 go_enter Tryz.func105,Tryz.ntmps105
 go_wp2_with fail
 obtain⟨W0,hW0⟩:∃W,w.alloc (.cells #[.int .i64 6,.int .i64 m.f,.int .i64 m.v,.int .i64 m.i,.int .i64 m.q,.int .i64 m.r,.slice Ab m.b.length cb,.slice Ao m.o.length co,.slice Ac m.c.length cc,.slice Ap m.p.length cp] 56)=W:=⟨_,rfl⟩
 rw[hW0] at n ⊢
 clear hW0 hk
 refine (HN.out _).mono ?_
 rintro e w' ⟨rfl,rfl⟩
 have y0:W0.cell? ⟨w.heap.size,0,none⟩=some (.int .i64 6):=n.out.cell (j:=0) rfl
 go_wp2_with fail
 have y1:=ab (show W0.cell? ⟨w.heap.size,1,none⟩=some (.int .i64 m.f) from n.out.cell (j:=1) rfl)
 have l:Hid (∀p:Later W0,Calls Tryz.prog 13 #[.int .i64 f] p.W fun e w'=>e= .returned (.int .i64 nn)∧p.W=w'):=tt fun p=>HN.out _
 cases g0 with
 |true=>
  refine ai (by kernel_rfl) (by kernel_rfl) ?_
  repeat (first|go_big_quiet_step ((go_at_call 13;exact ah _ (l.out _)))|quiet_step ((go_at_call 13;exact ah _ (l.out _))))
  refine wpQuiet_nil ?_
  intro w2 d
  obtain⟨⟨wq,hbq⟩,d⟩:=d
  have hb2:Below W0.heap.size W0 w2:=by rw[d];exact hbq
  clear d hbq
  have a:=tt (n.out.below hb2)
  clear hb2 y0 y1
  have y0:w2.cell? ⟨w.heap.size,0,none⟩=some (.int .i64 6):=a.out.cell (j:=0) rfl
  go_wp2_with fail
  go_ret
  exact⟨by rw[h.out];rfl,a.out.be⟩
 |false=>
  cases g1 with
  |true=>
   refine ai (by kernel_rfl) (by kernel_rfl) ?_
   repeat (first|go_big_quiet_step ((go_at_call 13;exact ah _ (l.out _)))|quiet_step ((go_at_call 13;exact ah _ (l.out _))))
   refine wpQuiet_nil ?_
   intro w2 d
   obtain⟨⟨wq,hbq⟩,d⟩:=d
   have hb2:Below W0.heap.size W0 w2:=by rw[d];exact hbq
   clear d hbq
   have a:=tt (n.out.below hb2)
   clear hb2 y0 y1
   have y0:w2.cell? ⟨w.heap.size,0,none⟩=some (.int .i64 6):=a.out.cell (j:=0) rfl
   go_wp2_with fail
   go_ret
   exact⟨by rw[h.out];rfl,a.out.be⟩
  |false=>
   refine ai (by kernel_rfl) (by kernel_rfl) ?_
   repeat (first|go_big_quiet_step ((go_at_call 13;exact ah _ (l.out _)))|quiet_step ((go_at_call 13;exact ah _ (l.out _))))
   refine wpQuiet_nil ?_
   intro w2 d
   obtain⟨⟨wq,hbq⟩,d⟩:=d
   have hb2:Below W0.heap.size W0 w2:=by rw[d];exact hbq
   clear d hbq
   have a:=tt (n.out.below hb2)
   clear hb2 y0 y1
   have y0:w2.cell? ⟨w.heap.size,0,none⟩=some (.int .i64 6):=a.out.cell (j:=0) rfl
   have y1:w2.cell? ⟨w.heap.size,1,none⟩=some (.int .i64 m.f):=a.out.cell (j:=1) rfl
   have y2:w2.cell? ⟨w.heap.size,2,none⟩=some (.int .i64 m.v):=a.out.cell (j:=2) rfl
   have y3:w2.cell? ⟨w.heap.size,3,none⟩=some (.int .i64 m.i):=a.out.cell (j:=3) rfl
   have y4:w2.cell? ⟨w.heap.size,4,none⟩=some (.int .i64 m.q):=a.out.cell (j:=4) rfl
   have y5:w2.cell? ⟨w.heap.size,5,none⟩=some (.int .i64 m.r):=a.out.cell (j:=5) rfl
   have y6:w2.cell? ⟨w.heap.size,6,none⟩=some (.slice Ab m.b.length cb):=a.out.cell (j:=6) rfl
   have y7:w2.cell? ⟨w.heap.size,7,none⟩=some (.slice Ao m.o.length co):=a.out.cell (j:=7) rfl
   have y8:w2.cell? ⟨w.heap.size,8,none⟩=some (.slice Ac m.c.length cc):=a.out.cell (j:=8) rfl
   have y9:w2.cell? ⟨w.heap.size,9,none⟩=some (.slice Ap m.p.length cp):=a.out.cell (j:=9) rfl
   go_wp2_with fail
   clear y0 y1 y2 y3 y4 y5 y6 y7 y8 y9
   refine (qV _ _ _ _ _ _ _ _ _ _ _ _ _ _ _ _ _ _ w2).mono ?_
   rw[u.out]
   rintro e v0 ⟨rfl,hb⟩
   have g:=tt (a.out.below hb)
   clear hb
   have y0:v0.cell? ⟨w.heap.size,0,none⟩=some (.int .i64 6):=g.out.cell (j:=0) rfl
   have y1:v0.cell? ⟨w.heap.size,1,none⟩=some (.int .i64 m.f):=g.out.cell (j:=1) rfl
   have y2:v0.cell? ⟨w.heap.size,2,none⟩=some (.int .i64 m.v):=g.out.cell (j:=2) rfl
   have y3:v0.cell? ⟨w.heap.size,3,none⟩=some (.int .i64 m.i):=g.out.cell (j:=3) rfl
   have y4:v0.cell? ⟨w.heap.size,4,none⟩=some (.int .i64 m.q):=g.out.cell (j:=4) rfl
   have y5:v0.cell? ⟨w.heap.size,5,none⟩=some (.int .i64 m.r):=g.out.cell (j:=5) rfl
   have y6:v0.cell? ⟨w.heap.size,6,none⟩=some (.slice Ab m.b.length cb):=g.out.cell (j:=6) rfl
   have y7:v0.cell? ⟨w.heap.size,7,none⟩=some (.slice Ao m.o.length co):=g.out.cell (j:=7) rfl
   have y8:v0.cell? ⟨w.heap.size,8,none⟩=some (.slice Ac m.c.length cc):=g.out.cell (j:=8) rfl
   have y9:v0.cell? ⟨w.heap.size,9,none⟩=some (.slice Ap m.p.length cp):=g.out.cell (j:=9) rfl
   cases t0 with
   |false=>
    go_wp2_with fail
    go_ret
    exact⟨by rw[h.out];rfl,g.out.be⟩
   |true=>
    cases t1 with
    |false=>
     go_wp2_with fail
     go_ret
     exact⟨by rw[h.out];rfl,g.out.be⟩
    |true=>
     cases t2 with
     |false=>
      go_wp2_with fail
      go_ret
      exact⟨by rw[h.out];rfl,g.out.be⟩
     |true=>
      go_wp2_with fail
      go_ret
      exact⟨by rw[h.out];rfl,g.out.be⟩
theorem qj (m:Psp.Msg) (vb vo vc vp:Value) (f cl:Int) (w:World) (P:Nat→Prop) (hx:MsgOk w P ⟨m,vb,vo,vc,vp⟩) (hw:cr m) (hf:Psp.may f=true) (hk:m.k=7):
 Calls Tryz.prog 105 #[.agg #[.int .i64 m.k,.int .i64 m.f,.int .i64 m.v,.int .i64 m.i,.int .i64 m.q,.int .i64 m.r,vb,vo,vc,vp],.int .i64 f,.int .i64 cl] w fun e w'=>e= .returned (.bool (Psp.aF m f cl))∧Below w.heap.size w w':=by
 obtain⟨Ab,Ao,Ac,Ap,cb,co,cc,cp,rfl,rfl,rfl,rfl⟩:=aG hx
 have HX:=tt hx
 have Hw:=tt hw
 obtain⟨nn,hnn⟩:∃q,Psp.aO f=q:=⟨_,rfl⟩
 have A:(nn==0)=false:=by rw[←hnn,bl,hf];rfl
 have HN:Hid (∀W:World,Calls Tryz.prog 13 #[.int .i64 f] W fun e w'=>e= .returned (.int .i64 nn)∧W=w'):=tt fun W=>by rw[←hnn];exact aM f W
 obtain⟨u,t⟩:=Psp.cd f
 rw[hnn] at u t
 obtain⟨g0,hg0⟩:∃x,decide (m.f < 0)=x:=⟨_,rfl⟩
 obtain⟨g1,hg1⟩:∃x,decide (m.f≥nn)=x:=⟨_,rfl⟩
 have hnb:Psp.bB m.f f=(!g0&& !g1):=by unfold Psp.bB;rw[hnn,←hg0,←hg1,Bool.eq_iff_iff,Psp.aN];simp;omega
 obtain⟨t0,ht0⟩:∃x,bx true false false false false true true false m.v m.i m.q m.r m.b.length m.o.length m.c.length m.p.length=x:=⟨_,rfl⟩
 obtain⟨t1,ht1⟩:∃x,Psp.cx m.v m.o m.c f cl=x:=⟨_,rfl⟩
 have l:Hid (Psp.aF m f cl=((!g0&& !g1)&&(t0&&(t1)))):=tt (by
  unfold Psp.aF
  rw[hf,Bool.true_and,←hnb,hk]
  simp only[Int.reduceEq,if_false,if_true,true_or,or_true]
  congr 1
  rw[←ht0,←ht1]
  simp only[Psp.noB,Psp.bZ,bx,Psp.win,Psp.bn,List.all_cons,List.all_nil,Bool.false_or,Bool.true_or,Bool.true_and,Bool.and_true]
  first
   |rfl
   |(rw[Bool.eq_iff_iff];simp[and_assoc];omega)
   |(rw[Bool.eq_iff_iff];simp[and_assoc,and_left_comm,and_comm];try omega))
 have z:=tt ht0
 have y:=tt ht1
 clear hx hw hnn hf hnb ht0 ht1
 have Hk:=tt hk
 rw[hk]
 have s:=tt (Mk.new w #[.int .i64 7,.int .i64 m.f,.int .i64 m.v,.int .i64 m.i,.int .i64 m.q,.int .i64 m.r,.slice Ab m.b.length cb,.slice Ao m.o.length co,.slice Ac m.c.length cc,.slice Ap m.p.length cp])
 go_enter Tryz.func105,Tryz.ntmps105
 go_wp2_with fail
 obtain⟨W0,hW0⟩:∃W,w.alloc (.cells #[.int .i64 7,.int .i64 m.f,.int .i64 m.v,.int .i64 m.i,.int .i64 m.q,.int .i64 m.r,.slice Ab m.b.length cb,.slice Ao m.o.length co,.slice Ac m.c.length cc,.slice Ap m.p.length cp] 56)=W:=⟨_,rfl⟩
 rw[hW0] at s ⊢
 clear hW0 hk
 refine (HN.out _).mono ?_
 rintro e w' ⟨rfl,rfl⟩
 have y0:W0.cell? ⟨w.heap.size,0,none⟩=some (.int .i64 7):=s.out.cell (j:=0) rfl
 go_wp2_with fail
 have y1:=ab (show W0.cell? ⟨w.heap.size,1,none⟩=some (.int .i64 m.f) from s.out.cell (j:=1) rfl)
 have n:Hid (∀p:Later W0,Calls Tryz.prog 13 #[.int .i64 f] p.W fun e w'=>e= .returned (.int .i64 nn)∧p.W=w'):=tt fun p=>HN.out _
 cases g0 with
 |true=>
  refine ai (by kernel_rfl) (by kernel_rfl) ?_
  repeat (first|go_big_quiet_step ((go_at_call 13;exact ah _ (n.out _)))|quiet_step ((go_at_call 13;exact ah _ (n.out _))))
  refine wpQuiet_nil ?_
  intro w2 d
  obtain⟨⟨wq,hbq⟩,d⟩:=d
  have hb2:Below W0.heap.size W0 w2:=by rw[d];exact hbq
  clear d hbq
  have a:=tt (s.out.below hb2)
  clear hb2 y0 y1
  have y0:w2.cell? ⟨w.heap.size,0,none⟩=some (.int .i64 7):=a.out.cell (j:=0) rfl
  go_wp2_with fail
  go_ret
  exact⟨by rw[l.out];rfl,a.out.be⟩
 |false=>
  cases g1 with
  |true=>
   refine ai (by kernel_rfl) (by kernel_rfl) ?_
   repeat (first|go_big_quiet_step ((go_at_call 13;exact ah _ (n.out _)))|quiet_step ((go_at_call 13;exact ah _ (n.out _))))
   refine wpQuiet_nil ?_
   intro w2 d
   obtain⟨⟨wq,hbq⟩,d⟩:=d
   have hb2:Below W0.heap.size W0 w2:=by rw[d];exact hbq
   clear d hbq
   have a:=tt (s.out.below hb2)
   clear hb2 y0 y1
   have y0:w2.cell? ⟨w.heap.size,0,none⟩=some (.int .i64 7):=a.out.cell (j:=0) rfl
   go_wp2_with fail
   go_ret
   exact⟨by rw[l.out];rfl,a.out.be⟩
  |false=>
   refine ai (by kernel_rfl) (by kernel_rfl) ?_
   repeat (first|go_big_quiet_step ((go_at_call 13;exact ah _ (n.out _)))|quiet_step ((go_at_call 13;exact ah _ (n.out _))))
   refine wpQuiet_nil ?_
   intro w2 d
   obtain⟨⟨wq,hbq⟩,d⟩:=d
   have hb2:Below W0.heap.size W0 w2:=by rw[d];exact hbq
   clear d hbq
   have a:=tt (s.out.below hb2)
   clear hb2 y0 y1
   have y0:w2.cell? ⟨w.heap.size,0,none⟩=some (.int .i64 7):=a.out.cell (j:=0) rfl
   have y1:w2.cell? ⟨w.heap.size,1,none⟩=some (.int .i64 m.f):=a.out.cell (j:=1) rfl
   have y2:w2.cell? ⟨w.heap.size,2,none⟩=some (.int .i64 m.v):=a.out.cell (j:=2) rfl
   have y3:w2.cell? ⟨w.heap.size,3,none⟩=some (.int .i64 m.i):=a.out.cell (j:=3) rfl
   have y4:w2.cell? ⟨w.heap.size,4,none⟩=some (.int .i64 m.q):=a.out.cell (j:=4) rfl
   have y5:w2.cell? ⟨w.heap.size,5,none⟩=some (.int .i64 m.r):=a.out.cell (j:=5) rfl
   have y6:w2.cell? ⟨w.heap.size,6,none⟩=some (.slice Ab m.b.length cb):=a.out.cell (j:=6) rfl
   have y7:w2.cell? ⟨w.heap.size,7,none⟩=some (.slice Ao m.o.length co):=a.out.cell (j:=7) rfl
   have y8:w2.cell? ⟨w.heap.size,8,none⟩=some (.slice Ac m.c.length cc):=a.out.cell (j:=8) rfl
   have y9:w2.cell? ⟨w.heap.size,9,none⟩=some (.slice Ap m.p.length cp):=a.out.cell (j:=9) rfl
   go_wp2_with fail
   clear y0 y1 y2 y3 y4 y5 y6 y7 y8 y9
   refine (nK _ _ _ _ _ _ _ _ _ _ _ _ _ _ _ _ _ _ w2).mono ?_
   rw[z.out]
   rintro e v0 ⟨rfl,hb⟩
   have g:=tt (a.out.below hb)
   clear hb
   have y0:v0.cell? ⟨w.heap.size,0,none⟩=some (.int .i64 7):=g.out.cell (j:=0) rfl
   have y1:v0.cell? ⟨w.heap.size,1,none⟩=some (.int .i64 m.f):=g.out.cell (j:=1) rfl
   have y2:v0.cell? ⟨w.heap.size,2,none⟩=some (.int .i64 m.v):=g.out.cell (j:=2) rfl
   have y3:v0.cell? ⟨w.heap.size,3,none⟩=some (.int .i64 m.i):=g.out.cell (j:=3) rfl
   have y4:v0.cell? ⟨w.heap.size,4,none⟩=some (.int .i64 m.q):=g.out.cell (j:=4) rfl
   have y5:v0.cell? ⟨w.heap.size,5,none⟩=some (.int .i64 m.r):=g.out.cell (j:=5) rfl
   have y6:v0.cell? ⟨w.heap.size,6,none⟩=some (.slice Ab m.b.length cb):=g.out.cell (j:=6) rfl
   have y7:v0.cell? ⟨w.heap.size,7,none⟩=some (.slice Ao m.o.length co):=g.out.cell (j:=7) rfl
   have y8:v0.cell? ⟨w.heap.size,8,none⟩=some (.slice Ac m.c.length cc):=g.out.cell (j:=8) rfl
   have y9:v0.cell? ⟨w.heap.size,9,none⟩=some (.slice Ap m.p.length cp):=g.out.cell (j:=9) rfl
   cases t0 with
   |false=>
    go_wp2_with fail
    go_ret
    exact⟨by rw[l.out];rfl,g.out.be⟩
   |true=>
    go_wp2_with fail
    clear y0 y1 y2 y3 y4 y5 y6 y7 y8 y9
    refine (jt m.v m.o m.c _ _ f cl v0 P (RdV.keeps' HX.out.2.1 (Keeps.below g.out.be)) (HX.out.2.2.1.keeps (Keeps.below g.out.be)) Hw.out.2.2.2.2.2.2.2.1 Hw.out.2.2.2.2.2.2.2.2.1).mono ?_
    rw[y.out]
    rintro e v1 ⟨rfl,hb⟩
    have h:=tt (g.out.below hb)
    clear hb
    have y0:v1.cell? ⟨w.heap.size,0,none⟩=some (.int .i64 7):=h.out.cell (j:=0) rfl
    have y1:v1.cell? ⟨w.heap.size,1,none⟩=some (.int .i64 m.f):=h.out.cell (j:=1) rfl
    have y2:v1.cell? ⟨w.heap.size,2,none⟩=some (.int .i64 m.v):=h.out.cell (j:=2) rfl
    have y3:v1.cell? ⟨w.heap.size,3,none⟩=some (.int .i64 m.i):=h.out.cell (j:=3) rfl
    have y4:v1.cell? ⟨w.heap.size,4,none⟩=some (.int .i64 m.q):=h.out.cell (j:=4) rfl
    have y5:v1.cell? ⟨w.heap.size,5,none⟩=some (.int .i64 m.r):=h.out.cell (j:=5) rfl
    have y6:v1.cell? ⟨w.heap.size,6,none⟩=some (.slice Ab m.b.length cb):=h.out.cell (j:=6) rfl
    have y7:v1.cell? ⟨w.heap.size,7,none⟩=some (.slice Ao m.o.length co):=h.out.cell (j:=7) rfl
    have y8:v1.cell? ⟨w.heap.size,8,none⟩=some (.slice Ac m.c.length cc):=h.out.cell (j:=8) rfl
    have y9:v1.cell? ⟨w.heap.size,9,none⟩=some (.slice Ap m.p.length cp):=h.out.cell (j:=9) rfl
    cases t1 with
    |false=>
     go_wp2_with fail
     go_ret
     exact⟨by rw[l.out];rfl,h.out.be⟩
    |true=>
     go_wp2_with fail
     go_ret
     exact⟨by rw[l.out];rfl,h.out.be⟩
theorem qi (m:Psp.Msg) (vb vo vc vp:Value) (f cl:Int) (w:World) (P:Nat→Prop) (hx:MsgOk w P ⟨m,vb,vo,vc,vp⟩) (hw:cr m) (hf:Psp.may f=true) (hk:m.k=8):
 Calls Tryz.prog 105 #[.agg #[.int .i64 m.k,.int .i64 m.f,.int .i64 m.v,.int .i64 m.i,.int .i64 m.q,.int .i64 m.r,vb,vo,vc,vp],.int .i64 f,.int .i64 cl] w fun e w'=>e= .returned (.bool (Psp.aF m f cl))∧Below w.heap.size w w':=by
 obtain⟨Ab,Ao,Ac,Ap,cb,co,cc,cp,rfl,rfl,rfl,rfl⟩:=aG hx
 have HX:=tt hx
 have Hw:=tt hw
 obtain⟨nn,hnn⟩:∃q,Psp.aO f=q:=⟨_,rfl⟩
 have G:(nn==0)=false:=by rw[←hnn,bl,hf];rfl
 have HN:Hid (∀W:World,Calls Tryz.prog 13 #[.int .i64 f] W fun e w'=>e= .returned (.int .i64 nn)∧W=w'):=tt fun W=>by rw[←hnn];exact aM f W
 obtain⟨C,B⟩:=Psp.cd f
 rw[hnn] at C B
 obtain⟨g0,hg0⟩:∃x,decide (m.f < 0)=x:=⟨_,rfl⟩
 obtain⟨g1,hg1⟩:∃x,decide (m.f≥nn)=x:=⟨_,rfl⟩
 have hnb:Psp.bB m.f f=(!g0&& !g1):=by unfold Psp.bB;rw[hnn,←hg0,←hg1,Bool.eq_iff_iff,Psp.aN];simp;omega
 obtain⟨t0,ht0⟩:∃x,bx true true false false false false false true m.v m.i m.q m.r m.b.length m.o.length m.c.length m.p.length=x:=⟨_,rfl⟩
 obtain⟨t1,ht1⟩:∃x,decide (m.v≥1)=x:=⟨_,rfl⟩
 obtain⟨t2,ht2⟩:∃x,decide (m.v≤12)=x:=⟨_,rfl⟩
 obtain⟨t3,ht3⟩:∃x,decide (m.i≥0)=x:=⟨_,rfl⟩
 obtain⟨t4,ht4⟩:∃x,decide (m.i≤f)=x:=⟨_,rfl⟩
 obtain⟨t5,ht5⟩:∃x,(m.f==Psp.aP f m.v m.i)=x:=⟨_,rfl⟩
 obtain⟨t6,ht6⟩:∃x,Psp.cN m.v m.p f cl=x:=⟨_,rfl⟩
 have s:Hid (Psp.aF m f cl=((!g0&& !g1)&&(t0&&(t1&&(t2&&(t3&&(t4&&(t5&&(t6))))))))):=tt (by
  unfold Psp.aF
  rw[hf,Bool.true_and,←hnb,hk]
  simp only[Int.reduceEq,if_false,if_true,true_or,or_true]
  congr 1
  rw[←ht0,←ht1,←ht2,←ht3,←ht4,←ht5,←ht6]
  simp only[Psp.noB,Psp.bZ,bx,Psp.win,Psp.bn,List.all_cons,List.all_nil,Bool.false_or,Bool.true_or,Bool.true_and,Bool.and_true]
  first
   |rfl
   |(rw[Bool.eq_iff_iff];simp[and_assoc];omega)
   |(rw[Bool.eq_iff_iff];simp[and_assoc,and_left_comm,and_comm];try omega))
 have E:=tt ht0
 have D:=tt ht6
 clear hx hw hnn hf hnb ht0 ht6
 obtain⟨pr,hpr⟩:∃x,Psp.aP f m.v m.i=x:=⟨_,rfl⟩
 have F:Hid (∀W:World,Calls Tryz.prog 136 #[.int .i64 f,.int .i64 m.v,.int .i64 m.i] W fun e w'=>e= .returned (.int .i64 pr)∧W=w'):=tt fun W=>by rw[←hpr];exact fI f m.v m.i W Hw.out.2.2.1.1 Hw.out.2.2.1.2 Hw.out.2.2.2.1.1 Hw.out.2.2.2.1.2
 rw[hpr] at ht5
 clear hpr
 have Hk:=tt hk
 rw[hk]
 have z:=tt (Mk.new w #[.int .i64 8,.int .i64 m.f,.int .i64 m.v,.int .i64 m.i,.int .i64 m.q,.int .i64 m.r,.slice Ab m.b.length cb,.slice Ao m.o.length co,.slice Ac m.c.length cc,.slice Ap m.p.length cp])
 go_enter Tryz.func105,Tryz.ntmps105
 go_wp2_with fail
 obtain⟨W0,hW0⟩:∃W,w.alloc (.cells #[.int .i64 8,.int .i64 m.f,.int .i64 m.v,.int .i64 m.i,.int .i64 m.q,.int .i64 m.r,.slice Ab m.b.length cb,.slice Ao m.o.length co,.slice Ac m.c.length cc,.slice Ap m.p.length cp] 56)=W:=⟨_,rfl⟩
 rw[hW0] at z ⊢
 clear hW0 hk
 refine (HN.out _).mono ?_
 rintro e w' ⟨rfl,rfl⟩
 have y0:W0.cell? ⟨w.heap.size,0,none⟩=some (.int .i64 8):=z.out.cell (j:=0) rfl
 go_wp2_with fail
 have y1:=ab (show W0.cell? ⟨w.heap.size,1,none⟩=some (.int .i64 m.f) from z.out.cell (j:=1) rfl)
 have y:Hid (∀p:Later W0,Calls Tryz.prog 13 #[.int .i64 f] p.W fun e w'=>e= .returned (.int .i64 nn)∧p.W=w'):=tt fun p=>HN.out _
 cases g0 with
 |true=>
  refine ai (by kernel_rfl) (by kernel_rfl) ?_
  repeat (first|go_big_quiet_step ((go_at_call 13;exact ah _ (y.out _)))|quiet_step ((go_at_call 13;exact ah _ (y.out _))))
  refine wpQuiet_nil ?_
  intro w2 a
  obtain⟨⟨wq,hbq⟩,a⟩:=a
  have hb2:Below W0.heap.size W0 w2:=by rw[a];exact hbq
  clear a hbq
  have d:=tt (z.out.below hb2)
  clear hb2 y0 y1
  have y0:w2.cell? ⟨w.heap.size,0,none⟩=some (.int .i64 8):=d.out.cell (j:=0) rfl
  go_wp2_with fail
  go_ret
  exact⟨by rw[s.out];rfl,d.out.be⟩
 |false=>
  cases g1 with
  |true=>
   refine ai (by kernel_rfl) (by kernel_rfl) ?_
   repeat (first|go_big_quiet_step ((go_at_call 13;exact ah _ (y.out _)))|quiet_step ((go_at_call 13;exact ah _ (y.out _))))
   refine wpQuiet_nil ?_
   intro w2 a
   obtain⟨⟨wq,hbq⟩,a⟩:=a
   have hb2:Below W0.heap.size W0 w2:=by rw[a];exact hbq
   clear a hbq
   have d:=tt (z.out.below hb2)
   clear hb2 y0 y1
   have y0:w2.cell? ⟨w.heap.size,0,none⟩=some (.int .i64 8):=d.out.cell (j:=0) rfl
   go_wp2_with fail
   go_ret
   exact⟨by rw[s.out];rfl,d.out.be⟩
  |false=>
   refine ai (by kernel_rfl) (by kernel_rfl) ?_
   repeat (first|go_big_quiet_step ((go_at_call 13;exact ah _ (y.out _)))|quiet_step ((go_at_call 13;exact ah _ (y.out _))))
   refine wpQuiet_nil ?_
   intro w2 a
   obtain⟨⟨wq,hbq⟩,a⟩:=a
   have hb2:Below W0.heap.size W0 w2:=by rw[a];exact hbq
   clear a hbq
   have d:=tt (z.out.below hb2)
   clear hb2 y0 y1
   have y0:w2.cell? ⟨w.heap.size,0,none⟩=some (.int .i64 8):=d.out.cell (j:=0) rfl
   go_wp2_with fail
   clear y0
   have n:Hid (∀p:Later w2,Calls Tryz.prog 133 #[.agg #[.int .i64 8,.int .i64 m.f,.int .i64 m.v,.int .i64 m.i,.int .i64 m.q,.int .i64 m.r,.slice Ab m.b.length cb,.slice Ao m.o.length co,.slice Ac m.c.length cc,.slice Ap m.p.length cp],.string {data:=#[118,105,112]}] p.W fun e w'=>e= .returned (.bool t0)∧Below p.W.heap.size p.W w'):=tt fun p=>by rw[←E.out];have A:=Hk.out;rw[←A];exact nL _ _ _ _ _ _ _ _ _ _ _ _ _ _ _ _ _ _ p.W
   have l:Hid (∀p:Later w2,Calls Tryz.prog 138 #[.agg #[.int .i64 8,.int .i64 m.f,.int .i64 m.v,.int .i64 m.i,.int .i64 m.q,.int .i64 m.r,.slice Ab m.b.length cb,.slice Ao m.o.length co,.slice Ac m.c.length cc,.slice Ap m.p.length cp],.int .i64 f,.int .i64 cl] p.W fun e w'=>e= .returned (.bool t6)∧Below p.W.heap.size p.W w'):=tt fun p=>by rw[←D.out];have A:=Hk.out;rw[←A];exact oh m _ _ _ _ f cl p.W P (HX.out.keeps (Keeps.below (d.out.below p.h).be)) Hw.out.2.2.2.2.2.2.2.2.2
   have g:Hid (∀p:Later w2,Calls Tryz.prog 136 #[.int .i64 f,.int .i64 m.v,.int .i64 m.i] p.W fun e w'=>e= .returned (.int .i64 pr)∧p.W=w'):=tt fun p=>F.out _
   have u:Hid (∀w':World,(∃p:Later w2,w'=p.W)→w'.rangeAt w.heap.size 0 [.int .i64 8,.int .i64 m.f,.int .i64 m.v,.int .i64 m.i,.int .i64 m.q,.int .i64 m.r,.slice Ab m.b.length cb,.slice Ao m.o.length co,.slice Ac m.c.length cc,.slice Ap m.p.length cp]):=tt (by rintro w' ⟨p,rfl⟩;exact aB (d.out.below p.h).box)
   have y1:=ab (show w2.cell? ⟨w.heap.size,1,none⟩=some (.int .i64 m.f) from d.out.cell (j:=1) rfl)
   have y2:=ab (show w2.cell? ⟨w.heap.size,2,none⟩=some (.int .i64 m.v) from d.out.cell (j:=2) rfl)
   have y3:=ab (show w2.cell? ⟨w.heap.size,3,none⟩=some (.int .i64 m.i) from d.out.cell (j:=3) rfl)
   have y4:=ab (show w2.cell? ⟨w.heap.size,4,none⟩=some (.int .i64 m.q) from d.out.cell (j:=4) rfl)
   have y5:=ab (show w2.cell? ⟨w.heap.size,5,none⟩=some (.int .i64 m.r) from d.out.cell (j:=5) rfl)
   have y6:=ab (show w2.cell? ⟨w.heap.size,6,none⟩=some (.slice Ab m.b.length cb) from d.out.cell (j:=6) rfl)
   have y7:=ab (show w2.cell? ⟨w.heap.size,7,none⟩=some (.slice Ao m.o.length co) from d.out.cell (j:=7) rfl)
   have y8:=ab (show w2.cell? ⟨w.heap.size,8,none⟩=some (.slice Ac m.c.length cc) from d.out.cell (j:=8) rfl)
   have y9:=ab (show w2.cell? ⟨w.heap.size,9,none⟩=some (.slice Ap m.p.length cp) from d.out.cell (j:=9) rfl)
   cases t0 with
   |false=>
    refine ai (by kernel_rfl) (by kernel_rfl) ?_
    repeat (first|go_big_quiet_step (first|(go_at_call 133;exact ag _ (n.out _))|(go_at_call 138;exact ag _ (l.out _))|(go_at_call 136;exact ah _ (g.out _)))|(refine aj (by simp[Region.wanted,yielded]) 56 (.tmp 3) (by rfl) w.heap.size (0) (by rfl) [.int .i64 8,.int .i64 m.f,.int .i64 m.v,.int .i64 m.i,.int .i64 m.q,.int .i64 m.r,.slice Ab m.b.length cb,.slice Ao m.o.length co,.slice Ac m.c.length cc,.slice Ap m.p.length cp] _ u.out Tryz.underlying56 rfl ax ?_;intro K hK;go_simp;refine hK _ ?_;clear hK K)|quiet_step (first|(go_at_call 133;exact ag _ (n.out _))|(go_at_call 138;exact ag _ (l.out _))|(go_at_call 136;exact ah _ (g.out _))))
    refine wpQuiet_nil ?_
    intro w3 a
    obtain⟨⟨wq,hbq⟩,a⟩:=a
    have hb2:Below w2.heap.size w2 w3:=by rw[a];exact hbq
    clear a hbq
    have t:=tt (d.out.below hb2)
    clear hb2
    go_wp2_with fail
    go_ret
    exact⟨by rw[s.out];rfl,t.out.be⟩
   |true=>
    cases t1 with
    |false=>
     refine ai (by kernel_rfl) (by kernel_rfl) ?_
     repeat (first|go_big_quiet_step (first|(go_at_call 133;exact ag _ (n.out _))|(go_at_call 138;exact ag _ (l.out _))|(go_at_call 136;exact ah _ (g.out _)))|(refine aj (by simp[Region.wanted,yielded]) 56 (.tmp 3) (by rfl) w.heap.size (0) (by rfl) [.int .i64 8,.int .i64 m.f,.int .i64 m.v,.int .i64 m.i,.int .i64 m.q,.int .i64 m.r,.slice Ab m.b.length cb,.slice Ao m.o.length co,.slice Ac m.c.length cc,.slice Ap m.p.length cp] _ u.out Tryz.underlying56 rfl ax ?_;intro K hK;go_simp;refine hK _ ?_;clear hK K)|quiet_step (first|(go_at_call 133;exact ag _ (n.out _))|(go_at_call 138;exact ag _ (l.out _))|(go_at_call 136;exact ah _ (g.out _))))
     refine wpQuiet_nil ?_
     intro w3 a
     obtain⟨⟨wq,hbq⟩,a⟩:=a
     have hb2:Below w2.heap.size w2 w3:=by rw[a];exact hbq
     clear a hbq
     have t:=tt (d.out.below hb2)
     clear hb2
     go_wp2_with fail
     go_ret
     exact⟨by rw[s.out];rfl,t.out.be⟩
    |true=>
     cases t2 with
     |false=>
      refine ai (by kernel_rfl) (by kernel_rfl) ?_
      repeat (first|go_big_quiet_step (first|(go_at_call 133;exact ag _ (n.out _))|(go_at_call 138;exact ag _ (l.out _))|(go_at_call 136;exact ah _ (g.out _)))|(refine aj (by simp[Region.wanted,yielded]) 56 (.tmp 3) (by rfl) w.heap.size (0) (by rfl) [.int .i64 8,.int .i64 m.f,.int .i64 m.v,.int .i64 m.i,.int .i64 m.q,.int .i64 m.r,.slice Ab m.b.length cb,.slice Ao m.o.length co,.slice Ac m.c.length cc,.slice Ap m.p.length cp] _ u.out Tryz.underlying56 rfl ax ?_;intro K hK;go_simp;refine hK _ ?_;clear hK K)|quiet_step (first|(go_at_call 133;exact ag _ (n.out _))|(go_at_call 138;exact ag _ (l.out _))|(go_at_call 136;exact ah _ (g.out _))))
      refine wpQuiet_nil ?_
      intro w3 a
      obtain⟨⟨wq,hbq⟩,a⟩:=a
      have hb2:Below w2.heap.size w2 w3:=by rw[a];exact hbq
      clear a hbq
      have t:=tt (d.out.below hb2)
      clear hb2
      go_wp2_with fail
      go_ret
      exact⟨by rw[s.out];rfl,t.out.be⟩
     |true=>
      cases t3 with
      |false=>
       refine ai (by kernel_rfl) (by kernel_rfl) ?_
       repeat (first|go_big_quiet_step (first|(go_at_call 133;exact ag _ (n.out _))|(go_at_call 138;exact ag _ (l.out _))|(go_at_call 136;exact ah _ (g.out _)))|(refine aj (by simp[Region.wanted,yielded]) 56 (.tmp 3) (by rfl) w.heap.size (0) (by rfl) [.int .i64 8,.int .i64 m.f,.int .i64 m.v,.int .i64 m.i,.int .i64 m.q,.int .i64 m.r,.slice Ab m.b.length cb,.slice Ao m.o.length co,.slice Ac m.c.length cc,.slice Ap m.p.length cp] _ u.out Tryz.underlying56 rfl ax ?_;intro K hK;go_simp;refine hK _ ?_;clear hK K)|quiet_step (first|(go_at_call 133;exact ag _ (n.out _))|(go_at_call 138;exact ag _ (l.out _))|(go_at_call 136;exact ah _ (g.out _))))
       refine wpQuiet_nil ?_
       intro w3 a
       obtain⟨⟨wq,hbq⟩,a⟩:=a
       have hb2:Below w2.heap.size w2 w3:=by rw[a];exact hbq
       clear a hbq
       have t:=tt (d.out.below hb2)
       clear hb2
       go_wp2_with fail
       go_ret
       exact⟨by rw[s.out];rfl,t.out.be⟩
      |true=>
       cases t4 with
       |false=>
        refine ai (by kernel_rfl) (by kernel_rfl) ?_
        repeat (first|go_big_quiet_step (first|(go_at_call 133;exact ag _ (n.out _))|(go_at_call 138;exact ag _ (l.out _))|(go_at_call 136;exact ah _ (g.out _)))|(refine aj (by simp[Region.wanted,yielded]) 56 (.tmp 3) (by rfl) w.heap.size (0) (by rfl) [.int .i64 8,.int .i64 m.f,.int .i64 m.v,.int .i64 m.i,.int .i64 m.q,.int .i64 m.r,.slice Ab m.b.length cb,.slice Ao m.o.length co,.slice Ac m.c.length cc,.slice Ap m.p.length cp] _ u.out Tryz.underlying56 rfl ax ?_;intro K hK;go_simp;refine hK _ ?_;clear hK K)|quiet_step (first|(go_at_call 133;exact ag _ (n.out _))|(go_at_call 138;exact ag _ (l.out _))|(go_at_call 136;exact ah _ (g.out _))))
        refine wpQuiet_nil ?_
        intro w3 a
        obtain⟨⟨wq,hbq⟩,a⟩:=a
        have hb2:Below w2.heap.size w2 w3:=by rw[a];exact hbq
        clear a hbq
        have t:=tt (d.out.below hb2)
        clear hb2
        go_wp2_with fail
        go_ret
        exact⟨by rw[s.out];rfl,t.out.be⟩
       |true=>
        cases t5 with
        |false=>
         refine ai (by kernel_rfl) (by kernel_rfl) ?_
         repeat (first|go_big_quiet_step (first|(go_at_call 133;exact ag _ (n.out _))|(go_at_call 138;exact ag _ (l.out _))|(go_at_call 136;exact ah _ (g.out _)))|(refine aj (by simp[Region.wanted,yielded]) 56 (.tmp 3) (by rfl) w.heap.size (0) (by rfl) [.int .i64 8,.int .i64 m.f,.int .i64 m.v,.int .i64 m.i,.int .i64 m.q,.int .i64 m.r,.slice Ab m.b.length cb,.slice Ao m.o.length co,.slice Ac m.c.length cc,.slice Ap m.p.length cp] _ u.out Tryz.underlying56 rfl ax ?_;intro K hK;go_simp;refine hK _ ?_;clear hK K)|quiet_step (first|(go_at_call 133;exact ag _ (n.out _))|(go_at_call 138;exact ag _ (l.out _))|(go_at_call 136;exact ah _ (g.out _))))
         refine wpQuiet_nil ?_
         intro w3 a
         obtain⟨⟨wq,hbq⟩,a⟩:=a
         have hb2:Below w2.heap.size w2 w3:=by rw[a];exact hbq
         clear a hbq
         have t:=tt (d.out.below hb2)
         clear hb2
         go_wp2_with fail
         go_ret
         exact⟨by rw[s.out];rfl,t.out.be⟩
        |true=>
         cases t6 with
         |false=>
          refine ai (by kernel_rfl) (by kernel_rfl) ?_
          repeat (first|go_big_quiet_step (first|(go_at_call 133;exact ag _ (n.out _))|(go_at_call 138;exact ag _ (l.out _))|(go_at_call 136;exact ah _ (g.out _)))|(refine aj (by simp[Region.wanted,yielded]) 56 (.tmp 3) (by rfl) w.heap.size (0) (by rfl) [.int .i64 8,.int .i64 m.f,.int .i64 m.v,.int .i64 m.i,.int .i64 m.q,.int .i64 m.r,.slice Ab m.b.length cb,.slice Ao m.o.length co,.slice Ac m.c.length cc,.slice Ap m.p.length cp] _ u.out Tryz.underlying56 rfl ax ?_;intro K hK;go_simp;refine hK _ ?_;clear hK K)|quiet_step (first|(go_at_call 133;exact ag _ (n.out _))|(go_at_call 138;exact ag _ (l.out _))|(go_at_call 136;exact ah _ (g.out _))))
          refine wpQuiet_nil ?_
          intro w3 a
          obtain⟨⟨wq,hbq⟩,a⟩:=a
          have hb2:Below w2.heap.size w2 w3:=by rw[a];exact hbq
          clear a hbq
          have t:=tt (d.out.below hb2)
          clear hb2
          go_wp2_with fail
          go_ret
          exact⟨by rw[s.out];rfl,t.out.be⟩
         |true=>
          refine ai (by kernel_rfl) (by kernel_rfl) ?_
          repeat (first|go_big_quiet_step (first|(go_at_call 133;exact ag _ (n.out _))|(go_at_call 138;exact ag _ (l.out _))|(go_at_call 136;exact ah _ (g.out _)))|(refine aj (by simp[Region.wanted,yielded]) 56 (.tmp 3) (by rfl) w.heap.size (0) (by rfl) [.int .i64 8,.int .i64 m.f,.int .i64 m.v,.int .i64 m.i,.int .i64 m.q,.int .i64 m.r,.slice Ab m.b.length cb,.slice Ao m.o.length co,.slice Ac m.c.length cc,.slice Ap m.p.length cp] _ u.out Tryz.underlying56 rfl ax ?_;intro K hK;go_simp;refine hK _ ?_;clear hK K)|quiet_step (first|(go_at_call 133;exact ag _ (n.out _))|(go_at_call 138;exact ag _ (l.out _))|(go_at_call 136;exact ah _ (g.out _))))
          refine wpQuiet_nil ?_
          intro w3 a
          obtain⟨⟨wq,hbq⟩,a⟩:=a
          have hb2:Below w2.heap.size w2 w3:=by rw[a];exact hbq
          clear a hbq
          have t:=tt (d.out.below hb2)
          clear hb2
          go_wp2_with fail
          go_ret
          exact⟨by rw[s.out];rfl,t.out.be⟩
theorem nG {l:List Psp.Cert} {f cl:Int} {y:Psp.Cert} (h1:l.length=1) (h:l[0]? =some y):Psp.fU l f cl=Psp.cT y f cl:=by
 rcases l with _|⟨a,_|⟨b,l⟩⟩
 ·cases h
 ·injection h with h;subst h;rfl
 ·simp at h1
theorem nE (l:List Psp.Cert) (f cl:Int):Psp.fU l f cl=(((l.length:Int)==1)&&Psp.fU l f cl):=by
 rcases l with _|⟨a,_|⟨b,l⟩⟩
 ·rfl
 ·simp
 ·have h2:(((a :: b :: l).length:Int)==1)=false:=by rw[beq_eq_false_iff_ne];simp;omega
  rw[h2];rfl
theorem qh (m:Psp.Msg) (vb vo vc vp:Value) (f cl:Int) (w:World) (P:Nat→Prop) (hx:MsgOk w P ⟨m,vb,vo,vc,vp⟩) (hw:cr m) (hf:Psp.may f=true) (hk:m.k=9):
 Calls Tryz.prog 105 #[.agg #[.int .i64 m.k,.int .i64 m.f,.int .i64 m.v,.int .i64 m.i,.int .i64 m.q,.int .i64 m.r,vb,vo,vc,vp],.int .i64 f,.int .i64 cl] w fun e w'=>e= .returned (.bool (Psp.aF m f cl))∧Below w.heap.size w w':=by
 obtain⟨Ab,Ao,Ac,Ap,cb,co,cc,cp,rfl,rfl,rfl,rfl⟩:=aG hx
 obtain⟨lc,hlc⟩:∃n,m.c.length=n:=⟨_,rfl⟩
 rw[hlc] at hx ⊢
 have J:=tt hlc
 have HX:=tt hx
 have Hw:=tt hw
 obtain⟨nn,hnn⟩:∃q,Psp.aO f=q:=⟨_,rfl⟩
 have V:(nn==0)=false:=by rw[←hnn,bl,hf];rfl
 have HN:Hid (∀W:World,Calls Tryz.prog 13 #[.int .i64 f] W fun e w'=>e= .returned (.int .i64 nn)∧W=w'):=tt fun W=>by rw[←hnn];exact aM f W
 obtain⟨M,K⟩:=Psp.cd f
 rw[hnn] at M K
 obtain⟨g0,hg0⟩:∃x,decide (m.f < 0)=x:=⟨_,rfl⟩
 obtain⟨g1,hg1⟩:∃x,decide (m.f≥nn)=x:=⟨_,rfl⟩
 have hnb:Psp.bB m.f f=(!g0&& !g1):=by unfold Psp.bB;rw[hnn,←hg0,←hg1,Bool.eq_iff_iff,Psp.aN];simp;omega
 obtain⟨t0,ht0⟩:∃x,bx false false false false false false true false m.v m.i m.q m.r m.b.length m.o.length lc m.p.length=x:=⟨_,rfl⟩
 obtain⟨t1,ht1⟩:∃x,((lc:Int)==1)=x:=⟨_,rfl⟩
 obtain⟨t2,ht2⟩:∃x,Psp.fU m.c f cl=x:=⟨_,rfl⟩
 have t:Hid (Psp.aF m f cl=((!g0&& !g1)&&(t0&&(t1&&(t2))))):=tt (by
  unfold Psp.aF
  rw[hf,Bool.true_and,←hnb,hk]
  simp only[Int.reduceEq,if_false,if_true,true_or,or_true]
  congr 1
  rw[←ht0,←ht1,←ht2]
  rw[←hlc]
  simp only[Psp.noB,Psp.bZ,bx,List.all_cons,List.all_nil,Bool.false_or,Bool.true_or,Bool.true_and,Bool.and_true]
  first
   |rfl
   |(rw[nE];simp[Bool.and_assoc])
   |(rw[Bool.eq_iff_iff];simp[and_assoc];omega)
   |(rw[Bool.eq_iff_iff];simp[and_assoc,and_left_comm,and_comm];try omega))
 have S:=tt ht0
 have R:=tt ht2
 clear hlc hx hw hnn hf hnb ht0 ht2
 have Hk:=tt hk
 rw[hk]
 have z:=tt (Mk.new w #[.int .i64 9,.int .i64 m.f,.int .i64 m.v,.int .i64 m.i,.int .i64 m.q,.int .i64 m.r,.slice Ab m.b.length cb,.slice Ao m.o.length co,.slice Ac lc cc,.slice Ap m.p.length cp])
 go_enter Tryz.func105,Tryz.ntmps105
 go_wp2_with fail
 obtain⟨W0,hW0⟩:∃W,w.alloc (.cells #[.int .i64 9,.int .i64 m.f,.int .i64 m.v,.int .i64 m.i,.int .i64 m.q,.int .i64 m.r,.slice Ab m.b.length cb,.slice Ao m.o.length co,.slice Ac lc cc,.slice Ap m.p.length cp] 56)=W:=⟨_,rfl⟩
 rw[hW0] at z ⊢
 clear hW0 hk
 refine (HN.out _).mono ?_
 rintro e w' ⟨rfl,rfl⟩
 have y0:W0.cell? ⟨w.heap.size,0,none⟩=some (.int .i64 9):=z.out.cell (j:=0) rfl
 go_wp2_with fail
 have y1:=ab (show W0.cell? ⟨w.heap.size,1,none⟩=some (.int .i64 m.f) from z.out.cell (j:=1) rfl)
 have u:Hid (∀p:Later W0,Calls Tryz.prog 13 #[.int .i64 f] p.W fun e w'=>e= .returned (.int .i64 nn)∧p.W=w'):=tt fun p=>HN.out _
 cases g0 with
 |true=>
  refine ai (by kernel_rfl) (by kernel_rfl) ?_
  repeat (first|go_big_quiet_step ((go_at_call 13;exact ah _ (u.out _)))|quiet_step ((go_at_call 13;exact ah _ (u.out _))))
  refine wpQuiet_nil ?_
  intro w2 l
  obtain⟨⟨wq,hbq⟩,l⟩:=l
  have hb2:Below W0.heap.size W0 w2:=by rw[l];exact hbq
  clear l hbq
  have a:=tt (z.out.below hb2)
  clear hb2 y0 y1
  have y0:w2.cell? ⟨w.heap.size,0,none⟩=some (.int .i64 9):=a.out.cell (j:=0) rfl
  go_wp2_with fail
  go_ret
  exact⟨by rw[t.out];rfl,a.out.be⟩
 |false=>
  cases g1 with
  |true=>
   refine ai (by kernel_rfl) (by kernel_rfl) ?_
   repeat (first|go_big_quiet_step ((go_at_call 13;exact ah _ (u.out _)))|quiet_step ((go_at_call 13;exact ah _ (u.out _))))
   refine wpQuiet_nil ?_
   intro w2 l
   obtain⟨⟨wq,hbq⟩,l⟩:=l
   have hb2:Below W0.heap.size W0 w2:=by rw[l];exact hbq
   clear l hbq
   have a:=tt (z.out.below hb2)
   clear hb2 y0 y1
   have y0:w2.cell? ⟨w.heap.size,0,none⟩=some (.int .i64 9):=a.out.cell (j:=0) rfl
   go_wp2_with fail
   go_ret
   exact⟨by rw[t.out];rfl,a.out.be⟩
  |false=>
   refine ai (by kernel_rfl) (by kernel_rfl) ?_
   repeat (first|go_big_quiet_step ((go_at_call 13;exact ah _ (u.out _)))|quiet_step ((go_at_call 13;exact ah _ (u.out _))))
   refine wpQuiet_nil ?_
   intro w2 l
   obtain⟨⟨wq,hbq⟩,l⟩:=l
   have hb2:Below W0.heap.size W0 w2:=by rw[l];exact hbq
   clear l hbq
   have a:=tt (z.out.below hb2)
   clear hb2 y0 y1
   have y0:w2.cell? ⟨w.heap.size,0,none⟩=some (.int .i64 9):=a.out.cell (j:=0) rfl
   have y1:w2.cell? ⟨w.heap.size,1,none⟩=some (.int .i64 m.f):=a.out.cell (j:=1) rfl
   have y2:w2.cell? ⟨w.heap.size,2,none⟩=some (.int .i64 m.v):=a.out.cell (j:=2) rfl
   have y3:w2.cell? ⟨w.heap.size,3,none⟩=some (.int .i64 m.i):=a.out.cell (j:=3) rfl
   have y4:w2.cell? ⟨w.heap.size,4,none⟩=some (.int .i64 m.q):=a.out.cell (j:=4) rfl
   have y5:w2.cell? ⟨w.heap.size,5,none⟩=some (.int .i64 m.r):=a.out.cell (j:=5) rfl
   have y6:w2.cell? ⟨w.heap.size,6,none⟩=some (.slice Ab m.b.length cb):=a.out.cell (j:=6) rfl
   have y7:w2.cell? ⟨w.heap.size,7,none⟩=some (.slice Ao m.o.length co):=a.out.cell (j:=7) rfl
   have y8:w2.cell? ⟨w.heap.size,8,none⟩=some (.slice Ac lc cc):=a.out.cell (j:=8) rfl
   have y9:w2.cell? ⟨w.heap.size,9,none⟩=some (.slice Ap m.p.length cp):=a.out.cell (j:=9) rfl
   go_wp2_with fail
   clear y0 y1 y2 y3 y4 y5 y6 y7 y8 y9
   refine (qW _ _ _ _ _ _ _ _ _ _ _ _ _ _ _ _ _ _ w2).mono ?_
   rw[S.out]
   rintro e v0 ⟨rfl,hb⟩
   have d:=tt (a.out.below hb)
   clear hb
   have y0:v0.cell? ⟨w.heap.size,0,none⟩=some (.int .i64 9):=d.out.cell (j:=0) rfl
   have y1:v0.cell? ⟨w.heap.size,1,none⟩=some (.int .i64 m.f):=d.out.cell (j:=1) rfl
   have y2:v0.cell? ⟨w.heap.size,2,none⟩=some (.int .i64 m.v):=d.out.cell (j:=2) rfl
   have y3:v0.cell? ⟨w.heap.size,3,none⟩=some (.int .i64 m.i):=d.out.cell (j:=3) rfl
   have y4:v0.cell? ⟨w.heap.size,4,none⟩=some (.int .i64 m.q):=d.out.cell (j:=4) rfl
   have y5:v0.cell? ⟨w.heap.size,5,none⟩=some (.int .i64 m.r):=d.out.cell (j:=5) rfl
   have y6:v0.cell? ⟨w.heap.size,6,none⟩=some (.slice Ab m.b.length cb):=d.out.cell (j:=6) rfl
   have y7:v0.cell? ⟨w.heap.size,7,none⟩=some (.slice Ao m.o.length co):=d.out.cell (j:=7) rfl
   have y8:v0.cell? ⟨w.heap.size,8,none⟩=some (.slice Ac lc cc):=d.out.cell (j:=8) rfl
   have y9:v0.cell? ⟨w.heap.size,9,none⟩=some (.slice Ap m.p.length cp):=d.out.cell (j:=9) rfl
   cases t0 with
   |false=>
    go_wp2_with fail
    go_ret
    exact⟨by rw[t.out];rfl,d.out.be⟩
   |true=>
    cases t1 with
    |false=>
     go_wp2_with fail
     go_ret
     exact⟨by rw[t.out];rfl,d.out.be⟩
    |true=>
     have X:1≤lc:=by have h:=ht1;simp at h;omega
     obtain⟨L,D,C,I⟩:=HX.out.2.2.1
     dsimp only at D C
     have G:L.length=lc:=by rw[←J.out,←D,List.length_map]
     rw[G] at C
     obtain⟨b0,o0,c0,y,he,hb0,hb1,hy,H⟩:=cw (f:=cv) (k:=5) (fun _=>rfl) (by omega) C G (show 0 < lc by omega)
     injection he with O _ N
     subst O N
     have B:=I y (List.mem_of_getElem? hy)
     have A:m.c[0]? =some y.c:=by have:=dQ (g:=CertV.c) hy;rwa [D] at this
     have E:=(Hw.out.2.2.2.2.2.2.2.2.1 y.c (List.mem_of_getElem? A)).2.2.2.2
     have F:Psp.cT y.c f cl=t2:=by rw[←R.out];exact (nG (by rw[J.out];have h:=ht1;simp at h;omega) A).symm
     obtain⟨cy,yb,yo⟩:=y
     obtain⟨_,A1,c1,e1,_⟩:=RdP.parts B.1
     obtain⟨_,A2,c2,e2,_⟩:=RdP.parts B.2
     dsimp only at e1 e2 A E F
     subst e1 e2
     have hq:v0.rangeAt b0 (o0+0 * 5) [.int .i64 cy.v,.int .i64 cy.i,.int .i64 cy.q,.slice A1 cy.b.length c1,.slice A2 cy.o.length c2]:=H v0 (d.out.be.block b0 hb1)
     have T:=tt (show CertOk w P ⟨cy,.slice A1 cy.b.length c1,.slice A2 cy.o.length c2⟩ from B)
     have e0:v0.cell? ⟨b0,o0,none⟩=some (.int .i64 cy.v):=by have:=hq 0 _ rfl;simpa using this
     have e1:v0.cell? ⟨b0,o0+1,none⟩=some (.int .i64 cy.i):=by have:=hq 1 _ rfl;simpa using this
     have e2:v0.cell? ⟨b0,o0+2,none⟩=some (.int .i64 cy.q):=by have:=hq 2 _ rfl;simpa using this
     have e3:v0.cell? ⟨b0,o0+3,none⟩=some (.slice A1 cy.b.length c1):=by have:=hq 3 _ rfl;simpa using this
     have e4:v0.cell? ⟨b0,o0+4,none⟩=some (.slice A2 cy.o.length c2):=by have:=hq 4 _ rfl;simpa using this
     have Q:=tt E
     have U:=tt F
     clear hq H hy A B E F I D C G hb0
     go_wp2_with fail
     clear y0 y1 y2 y3 y4 y5 y6 y7 y8 y9 ht1 e0 e1 e2 e3 e4
     refine (lV cy _ _ f cl v0 _ (T.out.keeps (Keeps.below d.out.be)) Q.out).mono ?_
     rw[U.out]
     rintro e v2 ⟨rfl,hb⟩
     have s:=tt (d.out.below hb)
     clear hb
     have y0:v2.cell? ⟨w.heap.size,0,none⟩=some (.int .i64 9):=s.out.cell (j:=0) rfl
     have y1:v2.cell? ⟨w.heap.size,1,none⟩=some (.int .i64 m.f):=s.out.cell (j:=1) rfl
     have y2:v2.cell? ⟨w.heap.size,2,none⟩=some (.int .i64 m.v):=s.out.cell (j:=2) rfl
     have y3:v2.cell? ⟨w.heap.size,3,none⟩=some (.int .i64 m.i):=s.out.cell (j:=3) rfl
     have y4:v2.cell? ⟨w.heap.size,4,none⟩=some (.int .i64 m.q):=s.out.cell (j:=4) rfl
     have y5:v2.cell? ⟨w.heap.size,5,none⟩=some (.int .i64 m.r):=s.out.cell (j:=5) rfl
     have y6:v2.cell? ⟨w.heap.size,6,none⟩=some (.slice Ab m.b.length cb):=s.out.cell (j:=6) rfl
     have y7:v2.cell? ⟨w.heap.size,7,none⟩=some (.slice Ao m.o.length co):=s.out.cell (j:=7) rfl
     have y8:v2.cell? ⟨w.heap.size,8,none⟩=some (.slice (some ⟨b0,o0,none⟩) lc cc):=s.out.cell (j:=8) rfl
     have y9:v2.cell? ⟨w.heap.size,9,none⟩=some (.slice Ap m.p.length cp):=s.out.cell (j:=9) rfl
     cases t2 with
     |false=>
      go_wp2_with fail
      go_ret
      exact⟨by rw[t.out];rfl,s.out.be⟩
     |true=>
      go_wp2_with fail
      go_ret
      exact⟨by rw[t.out];rfl,s.out.be⟩
theorem ox (m:Psp.Msg) (vb vo vc vp:Value) (f cl:Int) (w:World) (P:Nat→Prop) (hx:MsgOk w P ⟨m,vb,vo,vc,vp⟩) (hw:cr m) (hf:Psp.may f=true) (hk:m.k=10):
 Calls Tryz.prog 105 #[.agg #[.int .i64 m.k,.int .i64 m.f,.int .i64 m.v,.int .i64 m.i,.int .i64 m.q,.int .i64 m.r,vb,vo,vc,vp],.int .i64 f,.int .i64 cl] w fun e w'=>e= .returned (.bool (Psp.aF m f cl))∧Below w.heap.size w w':=by
 obtain⟨Ab,Ao,Ac,Ap,cb,co,cc,cp,rfl,rfl,rfl,rfl⟩:=aG hx
 have HX:=tt hx
 have Hw:=tt hw
 obtain⟨nn,hnn⟩:∃q,Psp.aO f=q:=⟨_,rfl⟩
 have y:(nn==0)=false:=by rw[←hnn,bl,hf];rfl
 have HN:Hid (∀W:World,Calls Tryz.prog 13 #[.int .i64 f] W fun e w'=>e= .returned (.int .i64 nn)∧W=w'):=tt fun W=>by rw[←hnn];exact aM f W
 obtain⟨t,s⟩:=Psp.cd f
 rw[hnn] at t s
 obtain⟨g0,hg0⟩:∃x,decide (m.f < 0)=x:=⟨_,rfl⟩
 obtain⟨g1,hg1⟩:∃x,decide (m.f≥nn)=x:=⟨_,rfl⟩
 have hnb:Psp.bB m.f f=(!g0&& !g1):=by unfold Psp.bB;rw[hnn,←hg0,←hg1,Bool.eq_iff_iff,Psp.aN];simp;omega
 obtain⟨t0,ht0⟩:∃x,bx false true true true false false false false m.v m.i m.q m.r m.b.length m.o.length m.c.length m.p.length=x:=⟨_,rfl⟩
 obtain⟨t1,ht1⟩:∃x,decide (m.i≥0)=x:=⟨_,rfl⟩
 obtain⟨t2,ht2⟩:∃x,decide (m.i < cl)=x:=⟨_,rfl⟩
 obtain⟨t3,ht3⟩:∃x,decide (m.q≥1)=x:=⟨_,rfl⟩
 obtain⟨t4,ht4⟩:∃x,decide (m.q≤1048576)=x:=⟨_,rfl⟩
 obtain⟨t5,ht5⟩:∃x,decide (m.r > -549755813888)=x:=⟨_,rfl⟩
 obtain⟨t6,ht6⟩:∃x,decide (m.r < 549755813888)=x:=⟨_,rfl⟩
 have g:Hid (Psp.aF m f cl=((!g0&& !g1)&&(t0&&(t1&&(t2&&(t3&&(t4&&(t5&&(t6))))))))):=tt (by
  unfold Psp.aF
  rw[hf,Bool.true_and,←hnb,hk]
  simp only[Int.reduceEq,if_false,if_true,true_or,or_true]
  congr 1
  rw[←ht0,←ht1,←ht2,←ht3,←ht4,←ht5,←ht6]
  simp only[Psp.noB,Psp.bZ,bx,Psp.win,Psp.bn,List.all_cons,List.all_nil,Bool.false_or,Bool.true_or,Bool.true_and,Bool.and_true]
  first
   |rfl
   |(rw[Bool.eq_iff_iff];simp[and_assoc];omega)
   |(rw[Bool.eq_iff_iff];simp[and_assoc,and_left_comm,and_comm];try omega))
 have u:=tt ht0
 clear hx hw hnn hf hnb ht0
 have Hk:=tt hk
 rw[hk]
 have n:=tt (Mk.new w #[.int .i64 10,.int .i64 m.f,.int .i64 m.v,.int .i64 m.i,.int .i64 m.q,.int .i64 m.r,.slice Ab m.b.length cb,.slice Ao m.o.length co,.slice Ac m.c.length cc,.slice Ap m.p.length cp])
 go_enter Tryz.func105,Tryz.ntmps105
 go_wp2_with fail
 obtain⟨W0,hW0⟩:∃W,w.alloc (.cells #[.int .i64 10,.int .i64 m.f,.int .i64 m.v,.int .i64 m.i,.int .i64 m.q,.int .i64 m.r,.slice Ab m.b.length cb,.slice Ao m.o.length co,.slice Ac m.c.length cc,.slice Ap m.p.length cp] 56)=W:=⟨_,rfl⟩
 rw[hW0] at n ⊢
 clear hW0 hk
 refine (HN.out _).mono ?_
 rintro e w' ⟨rfl,rfl⟩
 have y0:W0.cell? ⟨w.heap.size,0,none⟩=some (.int .i64 10):=n.out.cell (j:=0) rfl
 go_wp2_with fail
 have y1:=ab (show W0.cell? ⟨w.heap.size,1,none⟩=some (.int .i64 m.f) from n.out.cell (j:=1) rfl)
 have l:Hid (∀p:Later W0,Calls Tryz.prog 13 #[.int .i64 f] p.W fun e w'=>e= .returned (.int .i64 nn)∧p.W=w'):=tt fun p=>HN.out _
 cases g0 with
 |true=>
  refine ai (by kernel_rfl) (by kernel_rfl) ?_
  repeat (first|go_big_quiet_step ((go_at_call 13;exact ah _ (l.out _)))|quiet_step ((go_at_call 13;exact ah _ (l.out _))))
  refine wpQuiet_nil ?_
  intro w2 h
  obtain⟨⟨wq,hbq⟩,h⟩:=h
  have hb2:Below W0.heap.size W0 w2:=by rw[h];exact hbq
  clear h hbq
  have d:=tt (n.out.below hb2)
  clear hb2 y0 y1
  have y0:w2.cell? ⟨w.heap.size,0,none⟩=some (.int .i64 10):=d.out.cell (j:=0) rfl
  go_wp2_with fail
  go_ret
  exact⟨by rw[g.out];rfl,d.out.be⟩
 |false=>
  cases g1 with
  |true=>
   refine ai (by kernel_rfl) (by kernel_rfl) ?_
   repeat (first|go_big_quiet_step ((go_at_call 13;exact ah _ (l.out _)))|quiet_step ((go_at_call 13;exact ah _ (l.out _))))
   refine wpQuiet_nil ?_
   intro w2 h
   obtain⟨⟨wq,hbq⟩,h⟩:=h
   have hb2:Below W0.heap.size W0 w2:=by rw[h];exact hbq
   clear h hbq
   have d:=tt (n.out.below hb2)
   clear hb2 y0 y1
   have y0:w2.cell? ⟨w.heap.size,0,none⟩=some (.int .i64 10):=d.out.cell (j:=0) rfl
   go_wp2_with fail
   go_ret
   exact⟨by rw[g.out];rfl,d.out.be⟩
  |false=>
   refine ai (by kernel_rfl) (by kernel_rfl) ?_
   repeat (first|go_big_quiet_step ((go_at_call 13;exact ah _ (l.out _)))|quiet_step ((go_at_call 13;exact ah _ (l.out _))))
   refine wpQuiet_nil ?_
   intro w2 h
   obtain⟨⟨wq,hbq⟩,h⟩:=h
   have hb2:Below W0.heap.size W0 w2:=by rw[h];exact hbq
   clear h hbq
   have d:=tt (n.out.below hb2)
   clear hb2 y0 y1
   have y0:w2.cell? ⟨w.heap.size,0,none⟩=some (.int .i64 10):=d.out.cell (j:=0) rfl
   have y1:w2.cell? ⟨w.heap.size,1,none⟩=some (.int .i64 m.f):=d.out.cell (j:=1) rfl
   have y2:w2.cell? ⟨w.heap.size,2,none⟩=some (.int .i64 m.v):=d.out.cell (j:=2) rfl
   have y3:w2.cell? ⟨w.heap.size,3,none⟩=some (.int .i64 m.i):=d.out.cell (j:=3) rfl
   have y4:w2.cell? ⟨w.heap.size,4,none⟩=some (.int .i64 m.q):=d.out.cell (j:=4) rfl
   have y5:w2.cell? ⟨w.heap.size,5,none⟩=some (.int .i64 m.r):=d.out.cell (j:=5) rfl
   have y6:w2.cell? ⟨w.heap.size,6,none⟩=some (.slice Ab m.b.length cb):=d.out.cell (j:=6) rfl
   have y7:w2.cell? ⟨w.heap.size,7,none⟩=some (.slice Ao m.o.length co):=d.out.cell (j:=7) rfl
   have y8:w2.cell? ⟨w.heap.size,8,none⟩=some (.slice Ac m.c.length cc):=d.out.cell (j:=8) rfl
   have y9:w2.cell? ⟨w.heap.size,9,none⟩=some (.slice Ap m.p.length cp):=d.out.cell (j:=9) rfl
   go_wp2_with fail
   clear y0 y1 y2 y3 y4 y5 y6 y7 y8 y9
   refine (nM _ _ _ _ _ _ _ _ _ _ _ _ _ _ _ _ _ _ w2).mono ?_
   rw[u.out]
   rintro e v0 ⟨rfl,hb⟩
   have a:=tt (d.out.below hb)
   clear hb
   have y0:v0.cell? ⟨w.heap.size,0,none⟩=some (.int .i64 10):=a.out.cell (j:=0) rfl
   have y1:v0.cell? ⟨w.heap.size,1,none⟩=some (.int .i64 m.f):=a.out.cell (j:=1) rfl
   have y2:v0.cell? ⟨w.heap.size,2,none⟩=some (.int .i64 m.v):=a.out.cell (j:=2) rfl
   have y3:v0.cell? ⟨w.heap.size,3,none⟩=some (.int .i64 m.i):=a.out.cell (j:=3) rfl
   have y4:v0.cell? ⟨w.heap.size,4,none⟩=some (.int .i64 m.q):=a.out.cell (j:=4) rfl
   have y5:v0.cell? ⟨w.heap.size,5,none⟩=some (.int .i64 m.r):=a.out.cell (j:=5) rfl
   have y6:v0.cell? ⟨w.heap.size,6,none⟩=some (.slice Ab m.b.length cb):=a.out.cell (j:=6) rfl
   have y7:v0.cell? ⟨w.heap.size,7,none⟩=some (.slice Ao m.o.length co):=a.out.cell (j:=7) rfl
   have y8:v0.cell? ⟨w.heap.size,8,none⟩=some (.slice Ac m.c.length cc):=a.out.cell (j:=8) rfl
   have y9:v0.cell? ⟨w.heap.size,9,none⟩=some (.slice Ap m.p.length cp):=a.out.cell (j:=9) rfl
   cases t0 with
   |false=>
    go_wp2_with fail
    go_ret
    exact⟨by rw[g.out];rfl,a.out.be⟩
   |true=>
    cases t1 with
    |false=>
     go_wp2_with fail
     go_ret
     exact⟨by rw[g.out];rfl,a.out.be⟩
    |true=>
     cases t2 with
     |false=>
      go_wp2_with fail
      go_ret
      exact⟨by rw[g.out];rfl,a.out.be⟩
     |true=>
      cases t3 with
      |false=>
       go_wp2_with fail
       go_ret
       exact⟨by rw[g.out];rfl,a.out.be⟩
      |true=>
       cases t4 with
       |false=>
        go_wp2_with fail
        go_ret
        exact⟨by rw[g.out];rfl,a.out.be⟩
       |true=>
        cases t5 with
        |false=>
         go_wp2_with fail
         go_ret
         exact⟨by rw[g.out];rfl,a.out.be⟩
        |true=>
         cases t6 with
         |false=>
          go_wp2_with fail
          go_ret
          exact⟨by rw[g.out];rfl,a.out.be⟩
         |true=>
          go_wp2_with fail
          go_ret
          exact⟨by rw[g.out];rfl,a.out.be⟩
theorem ow (m:Psp.Msg) (vb vo vc vp:Value) (f cl:Int) (w:World) (P:Nat→Prop) (hx:MsgOk w P ⟨m,vb,vo,vc,vp⟩) (hw:cr m) (hf:Psp.may f=true) (hk:∀j:Int,1≤j→j≤10→m.k≠j):
 Calls Tryz.prog 105 #[.agg #[.int .i64 m.k,.int .i64 m.f,.int .i64 m.v,.int .i64 m.i,.int .i64 m.q,.int .i64 m.r,vb,vo,vc,vp],.int .i64 f,.int .i64 cl] w fun e w'=>e= .returned (.bool (Psp.aF m f cl))∧Below w.heap.size w w':=by
 obtain⟨Ab,Ao,Ac,Ap,cb,co,cc,cp,rfl,rfl,rfl,rfl⟩:=aG hx
 have HX:=tt hx
 have Hw:=tt hw
 obtain⟨nn,hnn⟩:∃q,Psp.aO f=q:=⟨_,rfl⟩
 have u:(nn==0)=false:=by rw[←hnn,bl,hf];rfl
 have HN:Hid (∀W:World,Calls Tryz.prog 13 #[.int .i64 f] W fun e w'=>e= .returned (.int .i64 nn)∧W=w'):=tt fun W=>by rw[←hnn];exact aM f W
 obtain⟨s,n⟩:=Psp.cd f
 rw[hnn] at s n
 obtain⟨g0,hg0⟩:∃x,decide (m.f < 0)=x:=⟨_,rfl⟩
 obtain⟨g1,hg1⟩:∃x,decide (m.f≥nn)=x:=⟨_,rfl⟩
 have hnb:Psp.bB m.f f=(!g0&& !g1):=by unfold Psp.bB;rw[hnn,←hg0,←hg1,Bool.eq_iff_iff,Psp.aN];simp;omega
 have l:Hid (Psp.aF m f cl=false):=tt (by
  unfold Psp.aF
  rw[hf,if_neg (hk 1 (by omega) (by omega)),if_neg (hk 2 (by omega) (by omega)),if_neg (hk 3 (by omega) (by omega)),if_neg (by have:=hk 4 (by omega) (by omega);have:=hk 5 (by omega) (by omega);omega),if_neg (hk 6 (by omega) (by omega)),if_neg (hk 7 (by omega) (by omega)),if_neg (hk 8 (by omega) (by omega)),if_neg (hk 9 (by omega) (by omega)),if_neg (hk 10 (by omega) (by omega)),Bool.and_false]
  rfl)
 have k1:(m.k==1)=false:=beq_eq_false_iff_ne.2 (hk 1 (by omega) (by omega))
 have k2:(m.k==2)=false:=beq_eq_false_iff_ne.2 (hk 2 (by omega) (by omega))
 have k3:(m.k==3)=false:=beq_eq_false_iff_ne.2 (hk 3 (by omega) (by omega))
 have k4:(m.k==4)=false:=beq_eq_false_iff_ne.2 (hk 4 (by omega) (by omega))
 have k5:(m.k==5)=false:=beq_eq_false_iff_ne.2 (hk 5 (by omega) (by omega))
 have k6:(m.k==6)=false:=beq_eq_false_iff_ne.2 (hk 6 (by omega) (by omega))
 have k7:(m.k==7)=false:=beq_eq_false_iff_ne.2 (hk 7 (by omega) (by omega))
 have k8:(m.k==8)=false:=beq_eq_false_iff_ne.2 (hk 8 (by omega) (by omega))
 have k9:(m.k==9)=false:=beq_eq_false_iff_ne.2 (hk 9 (by omega) (by omega))
 have t:(m.k==10)=false:=beq_eq_false_iff_ne.2 (hk 10 (by omega) (by omega))
 clear hx hw hnn hf hnb
 have h:=tt (Mk.new w #[.int .i64 m.k,.int .i64 m.f,.int .i64 m.v,.int .i64 m.i,.int .i64 m.q,.int .i64 m.r,.slice Ab m.b.length cb,.slice Ao m.o.length co,.slice Ac m.c.length cc,.slice Ap m.p.length cp])
 go_enter Tryz.func105,Tryz.ntmps105
 go_wp2_with fail
 obtain⟨W0,hW0⟩:∃W,w.alloc (.cells #[.int .i64 m.k,.int .i64 m.f,.int .i64 m.v,.int .i64 m.i,.int .i64 m.q,.int .i64 m.r,.slice Ab m.b.length cb,.slice Ao m.o.length co,.slice Ac m.c.length cc,.slice Ap m.p.length cp] 56)=W:=⟨_,rfl⟩
 rw[hW0] at h ⊢
 clear hW0
 refine (HN.out _).mono ?_
 rintro e w' ⟨rfl,rfl⟩
 have y0:W0.cell? ⟨w.heap.size,0,none⟩=some (.int .i64 m.k):=h.out.cell (j:=0) rfl
 go_wp2_with fail
 have y1:=ab (show W0.cell? ⟨w.heap.size,1,none⟩=some (.int .i64 m.f) from h.out.cell (j:=1) rfl)
 have g:Hid (∀p:Later W0,Calls Tryz.prog 13 #[.int .i64 f] p.W fun e w'=>e= .returned (.int .i64 nn)∧p.W=w'):=tt fun p=>HN.out _
 cases g0 with
 |true=>
  refine ai (by kernel_rfl) (by kernel_rfl) ?_
  repeat (first|go_big_quiet_step ((go_at_call 13;exact ah _ (g.out _)))|quiet_step ((go_at_call 13;exact ah _ (g.out _))))
  refine wpQuiet_nil ?_
  intro w2 a
  obtain⟨⟨wq,hbq⟩,a⟩:=a
  have hb2:Below W0.heap.size W0 w2:=by rw[a];exact hbq
  clear a hbq
  have d:=tt (h.out.below hb2)
  clear hb2 y0 y1
  have y0:w2.cell? ⟨w.heap.size,0,none⟩=some (.int .i64 m.k):=d.out.cell (j:=0) rfl
  go_wp2_with fail
  go_ret
  exact⟨by rw[l.out];rfl,d.out.be⟩
 |false=>
  cases g1 with
  |true=>
   refine ai (by kernel_rfl) (by kernel_rfl) ?_
   repeat (first|go_big_quiet_step ((go_at_call 13;exact ah _ (g.out _)))|quiet_step ((go_at_call 13;exact ah _ (g.out _))))
   refine wpQuiet_nil ?_
   intro w2 a
   obtain⟨⟨wq,hbq⟩,a⟩:=a
   have hb2:Below W0.heap.size W0 w2:=by rw[a];exact hbq
   clear a hbq
   have d:=tt (h.out.below hb2)
   clear hb2 y0 y1
   have y0:w2.cell? ⟨w.heap.size,0,none⟩=some (.int .i64 m.k):=d.out.cell (j:=0) rfl
   go_wp2_with fail
   go_ret
   exact⟨by rw[l.out];rfl,d.out.be⟩
  |false=>
   refine ai (by kernel_rfl) (by kernel_rfl) ?_
   repeat (first|go_big_quiet_step ((go_at_call 13;exact ah _ (g.out _)))|quiet_step ((go_at_call 13;exact ah _ (g.out _))))
   refine wpQuiet_nil ?_
   intro w2 a
   obtain⟨⟨wq,hbq⟩,a⟩:=a
   have hb2:Below W0.heap.size W0 w2:=by rw[a];exact hbq
   clear a hbq
   have d:=tt (h.out.below hb2)
   clear hb2 y0 y1
   have y0:w2.cell? ⟨w.heap.size,0,none⟩=some (.int .i64 m.k):=d.out.cell (j:=0) rfl
   go_wp2_with fail
   go_ret
   exact⟨by rw[l.out];rfl,d.out.be⟩
theorem qq (m:Psp.Msg) (vb vo vc vp:Value) (f cl:Int) (w:World) (P:Nat→Prop) (hx:MsgOk w P ⟨m,vb,vo,vc,vp⟩) (hf:Psp.may f=false):
 Calls Tryz.prog 105 #[.agg #[.int .i64 m.k,.int .i64 m.f,.int .i64 m.v,.int .i64 m.i,.int .i64 m.q,.int .i64 m.r,vb,vo,vc,vp],.int .i64 f,.int .i64 cl] w fun e w'=>e= .returned (.bool (Psp.aF m f cl))∧Below w.heap.size w w':=by
 obtain⟨Ab,Ao,Ac,Ap,cb,co,cc,cp,rfl,rfl,rfl,rfl⟩:=aG hx
 have hq:Psp.aO f=0:=by
  have h:(Psp.aO f==0)=true:=by rw[bl,hf];rfl
  simpa using h
 have HN:Hid (∀W:World,Calls Tryz.prog 13 #[.int .i64 f] W fun e w'=>e= .returned (.int .i64 0)∧W=w'):=tt fun W=>by rw[←hq];exact aM f W
 have Hr:Hid (Psp.aF m f cl=false):=tt (by unfold Psp.aF;rw[hf];rfl)
 have a:=tt (Mk.new w #[.int .i64 m.k,.int .i64 m.f,.int .i64 m.v,.int .i64 m.i,.int .i64 m.q,.int .i64 m.r,.slice Ab m.b.length cb,.slice Ao m.o.length co,.slice Ac m.c.length cc,.slice Ap m.p.length cp])
 clear hq hx hf
 go_enter Tryz.func105,Tryz.ntmps105
 go_wp2_with fail
 refine (HN.out _).mono ?_
 rintro e w' ⟨rfl,rfl⟩
 go_wp2_with fail
 go_ret
 exact⟨by rw[Hr.out];rfl,a.out.be⟩
theorem mT (m:Psp.Msg) (vb vo vc vp:Value) (f cl:Int) (w:World) (P:Nat→Prop) (hx:MsgOk w P ⟨m,vb,vo,vc,vp⟩) (hw:cr m):
 Calls Tryz.prog 105 #[.agg #[.int .i64 m.k,.int .i64 m.f,.int .i64 m.v,.int .i64 m.i,.int .i64 m.q,.int .i64 m.r,vb,vo,vc,vp],.int .i64 f,.int .i64 cl] w fun e w'=>e= .returned (.bool (Psp.aF m f cl))∧Below w.heap.size w w':=by
 cases hf:Psp.may f with
 |false=>exact qq m vb vo vc vp f cl w P hx hf
 |true=>
  by_cases h1:m.k=1;·exact qp m vb vo vc vp f cl w P hx hw hf h1
  by_cases h2:m.k=2;·exact qo m vb vo vc vp f cl w P hx hw hf h2
  by_cases h3:m.k=3;·exact qn m vb vo vc vp f cl w P hx hw hf h3
  by_cases h4:m.k=4;·exact qm m vb vo vc vp f cl w P hx hw hf h4
  by_cases h5:m.k=5;·exact ql m vb vo vc vp f cl w P hx hw hf h5
  by_cases h6:m.k=6;·exact qk m vb vo vc vp f cl w P hx hw hf h6
  by_cases h7:m.k=7;·exact qj m vb vo vc vp f cl w P hx hw hf h7
  by_cases h8:m.k=8;·exact qi m vb vo vc vp f cl w P hx hw hf h8
  by_cases h9:m.k=9;·exact qh m vb vo vc vp f cl w P hx hw hf h9
  by_cases a:m.k=10;·exact ox m vb vo vc vp f cl w P hx hw hf a
  exact ow m vb vo vc vp f cl w P hx hw hf fun j c b hj=>by
   have:j=1∨j=2∨j=3∨j=4∨j=5∨j=6∨j=7∨j=8∨j=9∨j=10:=by omega
   rcases this with rfl|rfl|rfl|rfl|rfl|rfl|rfl|rfl|rfl|rfl <;> contradiction
def rl (b:List UInt8) (f cl:Int) (K:List Key) (w:World) (e:Ending) (w':World):Prop:=
 (∀m s,bW b f cl K=some (m,s)→∃vb vo vc vp,e= .returned (.tuple #[.agg #[.int .i64 m.k,.int .i64 m.f,.int .i64 m.v,.int .i64 m.i,.int .i64 m.q,.int .i64 m.r,vb,vo,vc,vp],.int .i64 s,.bool true])∧MsgOk w' (fun k=>w.heap.size≤k) ⟨m,vb,vo,vc,vp⟩)∧
 (bW b f cl K=none→e= .returned (.tuple #[.agg zs,.int .i64 0,.bool false]))∧Below w.heap.size w w'
theorem gY (b:List UInt8) (x:Value) (f cl:Int) (S:Nat→Prop) (g:Nat) (K:List Key) (w:World) (hx:RdP w (fun k=>k < w.heap.size) 1 x b.length (b.map bv)) (hN:Ntr w S g K) (T:K.Nodup):
 Calls Tryz.prog 77 #[x,.int .i64 f,.int .i64 cl,.pointer (some ⟨g,0,none⟩)] w (rl b f cl K w):=by
 obtain⟨_,A,c,rfl,al,af,hA⟩:=hx.parts
 have HA:=tt hA
 have HX:=tt hx
 have HN:=tt hN
 have HO:=tt (Oc.new w)
 clear hx hN hA
 have za:aE 0:=⟨by omega,by omega⟩
 by_cases H:b.length≤65536
 case' neg=>
  have Hn:=tt (jv (f:=f) (cl:=cl) (K:=K) H)
  have d0:decide ((b.length:Int) > 65536)=true:=by simp;omega
  clear za
  go_enter Tryz.func77,Tryz.ntmps77
  go_upto_region 2 with fail
  have l:=tt (au HO.out.rr)
  obtain⟨⟨t1,t2⟩,_⟩:=HO.out.store zs.toList rfl
  have T1:=tt t1
  have T2:=tt t2
  clear t1 t2
  go_wp2_with (first|(refine wpList_store_mid rfl 56 (.tmp 8) (.tmp 18) rfl w.heap.size 0 zs rfl rfl l.out ax (by simp[Value.oneCell']) ?_))
  refine bodyPost_ret (v:=.tuple #[.agg zs,.int .i64 0,.bool false]) ?_ rfl ?_
  ·exact aL Tryz.results77 _ _ w.heap.size _ _ _ _ rfl T1.out Tryz.underlying56 rfl ax
  ·exact⟨fun m s h=>(by rw[Hn.out] at h;cases h),fun _=>rfl,T2.out⟩
 have Ho:=tt (fQ (f:=f) (cl:=cl) (K:=K) H)
 have d0:decide ((b.length:Int) > 65536)=false:=by simp;omega
 go_enter Tryz.func77,Tryz.ntmps77
 go_wp2_with fail
 refine (rtk_N b _ 0 _ _ (HX.out.keeps (Keeps.on HO.out.be)) za).mono ?_
 rintro e wa ⟨g1,g2,rfl⟩
 rcases hd:dN b 0 with _|⟨n,a⟩
 ·obtain rfl:=g2 hd
  have Hn:Hid (bW b f cl K=none):=tt (by rw[Ho.out,hd];rfl)
  clear g1 g2 hd Ho za
  go_upto_region 5 with fail
  have l:=tt (au HO.out.rr)
  obtain⟨⟨t1,t2⟩,_⟩:=HO.out.store zs.toList rfl
  have T1:=tt t1
  have T2:=tt t2
  clear t1 t2
  go_wp2_with (first|(refine wpList_store_mid rfl 56 (.tmp 8) (.tmp 27) rfl w.heap.size 0 zs rfl rfl l.out ax (by simp[Value.oneCell']) ?_))
  refine bodyPost_ret (v:=.tuple #[.agg zs,.int .i64 0,.bool false]) ?_ rfl ?_
  ·exact aL Tryz.results77 _ _ w.heap.size _ _ _ _ rfl T1.out Tryz.underlying56 rfl ax
  ·exact⟨fun m s h=>(by rw[Hn.out] at h;cases h),fun _=>rfl,T2.out⟩
 obtain rfl:=g1 _ _ hd
 obtain⟨n0,n1,_,a0,a1⟩:=rC hd
 obtain⟨k,rfl⟩:=Int.eq_ofNat_of_zero_le (show 0≤a by omega)
 have U:k≤b.length:=by omega
 obtain⟨b0,o0,rfl,hb0,_,_⟩:=HA.out (by omega)
 have hc:=Ho.out
 rw[hd,Option.bind_some] at hc
 dsimp only at hc
 rw[Int.toNat_natCast] at hc
 obtain⟨r,hr⟩:∃r,b.drop k=r:=⟨_,rfl⟩
 have I:=lT HX.out U
 rw[hr] at I hc
 have F:=tt I
 have Hc:=tt hc
 have z0:(0:Int)≤(k:Int):=by omega
 have z1:(k:Int)≤(b.length:Int):=by omega
 have z2:(k:Int)≤(c:Int):=by omega
 clear g1 g2 hd hc I Ho za a0 a1
 obtain⟨W0,hW0⟩:∃W0,w.alloc (.cells zs 56)=W0:=⟨_,rfl⟩
 rw[hW0] at HO
 by_cases ad:k < c
 case' neg=>
  have O:k=c:=by omega
  have ac:b.length=k:=by omega
  have R:r=[]:=by rw[←hr];exact List.drop_eq_nil_of_le (by omega)
  have Hn:Hid (bW b f cl K=none):=tt (by rw[Hc.out,R];rfl)
  have e1:b.length - k=0:=by omega
  have d1:¬ (k:Int) < (c:Int):=by omega
  clear F
  go_wp2_with fail
  clear hW0 d1 e1
  refine (kt [] _ W0 ⟨rfl,_,0,rfl,tJ _,Nat.zero_le _,fun h=>absurd h (by simp)⟩).mono ?_
  rintro e w1 ⟨_,g2,g3⟩
  obtain rfl:=g2 rfl
  replace HO:=tt (HO.out.below g3)
  clear g2 g3 Hc
  go_upto_region 7 with fail
  have t:=ae w1 (.cells zs 56)
  replace HO:=tt (HO.out.below t)
  clear t
  go_quiet (fail)
  replace HO:=tt (HO.out.below (ak (Below.refl _ _) nq))
  go_upto_region 8 with fail
  have l:=tt (au HO.out.rr)
  obtain⟨⟨t1,t2⟩,_⟩:=HO.out.store zs.toList rfl
  have T1:=tt t1
  have T2:=tt t2
  clear t1 t2
  go_wp2_with (first|(refine wpList_store_mid rfl 56 (.tmp 8) (.tmp 55) rfl w.heap.size 0 zs rfl rfl l.out ax (by simp[Value.oneCell']) ?_))
  refine bodyPost_ret (v:=.tuple #[.agg zs,.int .i64 0,.bool false]) ?_ rfl ?_
  ·exact aL Tryz.results77 _ _ w.heap.size _ _ _ _ rfl T1.out Tryz.underlying56 rfl ax
  ·exact⟨fun m s h=>(by rw[Hn.out] at h;cases h),fun _=>rfl,T2.out⟩
 have O:(k:Int) < (c:Int):=by omega
 go_wp2_with fail
 clear hW0
 have Q:b.length - k=r.length:=by rw[←hr,List.length_drop]
 rw[Q] at F ⊢
 refine (kt r _ W0 (F.out.keeps (Keeps.on HO.out.be))).mono ?_
 rintro e w1 ⟨g1,g2,g3⟩
 have aa:=HO.out.lt
 replace HO:=tt (HO.out.below g3)
 clear g3
 rcases hd:Psp.aY r with _|m
 ·obtain rfl:=g2 hd
  have Hn:Hid (bW b f cl K=none):=tt (by rw[Hc.out,hd];rfl)
  clear g1 g2 hd Hc
  go_upto_region 7 with fail
  have t:=ae w1 (.cells zs 56)
  replace HO:=tt (HO.out.below t)
  clear t
  go_quiet (fail)
  replace HO:=tt (HO.out.below (ak (Below.refl _ _) nq))
  go_upto_region 8 with fail
  have l:=tt (au HO.out.rr)
  obtain⟨⟨t1,t2⟩,_⟩:=HO.out.store zs.toList rfl
  have T1:=tt t1
  have T2:=tt t2
  clear t1 t2
  go_wp2_with (first|(refine wpList_store_mid rfl 56 (.tmp 8) (.tmp 55) rfl w.heap.size 0 zs rfl rfl l.out ax (by simp[Value.oneCell']) ?_))
  refine bodyPost_ret (v:=.tuple #[.agg zs,.int .i64 0,.bool false]) ?_ rfl ?_
  ·exact aL Tryz.results77 _ _ w.heap.size _ _ _ _ rfl T1.out Tryz.underlying56 rfl ax
  ·exact⟨fun m s h=>(by rw[Hn.out] at h;cases h),fun _=>rfl,T2.out⟩
 obtain⟨vb,vo,vc,vp,he,hm⟩:=g1 _ hd
 subst he
 obtain⟨Ab,Ao,Ac,Ap,cb,co,cc,cp,rfl,rfl,rfl,rfl⟩:=aG hm
 have M:=(Psp.gB r m).1 hd
 have L:=kj M.1
 go_upto_region 7 with fail
 have t:=ae w1 (.cells #[.int .i64 m.k,.int .i64 m.f,.int .i64 m.v,.int .i64 m.i,.int .i64 m.q,.int .i64 m.r,.slice Ab m.b.length cb,.slice Ao m.o.length co,.slice Ac m.c.length cc,.slice Ap m.p.length cp] 56)
 have E:=tL w1 (.cells #[.int .i64 m.k,.int .i64 m.f,.int .i64 m.v,.int .i64 m.i,.int .i64 m.q,.int .i64 m.r,.slice Ab m.b.length cb,.slice Ao m.o.length co,.slice Ac m.c.length cc,.slice Ap m.p.length cp] 56)
 obtain⟨W1,hW1⟩:∃W1,w1.alloc (.cells #[.int .i64 m.k,.int .i64 m.f,.int .i64 m.v,.int .i64 m.i,.int .i64 m.q,.int .i64 m.r,.slice Ab m.b.length cb,.slice Ao m.o.length co,.slice Ac m.c.length cc,.slice Ap m.p.length cp] 56)=W1:=⟨_,rfl⟩
 rw[hW1] at t E ⊢
 have N:=(hm.keeps (Keeps.mono (P':=fun j=>w.heap.size < j) fun j _ hj=>by omega)).keeps (Keeps.below t)
 have C:=tt E
 have D:w1.heap.size < W1.heap.size:=(tz E).1
 replace HO:=tt (HO.out.below t)
 have Y:=tt (HN.out.below HO.out.be)
 have V:=tt L
 have HM:=tt N
 have Hd:Hid (bW b f cl K=if (Psp.aF m f cl&&gH K (m.f,r) n)=true then some (m,n) else none):=tt (by rw[Hc.out,hd];rfl)
 have X:Hid (aE n):=tt ⟨by omega,by omega⟩
 clear hm N M L g1 g2 hd Hc hW1 t E
 have l1:=ab (show W1.cell? ⟨w1.heap.size,1,none⟩=some (.int .i64 m.f) from by rw[cell_of_row _ _ 1 _ _ _ C.out];rfl)
 have G:Hid (∀w':World,(∃p:Later W1,w'=p.W)→w'.rangeAt w1.heap.size 0 [.int .i64 m.k,.int .i64 m.f,.int .i64 m.v,.int .i64 m.i,.int .i64 m.q,.int .i64 m.r,.slice Ab m.b.length cb,.slice Ao m.o.length co,.slice Ac m.c.length cc,.slice Ap m.p.length cp]):=tt (by rintro w' ⟨p,rfl⟩;exact aB ((p.h.block _ D).trans C.out))
 obtain⟨b1,hb1⟩:∃y,Psp.aF m f cl=y:=⟨_,rfl⟩
 obtain⟨b2,hb2⟩:∃y,gH K (m.f,r) n=y:=⟨_,rfl⟩
 have z:Hid (∀p:Later W1,Calls Tryz.prog 105 #[.agg #[.int .i64 m.k,.int .i64 m.f,.int .i64 m.v,.int .i64 m.i,.int .i64 m.q,.int .i64 m.r,.slice Ab m.b.length cb,.slice Ao m.o.length co,.slice Ac m.c.length cc,.slice Ap m.p.length cp],.int .i64 f,.int .i64 cl] p.W fun e w'=>e= .returned (.bool b1)∧Below p.W.heap.size p.W w'):=tt fun p=>by rw[←hb1];exact mT m _ _ _ _ f cl p.W _ (HM.out.keeps (Keeps.below p.h)) V.out
 have u:Hid (∀p:Later W1,Calls Tryz.prog 106 #[.pointer (some ⟨g,0,none⟩),.int .i64 m.f,.slice (some ⟨b0,o0+k,none⟩) r.length (c - k),.int .i64 n] p.W fun e w'=>e= .returned (.bool b2)∧Below p.W.heap.size p.W w'):=tt fun p=>by
  refine (oW S g K m.f r n _ p.W _ (Y.out.below p.h) T X.out (F.out.keeps (Keeps.on (HO.out.below p.h).be))).mono ?_
  rintro e w' ⟨rfl,q,rfl⟩
  exact⟨by rw[←hb2];rfl,ak (Below.refl _ _) q⟩
 rw[hb1,hb2] at Hd
 clear hb1 hb2
 cases b1 with
 |false=>
  have Hn:Hid (bW b f cl K=none):=tt (by rw[Hd.out];rfl)
  refine ai (by kernel_rfl) (by kernel_rfl) ?_
  repeat (first|go_big_quiet_step (first|(go_at_call 105;exact ag _ (z.out _))|(go_at_call 106;exact ag _ (u.out _)))|(refine aj (by simp[Region.wanted,yielded]) 56 (.tmp 14) (by rfl) w1.heap.size (0) (by rfl) [.int .i64 m.k,.int .i64 m.f,.int .i64 m.v,.int .i64 m.i,.int .i64 m.q,.int .i64 m.r,.slice Ab m.b.length cb,.slice Ao m.o.length co,.slice Ac m.c.length cc,.slice Ap m.p.length cp] _ G.out Tryz.underlying56 rfl ax ?_;intro K hK;go_simp;refine hK _ ?_;clear hK K)|quiet_step (first|(go_at_call 105;exact ag _ (z.out _))|(go_at_call 106;exact ag _ (u.out _))))
  refine wpQuiet_nil ?_
  intro w2 d
  obtain⟨⟨wq,hbq⟩,d⟩:=d
  have hb2:Below W1.heap.size W1 w2:=by rw[d];exact hbq
  clear d hbq
  replace HO:=tt (HO.out.below hb2)
  have J:=tt (HM.out.keeps (Keeps.below hb2))
  have B:=tt ((hb2.block _ D).trans C.out)
  clear hb2
  go_upto_region 8 with fail
  have l:=tt (au HO.out.rr)
  obtain⟨⟨t1,t2⟩,_⟩:=HO.out.store zs.toList rfl
  have T1:=tt t1
  have T2:=tt t2
  clear t1 t2
  go_wp2_with (first|(refine wpList_store_mid rfl 56 (.tmp 8) (.tmp 55) rfl w.heap.size 0 zs rfl rfl l.out ax (by simp[Value.oneCell']) ?_))
  refine bodyPost_ret (v:=.tuple #[.agg zs,.int .i64 0,.bool false]) ?_ rfl ?_
  ·exact aL Tryz.results77 _ _ w.heap.size _ _ _ _ rfl T1.out Tryz.underlying56 rfl ax
  ·exact⟨fun m s h=>(by rw[Hn.out] at h;cases h),fun _=>rfl,T2.out⟩
 |true=>
  cases b2 with
  |false=>
   have Hn:Hid (bW b f cl K=none):=tt (by rw[Hd.out];rfl)
   refine ai (by kernel_rfl) (by kernel_rfl) ?_
   repeat (first|go_big_quiet_step (first|(go_at_call 105;exact ag _ (z.out _))|(go_at_call 106;exact ag _ (u.out _)))|(refine aj (by simp[Region.wanted,yielded]) 56 (.tmp 14) (by rfl) w1.heap.size (0) (by rfl) [.int .i64 m.k,.int .i64 m.f,.int .i64 m.v,.int .i64 m.i,.int .i64 m.q,.int .i64 m.r,.slice Ab m.b.length cb,.slice Ao m.o.length co,.slice Ac m.c.length cc,.slice Ap m.p.length cp] _ G.out Tryz.underlying56 rfl ax ?_;intro K hK;go_simp;refine hK _ ?_;clear hK K)|quiet_step (first|(go_at_call 105;exact ag _ (z.out _))|(go_at_call 106;exact ag _ (u.out _))))
   refine wpQuiet_nil ?_
   intro w2 d
   obtain⟨⟨wq,hbq⟩,d⟩:=d
   have hb2:Below W1.heap.size W1 w2:=by rw[d];exact hbq
   clear d hbq
   replace HO:=tt (HO.out.below hb2)
   have J:=tt (HM.out.keeps (Keeps.below hb2))
   have B:=tt ((hb2.block _ D).trans C.out)
   clear hb2
   go_upto_region 8 with fail
   have l:=tt (au HO.out.rr)
   obtain⟨⟨t1,t2⟩,_⟩:=HO.out.store zs.toList rfl
   have T1:=tt t1
   have T2:=tt t2
   clear t1 t2
   go_wp2_with (first|(refine wpList_store_mid rfl 56 (.tmp 8) (.tmp 55) rfl w.heap.size 0 zs rfl rfl l.out ax (by simp[Value.oneCell']) ?_))
   refine bodyPost_ret (v:=.tuple #[.agg zs,.int .i64 0,.bool false]) ?_ rfl ?_
   ·exact aL Tryz.results77 _ _ w.heap.size _ _ _ _ rfl T1.out Tryz.underlying56 rfl ax
   ·exact⟨fun m s h=>(by rw[Hn.out] at h;cases h),fun _=>rfl,T2.out⟩
  |true=>
   have Hy:Hid (bW b f cl K=some (m,n)):=tt (by rw[Hd.out];rfl)
   refine ai (by kernel_rfl) (by kernel_rfl) ?_
   repeat (first|go_big_quiet_step (first|(go_at_call 105;exact ag _ (z.out _))|(go_at_call 106;exact ag _ (u.out _)))|(refine aj (by simp[Region.wanted,yielded]) 56 (.tmp 14) (by rfl) w1.heap.size (0) (by rfl) [.int .i64 m.k,.int .i64 m.f,.int .i64 m.v,.int .i64 m.i,.int .i64 m.q,.int .i64 m.r,.slice Ab m.b.length cb,.slice Ao m.o.length co,.slice Ac m.c.length cc,.slice Ap m.p.length cp] _ G.out Tryz.underlying56 rfl ax ?_;intro K hK;go_simp;refine hK _ ?_;clear hK K)|quiet_step (first|(go_at_call 105;exact ag _ (z.out _))|(go_at_call 106;exact ag _ (u.out _))))
   refine wpQuiet_nil ?_
   intro w2 d
   obtain⟨⟨wq,hbq⟩,d⟩:=d
   have hb2:Below W1.heap.size W1 w2:=by rw[d];exact hbq
   clear d hbq
   replace HO:=tt (HO.out.below hb2)
   have J:=tt (HM.out.keeps (Keeps.below hb2))
   have B:=tt ((hb2.block _ D).trans C.out)
   clear hb2
   have l:=tt (au HO.out.rr)
   obtain⟨⟨t1,t2⟩,hs3⟩:=HO.out.store [.int .i64 m.k,.int .i64 m.f,.int .i64 m.v,.int .i64 m.i,.int .i64 m.q,.int .i64 m.r,.slice Ab m.b.length cb,.slice Ao m.o.length co,.slice Ac m.c.length cc,.slice Ap m.p.length cp] rfl
   have T1:=tt t1
   have T2:=tt t2
   have Z:=tt (J.out.keeps hs3)
   have P:Hid (w2.rangeAt w1.heap.size 0 [.int .i64 m.k,.int .i64 m.f,.int .i64 m.v,.int .i64 m.i,.int .i64 m.q,.int .i64 m.r,.slice Ab m.b.length cb,.slice Ao m.o.length co,.slice Ac m.c.length cc,.slice Ap m.p.length cp]):=tt (aB B.out)
   clear t1 t2 hs3 l1 G
   go_wp2_with (first|(refine aA rfl 56 (.tmp 14) rfl w1.heap.size 0 rfl [.int .i64 m.k,.int .i64 m.f,.int .i64 m.v,.int .i64 m.i,.int .i64 m.q,.int .i64 m.r,.slice Ab m.b.length cb,.slice Ao m.o.length co,.slice Ac m.c.length cc,.slice Ap m.p.length cp] _ P.out Tryz.underlying56 rfl ax ?_)|(refine wpList_store_mid rfl 56 (.tmp 8) (.tmp 56) rfl w.heap.size 0 #[.int .i64 m.k,.int .i64 m.f,.int .i64 m.v,.int .i64 m.i,.int .i64 m.q,.int .i64 m.r,.slice Ab m.b.length cb,.slice Ao m.o.length co,.slice Ac m.c.length cc,.slice Ap m.p.length cp] rfl rfl l.out ax (by simp[Value.oneCell']) ?_))
   refine bodyPost_ret (v:=.tuple #[.agg #[.int .i64 m.k,.int .i64 m.f,.int .i64 m.v,.int .i64 m.i,.int .i64 m.q,.int .i64 m.r,.slice Ab m.b.length cb,.slice Ao m.o.length co,.slice Ac m.c.length cc,.slice Ap m.p.length cp],.int .i64 n,.bool true]) ?_ rfl ?_
   ·exact aL Tryz.results77 _ _ w.heap.size _ _ _ _ rfl T1.out Tryz.underlying56 rfl ax
   ·refine⟨fun m' s h=>?_,fun h=>(by rw[Hy.out] at h;cases h),T2.out⟩
    rw[Hy.out] at h
    injection h with h
    injection h with h1 h2
    subst h1 h2
    exact⟨_,_,_,_,rfl,Z.out.keeps (Keeps.mono fun j _ hj=>by omega)⟩
section
variable {P:Program} {ops:Array Oper} {md:Region.Mode} {Q:Exit→Act→World→Prop} {S:World→Prop} {M:List Nat}
def wpAnyM (P:Program) (md:Region.Mode) (ops:Array Oper) (Q:Exit→Act→World→Prop) (S:World→Prop) (M:List Nat):Nat→Array Bool→Act→World→Prop
 |0,listed,a,w=>Region.ready md ops listed=[]∧Q .normal a w
 |fuel+1,listed,a,w=>
  (Region.ready md ops listed=[]→Q .normal a w)∧
  ∀i∈Region.ready md ops listed,wpOp P ops Q i (fun a' w'=>(i∈M→S w')∧wpAnyM P md ops Q S M fuel (listed.setIfInBounds i true) a' w') a w
theorem wpAnyM.any:∀(fuel:Nat) (listed:Array Bool) (a:Act) (w:World),wpAnyM P md ops Q S M fuel listed a w→wpAny P md ops Q fuel listed a w
 |0,_,_,_,h=>h
 |fuel+1,listed,a,w,h=>⟨h.1,fun i hi=>wpOp_mono (fun a' w' h'=>wpAnyM.any fuel _ a' w' h'.2) (h.2 i hi)⟩
theorem kh {D:List Nat} {i:Nat} {oi:Oper} {v:Value} (hi:ops[i]? =some oi) (hE:fg md ops=true) (p:∀(j:Nat) (o:Oper) cs b,ops[j]? =some o→o.op≠.select cs b)
 (hQ:∀c a w,Q (.panic c) (a.put oi.dst v) w→Q (.panic c) a w) (hw:∀j,j < ops.size→j∉M→j∉D→j∈waitD md D i ops.toList 0 []):
 ∀(fuel:Nat) (listed:Array Bool) (a:Act) (w:World),closedD md ops D listed→
  (∀j oj,ops[j]? =some oj→j≠i→listed.getD j true=false→(∀e∈oj.after,Region.binds md e=true→e.on≠i)→oi.apart ops oj=true)→
  listed.getD i true=false→YieldsIf P ops S oi v a→S w→
  wpAnyM P md ops Q S M fuel (listed.setIfInBounds i true) (a.put oi.dst v) w→wpAnyM P md ops Q S M (fuel+1) listed a w:=by
 intro fuel
 have q:i < ops.size:=(tz hi).1
 induction fuel with
 |zero=>
  intro listed a w hcl _ hr hy hS H
  refine⟨fun h=>absurd h (ee hE i i (tJ _) q hr),fun j hj=>?_⟩
  by_cases d:j=i
  ·subst d;exact hy.wpOp hi hS ⟨fun _=>hS,H⟩
  ·have:=ready_mono (i:=i) hj d
   rw[H.1] at this
   cases this
 |succ fuel ih=>
  intro listed a w hcl l hr hy hS H
  refine⟨fun h=>absurd h (ee hE i i (tJ _) q hr),fun j hj=>?_⟩
  by_cases d:j=i
  ·subst d;exact hy.wpOp hi hS ⟨fun _=>hS,H⟩
  ·have h1:=H.2 j (ready_mono hj d)
   obtain⟨g,oj,m,x⟩:=mem_ready.1 hj
   have f:listed.getD i false=false:=by
    cases hx:listed.getD i false with
    |false=>rfl
    |true=>
     rcases Nat.lt_or_ge i listed.size with h'|h'
     ·simp[h'] at hr hx;rw[hr] at hx;cases hx
     ·simp[Array.getElem?_eq_none h'] at hx
   have u:j∈M:=by
    by_cases hm:j∈M
    ·exact hm
    ·exfalso
     have z:j∉D:=fun hD=>by have:=hcl.1 j hD;rw[g] at this;cases this
     have h2:=waitD.not hcl f ops.toList 0 [] (fun k=>by simp) (fun k hk=>by cases hk) j (hw j (tz m).1 hm z)
     rcases h2.2 with h3|h3
     ·exact d h3
     ·exact h3 hj
   have s:∀e∈oj.after,Region.binds md e=true→e.on≠i:=fun e he hb A=>by
    have h1:=x e he hb
    rw[A,f] at h1
    cases h1
   have h2:=wpOp_putIf m (l j oj m d g s) (fun cs b=>p i oi cs b hi) (fun cs b=>p j oj cs b m) hQ hy h1
   have n:∀k ok,ops[k]? =some ok→k≠i→(listed.setIfInBounds j true).getD k true=false→
    (∀e∈ok.after,Region.binds md e=true→e.on≠i)→oi.apart ops ok=true:=fun k ok hk y r hno=>by
    refine l k ok hk y ?_ hno
    by_cases t:j=k
    ·subst t;exact g
    ·rw[getD_set_ne true t] at r;exact r
   refine wpOp_mono (fun a' w' h3=>⟨fun _=>h3.2.1 u,ih (listed.setIfInBounds j true) a' w' (hcl.set hj) n (by rw[getD_set_ne true d];exact hr) h3.1 (h3.2.1 u) ?_⟩) h2
   rw[Array.setIfInBounds_comm _ _ d]
   exact h3.2.2
def lq (md:Region.Mode) (l:List Oper) (M D:List Nat) (listed:Array Bool) (i:Nat):Bool:=
 Region.noSelect l.toArray&&fg md l.toArray&&(match l[i]? with|some o=>jp o|none=>false)&& !listed.getD i true&&Region.free md l.toArray listed i&&
 ((let acc:=waitD md D i l 0 [];(List.range l.length).all fun j=>M.contains j||(D.contains j||acc.contains j))&&
 (D.all (fun j=>listed.getD j true)&&(List.range l.length).all fun j=>match l[j]? with|some o=>D.contains j|| !listed.getD j false||o.after.all (fun e=>!Region.binds md e||listed.getD e.on false)|none=>true))
theorem ez {l:List Oper} (D:List Nat) (i:Nat) {fuel:Nat} {listed:Array Bool} {a:Act} {w:World} (hB:lq md l M D listed i=true)
 (hQ:∀c d v a w,Q (.panic c) (Act.put a d v) w→Q (.panic c) a w) (hS:S w)
 (h:wpQuiet P l.toArray S (fun a'=>wpAnyM P md l.toArray Q S M fuel (listed.setIfInBounds i true) a' w) (l[i]?).toList a):wpAnyM P md l.toArray Q S M (fuel+1) listed a w:=by
 simp only[lq,tI,Bool.not_eq_true'] at hB
 obtain⟨⟨⟨⟨⟨hs,hE⟩,ho⟩,hl⟩,hf⟩,hw,p,n⟩:=hB
 cases b:l[i]? with
 |none=>rw[b] at ho;cases ho
 |some o=>
  rw[b] at ho h
  have f:l.toArray[i]? =some o:=by simpa using b
  obtain⟨v,hy,hK⟩:=cB (i:=i) (o:=o) (by simpa using ho) h
  refine kh (D:=D) f hE (Region.noSelect_spec hs) (fun c a w=>hQ c _ _ a w) (fun j hj hM hD=>?_) fuel listed a w ⟨fun j hj=>List.all_eq_true.1 p j hj,fun j oj m hj hl e he hb=>?_⟩ (Region.free_spec f hf) hl hy hS hK
  ·have h1:=List.all_eq_true.1 hw j (List.mem_range.2 (by simpa using hj))
   rw[Bool.or_eq_true,Bool.or_eq_true] at h1
   rcases h1 with h1|h1|h1
   ·exact absurd (by simpa using h1) hM
   ·exact absurd (by simpa using h1) hD
   ·simpa using h1
  ·have k:j < l.length:=by simpa using (tz hj).1
   have h1:=List.all_eq_true.1 n j (List.mem_range.2 k)
   have g:l[j]? =some oj:=by simpa using hj
   rw[g] at h1
   simp only[Bool.or_eq_true,Bool.not_eq_true'] at h1
   rcases h1 with (h1|h1)|h1
   ·exact absurd (by simpa using h1) m
   ·rw[hl] at h1;cases h1
   ·have h2:=Array.all_eq_true_iff_forall_mem.1 h1 e he
    rw[hb] at h2
    simpa using h2
theorem eN {listed:Array Bool} {l:List Oper} {j:Nat} {K:Act→World→Prop} {a:Act} {w:World} (d:j∈Region.ready md l.toArray listed) (h:wpList P l.toArray (eJ K) (l[j]?).toList a w):wpOp P l.toArray Q j K a w:=by
 obtain⟨_,o,c,_⟩:=mem_ready.1 d
 have e:l[j]? =some o:=by simpa using c
 rw[e] at h
 have h':wpList P l.toArray (eJ K) [o] a w:=h
 have h2:wpOp P l.toArray noQ j K a w:=by
  unfold wpOp
  simp only[c]
  unfold wpList at h'
  split
  ·rename_i b
   rw[if_pos b] at h'
   rcases h' with h'|⟨_,_,_,h'⟩
   ·exact .inl (eZ (Oper.wp_mono (fun a w h=>h) h'))
   ·exact absurd h' id
  ·rename_i b
   rw[if_neg b] at h'
   exact h'
 exact ic (fun _ _ h=>h) h2
theorem ap {l:List Oper} (i:Nat) {fuel:Nat} {listed:Array Bool} {a:Act} {w:World} (hr:decide (Region.ready md l.toArray listed=[i])=true)
 (h:wpList P l.toArray (eJ fun a' w'=>(i∈M→S w')∧wpAnyM P md l.toArray Q S M fuel (listed.setIfInBounds i true) a' w') (l[i]?).toList a w):wpAnyM P md l.toArray Q S M (fuel+1) listed a w:=by
 have hr:=of_decide_eq_true hr
 refine⟨by rw[hr];simp,fun j hj=>?_⟩
 have b:j=i:=by rw[hr] at hj;simpa using hj
 subst b
 exact eN hj h
theorem cK {l:List Oper} (i k:Nat) {fuel:Nat} {listed:Array Bool} {a:Act} {w:World} (hr:decide (Region.ready md l.toArray listed=[i,k])=true)
 (h1:wpList P l.toArray (eJ fun a' w'=>(i∈M→S w')∧wpAnyM P md l.toArray Q S M fuel (listed.setIfInBounds i true) a' w') (l[i]?).toList a w)
 (h2:wpList P l.toArray (eJ fun a' w'=>(k∈M→S w')∧wpAnyM P md l.toArray Q S M fuel (listed.setIfInBounds k true) a' w') (l[k]?).toList a w):wpAnyM P md l.toArray Q S M (fuel+1) listed a w:=by
 have hr:=of_decide_eq_true hr
 refine⟨by rw[hr];simp,fun j hj=>?_⟩
 have b:j=i∨j=k:=by rw[hr] at hj;simpa using hj
 rcases b with b|b
 ·subst b;exact eN hj h1
 ·subst b;exact eN hj h2
theorem cJ {id:Nat} {a:Act} {w:World} {l:List Oper} (S:World→Prop) (M:List Nat) (n:Nat) (hn:l.length=n) (hm:P.follows .mixedOrders=true) (h:wpAnyM P .any l.toArray Q S M n (Array.replicate n false) a w.drew):(Code.region id l.toArray true).wp P Q a w:=
 eW n hn hm (wpAnyM.any _ _ _ _ h)
theorem eM {ops:Array Oper} {E E':Act→Prop} (h:∀a,E a→E' a):∀(l:List Oper) (a:Act),wpQuiet P ops S E l a→wpQuiet P ops S E' l a
 | [],a,hh=>h a hh
 |o :: t,a,hh=>by
  unfold wpQuiet at hh ⊢
  split
  ·rename_i hw
   rw[if_pos hw] at hh
   exact Oper.quiet_mono (fun a h2=>eM h t a h2) hh
  ·rename_i hw
   rw[if_neg hw] at hh
   exact eM h t _ hh
def phR (P:Program) (l:List Oper) (S:World→Prop) (E:Act→Prop):List Nat→Act→Prop
 | [],a=>E a
 |i :: t,a=>wpQuiet P l.toArray S (fun a'=>phR P l S E t a') (l[i]?).toList a
def gZ (md:Region.Mode) (l:List Oper) (M:List Nat):List Nat→List Nat→Array Bool→Bool
 |_,[],_=>true
 |D,i :: t,listed=>lq md l M D listed i&&gZ md l M (D++[i]) t (listed.setIfInBounds i true)
def jM:List Nat→Array Bool→Array Bool
 | [],listed=>listed
 |i :: t,listed=>jM t (listed.setIfInBounds i true)
theorem fH {l:List Oper} (hQ:∀c d v a w,Q (.panic c) (Act.put a d v) w→Q (.panic c) a w) {w:World} (hS:S w) {fuel:Nat}:∀(is D:List Nat) {listed:Array Bool} {a:Act},gZ md l M D is listed=true→
 phR P l S (fun a'=>wpAnyM P md l.toArray Q S M fuel (jM is listed) a' w) is a→wpAnyM P md l.toArray Q S M (fuel+is.length) listed a w
 | [],_,_,_,_,h=>h
 |i :: t,D,listed,a,hB,h=>by
  unfold gZ at hB
  rw[tI] at hB
  have h':wpQuiet P l.toArray S (fun a'=>phR P l S (fun a'=>wpAnyM P md l.toArray Q S M fuel (jM t (listed.setIfInBounds i true)) a' w) t a') (l[i]?).toList a:=h
  show wpAnyM P md l.toArray Q S M (fuel+t.length+1) listed a w
  exact ez D i hB.1 hQ hS (eM (fun a' h2=>fH hQ hS t (D++[i]) hB.2 h2) _ _ h')
theorem aS {l:List Oper} (D is:List Nat) (n:Nat) (hn:is.length=n) {fuel:Nat} {listed:Array Bool} {a:Act} {w:World} (hB:gZ md l M D is listed=true)
 (hQ:∀c d v a w,Q (.panic c) (Act.put a d v) w→Q (.panic c) a w) (hS:S w)
 (h:phR P l S (fun a'=>wpAnyM P md l.toArray Q S M fuel (jM is listed) a' w) is a):wpAnyM P md l.toArray Q S M (fuel+n) listed a w:=by
 rw[←hn]
 exact fH hQ hS is D hB h
end
theorem ll (U:Nat→Prop) (k h:Nat) (c:Cf) (id:Int) (s:RC) (v:Value) (w:World) (H:Rcm w U k h c id s) (hw:s.wt=false):
 Calls Tryz.prog 50 #[.pointer (some ⟨k,0,none⟩),v] w fun e w'=>e= .returned (.bool false)∧w=w':=by
 obtain⟨Ab,cb,Ai,ci,Ac,cc,Ao,co,L,ho⟩:=H.opens
 have a:=ho.row
 have b:w.cell? ⟨k,18,none⟩=some (.bool false):=by rw[←hw];exact am a 18 rfl
 clear a ho H
 go_enter Tryz.func50,Tryz.ntmps50
 go_wp2_with fail
 go_ret
 exact⟨rfl,rfl⟩
theorem lj (T U:Nat→Prop) (k h:Nat) (L0:List Key) (c:Cf) (id:Int) (s:RC) (b:List UInt8) (v:Value) (w:World) (H:Rcm w U k h c id s) (F:Ntr w T h L0) (D:L0.Nodup) (hw:s.wt=true) (hx:RdP w (fun x=>x < w.heap.size) 1 v b.length (b.map bv)) (hop:bW b c.f c.cl L0=none):
 Calls Tryz.prog 50 #[.pointer (some ⟨k,0,none⟩),v] w fun e w'=>e= .returned (.bool false)∧Below w.heap.size w w':=by
 have HX:=tt hx
 have I:=tt hop
 have Q:=tt F
 have HN:=tt H
 obtain⟨Ab,cb,Ai,ci,Ac,cc,Ao,co,L,ho⟩:=H.opens
 clear H hx hop F
 have C:=ho.row
 have O:w.cell? ⟨k,18,none⟩=some (.bool true):=by rw[←hw];exact am C 18 rfl
 clear C
 go_enter Tryz.func50,Tryz.ntmps50
 go_upto_region 3 with fail
 clear O
 have m:=ho.row
 have V:=ho.lt k ho.uk
 have l0:=ab (w:=w.drew) (show w.drew.cell? ⟨k,0,none⟩=some (.int .i64 c.f) from am m 0 rfl)
 have l1:=ab (w:=w.drew) (show w.drew.cell? ⟨k,1,none⟩=some (.int .i64 c.cl) from am m 1 rfl)
 have A:=ab (w:=w.drew) (show w.drew.cell? ⟨k,16,none⟩=some (.pointer (some ⟨h,0,none⟩)) from am m 16 rfl)
 have HO:=tt ho
 have a:Hid (Below w.drew.heap.size w.drew w.drew):=tt (Below.refl _ _)
 clear m ho
 go_cut [5,6,7] from 15 (fun mv S M wx=>M= .bool false∧Hid (Below w.heap.size w wx))
 case first=>
  refine cJ (fun w'=>∃p:Later w.drew,w'=p.W) [0,1,2,3,4,5,6,7,8,9,10,11,12,13,14,15,16,17,18,19,20,21,22,23] 24 (by kernel_rfl) (by kernel_rfl) ?_
  obtain⟨Wd,hWd⟩:∃Wd,w.drew=Wd:=⟨_,rfl⟩
  have E:Wd.heap.size=w.heap.size:=by rw[←hWd];rfl
  have r:Below w.heap.size w Wd:=by rw[←hWd];exact (Below.refl _ _).drew
  have X:=tt E
  have t:=tt r
  rw[hWd] at l0 l1 A a ⊢
  have J:=tt (Q.out.below r)
  have G:=tt (RdP.keeps HX.out (Keeps.on r))
  clear hWd E r
  refine aS [] [0,1,2,3,4,5,6,7,8,9,10,11,12,13,14] 15 rfl (by kernel_rfl) (fun _ d _ _ _ h=>by cases d <;> exact h) ⟨⟨_,a.out⟩,rfl⟩ ?_
  simp only[phR,tu,tx,Option.toList]
  repeat (first|go_big_quiet_step (fail)|quiet_step (fail)|refine wpQuiet_nil ?_)
  clear l0 l1 A
  refine cK 15 20 (by kernel_rfl) ?_ ?_
  ·skip
   simp only[tu,tx,Option.toList]
   go_wp2_with fail
   refine (gY b v c.f c.cl T h L0 Wd G.out J.out D).mono ?_
   rintro e w5 ⟨h1,h2,hbq⟩
   obtain rfl:=h2 I.out
   replace a:=tt (Below.then a.out hbq a.out.size)
   have K:=tt hbq
   have N:=hbq.size
   clear h1 h2 hbq
   go_wp2_with fail
   first|refine And.intro (fun _=>⟨⟨_,a.out⟩,rfl⟩) ?_|refine And.intro ⟨⟨_,a.out⟩,rfl⟩ ?_
   refine aS [0,1,2,3,4,5,6,7,8,9,10,11,12,13,14,15] [16,17,18,19] 4 rfl (by kernel_rfl) (fun _ d _ _ _ h=>by cases d <;> exact h) ⟨⟨_,a.out⟩,rfl⟩ ?_
   simp only[phR,tu,tx,Option.toList]
   repeat (first|go_big_quiet_step (fail)|quiet_step (fail)|refine wpQuiet_nil ?_)
   refine ap 20 (by kernel_rfl) ?_
   simp only[tu,tx,Option.toList]
   go_wp2_with fail
   have j:=ae w5 (.cells #[.int .i64 0,.int .i64 0,.int .i64 0,.int .i64 0,.int .i64 0,.int .i64 0,.slice none 0 0,.slice none 0 0,.slice none 0 0,.slice none 0 0] 56)
   have i:=tL w5 (.cells #[.int .i64 0,.int .i64 0,.int .i64 0,.int .i64 0,.int .i64 0,.int .i64 0,.slice none 0 0,.slice none 0 0,.slice none 0 0,.slice none 0 0] 56)
   replace a:=tt (Below.then a.out j a.out.size)
   first|refine And.intro (fun _=>⟨⟨_,a.out⟩,rfl⟩) ?_|refine And.intro ⟨⟨_,a.out⟩,rfl⟩ ?_
   obtain⟨w6,hW_⟩:∃W_,(w5).alloc (.cells #[.int .i64 0,.int .i64 0,.int .i64 0,.int .i64 0,.int .i64 0,.int .i64 0,.slice none 0 0,.slice none 0 0,.slice none 0 0,.slice none 0 0] 56)=W_:=⟨_,rfl⟩
   rw[hW_] at j i a ⊢
   have u:=(tz i).1
   have l:=tt i
   have z:=tt j
   clear hW_ j i
   refine ap 21 (by kernel_rfl) ?_
   simp only[tu,tx,Option.toList]
   have n:=au l.out
   obtain⟨s1,s2⟩:=aQ l.out [.int .i64 0,.int .i64 0,.int .i64 0,.int .i64 0,.int .i64 0,.int .i64 0,.slice none 0 0,.slice none 0 0,.slice none 0 0,.slice none 0 0] rfl
   have o:Wd.heap.size≤w5.heap.size:=by omega
   have g:Hid (Below Wd.heap.size Wd (w6.setCells (w5.heap.size) 0 [.int .i64 0,.int .i64 0,.int .i64 0,.int .i64 0,.int .i64 0,.int .i64 0,.slice none 0 0,.slice none 0 0,.slice none 0 0,.slice none 0 0])):=tt (((Fp.of_below a.out (fun _=>False)).setCells (Or.inr o) _).to_below (tJ _) fun _ _ h=>h.elim)
   have y:=tt n
   have S1:=tt s1
   clear n s1 s2
   go_wp2_with (refine wpList_store_mid rfl 56 (.tmp 5) (.tmp 32) rfl (w5.heap.size) 0 #[.int .i64 0,.int .i64 0,.int .i64 0,.int .i64 0,.int .i64 0,.int .i64 0,.slice none 0 0,.slice none 0 0,.slice none 0 0,.slice none 0 0] rfl rfl y.out ax (by simp[Value.oneCell']) ?_)
   first|refine And.intro (fun _=>⟨⟨_,g.out⟩,rfl⟩) ?_|refine And.intro ⟨⟨_,g.out⟩,rfl⟩ ?_
   refine ap 22 (by kernel_rfl) ?_
   simp only[tu,tx,Option.toList]
   go_wp2_with fail
   first|refine And.intro (fun _=>⟨⟨_,g.out⟩,rfl⟩) ?_|refine And.intro ⟨⟨_,g.out⟩,rfl⟩ ?_
   refine ap 23 (by kernel_rfl) ?_
   simp only[tu,tx,Option.toList]
   go_wp2_with fail
   first|refine And.intro (fun _=>⟨⟨_,g.out⟩,rfl⟩) ?_|refine And.intro ⟨⟨_,g.out⟩,rfl⟩ ?_
   refine And.intro (by kernel_rfl) ?_
   go_wp2_with fail
   go_meet
   have q:=Below.then t.out g.out t.out.size
   exact⟨rfl,tt q⟩
  ·skip
   simp only[tu,tx,Option.toList]
   go_wp2_with fail
   have j:=ae Wd (.cells #[.int .i64 0,.int .i64 0,.int .i64 0,.int .i64 0,.int .i64 0,.int .i64 0,.slice none 0 0,.slice none 0 0,.slice none 0 0,.slice none 0 0] 56)
   have i:=tL Wd (.cells #[.int .i64 0,.int .i64 0,.int .i64 0,.int .i64 0,.int .i64 0,.int .i64 0,.slice none 0 0,.slice none 0 0,.slice none 0 0,.slice none 0 0] 56)
   replace a:=tt (Below.then a.out j a.out.size)
   first|refine And.intro (fun _=>⟨⟨_,a.out⟩,rfl⟩) ?_|refine And.intro ⟨⟨_,a.out⟩,rfl⟩ ?_
   obtain⟨w5,hW_⟩:∃W_,(Wd).alloc (.cells #[.int .i64 0,.int .i64 0,.int .i64 0,.int .i64 0,.int .i64 0,.int .i64 0,.slice none 0 0,.slice none 0 0,.slice none 0 0,.slice none 0 0] 56)=W_:=⟨_,rfl⟩
   rw[hW_] at j i a ⊢
   have u:=(tz i).1
   have l:=tt i
   have z:=tt j
   clear hW_ j i
   have P:=tt (RdP.keeps G.out (Keeps.on z.out))
   refine ap 15 (by kernel_rfl) ?_
   simp only[tu,tx,Option.toList]
   go_wp2_with fail
   refine (gY b v c.f c.cl T h L0 w5 P.out (J.out.below z.out) D).mono ?_
   rintro e w6 ⟨h1,h2,hbq⟩
   obtain rfl:=h2 I.out
   replace a:=tt (Below.then a.out hbq a.out.size)
   have K:=tt hbq
   have N:=hbq.size
   clear h1 h2 hbq
   go_wp2_with fail
   first|refine And.intro (fun _=>⟨⟨_,a.out⟩,rfl⟩) ?_|refine And.intro ⟨⟨_,a.out⟩,rfl⟩ ?_
   refine aS [0,1,2,3,4,5,6,7,8,9,10,11,12,13,14,20,15] [16,17,18,19] 4 rfl (by kernel_rfl) (fun _ d _ _ _ h=>by cases d <;> exact h) ⟨⟨_,a.out⟩,rfl⟩ ?_
   simp only[phR,tu,tx,Option.toList]
   repeat (first|go_big_quiet_step (fail)|quiet_step (fail)|refine wpQuiet_nil ?_)
   replace l:=tt ((K.out.block _ u).trans l.out)
   refine ap 21 (by kernel_rfl) ?_
   simp only[tu,tx,Option.toList]
   have n:=au l.out
   obtain⟨s1,s2⟩:=aQ l.out [.int .i64 0,.int .i64 0,.int .i64 0,.int .i64 0,.int .i64 0,.int .i64 0,.slice none 0 0,.slice none 0 0,.slice none 0 0,.slice none 0 0] rfl
   have o:Wd.heap.size≤Wd.heap.size:=by omega
   have g:Hid (Below Wd.heap.size Wd (w6.setCells (Wd.heap.size) 0 [.int .i64 0,.int .i64 0,.int .i64 0,.int .i64 0,.int .i64 0,.int .i64 0,.slice none 0 0,.slice none 0 0,.slice none 0 0,.slice none 0 0])):=tt (((Fp.of_below a.out (fun _=>False)).setCells (Or.inr o) _).to_below (tJ _) fun _ _ h=>h.elim)
   have y:=tt n
   have S1:=tt s1
   clear n s1 s2
   go_wp2_with (refine wpList_store_mid rfl 56 (.tmp 5) (.tmp 32) rfl (Wd.heap.size) 0 #[.int .i64 0,.int .i64 0,.int .i64 0,.int .i64 0,.int .i64 0,.int .i64 0,.slice none 0 0,.slice none 0 0,.slice none 0 0,.slice none 0 0] rfl rfl y.out ax (by simp[Value.oneCell']) ?_)
   first|refine And.intro (fun _=>⟨⟨_,g.out⟩,rfl⟩) ?_|refine And.intro ⟨⟨_,g.out⟩,rfl⟩ ?_
   refine ap 22 (by kernel_rfl) ?_
   simp only[tu,tx,Option.toList]
   go_wp2_with fail
   first|refine And.intro (fun _=>⟨⟨_,g.out⟩,rfl⟩) ?_|refine And.intro ⟨⟨_,g.out⟩,rfl⟩ ?_
   refine ap 23 (by kernel_rfl) ?_
   simp only[tu,tx,Option.toList]
   go_wp2_with fail
   first|refine And.intro (fun _=>⟨⟨_,g.out⟩,rfl⟩) ?_|refine And.intro ⟨⟨_,g.out⟩,rfl⟩ ?_
   refine And.intro (by kernel_rfl) ?_
   go_wp2_with fail
   go_meet
   have q:=Below.then t.out g.out t.out.size
   exact⟨rfl,tt q⟩
 case rest=>
  obtain⟨rfl,HB⟩:=hcut
  go_upto_region 4 with fail
  refine ai (by kernel_rfl) (by kernel_rfl) ?_
  repeat (first|go_big_quiet_step (fail))
  refine wpQuiet_nil ?_
  intro w3 B
  have hb3:=ay B
  clear B
  have R:=tt hb3
  clear hb3
  go_wp2_with fail
  go_ret
  exact⟨rfl,Below.then HB.out R.out HB.out.size⟩
end Go.Proofs.YtipmjleohadoeaaGreat
end
