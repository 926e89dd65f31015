import Derived.Test.YtipmjleohadoeaaGreatJ9Py
import Derived.Test.YtipmjleohadoeaaGreatJ15Py
import Derived.StillTailTactics
import Derived.Deep.CutBlock
import Derived.Test.YtipmjleohadoeaaGreatJ13Py
import Derived.Test.YtipmjleohadoeaaGreatJ10Py
import Derived.Test.YtipmjleohadoeaaGreatJ1Py
import Derived.Test.YtipmjleohadoeaaGreatJ8Py
import Derived.BigRegion
import Derived.Test.YtipmjleohadoeaaGreatGgPy
import Derived.Maps.RangeWalk
import Derived.Maps.Ext
import Derived.Test.YtipmjleohadoeaaGreatDoPy
set_option maxRecDepth 100000
set_option maxHeartbeats 16000000
set_option linter.unusedVariables false
set_option linter.unusedSimpArgs false
section
namespace Go.Proofs.YtipmjleohadoeaaGreat
open Go.RowKit
section
variable {W:World} {S:Nat→Prop} {bm j:Nat} {cs:Array Value} {T:TypeId}
theorem rU (W:World) (j k:Nat) (u:Value):Fp (fun b=>b=j) W (W.setCell ⟨j,k,none⟩ u):=(Fp.refl (fun b=>b=j) W).setCell (p:=⟨j,k,none⟩) (Or.inl (show j=j from rfl)) u
theorem Rw.put (h:Rw W S bm j (.cells cs T (0,0))) (k:Nat) (u:Value):Rw (W.setCell ⟨j,k,none⟩ u) S bm j (.cells (cs.setIfInBounds k u) T (0,0)):=
 ⟨heap_setCell_same W j k cs T u h.row,h.off.seal (rU W j k u) fun b hb=>.inl hb⟩
end
def arI (l:List Int):Array Value:=(l.map iv).toArray
theorem lH {l:List Int} {n:Nat} {b:Int} (h:l[n]? =some b):(arI l)[n]? =some (.int .i64 b):=by simp[arI,h,iv]
theorem qZ (l:List Int) (n:Nat) (b:Int):(arI l).setIfInBounds n (.int .i64 b)=arI (l.set n b):=by simp[arI,List.map_set,iv]
def gD:List Int:=[1,1,1,1,1,1,2,0,1,2,0,2,1,1]
def jn:List Int:=[4,4,16,256,64,64,63,9,8,63,65,63,16,64]
def pX:List Int:=[2,2,4,64,8,8,8,1,2,12,8,6,2,6]
def InR (xs:List Int):Prop:=xs.length=14∧∀i:Nat,i<14→∃x a r,xs[i]? =some x∧gD[i]? =some a∧jn[i]? =some r∧a≤x∧x<a+r
theorem qE:InR pX:=by
 refine⟨rfl,fun i hi=>?_⟩
 rcases i with _|_|_|_|_|_|_|_|_|_|_|_|_|_|i
 all_goals first
  |exact⟨_,_,_,rfl,rfl,rfl,by decide,by decide⟩
  |omega
theorem lr_at {i:Nat} (hi:i<14):∃a r,gD[i]? =some a∧jn[i]? =some r∧0≤a∧a≤2∧1≤r∧r≤256:=by
 rcases i with _|_|_|_|_|_|_|_|_|_|_|_|_|_|i
 all_goals first
  |exact⟨_,_,rfl,rfl,by decide,by decide,by decide,by decide⟩
  |omega
theorem qF {xs:List Int} {i:Nat} {x a r:Int} (h:InR xs) (hi:i<14) (ha:gD[i]? =some a) (hr:jn[i]? =some r) (h1:a≤x) (h2:x<a+r):InR (xs.set i x):=by
 refine⟨by rw[List.length_set];exact h.1,fun j hj=>?_⟩
 by_cases b:i=j
 ·subst b
  exact⟨x,a,r,by rw[List.getElem?_set_self (by rw[h.1];exact hi)],ha,hr,h1,h2⟩
 ·rw[List.getElem?_set_ne b]
  exact h.2 j hj
theorem sg {f1 x0 x1 x2 x3 x4 x5 x6 x7 x8 x9 e d c b:Int} (hf:1≤f1∧f1≤4) (h:InR [x0,x1,x2,x3,x4,x5,x6,x7,x8,x9,e,d,c,b]):(Cf.ok ⟨f1,x0,x1,x2,x3,x4,x5,x6,x7,x8,x9,e,d,c,b⟩)=true:=by
 have h0:1≤x0∧x0≤4:=by
  obtain⟨x,a,r,e1,e2,e3,e4,e5⟩:=h.2 0 (by decide)
  have g1:x0=x:=Option.some.inj e1
  have g2:(1:Int)=a:=Option.some.inj e2
  have g3:(4:Int)=r:=Option.some.inj e3
  omega
 have h1:1≤x1∧x1≤4:=by
  obtain⟨x,a,r,e1,e2,e3,e4,e5⟩:=h.2 1 (by decide)
  have g1:x1=x:=Option.some.inj e1
  have g2:(1:Int)=a:=Option.some.inj e2
  have g3:(4:Int)=r:=Option.some.inj e3
  omega
 have h2:1≤x2∧x2≤16:=by
  obtain⟨x,a,r,e1,e2,e3,e4,e5⟩:=h.2 2 (by decide)
  have g1:x2=x:=Option.some.inj e1
  have g2:(1:Int)=a:=Option.some.inj e2
  have g3:(16:Int)=r:=Option.some.inj e3
  omega
 have h3:1≤x3∧x3≤256:=by
  obtain⟨x,a,r,e1,e2,e3,e4,e5⟩:=h.2 3 (by decide)
  have g1:x3=x:=Option.some.inj e1
  have g2:(1:Int)=a:=Option.some.inj e2
  have g3:(256:Int)=r:=Option.some.inj e3
  omega
 have h4:1≤x4∧x4≤64:=by
  obtain⟨x,a,r,e1,e2,e3,e4,e5⟩:=h.2 4 (by decide)
  have g1:x4=x:=Option.some.inj e1
  have g2:(1:Int)=a:=Option.some.inj e2
  have g3:(64:Int)=r:=Option.some.inj e3
  omega
 have h5:1≤x5∧x5≤64:=by
  obtain⟨x,a,r,e1,e2,e3,e4,e5⟩:=h.2 5 (by decide)
  have g1:x5=x:=Option.some.inj e1
  have g2:(1:Int)=a:=Option.some.inj e2
  have g3:(64:Int)=r:=Option.some.inj e3
  omega
 have h6:2≤x6∧x6≤64:=by
  obtain⟨x,a,r,e1,e2,e3,e4,e5⟩:=h.2 6 (by decide)
  have g1:x6=x:=Option.some.inj e1
  have g2:(2:Int)=a:=Option.some.inj e2
  have g3:(63:Int)=r:=Option.some.inj e3
  omega
 have h7:0≤x7∧x7≤8:=by
  obtain⟨x,a,r,e1,e2,e3,e4,e5⟩:=h.2 7 (by decide)
  have g1:x7=x:=Option.some.inj e1
  have g2:(0:Int)=a:=Option.some.inj e2
  have g3:(9:Int)=r:=Option.some.inj e3
  omega
 have h8:1≤x8∧x8≤8:=by
  obtain⟨x,a,r,e1,e2,e3,e4,e5⟩:=h.2 8 (by decide)
  have g1:x8=x:=Option.some.inj e1
  have g2:(1:Int)=a:=Option.some.inj e2
  have g3:(8:Int)=r:=Option.some.inj e3
  omega
 have h9:2≤x9∧x9≤64:=by
  obtain⟨x,a,r,e1,e2,e3,e4,e5⟩:=h.2 9 (by decide)
  have g1:x9=x:=Option.some.inj e1
  have g2:(2:Int)=a:=Option.some.inj e2
  have g3:(63:Int)=r:=Option.some.inj e3
  omega
 have j:0≤e∧e≤64:=by
  obtain⟨x,a,r,e1,e2,e3,e4,e5⟩:=h.2 10 (by decide)
  have g1:e=x:=Option.some.inj e1
  have g2:(0:Int)=a:=Option.some.inj e2
  have g3:(65:Int)=r:=Option.some.inj e3
  omega
 have i:2≤d∧d≤64:=by
  obtain⟨x,a,r,e1,e2,e3,e4,e5⟩:=h.2 11 (by decide)
  have g1:d=x:=Option.some.inj e1
  have g2:(2:Int)=a:=Option.some.inj e2
  have g3:(63:Int)=r:=Option.some.inj e3
  omega
 have g:1≤c∧c≤16:=by
  obtain⟨x,a,r,e1,e2,e3,e4,e5⟩:=h.2 12 (by decide)
  have g1:c=x:=Option.some.inj e1
  have g2:(1:Int)=a:=Option.some.inj e2
  have g3:(16:Int)=r:=Option.some.inj e3
  omega
 have f:1≤b∧b≤64:=by
  obtain⟨x,a,r,e1,e2,e3,e4,e5⟩:=h.2 13 (by decide)
  have g1:b=x:=Option.some.inj e1
  have g2:(1:Int)=a:=Option.some.inj e2
  have g3:(64:Int)=r:=Option.some.inj e3
  omega
 unfold Cf.ok
 dsimp only
 rw[(Psp.aN _ _ _).2 hf,(Psp.aN _ _ _).2 h0,(Psp.aN _ _ _).2 h1,(Psp.aN _ _ _).2 h2,(Psp.aN _ _ _).2 h3,(Psp.aN _ _ _).2 h4,(Psp.aN _ _ _).2 h5,(Psp.aN _ _ _).2 h6,(Psp.aN _ _ _).2 h7,(Psp.aN _ _ _).2 h8,(Psp.aN _ _ _).2 h9,(Psp.aN _ _ _).2 j,(Psp.aN _ _ _).2 i,(Psp.aN _ _ _).2 g,(Psp.aN _ _ _).2 f]
 rfl
theorem sa {xs:List Int} (h:xs.length=14):∃x0 x1 x2 x3 x4 x5 x6 x7 x8 x9 d c b a,xs=[x0,x1,x2,x3,x4,x5,x6,x7,x8,x9,d,c,b,a]:=by
 rcases xs with _|⟨x0,_|⟨x1,_|⟨x2,_|⟨x3,_|⟨x4,_|⟨x5,_|⟨x6,_|⟨x7,_|⟨x8,_|⟨x9,_|⟨d,_|⟨c,_|⟨b,_|⟨a,_|⟨y,xs⟩⟩⟩⟩⟩⟩⟩⟩⟩⟩⟩⟩⟩⟩⟩
 all_goals first
  |exact⟨_,_,_,_,_,_,_,_,_,_,_,_,_,_,rfl⟩
  |(simp at h)
theorem lG (f:Int) (l:List Int) (v:Value) (w:World) (hf:aE f) (hl:∀n∈l,aE n) (hr:Rd w w.heap.size 1 v l.length (l.flatMap fun n=>[iv n])):
 Calls Tryz.prog 25 #[.int .i64 f,v,.int .i64 4] w fun e w'=>∃c:Cf,c.ok=true∧e= .returned (.agg #[.int .i64 c.f,.int .i64 c.cl,.int .i64 c.c2,.int .i64 c.c3,.int .i64 c.c4,.int .i64 c.c5,.int .i64 c.c6,.int .i64 c.c7,.int .i64 c.c8,.int .i64 c.c9,.int .i64 c.c10,.int .i64 c.c11,.int .i64 c.c12,.int .i64 c.c13,.int .i64 c.re])∧Below w.heap.size w w':=by
 obtain⟨fm,hfm⟩:∃fm,IntKind.i64.wrap (f - 1)=fm:=⟨_,rfl⟩
 have N:aE fm:=(show -9223372036854775808≤fm∧fm≤9223372036854775807 from by rw[←hfm,IntKind.wrap_i64];omega)
 have a7:=Psp.gn fm 4
 have a6:=Psp.gq fm 4 (by omega)
 have al:IntKind.i64.wrap (1+Psp.bS fm 4)=1+Psp.bS fm 4:=IntWalk.i64_in _ (by omega)
 obtain⟨len,hlen⟩:∃len,l.length=len:=⟨_,rfl⟩
 rw[hlen] at hr
 obtain⟨_,A,cp,rfl,ca,a5,C⟩:=hr
 unfold maxLen at a5
 have Hl:=tt hl
 have Q:=tt hlen
 have J:=tt C
 clear hl hlen C
 have j:=ae w (.cells #[.int .i64 0,.int .i64 0,.int .i64 0,.int .i64 0,.int .i64 0,.int .i64 0,.int .i64 0,.int .i64 0,.int .i64 0,.int .i64 0,.int .i64 0,.int .i64 0,.int .i64 0,.int .i64 0,.int .i64 0] 37)
 have g:=tL w (.cells #[.int .i64 0,.int .i64 0,.int .i64 0,.int .i64 0,.int .i64 0,.int .i64 0,.int .i64 0,.int .i64 0,.int .i64 0,.int .i64 0,.int .i64 0,.int .i64 0,.int .i64 0,.int .i64 0,.int .i64 0] 37)
 go_enter Tryz.func25,Tryz.ntmps25
 go_upto_region 1 with fail
 obtain⟨w0,hw0⟩:∃w0,w.alloc (.cells #[.int .i64 0,.int .i64 0,.int .i64 0,.int .i64 0,.int .i64 0,.int .i64 0,.int .i64 0,.int .i64 0,.int .i64 0,.int .i64 0,.int .i64 0,.int .i64 0,.int .i64 0,.int .i64 0,.int .i64 0] 37)=w0:=⟨_,rfl⟩
 rw[hw0] at j g ⊢
 have F:=tt j
 have S:=tt g
 have ad:w.heap.size<w0.heap.size:=(tz g).1
 clear hw0 j g
 go_upto_region 2 with (first|(go_at_call 8;refine (ie _ _ _ N (by exact⟨by omega,by omega⟩)).mono ?_;rintro e w' ⟨rfl,rfl⟩)|(go_at_call 11;refine (lN (1+Psp.bS fm 4) w0).mono ?_;rintro e w1 ⟨rfl,hb1⟩;have E:=tt hb1;clear hb1))
 obtain⟨f1,hf1⟩:∃f1,1+Psp.bS fm 4=f1:=⟨_,rfl⟩
 rw[hf1]
 have a0:1≤f1∧f1≤4:=⟨by omega,by omega⟩
 clear hf1 a7 a6 al hfm N
 have j:=ae w1 (.cells #[.int .i64 f1,.int .i64 2,.int .i64 2,.int .i64 4,.int .i64 64,.int .i64 8,.int .i64 8,.int .i64 8,.int .i64 1,.int .i64 2,.int .i64 12,.int .i64 8,.int .i64 6,.int .i64 2,.int .i64 6] 37)
 have g:=tL w1 (.cells #[.int .i64 f1,.int .i64 2,.int .i64 2,.int .i64 4,.int .i64 64,.int .i64 8,.int .i64 8,.int .i64 8,.int .i64 1,.int .i64 2,.int .i64 12,.int .i64 8,.int .i64 6,.int .i64 2,.int .i64 6] 37)
 obtain⟨w2,hw2⟩:∃w2,w1.alloc (.cells #[.int .i64 f1,.int .i64 2,.int .i64 2,.int .i64 4,.int .i64 64,.int .i64 8,.int .i64 8,.int .i64 8,.int .i64 1,.int .i64 2,.int .i64 12,.int .i64 8,.int .i64 6,.int .i64 2,.int .i64 6] 37)=w2:=⟨_,rfl⟩
 rw[hw2] at j g ⊢
 have R:=tt g
 have K:=tt (Below.then (Below.then F.out E.out F.out.size) j (Below.then F.out E.out F.out.size).size)
 have bQ:=E.out.size
 have H:=tt ((j.block _ (show w.heap.size<w1.heap.size by omega)).trans ((E.out.block _ ad).trans S.out))
 have ac:w1.heap.size<w2.heap.size:=(tz g).1
 have d:=g
 have q0:=am d 0 rfl
 have q1:=am d 1 rfl
 have q2:=am d 2 rfl
 have q3:=am d 3 rfl
 have q4:=am d 4 rfl
 have q5:=am d 5 rfl
 have q6:=am d 6 rfl
 have q7:=am d 7 rfl
 have q8:=am d 8 rfl
 have q9:=am d 9 rfl
 have Z:=am d 10 rfl
 have Y:=am d 11 rfl
 have X:=am d 12 rfl
 have W:=am d 13 rfl
 have V:=am d 14 rfl
 clear d j g hw2 S F E
 go_upto_region 6 with fail
 clear q0 q1 q2 q3 q4 q5 q6 q7 q8 q9 Z Y X W V
 have r3:(w2.alloc (.cells #[.int .i64 2,.int .i64 2,.int .i64 4,.int .i64 64,.int .i64 8,.int .i64 8,.int .i64 8,.int .i64 1,.int .i64 2,.int .i64 12,.int .i64 8,.int .i64 6,.int .i64 2,.int .i64 6] 3)).heap[w2.heap.size]? =some (.cells (arI pX) 3 (0,0)):=tL w2 _
 have e3:(w2.alloc (.cells #[.int .i64 2,.int .i64 2,.int .i64 4,.int .i64 64,.int .i64 8,.int .i64 8,.int .i64 8,.int .i64 1,.int .i64 2,.int .i64 12,.int .i64 8,.int .i64 6,.int .i64 2,.int .i64 6] 3)).heap.size=w2.heap.size+1:=by simp
 have b3:=ae w2 (.cells #[.int .i64 2,.int .i64 2,.int .i64 4,.int .i64 64,.int .i64 8,.int .i64 8,.int .i64 8,.int .i64 1,.int .i64 2,.int .i64 12,.int .i64 8,.int .i64 6,.int .i64 2,.int .i64 6] 3)
 obtain⟨w3,hw3⟩:∃w3,w2.alloc (.cells #[.int .i64 2,.int .i64 2,.int .i64 4,.int .i64 64,.int .i64 8,.int .i64 8,.int .i64 8,.int .i64 1,.int .i64 2,.int .i64 12,.int .i64 8,.int .i64 6,.int .i64 2,.int .i64 6] 3)=w3:=⟨_,rfl⟩
 rw[hw3] at r3 e3 b3 ⊢
 have r4:(w3.alloc (.cells #[.int .i64 1,.int .i64 1,.int .i64 1,.int .i64 1,.int .i64 1,.int .i64 1,.int .i64 2,.int .i64 0,.int .i64 1,.int .i64 2,.int .i64 0,.int .i64 2,.int .i64 1,.int .i64 1] 3)).heap[w3.heap.size]? =some (.cells (arI gD) 3 (0,0)):=tL w3 _
 have e4:(w3.alloc (.cells #[.int .i64 1,.int .i64 1,.int .i64 1,.int .i64 1,.int .i64 1,.int .i64 1,.int .i64 2,.int .i64 0,.int .i64 1,.int .i64 2,.int .i64 0,.int .i64 2,.int .i64 1,.int .i64 1] 3)).heap.size=w3.heap.size+1:=by simp
 have b4:=ae w3 (.cells #[.int .i64 1,.int .i64 1,.int .i64 1,.int .i64 1,.int .i64 1,.int .i64 1,.int .i64 2,.int .i64 0,.int .i64 1,.int .i64 2,.int .i64 0,.int .i64 2,.int .i64 1,.int .i64 1] 3)
 obtain⟨w4,hw4⟩:∃w4,w3.alloc (.cells #[.int .i64 1,.int .i64 1,.int .i64 1,.int .i64 1,.int .i64 1,.int .i64 1,.int .i64 2,.int .i64 0,.int .i64 1,.int .i64 2,.int .i64 0,.int .i64 2,.int .i64 1,.int .i64 1] 3)=w4:=⟨_,rfl⟩
 rw[hw4] at r4 e4 b4 ⊢
 have r5:(w4.alloc (.cells #[.int .i64 4,.int .i64 4,.int .i64 16,.int .i64 256,.int .i64 64,.int .i64 64,.int .i64 63,.int .i64 9,.int .i64 8,.int .i64 63,.int .i64 65,.int .i64 63,.int .i64 16,.int .i64 64] 3)).heap[w4.heap.size]? =some (.cells (arI jn) 3 (0,0)):=tL w4 _
 have e5:(w4.alloc (.cells #[.int .i64 4,.int .i64 4,.int .i64 16,.int .i64 256,.int .i64 64,.int .i64 64,.int .i64 63,.int .i64 9,.int .i64 8,.int .i64 63,.int .i64 65,.int .i64 63,.int .i64 16,.int .i64 64] 3)).heap.size=w4.heap.size+1:=by simp
 have b5:=ae w4 (.cells #[.int .i64 4,.int .i64 4,.int .i64 16,.int .i64 256,.int .i64 64,.int .i64 64,.int .i64 63,.int .i64 9,.int .i64 8,.int .i64 63,.int .i64 65,.int .i64 63,.int .i64 16,.int .i64 64] 3)
 obtain⟨w5,hw5⟩:∃w5,w4.alloc (.cells #[.int .i64 4,.int .i64 4,.int .i64 16,.int .i64 256,.int .i64 64,.int .i64 64,.int .i64 63,.int .i64 9,.int .i64 8,.int .i64 63,.int .i64 65,.int .i64 63,.int .i64 16,.int .i64 64] 3)=w5:=⟨_,rfl⟩
 rw[hw5] at r5 e5 b5 ⊢
 rw[e3] at r4 e4
 rw[e4] at r5 e5
 have G:=Below.then (Below.then b3 b4 b3.size) b5 (Below.then b3 b4 b3.size).size
 have R3:Hid (w5.heap[w2.heap.size]? =some (.cells (arI pX) 3 (0,0))):=tt ((b5.block _ (by omega)).trans ((b4.block _ (by omega)).trans r3))
 have R4:Hid (w5.heap[w2.heap.size+1]? =some (.cells (arI gD) 3 (0,0))):=tt ((b5.block _ (by omega)).trans r4)
 have R5:Hid (w5.heap[w2.heap.size+2]? =some (.cells (arI jn) 3 (0,0))):=tt r5
 have RC:Hid (w5.heap[w1.heap.size]? =some (.cells #[.int .i64 f1,.int .i64 2,.int .i64 2,.int .i64 4,.int .i64 64,.int .i64 8,.int .i64 8,.int .i64 8,.int .i64 1,.int .i64 2,.int .i64 12,.int .i64 8,.int .i64 6,.int .i64 2,.int .i64 6] 37 (0,0))):=tt ((G.block _ ac).trans R.out)
 have R0:Hid (w5.heap[w.heap.size]? =some (.cells #[.int .i64 0,.int .i64 0,.int .i64 0,.int .i64 0,.int .i64 0,.int .i64 0,.int .i64 0,.int .i64 0,.int .i64 0,.int .i64 0,.int .i64 0,.int .i64 0,.int .i64 0,.int .i64 0,.int .i64 0] 37 (0,0))):=tt ((G.block _ (by omega)).trans H.out)
 have T:=tt (Below.then K.out G K.out.size)
 clear hw3 hw4 hw5 r3 r4 r5 b3 b4 b5 G R H K
 go_loopw [11] (fun i_ wr=>∃(i:Nat) (xs:List Int),i_= .int .i64 (i:Int)∧i≤14∧Hid (InR xs)∧Hid (wr.heap[w2.heap.size]? =some (.cells (arI xs) 3 (0,0)))∧Hid (wr.heap[w2.heap.size+1]? =some (.cells (arI gD) 3 (0,0)))∧Hid (wr.heap[w2.heap.size+2]? =some (.cells (arI jn) 3 (0,0)))∧Hid (wr.heap[w1.heap.size]? =some (.cells #[.int .i64 f1,.int .i64 2,.int .i64 2,.int .i64 4,.int .i64 64,.int .i64 8,.int .i64 8,.int .i64 8,.int .i64 1,.int .i64 2,.int .i64 12,.int .i64 8,.int .i64 6,.int .i64 2,.int .i64 6] 37 (0,0)))∧Hid (wr.heap[w.heap.size]? =some (.cells #[.int .i64 0,.int .i64 0,.int .i64 0,.int .i64 0,.int .i64 0,.int .i64 0,.int .i64 0,.int .i64 0,.int .i64 0,.int .i64 0,.int .i64 0,.int .i64 0,.int .i64 0,.int .i64 0,.int .i64 0] 37 (0,0)))∧Hid (Below w.heap.size w wr)) (fun i_ _=>14 - (intOf i_).toNat)
 case atStart=>exact⟨0,pX,rfl,by omega,tt qE,R3,R4,R5,RC,R0,T⟩
 case round=>
  clear R3 R4 R5 RC R0 T
  obtain⟨i,xs,rfl,hi,HI,R3,R4,R5,RC,R0,HB⟩:=hrel
  by_cases hlt:i<14∧i<len
  case pos=>
   obtain⟨D,b9⟩:=hlt
   have O:decide ((i:Int)<14)=true:=by simp;omega
   have a4:decide ((i:Int)<(len:Int))=true:=by simp;omega
   obtain⟨b1,o1,rfl,hb1,u⟩:=J.out (by omega)
   have I:i<l.length:=by have:=Q.out;omega
   have hcl:=cD (f:=fun n:Int=>[iv n]) (k:=1) (fun _=>rfl) l i 0 (by omega)
   rw[tK I,Nat.mul_one,Nat.add_zero] at hcl
   have hn:=Hl.out l[i] (List.getElem_mem I)
   obtain⟨n,hnn⟩:∃n,l[i]=n:=⟨_,rfl⟩
   have g1:wr.cell? ⟨b1,o1+i,none⟩=some (.int .i64 n):=(World.cell?_of_block (a:=⟨b1,o1+i,none⟩) (HB.out.block b1 hb1)).trans (u i _ (by rw[hcl,hnn];rfl))
   rw[hnn] at hn
   have k0:(0:Int)≤(i:Int):=by omega
   have k1:(i:Int)<(len:Int):=by omega
   have k2:(i:Int)<14:=by omega
   clear u hcl hnn I
   by_cases hz:n=0
   case pos=>
    have a3:decide (n=0)=true:=tB hz
    have a2:(n != 0)=false:=by simp[hz]
    have a1:decide (¬n=0)=false:=by simp[hz]
    go_wp2_with fail
    refine⟨⟨i+1,xs,by go_num,by omega,HI,R3,R4,R5,RC,R0,HB⟩,?_⟩
    simp[intOf];omega
   case neg=>
    have a3:decide (n=0)=false:=tA hz
    have a2:(n != 0)=true:=by simp[hz]
    have a1:decide (¬n=0)=true:=by simp[hz]
    obtain⟨z,hzz⟩:∃z,IntKind.i64.wrap (n - 1)=z:=⟨_,rfl⟩
    have aa:aE z:=(show -9223372036854775808≤z∧z≤9223372036854775807 from by rw[←hzz,IntKind.wrap_i64];omega)
    obtain⟨a,r,ha,hr,cc,cb,b6,b2⟩:=lr_at D
    have bN:=Psp.gn z r
    have bs:=Psp.gq z r (by omega)
    have b0:IntKind.i64.wrap (a+Psp.bS z r)=a+Psp.bS z r:=IntWalk.i64_in _ (by omega)
    obtain⟨x,_,_,hx,_,_,_,_⟩:=HI.out.2 i D
    have g2:wr.cell? ⟨w2.heap.size+1,i,none⟩=some (.int .i64 a):=am R4.out i (lH ha)
    have g3:wr.cell? ⟨w2.heap.size+2,i,none⟩=some (.int .i64 r):=am R5.out i (lH hr)
    have g4:wr.cell? ⟨w2.heap.size,i,none⟩=some (.int .i64 x):=am R3.out i (lH hx)
    have g5:=frozen_of_row _ _ i _ _ R3.out
    have bb:Hid (∀w':World,Calls Tryz.prog 8 #[.int .i64 z,.int .i64 r] w' fun e w''=>e= .returned (.int .i64 (Psp.bS z r))∧w''=w'):=tt fun w'=>(ie z r w' aa ⟨by omega,by omega⟩).mono fun _ _ h=>⟨h.1,h.2.symm⟩
    have P:=qF HI.out D ha hr (x:=a+Psp.bS z r) (by omega) (by omega)
    have bc:=tt P
    clear P ha hr
    go_upto_region 9 with fail
    refine bz 18 (by kernel_rfl) (by kernel_rfl) ?_
    simp only[List.take_succ_cons,List.take_zero,tE,List.drop_zero]
    repeat (first|still_step|still_call (bb.out _))
    refine wpStill_nil ?_
    go_wp2_with fail
    have hf:Fp (fun b=>b=w2.heap.size) wr (wr.setCell ⟨w2.heap.size,i,none⟩ (.int .i64 (a+Psp.bS z r))):=(Fp.refl (fun b=>b=w2.heap.size) wr).setCell (p:=⟨w2.heap.size,i,none⟩) (Or.inl (show w2.heap.size=w2.heap.size from rfl)) _
    have y:=hf.drew
    have U:(wr.setCell ⟨w2.heap.size,i,none⟩ (.int .i64 (a+Psp.bS z r))).drew.heap[w2.heap.size]? =some (.cells (arI (xs.set i (a+Psp.bS z r))) 3 (0,0)):=by
     rw[←qZ]
     exact heap_setCell_same wr w2.heap.size i _ _ _ R3.out
    have bO:w2.heap.size+2<wr.heap.size:=(tz R5.out).1
    refine⟨⟨i+1,xs.set i (a+Psp.bS z r),by go_num,by omega,bc,tt U,tt ((y.block _ (by omega) (by omega)).trans R4.out),tt ((y.block _ (by omega) (by omega)).trans R5.out),tt ((y.block _ (by omega) (by omega)).trans RC.out),tt ((y.block _ (by omega) (by omega)).trans R0.out),tt (HB.out.trans (y.to_below (B:=w.heap.size) HB.out.size (fun b _ hb=>by omega)))⟩,?_⟩
    simp[intOf];omega
  case neg=>
   by_cases D:i<14
   case' pos=>
    have O:decide ((i:Int)<14)=true:=by simp;omega
    have a4:decide ((i:Int)<(len:Int))=false:=by simp;omega
    have k1:¬ ((i:Int)<(len:Int)):=by omega
    have k2:¬ (i<len):=by omega
   case' neg=>
    have O:decide ((i:Int)<14)=false:=by simp;omega
   all_goals
    clear hlt D hi
    go_upto_region 10 with fail
    obtain⟨m,_⟩:=HI.out
    obtain⟨x0,x1,x2,x3,x4,x5,x6,x7,x8,x9,t,s,q,o,af⟩:=sa m
    subst af
    have M:=sg a0 HI.out
    have a9:=tt M
    have q0:wr.cell? ⟨w1.heap.size,0,none⟩=some (.int .i64 f1):=am RC.out 0 rfl
    have y0:wr.cell? ⟨w2.heap.size,0,none⟩=some (.int .i64 x0):=am R3.out 0 rfl
    have y1:wr.cell? ⟨w2.heap.size,1,none⟩=some (.int .i64 x1):=am R3.out 1 rfl
    have y2:wr.cell? ⟨w2.heap.size,2,none⟩=some (.int .i64 x2):=am R3.out 2 rfl
    have y3:wr.cell? ⟨w2.heap.size,3,none⟩=some (.int .i64 x3):=am R3.out 3 rfl
    have y4:wr.cell? ⟨w2.heap.size,4,none⟩=some (.int .i64 x4):=am R3.out 4 rfl
    have y5:wr.cell? ⟨w2.heap.size,5,none⟩=some (.int .i64 x5):=am R3.out 5 rfl
    have y6:wr.cell? ⟨w2.heap.size,6,none⟩=some (.int .i64 x6):=am R3.out 6 rfl
    have y7:wr.cell? ⟨w2.heap.size,7,none⟩=some (.int .i64 x7):=am R3.out 7 rfl
    have y8:wr.cell? ⟨w2.heap.size,8,none⟩=some (.int .i64 x8):=am R3.out 8 rfl
    have y9:wr.cell? ⟨w2.heap.size,9,none⟩=some (.int .i64 x9):=am R3.out 9 rfl
    have bq:wr.cell? ⟨w2.heap.size,10,none⟩=some (.int .i64 t):=am R3.out 10 rfl
    have bp:wr.cell? ⟨w2.heap.size,11,none⟩=some (.int .i64 s):=am R3.out 11 rfl
    have bm:wr.cell? ⟨w2.heap.size,12,none⟩=some (.int .i64 q):=am R3.out 12 rfl
    have bd:wr.cell? ⟨w2.heap.size,13,none⟩=some (.int .i64 o):=am R3.out 13 rfl
    have L:=au R0.out
    obtain⟨s1,s2⟩:=aQ R0.out [.int .i64 f1,.int .i64 x0,.int .i64 x1,.int .i64 x2,.int .i64 x3,.int .i64 x4,.int .i64 x5,.int .i64 x6,.int .i64 x7,.int .i64 x8,.int .i64 x9,.int .i64 t,.int .i64 s,.int .i64 q,.int .i64 o] rfl
    have a8:=tt L
    have S1:=tt s1
    clear M L s1 s2 m
    refine bz 45 (by kernel_rfl) (by kernel_rfl) ?_
    simp only[List.take_succ_cons,List.take_zero,tE,List.drop_zero]
    repeat still_step
    refine wpStill_nil ?_
    go_wp2_with (refine wpList_store_mid rfl 37 (.tmp 6) (.tmp 126) rfl w.heap.size 0 #[.int .i64 f1,.int .i64 x0,.int .i64 x1,.int .i64 x2,.int .i64 x3,.int .i64 x4,.int .i64 x5,.int .i64 x6,.int .i64 x7,.int .i64 x8,.int .i64 x9,.int .i64 t,.int .i64 s,.int .i64 q,.int .i64 o] rfl rfl a8.out eO (by simp[Value.oneCell']) ?_)
    refine bodyPost_ret (v:=.agg #[.int .i64 f1,.int .i64 x0,.int .i64 x1,.int .i64 x2,.int .i64 x3,.int .i64 x4,.int .i64 x5,.int .i64 x6,.int .i64 x7,.int .i64 x8,.int .i64 x9,.int .i64 t,.int .i64 s,.int .i64 q,.int .i64 o]) ?_ rfl ?_
    ·exact results_cell_row Tryz.results25 _ _ w.heap.size _ _ _ _ rfl S1.out Tryz.underlying37 rfl eO
    ·exact⟨⟨f1,x0,x1,x2,x3,x4,x5,x6,x7,x8,x9,t,s,q,o⟩,a9.out,rfl,bY HB.out.drew w.heap.size (tJ _) _⟩
theorem pI (ct:Nat) (n:Int) (w:World) (h:w.heap[ct]? =some (.cells #[.int .i64 n,.slice none 0 0] 119 (0,0))):
 Calls Tryz.prog 52 #[.pointer (some ⟨ct,0,none⟩)] w fun e w'=>∃a,e= .returned (.pointer (some ⟨a,0,none⟩))∧w'.heap[a]? =some (.cells #[.int .i64 n,.slice none 0 0] 119 (0,0))∧w.heap.size≤a∧a<w'.heap.size∧Below w.heap.size w w':=by
 have x0:w.cell? ⟨ct,0,none⟩=some (.int .i64 n):=by rw[cell_of_row _ _ 0 _ _ _ h];rfl
 have x1:w.cell? ⟨ct,1,none⟩=some (.slice none 0 0):=by rw[cell_of_row _ _ 1 _ _ _ h];rfl
 have hb:=(ae w (.cells #[.int .i64 n,.slice none 0 0] 119)).drew
 have hc:=tL w (.cells #[.int .i64 n,.slice none 0 0] 119)
 have HB:=tt hb
 have HC:=tt hc
 clear hb hc
 go_enter Tryz.func52,Tryz.ntmps52
 go_upto_region 1 with fail
 go_region
 go_wp2_with fail
 go_ret
 exact⟨w.heap.size,rfl,HC.out,tJ _,(tz HC.out).1,HB.out⟩
theorem n9:(Tryz.prog.info? 99).map (·.size)=some 24:=by kernel_rfl
theorem n7:(Tryz.prog.info? 89).map (·.size)=some 56:=by kernel_rfl
theorem b8 {W:World} {base n m j kb:Nat} {e T:TypeId} {v u:Value} {xs:List Value} {cs:Array Value} {o:Nat×Nat} (h:W.ownsRow base e m v n xs) (hr:W.heap[kb]? =some (.cells cs T o)) (a:e≠T):(W.setCell ⟨kb,j,none⟩ u).ownsRow base e m v n xs:=ar h fun b hb=>bP b (aC h hr a b hb)
theorem rc (l:List (Int×Int)):∀u∈l.flatMap av,u.oneCell'=true:=by
 intro u hu
 obtain⟨x,_,hx⟩:=List.mem_flatMap.1 hu
 simp[av,iv] at hx
 rcases hx with rfl|rfl<;>rfl
theorem qR (U:Nat→Prop) (k ct g g2:Nat) (c:Cf) (id:Int) (s:CS) (w:World) (h:Clm w U k ct g c id s) (ho:s.out=[]) (cy:s.issued.length≤1000000) (eo:s.ans.length≤1000000) (hcl:s.acc.length≤1000000):
 Calls Tryz.prog 30 #[.pointer (some ⟨k,0,none⟩),.pointer (some ⟨g2,0,none⟩)] w fun e w'=>∃(k' cW:Nat) (U':Nat→Prop),e= .returned (.pointer (some ⟨k',0,none⟩))∧Clm w' U' k' cW g2 c id s∧(∀b,U' b→w.heap.size≤b)∧Below w.heap.size w w':=by
 have HH:=tt h
 obtain⟨Ai,ci,Aa,ca,Ac,cc,Ao,co,L,hO⟩:=h.opens
 have hL:L=[]:=by have:=hO.om;rw[ho] at this;exact List.map_eq_nil_iff.1 this
 subst hL
 have HO:=tt hO
 have H:=hO.row
 have dr:Hid (w.rangeAt k 0 [.int .i64 c.f,.int .i64 c.cl,.int .i64 c.c2,.int .i64 c.c3,.int .i64 c.c4,.int .i64 c.c5,.int .i64 c.c6,.int .i64 c.c7,.int .i64 c.c8,.int .i64 c.c9,.int .i64 c.c10,.int .i64 c.c11,.int .i64 c.c12,.int .i64 c.c13,.int .i64 c.re,.int .i64 id,.pointer (some ⟨g,0,none⟩),.pointer (some ⟨ct,0,none⟩),.bool s.waits,.slice Ai s.issued.length ci,.int .i64 s.at_,.slice Aa s.ans.length ca,.slice Ac s.acc.length cc,.slice Ao ([]:List SendV).length co]):=tt (aB H)
 have a2:=ae w (.cells #[.int .i64 0,.int .i64 0,.int .i64 0,.int .i64 0,.int .i64 0,.int .i64 0,.int .i64 0,.int .i64 0,.int .i64 0,.int .i64 0,.int .i64 0,.int .i64 0,.int .i64 0,.int .i64 0,.int .i64 0,.int .i64 0,.pointer none,.pointer none,.bool false,.slice none 0 0,.int .i64 0,.slice none 0 0,.slice none 0 0,.slice none 0 0] 99)
 have S:=tL w (.cells #[.int .i64 0,.int .i64 0,.int .i64 0,.int .i64 0,.int .i64 0,.int .i64 0,.int .i64 0,.int .i64 0,.int .i64 0,.int .i64 0,.int .i64 0,.int .i64 0,.int .i64 0,.int .i64 0,.int .i64 0,.int .i64 0,.pointer none,.pointer none,.bool false,.slice none 0 0,.int .i64 0,.slice none 0 0,.slice none 0 0,.slice none 0 0] 99)
 have ad:=au S
 obtain⟨s1,s2⟩:=aQ S [.int .i64 c.f,.int .i64 c.cl,.int .i64 c.c2,.int .i64 c.c3,.int .i64 c.c4,.int .i64 c.c5,.int .i64 c.c6,.int .i64 c.c7,.int .i64 c.c8,.int .i64 c.c9,.int .i64 c.c10,.int .i64 c.c11,.int .i64 c.c12,.int .i64 c.c13,.int .i64 c.re,.int .i64 id,.pointer (some ⟨g,0,none⟩),.pointer (some ⟨ct,0,none⟩),.bool s.waits,.slice Ai s.issued.length ci,.int .i64 s.at_,.slice Aa s.ans.length ca,.slice Ac s.acc.length cc,.slice Ao ([]:List SendV).length co] rfl
 have hbs:=bY a2 w.heap.size (tJ _) [.int .i64 c.f,.int .i64 c.cl,.int .i64 c.c2,.int .i64 c.c3,.int .i64 c.c4,.int .i64 c.c5,.int .i64 c.c6,.int .i64 c.c7,.int .i64 c.c8,.int .i64 c.c9,.int .i64 c.c10,.int .i64 c.c11,.int .i64 c.c12,.int .i64 c.c13,.int .i64 c.re,.int .i64 id,.pointer (some ⟨g,0,none⟩),.pointer (some ⟨ct,0,none⟩),.bool s.waits,.slice Ai s.issued.length ci,.int .i64 s.at_,.slice Aa s.ans.length ca,.slice Ac s.acc.length cc,.slice Ao ([]:List SendV).length co]
 have dc:=tt ad
 have S1:=tt s1
 have A:=tt hbs
 clear h hO H ho a2 S ad s1 s2 hbs
 go_enter Tryz.func30,Tryz.ntmps30
 go_upto_region 2 with (first|(refine aA rfl 99 (.tmp 7) rfl k 0 rfl [.int .i64 c.f,.int .i64 c.cl,.int .i64 c.c2,.int .i64 c.c3,.int .i64 c.c4,.int .i64 c.c5,.int .i64 c.c6,.int .i64 c.c7,.int .i64 c.c8,.int .i64 c.c9,.int .i64 c.c10,.int .i64 c.c11,.int .i64 c.c12,.int .i64 c.c13,.int .i64 c.re,.int .i64 id,.pointer (some ⟨g,0,none⟩),.pointer (some ⟨ct,0,none⟩),.bool s.waits,.slice Ai s.issued.length ci,.int .i64 s.at_,.slice Aa s.ans.length ca,.slice Ac s.acc.length cc,.slice Ao ([]:List SendV).length co] _ dr.out Tryz.underlying99 rfl n9 ?_)|(refine wpList_store_mid rfl 99 (.tmp 5) (.tmp 8) rfl w.heap.size 0 #[.int .i64 c.f,.int .i64 c.cl,.int .i64 c.c2,.int .i64 c.c3,.int .i64 c.c4,.int .i64 c.c5,.int .i64 c.c6,.int .i64 c.c7,.int .i64 c.c8,.int .i64 c.c9,.int .i64 c.c10,.int .i64 c.c11,.int .i64 c.c12,.int .i64 c.c13,.int .i64 c.re,.int .i64 id,.pointer (some ⟨g,0,none⟩),.pointer (some ⟨ct,0,none⟩),.bool s.waits,.slice Ai s.issued.length ci,.int .i64 s.at_,.slice Aa s.ans.length ca,.slice Ac s.acc.length cc,.slice Ao ([]:List SendV).length co] rfl rfl dc.out n9 (by simp[Value.oneCell']) ?_))
 obtain⟨w1,hw1⟩:∃w1,(w.alloc (.cells #[.int .i64 0,.int .i64 0,.int .i64 0,.int .i64 0,.int .i64 0,.int .i64 0,.int .i64 0,.int .i64 0,.int .i64 0,.int .i64 0,.int .i64 0,.int .i64 0,.int .i64 0,.int .i64 0,.int .i64 0,.int .i64 0,.pointer none,.pointer none,.bool false,.slice none 0 0,.int .i64 0,.slice none 0 0,.slice none 0 0,.slice none 0 0] 99)).setCells w.heap.size 0 [.int .i64 c.f,.int .i64 c.cl,.int .i64 c.c2,.int .i64 c.c3,.int .i64 c.c4,.int .i64 c.c5,.int .i64 c.c6,.int .i64 c.c7,.int .i64 c.c8,.int .i64 c.c9,.int .i64 c.c10,.int .i64 c.c11,.int .i64 c.c12,.int .i64 c.c13,.int .i64 c.re,.int .i64 id,.pointer (some ⟨g,0,none⟩),.pointer (some ⟨ct,0,none⟩),.bool s.waits,.slice Ai s.issued.length ci,.int .i64 s.at_,.slice Aa s.ans.length ca,.slice Ac s.acc.length cc,.slice Ao ([]:List SendV).length co]=w1:=⟨_,rfl⟩
 obtain⟨kb,hkb⟩:∃kb,w.heap.size=kb:=⟨_,rfl⟩
 rw[hw1] at S1 A ⊢
 rw[hkb] at S1 A ⊢
 have F:Hid (Below w.heap.size w w1):=by rw[hkb];exact A
 have b0:=tt (HH.out.below F.out)
 have em:k<kb:=by rw[←hkb];exact HH.out.lt k HH.out.uk
 have a3:∀b,U b→¬b=kb:=fun b hb he=>by have:=HH.out.lt b hb;omega
 have cs:kb<w1.heap.size:=(tz S1.out).1
 have eG:=tt a3
 obtain⟨eX,er,e1,ex,e0,es,eS,eq,L1,W⟩:=b0.out.opens
 have cm:w1.cell? ⟨k,17,none⟩=some (.pointer (some ⟨ct,0,none⟩)):=am W.row 17 rfl
 have b1:=tt W.clk
 have z:=tt hkb
 clear hw1 hkb a3 W A
 go_wp2_with fail
 refine (pI ct s.now w1 b1.out).mono ?_
 rintro e w2 ⟨d,rfl,a1,en,cA,hb2⟩
 clear cm
 have S2:=tt ((hb2.block kb cs).trans S1.out)
 have ac:=tt (Below.then F.out hb2 F.out.size)
 have bq:=tt a1
 have ec:=hb2.size
 clear a1 hb2 S1 F b0 b1
 have da:w2.cell? ⟨kb,16,none⟩=some (.pointer (some ⟨g,0,none⟩)):=am S2.out 16 rfl
 have cf:=frozen_of_row _ _ 16 _ _ S2.out
 have c1:w2.cell? ⟨kb,17,none⟩=some (.pointer (some ⟨ct,0,none⟩)):=am S2.out 17 rfl
 have cb:=frozen_of_row _ _ 17 _ _ S2.out
 have r3:(w2.setCell ⟨kb,16,none⟩ (.pointer (some ⟨g2,0,none⟩))).heap[kb]? =some (.cells #[.int .i64 c.f,.int .i64 c.cl,.int .i64 c.c2,.int .i64 c.c3,.int .i64 c.c4,.int .i64 c.c5,.int .i64 c.c6,.int .i64 c.c7,.int .i64 c.c8,.int .i64 c.c9,.int .i64 c.c10,.int .i64 c.c11,.int .i64 c.c12,.int .i64 c.c13,.int .i64 c.re,.int .i64 id,.pointer (some ⟨g2,0,none⟩),.pointer (some ⟨ct,0,none⟩),.bool s.waits,.slice Ai s.issued.length ci,.int .i64 s.at_,.slice Aa s.ans.length ca,.slice Ac s.acc.length cc,.slice Ao ([]:List SendV).length co] 99 (0,0)):=by rw[heap_setCell_same w2 kb 16 _ _ _ S2.out];rfl
 have O:((w2.setCell ⟨kb,16,none⟩ (.pointer (some ⟨g2,0,none⟩))).setCell ⟨kb,17,none⟩ (.pointer (some ⟨d,0,none⟩))).heap[kb]? =some (.cells #[.int .i64 c.f,.int .i64 c.cl,.int .i64 c.c2,.int .i64 c.c3,.int .i64 c.c4,.int .i64 c.c5,.int .i64 c.c6,.int .i64 c.c7,.int .i64 c.c8,.int .i64 c.c9,.int .i64 c.c10,.int .i64 c.c11,.int .i64 c.c12,.int .i64 c.c13,.int .i64 c.re,.int .i64 id,.pointer (some ⟨g2,0,none⟩),.pointer (some ⟨d,0,none⟩),.bool s.waits,.slice Ai s.issued.length ci,.int .i64 s.at_,.slice Aa s.ans.length ca,.slice Ac s.acc.length cc,.slice Ao ([]:List SendV).length co] 99 (0,0)):=by rw[heap_setCell_same _ kb 17 _ _ _ r3];rfl
 have f3:Fp (fun b=>b=kb) w2 ((w2.setCell ⟨kb,16,none⟩ (.pointer (some ⟨g2,0,none⟩))).setCell ⟨kb,17,none⟩ (.pointer (some ⟨d,0,none⟩))):=((Fp.refl (fun b=>b=kb) w2).setCell (p:=⟨kb,16,none⟩) (Or.inl (show kb=kb from rfl)) _).setCell (p:=⟨kb,17,none⟩) (Or.inl (show kb=kb from rfl)) _
 have n:¬d=kb:=by omega
 go_upto_region 3 with fail
 clear da cf c1 cb r3
 obtain⟨w3,hw3⟩:∃w3,(w2.setCell ⟨kb,16,none⟩ (.pointer (some ⟨g2,0,none⟩))).setCell ⟨kb,17,none⟩ (.pointer (some ⟨d,0,none⟩))=w3:=⟨_,rfl⟩
 rw[hw3] at O f3 ⊢
 have S3:=tt O
 have E:Hid (Below w.heap.size w w3):=tt (ac.out.trans (f3.to_below (B:=w.heap.size) ac.out.size (fun b _ hb=>by have:=z.out;omega)))
 have bp:=tt ((f3.block d cA n).trans bq.out)
 have eb:w2.heap.size≤w3.heap.size:=f3.size
 clear O f3 hw3 S2 ac bq
 go_wp2_with fail
 refine (iJ U k ct g c id s w3 (HH.out.below E.out) cy).mono ?_
 rintro e w4 ⟨A4,c4,rfl,t,hb4⟩
 have cq:kb<w3.heap.size:=by omega
 have S4:=tt ((hb4.block kb cq).trans S3.out)
 have bm:=tt ((hb4.block d (by omega)).trans bp.out)
 have D:=tt (Below.then E.out hb4 E.out.size)
 have bQ:=tt (bA t (base':=kb) (by omega))
 have d9:=hb4.size
 clear t hb4 S3 E bp
 go_wp2_with fail
 refine (ew U k ct g c id s w4 (HH.out.below D.out) hcl).mono ?_
 rintro e w5 ⟨A5,c5,rfl,r,hb5⟩
 have cp:kb<w4.heap.size:=by omega
 have S5:=tt ((hb5.block kb cp).trans S4.out)
 have bd:=tt ((hb5.block d (by omega)).trans bm.out)
 have aa:=tt (Below.then D.out hb5 D.out.size)
 have bO:=tt (bE bQ.out hb5)
 have b5:=tt (bA r (base':=kb) (by omega))
 have d8:=hb5.size
 clear r hb5 S4 D bm bQ
 have c0:w5.cell? ⟨kb,19,none⟩=some (.slice Ai s.issued.length ci):=am S5.out 19 rfl
 have b9:=frozen_of_row _ _ 19 _ _ S5.out
 have cZ:w5.cell? ⟨kb,22,none⟩=some (.slice Ac s.acc.length cc):=am S5.out 22 rfl
 have b6:=frozen_of_row _ _ 22 _ _ S5.out
 have r6:(w5.setCell ⟨kb,19,none⟩ (.slice A4 s.issued.length c4)).heap[kb]? =some (.cells #[.int .i64 c.f,.int .i64 c.cl,.int .i64 c.c2,.int .i64 c.c3,.int .i64 c.c4,.int .i64 c.c5,.int .i64 c.c6,.int .i64 c.c7,.int .i64 c.c8,.int .i64 c.c9,.int .i64 c.c10,.int .i64 c.c11,.int .i64 c.c12,.int .i64 c.c13,.int .i64 c.re,.int .i64 id,.pointer (some ⟨g2,0,none⟩),.pointer (some ⟨d,0,none⟩),.bool s.waits,.slice A4 s.issued.length c4,.int .i64 s.at_,.slice Aa s.ans.length ca,.slice Ac s.acc.length cc,.slice Ao ([]:List SendV).length co] 99 (0,0)):=by rw[heap_setCell_same w5 kb 19 _ _ _ S5.out];rfl
 have N:((w5.setCell ⟨kb,19,none⟩ (.slice A4 s.issued.length c4)).setCell ⟨kb,22,none⟩ (.slice A5 s.acc.length c5)).heap[kb]? =some (.cells #[.int .i64 c.f,.int .i64 c.cl,.int .i64 c.c2,.int .i64 c.c3,.int .i64 c.c4,.int .i64 c.c5,.int .i64 c.c6,.int .i64 c.c7,.int .i64 c.c8,.int .i64 c.c9,.int .i64 c.c10,.int .i64 c.c11,.int .i64 c.c12,.int .i64 c.c13,.int .i64 c.re,.int .i64 id,.pointer (some ⟨g2,0,none⟩),.pointer (some ⟨d,0,none⟩),.bool s.waits,.slice A4 s.issued.length c4,.int .i64 s.at_,.slice Aa s.ans.length ca,.slice A5 s.acc.length c5,.slice Ao ([]:List SendV).length co] 99 (0,0)):=by rw[heap_setCell_same _ kb 22 _ _ _ r6];rfl
 have f6:Fp (fun b=>b=kb) w5 ((w5.setCell ⟨kb,19,none⟩ (.slice A4 s.issued.length c4)).setCell ⟨kb,22,none⟩ (.slice A5 s.acc.length c5)):=((Fp.refl (fun b=>b=kb) w5).setCell (p:=⟨kb,19,none⟩) (Or.inl (show kb=kb from rfl)) _).setCell (p:=⟨kb,22,none⟩) (Or.inl (show kb=kb from rfl)) _
 have R:=b8 (j:=22) (u:=.slice A5 s.acc.length c5) (b8 (j:=19) (u:=.slice A4 s.issued.length c4) bO.out S5.out (by decide)) r6 (by decide)
 have V:=b8 (j:=22) (u:=.slice A5 s.acc.length c5) (b8 (j:=19) (u:=.slice A4 s.issued.length c4) b5.out S5.out (by decide)) r6 (by decide)
 go_upto_region 4 with fail
 clear c0 b9 cZ b6 r6
 obtain⟨w6,hw6⟩:∃w6,(w5.setCell ⟨kb,19,none⟩ (.slice A4 s.issued.length c4)).setCell ⟨kb,22,none⟩ (.slice A5 s.acc.length c5)=w6:=⟨_,rfl⟩
 rw[hw6] at N f6 R V ⊢
 have S6:=tt N
 have C:Hid (Below w.heap.size w w6):=tt (aa.out.trans (f6.to_below (B:=w.heap.size) aa.out.size (fun b _ hb=>by have:=z.out;omega)))
 have bc:=tt ((f6.block d (by omega) n).trans bd.out)
 have bN:=tt R
 have b4:=tt V
 have d7:w5.heap.size≤w6.heap.size:=f6.size
 clear N f6 R V hw6 S5 aa bd bO b5
 have y:=tt (HO.out.below C.out)
 have q:=y.out.row
 have cQ:w6.cell? ⟨k,21,none⟩=some (.slice Aa s.ans.length ca):=am q 21 rfl
 have a9:=tt (Rd.of_own y.out.oa)
 have a7:=tt (rc s.ans)
 have d2:=db y.out.oa
 have a6:∀w',Below w6.heap.size w6 w'→w'.cell? ⟨kb,21,none⟩=some (.slice Aa s.ans.length ca)∧w'.frozen? ⟨kb,21,none⟩=false:=fun w' hb=>by
  have cn:kb<w6.heap.size:=by omega
  have h1:=(hb.block kb cn).trans S6.out
  exact⟨am h1 21 rfl,frozen_of_row _ _ 21 _ _ h1⟩
 have M:=tt a6
 clear q a6
 go_upto_region 5 with (at_builtin;refine bk ansE rfl _ _ rfl w6.heap.size _ 0 [] rfl (World.ownsRow_nil _ _ _ _) w6.heap.size _ _ _ rfl a9.out a7.out (by unfold maxLen;omega) (by omega) (tJ _) ?_;intro v7 w7 l a0 _;have i:Below w6.heap.size w6 w7:=(Below.refl _ _).grown a0 (tJ _) (fun k hk=>by simp[Act.eval,Value.ownBlock] at hk);clear a0;rw[Nat.zero_add,List.nil_append] at l;obtain⟨A7,c7,rfl,_,_,_⟩:=ao l;obtain⟨cj,ch⟩:=M.out w7 i)
 have S7:=tt ((i.block kb (by omega)).trans S6.out)
 have Z:=tt (Below.then C.out i C.out.size)
 have bb:=tt ((i.block d (by omega)).trans bc.out)
 have bs:=tt (bE bN.out i)
 have b3:=tt (bE b4.out i)
 have a8:=tt (bA l (base':=kb) (by omega))
 have d6:=i.size
 clear l i cj ch cQ a9 M S6 C bc bN b4 y
 have r8:(w7.setCell ⟨kb,21,none⟩ (.slice A7 s.ans.length c7)).heap[kb]? =some (.cells #[.int .i64 c.f,.int .i64 c.cl,.int .i64 c.c2,.int .i64 c.c3,.int .i64 c.c4,.int .i64 c.c5,.int .i64 c.c6,.int .i64 c.c7,.int .i64 c.c8,.int .i64 c.c9,.int .i64 c.c10,.int .i64 c.c11,.int .i64 c.c12,.int .i64 c.c13,.int .i64 c.re,.int .i64 id,.pointer (some ⟨g2,0,none⟩),.pointer (some ⟨d,0,none⟩),.bool s.waits,.slice A4 s.issued.length c4,.int .i64 s.at_,.slice A7 s.ans.length c7,.slice A5 s.acc.length c5,.slice Ao ([]:List SendV).length co] 99 (0,0)):=by rw[heap_setCell_same w7 kb 21 _ _ _ S7.out];rfl
 have f8:Fp (fun b=>b=kb) w7 (w7.setCell ⟨kb,21,none⟩ (.slice A7 s.ans.length c7)):=(Fp.refl (fun b=>b=kb) w7).setCell (p:=⟨kb,21,none⟩) (Or.inl (show kb=kb from rfl)) _
 have Q:=b8 (j:=21) (u:=.slice A7 s.ans.length c7) bs.out S7.out (by decide)
 have T:=b8 (j:=21) (u:=.slice A7 s.ans.length c7) b3.out S7.out (by decide)
 have P:=b8 (j:=21) (u:=.slice A7 s.ans.length c7) a8.out S7.out (by decide)
 obtain⟨w8,hw8⟩:∃w8,w7.setCell ⟨kb,21,none⟩ (.slice A7 s.ans.length c7)=w8:=⟨_,rfl⟩
 rw[hw8] at r8 f8 Q T P ⊢
 have S8:=tt r8
 have Y:Hid (Below w.heap.size w w8):=tt (Z.out.trans (f8.to_below (B:=w.heap.size) Z.out.size (fun b _ hb=>by have:=z.out;omega)))
 have dv:=tt ((f8.block d (by omega) n).trans bb.out)
 have dO:=tt Q
 have d0:=tt T
 have di:=tt P
 have d5:w7.heap.size≤w8.heap.size:=f8.size
 clear r8 f8 Q T P hw8 S7 Z bb bs b3 a8
 have v:=tt (HO.out.below Y.out)
 have o:=v.out.row
 have ep:w8.cell? ⟨k,23,none⟩=some (.slice Ao 0 co):=am o 23 rfl
 have dj:Hid (Rd w8 w8.heap.size 2 (.slice Ao 0 co) 0 []):=tt (Rd.of_own v.out.oo.own)
 have cz:=db v.out.oo.own
 have a5:∀w',Below w8.heap.size w8 w'→w'.cell? ⟨kb,23,none⟩=some (.slice Ao 0 co)∧w'.frozen? ⟨kb,23,none⟩=false:=fun w' hb=>by
  have h1:=(hb.block kb (by omega)).trans S8.out
  exact⟨am h1 23 rfl,frozen_of_row _ _ 23 _ _ h1⟩
 have b2:=tt a5
 clear o a5
 go_wp2_with (at_builtin;refine bk pY rfl _ _ rfl w8.heap.size _ 0 [] rfl (World.ownsRow_nil _ _ _ _) w8.heap.size _ 0 _ rfl dj.out (fun u hu=>by cases hu) (by unfold maxLen;omega) (by omega) (tJ _) ?_;intro v9 w9 m al _;have a:Below w8.heap.size w8 w9:=(Below.refl _ _).grown al (tJ _) (fun k hk=>by simp[Act.eval,Value.ownBlock] at hk);clear al;rw[Nat.zero_add,List.nil_append] at m;obtain⟨A9,c9,rfl,_,_,_⟩:=ao m;obtain⟨d4,d3⟩:=b2.out w9 a)
 go_ret
 have S9:=(a.block kb (by omega)).trans S8.out
 have ds:=(a.block d (by omega)).trans dv.out
 have ck:(w9.setCell ⟨kb,23,none⟩ (.slice A9 0 c9)).heap[kb]? =some (.cells #[.int .i64 c.f,.int .i64 c.cl,.int .i64 c.c2,.int .i64 c.c3,.int .i64 c.c4,.int .i64 c.c5,.int .i64 c.c6,.int .i64 c.c7,.int .i64 c.c8,.int .i64 c.c9,.int .i64 c.c10,.int .i64 c.c11,.int .i64 c.c12,.int .i64 c.c13,.int .i64 c.re,.int .i64 id,.pointer (some ⟨g2,0,none⟩),.pointer (some ⟨d,0,none⟩),.bool s.waits,.slice A4 s.issued.length c4,.int .i64 s.at_,.slice A7 s.ans.length c7,.slice A5 s.acc.length c5,.slice A9 0 c9] 99 (0,0)):=by rw[heap_setCell_same w9 kb 23 _ _ _ S9];rfl
 have X:Fp (fun b=>b=kb) w9 (w9.setCell ⟨kb,23,none⟩ (.slice A9 0 c9)):=(Fp.refl (fun b=>b=kb) w9).setCell (p:=⟨kb,23,none⟩) (Or.inl (show kb=kb from rfl)) _
 have J:=b8 (j:=23) (u:=.slice A9 0 c9) (bE dO.out a) S9 (by decide)
 have K:=b8 (j:=23) (u:=.slice A9 0 c9) (bE d0.out a) S9 (by decide)
 have G:=b8 (j:=23) (u:=.slice A9 0 c9) (bE di.out a) S9 (by decide)
 have I:=b8 (j:=23) (u:=.slice A9 0 c9) (bA m (base':=kb) (by omega)) S9 (by decide)
 have af:=(X.block d (by have:=a.size;omega) n).trans ds
 have a4:=Below.then Y.out a Y.out.size
 have d1:w9.heap.size≤(w9.setCell ⟨kb,23,none⟩ (.slice A9 0 c9)).heap.size:=X.size
 have el:=z.out
 have hzz:=a.size
 refine⟨kb,d,fun b=>kb≤b∧b<(w9.setCell ⟨kb,23,none⟩ (.slice A9 0 c9)).heap.size,rfl,⟨⟨.slice A4 s.issued.length c4,.slice A7 s.ans.length c7,.slice A5 s.acc.length c5,.slice A9 0 c9,[],ck,bA J (Nat.zero_le _),bA G (Nat.zero_le _),bA K (Nat.zero_le _),v.out.om,⟨bA I (Nat.zero_le _),fun b hb=>I.lt b hb,fun x hx=>(by cases hx)⟩,fun b hb=>J.lt b hb,fun b hb=>G.lt b hb,fun b hb=>K.lt b hb⟩,af,⟨tJ _,by omega⟩,⟨by omega,by omega⟩,fun b hb=>hb.2⟩,fun b hb=>by omega,a4.trans (X.to_below (B:=w.heap.size) a4.size (fun b _ hb=>by omega))⟩
theorem oE (U:Nat→Prop) (k h h2:Nat) (c:Cf) (id:Int) (s:RC) (vb vi va vo:Value) (L:List SendV) (w:World) (H:Rco w U k h c id s vb vi va vo L) (ho:s.out=[]) (bq:s.iss.length≤1000000) (hcl:s.acc.length≤1000000):
 Calls Tryz.prog 31 #[.pointer (some ⟨k,0,none⟩),.pointer (some ⟨h2,0,none⟩)] w fun e w'=>∃(k':Nat) (U':Nat→Prop),e= .returned (.pointer (some ⟨k',0,none⟩))∧Rcm w' U' k' h2 c id s∧(∀b,U' b→w.heap.size≤b∨vb.ownBlock=some b)∧Below w.heap.size w w':=by
 have hL:L=[]:=by have:=H.om;rw[ho] at this;exact List.map_eq_nil_iff.1 this
 subst hL
 obtain⟨Ab,cb,rfl,_,_,_⟩:=ao H.ob
 obtain⟨Ai,ci,rfl,_,_,_⟩:=ao H.oi
 obtain⟨Ac,cc,rfl,_,_,_⟩:=ao H.oc
 obtain⟨Ao,co,rfl,_,_,_⟩:=ao H.oo.own
 have HO:Hid (Rco w U k h c id s (.slice Ab s.bs.length cb) (.slice Ai s.iss.length ci) (.slice Ac s.acc.length cc) (.slice Ao 0 co) []):=tt H
 have G:=H.row
 have W:Hid (w.rangeAt k 0 [.int .i64 c.f,.int .i64 c.cl,.int .i64 c.c2,.int .i64 c.c3,.int .i64 c.c4,.int .i64 c.c5,.int .i64 c.c6,.int .i64 c.c7,.int .i64 c.c8,.int .i64 c.c9,.int .i64 c.c10,.int .i64 c.c11,.int .i64 c.c12,.int .i64 c.c13,.int .i64 c.re,.int .i64 id,.pointer (some ⟨h,0,none⟩),.int .i64 s.n,.bool s.wt,.int .i64 s.q.c,.int .i64 s.q.t,.int .i64 s.q.k,.int .i64 s.q.y,.int .i64 s.q.v,.int .i64 s.q.s,.slice Ab s.bs.length cb,.int .i64 s.tk,.int .i64 (s.rep 0),.int .i64 (s.rep 1),.int .i64 (s.rep 2),.int .i64 (s.rep 3),.int .i64 (s.rep 4),.int .i64 (s.rep 5),.int .i64 (s.rep 6),.int .i64 (s.rep 7),.int .i64 (s.rep 8),.int .i64 (s.rep 9),.int .i64 (s.rep 10),.int .i64 (s.rep 11),.int .i64 (s.rep 12),.bool (s.has 0),.bool (s.has 1),.bool (s.has 2),.bool (s.has 3),.bool (s.has 4),.bool (s.has 5),.bool (s.has 6),.bool (s.has 7),.bool (s.has 8),.bool (s.has 9),.bool (s.has 10),.bool (s.has 11),.bool (s.has 12),.slice Ai s.iss.length ci,.slice Ac s.acc.length cc,.slice Ao 0 co]):=tt (aB G)
 have T:=ae w (.cells #[.int .i64 0,.int .i64 0,.int .i64 0,.int .i64 0,.int .i64 0,.int .i64 0,.int .i64 0,.int .i64 0,.int .i64 0,.int .i64 0,.int .i64 0,.int .i64 0,.int .i64 0,.int .i64 0,.int .i64 0,.int .i64 0,.pointer none,.int .i64 0,.bool false,.int .i64 0,.int .i64 0,.int .i64 0,.int .i64 0,.int .i64 0,.int .i64 0,.slice none 0 0,.int .i64 0,.int .i64 0,.int .i64 0,.int .i64 0,.int .i64 0,.int .i64 0,.int .i64 0,.int .i64 0,.int .i64 0,.int .i64 0,.int .i64 0,.int .i64 0,.int .i64 0,.int .i64 0,.bool false,.bool false,.bool false,.bool false,.bool false,.bool false,.bool false,.bool false,.bool false,.bool false,.bool false,.bool false,.bool false,.slice none 0 0,.slice none 0 0,.slice none 0 0] 89)
 have I:=tL w (.cells #[.int .i64 0,.int .i64 0,.int .i64 0,.int .i64 0,.int .i64 0,.int .i64 0,.int .i64 0,.int .i64 0,.int .i64 0,.int .i64 0,.int .i64 0,.int .i64 0,.int .i64 0,.int .i64 0,.int .i64 0,.int .i64 0,.pointer none,.int .i64 0,.bool false,.int .i64 0,.int .i64 0,.int .i64 0,.int .i64 0,.int .i64 0,.int .i64 0,.slice none 0 0,.int .i64 0,.int .i64 0,.int .i64 0,.int .i64 0,.int .i64 0,.int .i64 0,.int .i64 0,.int .i64 0,.int .i64 0,.int .i64 0,.int .i64 0,.int .i64 0,.int .i64 0,.int .i64 0,.bool false,.bool false,.bool false,.bool false,.bool false,.bool false,.bool false,.bool false,.bool false,.bool false,.bool false,.bool false,.bool false,.slice none 0 0,.slice none 0 0,.slice none 0 0] 89)
 have P:=au I
 obtain⟨s1,s2⟩:=aQ I [.int .i64 c.f,.int .i64 c.cl,.int .i64 c.c2,.int .i64 c.c3,.int .i64 c.c4,.int .i64 c.c5,.int .i64 c.c6,.int .i64 c.c7,.int .i64 c.c8,.int .i64 c.c9,.int .i64 c.c10,.int .i64 c.c11,.int .i64 c.c12,.int .i64 c.c13,.int .i64 c.re,.int .i64 id,.pointer (some ⟨h,0,none⟩),.int .i64 s.n,.bool s.wt,.int .i64 s.q.c,.int .i64 s.q.t,.int .i64 s.q.k,.int .i64 s.q.y,.int .i64 s.q.v,.int .i64 s.q.s,.slice Ab s.bs.length cb,.int .i64 s.tk,.int .i64 (s.rep 0),.int .i64 (s.rep 1),.int .i64 (s.rep 2),.int .i64 (s.rep 3),.int .i64 (s.rep 4),.int .i64 (s.rep 5),.int .i64 (s.rep 6),.int .i64 (s.rep 7),.int .i64 (s.rep 8),.int .i64 (s.rep 9),.int .i64 (s.rep 10),.int .i64 (s.rep 11),.int .i64 (s.rep 12),.bool (s.has 0),.bool (s.has 1),.bool (s.has 2),.bool (s.has 3),.bool (s.has 4),.bool (s.has 5),.bool (s.has 6),.bool (s.has 7),.bool (s.has 8),.bool (s.has 9),.bool (s.has 10),.bool (s.has 11),.bool (s.has 12),.slice Ai s.iss.length ci,.slice Ac s.acc.length cc,.slice Ao 0 co] rfl
 have hbs:=bY T w.heap.size (tJ _) [.int .i64 c.f,.int .i64 c.cl,.int .i64 c.c2,.int .i64 c.c3,.int .i64 c.c4,.int .i64 c.c5,.int .i64 c.c6,.int .i64 c.c7,.int .i64 c.c8,.int .i64 c.c9,.int .i64 c.c10,.int .i64 c.c11,.int .i64 c.c12,.int .i64 c.c13,.int .i64 c.re,.int .i64 id,.pointer (some ⟨h,0,none⟩),.int .i64 s.n,.bool s.wt,.int .i64 s.q.c,.int .i64 s.q.t,.int .i64 s.q.k,.int .i64 s.q.y,.int .i64 s.q.v,.int .i64 s.q.s,.slice Ab s.bs.length cb,.int .i64 s.tk,.int .i64 (s.rep 0),.int .i64 (s.rep 1),.int .i64 (s.rep 2),.int .i64 (s.rep 3),.int .i64 (s.rep 4),.int .i64 (s.rep 5),.int .i64 (s.rep 6),.int .i64 (s.rep 7),.int .i64 (s.rep 8),.int .i64 (s.rep 9),.int .i64 (s.rep 10),.int .i64 (s.rep 11),.int .i64 (s.rep 12),.bool (s.has 0),.bool (s.has 1),.bool (s.has 2),.bool (s.has 3),.bool (s.has 4),.bool (s.has 5),.bool (s.has 6),.bool (s.has 7),.bool (s.has 8),.bool (s.has 9),.bool (s.has 10),.bool (s.has 11),.bool (s.has 12),.slice Ai s.iss.length ci,.slice Ac s.acc.length cc,.slice Ao 0 co]
 have V:=tt P
 have S1:=tt s1
 have E:=tt hbs
 clear H G ho T I P s1 s2 hbs
 go_enter Tryz.func31,Tryz.ntmps31
 go_upto_region 2 with (first|(refine aA rfl 89 (.tmp 7) rfl k 0 rfl [.int .i64 c.f,.int .i64 c.cl,.int .i64 c.c2,.int .i64 c.c3,.int .i64 c.c4,.int .i64 c.c5,.int .i64 c.c6,.int .i64 c.c7,.int .i64 c.c8,.int .i64 c.c9,.int .i64 c.c10,.int .i64 c.c11,.int .i64 c.c12,.int .i64 c.c13,.int .i64 c.re,.int .i64 id,.pointer (some ⟨h,0,none⟩),.int .i64 s.n,.bool s.wt,.int .i64 s.q.c,.int .i64 s.q.t,.int .i64 s.q.k,.int .i64 s.q.y,.int .i64 s.q.v,.int .i64 s.q.s,.slice Ab s.bs.length cb,.int .i64 s.tk,.int .i64 (s.rep 0),.int .i64 (s.rep 1),.int .i64 (s.rep 2),.int .i64 (s.rep 3),.int .i64 (s.rep 4),.int .i64 (s.rep 5),.int .i64 (s.rep 6),.int .i64 (s.rep 7),.int .i64 (s.rep 8),.int .i64 (s.rep 9),.int .i64 (s.rep 10),.int .i64 (s.rep 11),.int .i64 (s.rep 12),.bool (s.has 0),.bool (s.has 1),.bool (s.has 2),.bool (s.has 3),.bool (s.has 4),.bool (s.has 5),.bool (s.has 6),.bool (s.has 7),.bool (s.has 8),.bool (s.has 9),.bool (s.has 10),.bool (s.has 11),.bool (s.has 12),.slice Ai s.iss.length ci,.slice Ac s.acc.length cc,.slice Ao 0 co] _ W.out Tryz.underlying89 rfl n7 ?_)|(refine wpList_store_mid rfl 89 (.tmp 5) (.tmp 8) rfl w.heap.size 0 #[.int .i64 c.f,.int .i64 c.cl,.int .i64 c.c2,.int .i64 c.c3,.int .i64 c.c4,.int .i64 c.c5,.int .i64 c.c6,.int .i64 c.c7,.int .i64 c.c8,.int .i64 c.c9,.int .i64 c.c10,.int .i64 c.c11,.int .i64 c.c12,.int .i64 c.c13,.int .i64 c.re,.int .i64 id,.pointer (some ⟨h,0,none⟩),.int .i64 s.n,.bool s.wt,.int .i64 s.q.c,.int .i64 s.q.t,.int .i64 s.q.k,.int .i64 s.q.y,.int .i64 s.q.v,.int .i64 s.q.s,.slice Ab s.bs.length cb,.int .i64 s.tk,.int .i64 (s.rep 0),.int .i64 (s.rep 1),.int .i64 (s.rep 2),.int .i64 (s.rep 3),.int .i64 (s.rep 4),.int .i64 (s.rep 5),.int .i64 (s.rep 6),.int .i64 (s.rep 7),.int .i64 (s.rep 8),.int .i64 (s.rep 9),.int .i64 (s.rep 10),.int .i64 (s.rep 11),.int .i64 (s.rep 12),.bool (s.has 0),.bool (s.has 1),.bool (s.has 2),.bool (s.has 3),.bool (s.has 4),.bool (s.has 5),.bool (s.has 6),.bool (s.has 7),.bool (s.has 8),.bool (s.has 9),.bool (s.has 10),.bool (s.has 11),.bool (s.has 12),.slice Ai s.iss.length ci,.slice Ac s.acc.length cc,.slice Ao 0 co] rfl rfl V.out n7 (by simp[Value.oneCell']) ?_))
 obtain⟨w1,hw1⟩:∃w1,(w.alloc (.cells #[.int .i64 0,.int .i64 0,.int .i64 0,.int .i64 0,.int .i64 0,.int .i64 0,.int .i64 0,.int .i64 0,.int .i64 0,.int .i64 0,.int .i64 0,.int .i64 0,.int .i64 0,.int .i64 0,.int .i64 0,.int .i64 0,.pointer none,.int .i64 0,.bool false,.int .i64 0,.int .i64 0,.int .i64 0,.int .i64 0,.int .i64 0,.int .i64 0,.slice none 0 0,.int .i64 0,.int .i64 0,.int .i64 0,.int .i64 0,.int .i64 0,.int .i64 0,.int .i64 0,.int .i64 0,.int .i64 0,.int .i64 0,.int .i64 0,.int .i64 0,.int .i64 0,.int .i64 0,.bool false,.bool false,.bool false,.bool false,.bool false,.bool false,.bool false,.bool false,.bool false,.bool false,.bool false,.bool false,.bool false,.slice none 0 0,.slice none 0 0,.slice none 0 0] 89)).setCells w.heap.size 0 [.int .i64 c.f,.int .i64 c.cl,.int .i64 c.c2,.int .i64 c.c3,.int .i64 c.c4,.int .i64 c.c5,.int .i64 c.c6,.int .i64 c.c7,.int .i64 c.c8,.int .i64 c.c9,.int .i64 c.c10,.int .i64 c.c11,.int .i64 c.c12,.int .i64 c.c13,.int .i64 c.re,.int .i64 id,.pointer (some ⟨h,0,none⟩),.int .i64 s.n,.bool s.wt,.int .i64 s.q.c,.int .i64 s.q.t,.int .i64 s.q.k,.int .i64 s.q.y,.int .i64 s.q.v,.int .i64 s.q.s,.slice Ab s.bs.length cb,.int .i64 s.tk,.int .i64 (s.rep 0),.int .i64 (s.rep 1),.int .i64 (s.rep 2),.int .i64 (s.rep 3),.int .i64 (s.rep 4),.int .i64 (s.rep 5),.int .i64 (s.rep 6),.int .i64 (s.rep 7),.int .i64 (s.rep 8),.int .i64 (s.rep 9),.int .i64 (s.rep 10),.int .i64 (s.rep 11),.int .i64 (s.rep 12),.bool (s.has 0),.bool (s.has 1),.bool (s.has 2),.bool (s.has 3),.bool (s.has 4),.bool (s.has 5),.bool (s.has 6),.bool (s.has 7),.bool (s.has 8),.bool (s.has 9),.bool (s.has 10),.bool (s.has 11),.bool (s.has 12),.slice Ai s.iss.length ci,.slice Ac s.acc.length cc,.slice Ao 0 co]=w1:=⟨_,rfl⟩
 obtain⟨kb,hkb⟩:∃kb,w.heap.size=kb:=⟨_,rfl⟩
 rw[hw1] at S1 E ⊢
 rw[hkb] at S1 E ⊢
 have S1:Hid (w1.heap[kb]? =some (.cells (rcA c id h s (.slice Ab s.bs.length cb) (.slice Ai s.iss.length ci) (.slice Ac s.acc.length cc) (.slice Ao 0 co)) 89 (0,0))):=tt S1.out
 have O:Hid (Below w.heap.size w w1):=by rw[hkb];exact E
 have bp:kb<w1.heap.size:=(tz S1.out).1
 have A:=tt hkb
 clear hw1 hkb E W V
 have a5:w1.cell? ⟨kb,16,none⟩=some (.pointer (some ⟨h,0,none⟩)):=am S1.out 16 rfl
 have af:=frozen_of_row _ _ 16 _ _ S1.out
 have r2:(w1.setCell ⟨kb,16,none⟩ (.pointer (some ⟨h2,0,none⟩))).heap[kb]? =some (.cells (rcA c id h2 s (.slice Ab s.bs.length cb) (.slice Ai s.iss.length ci) (.slice Ac s.acc.length cc) (.slice Ao 0 co)) 89 (0,0)):=by rw[heap_setCell_same w1 kb 16 _ _ _ S1.out];rfl
 have f2:Fp (fun b=>b=kb) w1 (w1.setCell ⟨kb,16,none⟩ (.pointer (some ⟨h2,0,none⟩))):=(Fp.refl (fun b=>b=kb) w1).setCell (p:=⟨kb,16,none⟩) (Or.inl (show kb=kb from rfl)) _
 go_upto_region 3 with fail
 clear a5 af
 obtain⟨w2,hw2⟩:∃w2,w1.setCell ⟨kb,16,none⟩ (.pointer (some ⟨h2,0,none⟩))=w2:=⟨_,rfl⟩
 rw[hw2] at r2 f2 ⊢
 have S2:=tt r2
 have F:Hid (Below w.heap.size w w2):=tt (O.out.trans (f2.to_below (B:=w.heap.size) O.out.size (fun b _ hb=>by have:=A.out;omega)))
 have bd:w1.heap.size≤w2.heap.size:=f2.size
 have D:=tt (HO.out.below F.out)
 have a4:w2.cell? ⟨k,53,none⟩=some (.slice Ai s.iss.length ci):=am D.out.row 53 rfl
 have K:=tt (lR s.iss)
 clear r2 f2 hw2 S1 O
 have Z:=tt (Rd.of_own D.out.oi)
 have a2:=db D.out.oi
 have c3:∀w',Below w2.heap.size w2 w'→w'.cell? ⟨kb,53,none⟩=some (.slice Ai s.iss.length ci)∧w'.frozen? ⟨kb,53,none⟩=false:=fun w' hb=>by
  have h1:=(hb.block kb (by omega)).trans S2.out
  exact⟨am h1 53 rfl,frozen_of_row _ _ 53 _ _ h1⟩
 have ad:=tt c3
 clear c3
 go_upto_region 4 with (at_builtin;refine bk mU rfl _ _ rfl w2.heap.size _ 0 [] rfl (World.ownsRow_nil _ _ _ _) w2.heap.size _ _ _ rfl Z.out K.out (by unfold maxLen;omega) (by omega) (tJ _) ?_;intro v3 w3 m S _;have g:Below w2.heap.size w2 w3:=(Below.refl _ _).grown S (tJ _) (fun k hk=>by simp[Act.eval,Value.ownBlock] at hk);clear S;rw[Nat.zero_add,List.nil_append] at m;obtain⟨A3,d3,rfl,_,_,_⟩:=ao m;obtain⟨y3,z3⟩:=ad.out w3 g)
 have S3:=(g.block kb (by omega)).trans S2.out
 have B3:=Below.then F.out g F.out.size
 have r3:(w3.setCell ⟨kb,53,none⟩ (.slice A3 s.iss.length d3)).heap[kb]? =some (.cells (rcA c id h2 s (.slice Ab s.bs.length cb) (.slice A3 s.iss.length d3) (.slice Ac s.acc.length cc) (.slice Ao 0 co)) 89 (0,0)):=by rw[heap_setCell_same w3 kb 53 _ _ _ S3];rfl
 have f3:Fp (fun b=>b=kb) w3 (w3.setCell ⟨kb,53,none⟩ (.slice A3 s.iss.length d3)):=(Fp.refl (fun b=>b=kb) w3).setCell (p:=⟨kb,53,none⟩) (Or.inl (show kb=kb from rfl)) _
 have o3:=b8 (j:=53) (u:=.slice A3 s.iss.length d3) (bA m (base':=kb) (by omega)) S3 (by decide)
 obtain⟨x3,hw3⟩:∃W_,w3.setCell ⟨kb,53,none⟩ (.slice A3 s.iss.length d3)=W_:=⟨_,rfl⟩
 rw[hw3] at r3 f3 o3 ⊢
 have a8:=g.size
 have bc:w3.heap.size≤x3.heap.size:=f3.size
 have T3:=tt r3
 have D3:Hid (Below w.heap.size w x3):=tt (B3.trans (f3.to_below (B:=w.heap.size) B3.size (fun b _ hb=>by have:=A.out;omega)))
 have P3:=tt o3
 clear S3 B3 r3 f3 o3 hw3 m g y3 z3 Z ad
 clear a4 D S2 F
 have C:=tt (HO.out.below D3.out)
 have a3:x3.cell? ⟨k,54,none⟩=some (.slice Ac s.acc.length cc):=am C.out.row 54 rfl
 have J:=tt (kI s.acc)
 have Y:=tt (Rd.of_own C.out.oc)
 have a1:=db C.out.oc
 have c4:∀w',Below x3.heap.size x3 w'→w'.cell? ⟨kb,54,none⟩=some (.slice Ac s.acc.length cc)∧w'.frozen? ⟨kb,54,none⟩=false:=fun w' hb=>by
  have h1:=(hb.block kb (by omega)).trans T3.out
  exact⟨am h1 54 rfl,frozen_of_row _ _ 54 _ _ h1⟩
 have ac:=tt c4
 clear c4
 go_upto_region 5 with (at_builtin;refine bk qN rfl _ _ rfl x3.heap.size _ 0 [] rfl (World.ownsRow_nil _ _ _ _) x3.heap.size _ _ _ rfl Y.out J.out (by unfold maxLen;omega) (by omega) (tJ _) ?_;intro v4 w4 l R _;have d:Below x3.heap.size x3 w4:=(Below.refl _ _).grown R (tJ _) (fun k hk=>by simp[Act.eval,Value.ownBlock] at hk);clear R;rw[Nat.zero_add,List.nil_append] at l;obtain⟨A4,d4,rfl,_,_,_⟩:=ao l;obtain⟨y4,z4⟩:=ac.out w4 d)
 have S4:=(d.block kb (by omega)).trans T3.out
 have B4:=Below.then D3.out d D3.out.size
 have r4:(w4.setCell ⟨kb,54,none⟩ (.slice A4 s.acc.length d4)).heap[kb]? =some (.cells (rcA c id h2 s (.slice Ab s.bs.length cb) (.slice A3 s.iss.length d3) (.slice A4 s.acc.length d4) (.slice Ao 0 co)) 89 (0,0)):=by rw[heap_setCell_same w4 kb 54 _ _ _ S4];rfl
 have f4:Fp (fun b=>b=kb) w4 (w4.setCell ⟨kb,54,none⟩ (.slice A4 s.acc.length d4)):=(Fp.refl (fun b=>b=kb) w4).setCell (p:=⟨kb,54,none⟩) (Or.inl (show kb=kb from rfl)) _
 have o4:=b8 (j:=54) (u:=.slice A4 s.acc.length d4) (bA l (base':=kb) (by omega)) S4 (by decide)
 have z:=b8 (j:=54) (u:=.slice A4 s.acc.length d4) (bE P3.out d) S4 (by decide)
 obtain⟨x4,hw4⟩:∃W_,w4.setCell ⟨kb,54,none⟩ (.slice A4 s.acc.length d4)=W_:=⟨_,rfl⟩
 rw[hw4] at r4 f4 o4 z ⊢
 have a7:=d.size
 have bb:w4.heap.size≤x4.heap.size:=f4.size
 have T4:=tt r4
 have D4:Hid (Below w.heap.size w x4):=tt (B4.trans (f4.to_below (B:=w.heap.size) B4.size (fun b _ hb=>by have:=A.out;omega)))
 have P4:=tt o4
 replace P3:=tt z
 clear S4 B4 r4 f4 o4 z hw4 l d y4 z4 Y ac
 clear a3 C T3 D3
 have N:=tt (HO.out.below D4.out)
 have bN:x4.cell? ⟨k,55,none⟩=some (.slice Ao 0 co):=am N.out.row 55 rfl
 have X:=tt (Rd.of_own N.out.oo.own)
 have a0:=db N.out.oo.own
 have c5:∀w',Below x4.heap.size x4 w'→w'.cell? ⟨kb,55,none⟩=some (.slice Ao 0 co)∧w'.frozen? ⟨kb,55,none⟩=false:=fun w' hb=>by
  have h1:=(hb.block kb (by omega)).trans T4.out
  exact⟨am h1 55 rfl,frozen_of_row _ _ 55 _ _ h1⟩
 have aa:=tt c5
 clear c5
 go_wp2_with (at_builtin;refine bk pY rfl _ _ rfl x4.heap.size _ 0 [] rfl (World.ownsRow_nil _ _ _ _) x4.heap.size _ 0 _ rfl X.out (fun u hu=>by cases hu) (by unfold maxLen;omega) (by omega) (tJ _) ?_;intro v5 w5 i Q _;have a:Below x4.heap.size x4 w5:=(Below.refl _ _).grown Q (tJ _) (fun k hk=>by simp[Act.eval,Value.ownBlock] at hk);clear Q;rw[Nat.zero_add,List.nil_append] at i;obtain⟨A5,d5,rfl,_,_,_⟩:=ao i;obtain⟨y5,z5⟩:=aa.out w5 a)
 go_ret
 have S5:=(a.block kb (by omega)).trans T4.out
 have B5:=Below.then D4.out a D4.out.size
 have r5:(w5.setCell ⟨kb,55,none⟩ (.slice A5 0 d5)).heap[kb]? =some (.cells (rcA c id h2 s (.slice Ab s.bs.length cb) (.slice A3 s.iss.length d3) (.slice A4 s.acc.length d4) (.slice A5 0 d5)) 89 (0,0)):=by rw[heap_setCell_same w5 kb 55 _ _ _ S5];rfl
 have f5:Fp (fun b=>b=kb) w5 (w5.setCell ⟨kb,55,none⟩ (.slice A5 0 d5)):=(Fp.refl (fun b=>b=kb) w5).setCell (p:=⟨kb,55,none⟩) (Or.inl (show kb=kb from rfl)) _
 have o5:=b8 (j:=55) (u:=.slice A5 0 d5) (bA i (base':=kb) (by omega)) S5 (by decide)
 have r:=b8 (j:=55) (u:=.slice A5 0 d5) (bE P3.out a) S5 (by decide)
 have o:=b8 (j:=55) (u:=.slice A5 0 d5) (bE P4.out a) S5 (by decide)
 obtain⟨x5,hw5⟩:∃W_,w5.setCell ⟨kb,55,none⟩ (.slice A5 0 d5)=W_:=⟨_,rfl⟩
 rw[hw5] at r5 f5 o5 r o ⊢
 have a6:=a.size
 have a9:w5.heap.size≤x5.heap.size:=f5.size
 have T5:=tt r5
 have D5:Hid (Below w.heap.size w x5):=tt (B5.trans (f5.to_below (B:=w.heap.size) B5.size (fun b _ hb=>by have:=A.out;omega)))
 have P5:=tt o5
 replace P3:=tt r
 replace P4:=tt o
 clear S5 B5 r5 f5 o5 r o hw5 i a y5 z5 X aa
 have M:=tt (HO.out.below D5.out)
 have bm:=A.out
 have al:kb<x5.heap.size:=(tz T5.out).1
 refine⟨kb,rfl,fun b=>(kb≤b∧b<x5.heap.size)∨(Value.slice Ab s.bs.length cb).ownBlock=some b,⟨⟨_,_,_,_,[],T5.out,M.out.ob,bA P3.out (Nat.zero_le _),bA P4.out (Nat.zero_le _),M.out.om,⟨bA P5.out (Nat.zero_le _),fun b hb=>.inl (P5.out.lt b hb),fun x hx=>(by cases hx)⟩,fun b hb=>.inr hb,fun b hb=>.inl (P3.out.lt b hb),fun b hb=>.inl (P4.out.lt b hb),.inl ⟨tJ _,al⟩,fun b hb=>?_⟩⟩,fun b hb=>?_,D5.out⟩
 ·rcases hb with hb|hb
  ·exact hb.2
  ·exact (M.out.ob.lt b hb).2
 ·rcases hb with hb|hb
  ·left;omega
  ·exact .inr hb
open Go.RowKit Go.Maps
theorem kz {W:World} {base k n m:Nat} {e:TypeId} {A:Option Addr} {c:Nat} {xs:List Value} (h:W.ownsRow base e k (.slice A n c) m xs):m≤c∧c≤9223372036854775807:=by
 obtain⟨A',c',e1,h2,h3,_⟩:=ao h
 injection e1 with _ _ e4
 subst e4
 exact⟨h2,h3⟩
theorem la (s:ByteArray):aX s.data.toList=s:=by
 unfold aX
 cases s
 simp
theorem mo {d:Value} {l:Lit} (h:keyOf Tryz.prog 116 d=some l):∃k:Key,KOk k∧d=kv k∧l=kl k:=by
 obtain⟨m,hm⟩:=mj
 unfold keyOf at h
 simp only[Tryz.underlying116] at h
 split at h
 ·rename_i hc
  rw[tI] at hc
  have hf:=hc.2
  cases d with
  |agg cs=>
   simp only[Value.formed,Tryz.underlying116,gj,beq_iff_eq] at hf
   obtain⟨a,b,rfl⟩:∃a b,cs=#[a,b]:=by
    obtain⟨l⟩:=cs
    rcases l with _|⟨a,_|⟨b,_|⟨c,l⟩⟩⟩
    ·simp at hf
    ·simp at hf
    ·exact⟨a,b,rfl⟩
    ·simp at hf
   rw[hm] at h
   unfold Program.keyLits at h
   simp only[Tryz.underlying116,Value.cells] at h
   rw[if_pos ⟨by rw[gj];rfl,by simp⟩,List.mapM_cons,List.mapM_cons,List.mapM_nil] at h
   cases a with
   |int q x=>
    by_cases hq:q=IntKind.i64∧(Lit.int IntKind.i64 x).wf=true
    ·obtain⟨rfl,hw⟩:=hq
     cases b with
     |string s=>
      by_cases hs:s.size≤maxLen
      ·simp[dZ,dY,Program.keyLits,Tryz.underlying3,Tryz.underlying9,hw,hs] at h
       have hx:aE x:=by
        simp only[Lit.wf,tI,decide_eq_true_eq] at hw
        exact hw
       refine⟨(x,s.data.toList),⟨hx,show s.data.toList.length≤maxLen from by rw[Array.length_toList];exact hs⟩,?_,?_⟩
       ·unfold kv;rw[la]
       ·exact h.symm
      ·simp[dZ,dY,Program.keyLits,Tryz.underlying3,Tryz.underlying9,hw,hs] at h
     |_=>simp[dZ,dY,Program.keyLits,Tryz.underlying3,Tryz.underlying9,hw] at h
    ·simp[dZ,dY,Program.keyLits,Tryz.underlying3,Tryz.underlying9,hq] at h
   |_=>simp[dZ,dY,Program.keyLits,Tryz.underlying3,Tryz.underlying9] at h
  |_=>simp[Value.formed,Tryz.underlying116] at hf
 ·cases h
theorem kC (g bm:Nat) (K:List Key) (w:World) (hN:Nt w g bm K) (hK:K.length≤1000000):
 Calls Tryz.prog 28 #[.pointer (some ⟨g,0,none⟩)] w fun e w'=>∃g' a,e= .returned (.pointer (some ⟨g',0,none⟩))∧Nt w' g' a K∧Below w.heap.size w w'∧w.heap.size≤g'∧w.heap.size≤a:=by
 have HN:=tt hN
 clear hN
 go_enter Tryz.func28,Tryz.ntmps28
 go_wp2_with fail
 refine (lz w).mono ?_
 rintro e w1 ⟨g',a,rfl,o,hb1,hg1,af⟩
 have W:=tt (HN.out.below hb1)
 have HE:=tt o
 have a3:=tt hb1
 have G:=o.lt
 have P:=HN.out.lt
 have Z:=o.ne
 have L:=hb1.size
 clear o hb1
 obtain⟨D,hD,hs,S⟩:=W.out.own
 obtain⟨D',I,hs',_⟩:=HE.out.own
 have a0:D'= .map []:=by
  obtain⟨es,rfl,_,_⟩:=I.canon nt_law
  have h1:es.length=0:=hs'
  rw[List.length_eq_zero_iff.1 h1]
 subst a0
 have HD:=tt hD
 have a2:=tt I
 have a1:=tt S
 have Hs:=tt hs
 obtain⟨c0,_⟩:=hH W.out
 clear hD I hs hs' S
 go_wp2_with (first|(at_range;refine wpList_range_own _ rfl _ 91 rfl 116 3 nt_law Tryz.underlying91 _ bm K.length D rfl HD.out ?_;intro w0 t hg0 Y))
 go_frame
 go_loopw [4,5] (fun _ _ wr=>∃(left:Lit→Bool) (m:Nat) (f:DataW Unit),Hid (wr.ranges Tryz.prog 116 (plainElem Tryz.prog 3) bm w1.heap.size K.length D left m)∧m≤K.length∧Hid (wr.ownsMap Tryz.prog 116 (plainElem Tryz.prog 3) a (K.length - m) f)∧Hid (Agree f D left)∧Hid (Below w.heap.size w wr)∧Hid (wr.heap[g']? =w1.heap[g']?)) (fun _ _ wr=>wr.rangeLeft bm w1.heap.size)
 case atStart=>
  have M:=Hs.out
  exact⟨_,_,.map [],tt t,by rw[M];exact tJ _,tt (by rw[M,Nat.sub_self];exact a2.out.kept hg0 (by simp)),tt (agree_start D),tt (a3.out.grown hg0 L (fun j hj=>by cases hj)),tt (hg0.block g' G.1 (by simp))⟩
 case round=>
  clear hg0 Y t w0
  obtain⟨left,m,f,U,a9,b,HA,n,HG⟩:=hrel
  go_wp2_with (first|(at_next;refine wpList_next_ranges _ rfl _ rfl 116 nt_law (plainElem Tryz.prog 3) (fun x:Int×ByteArray=>.agg #[.int .i64 x.1,.string x.2]) (Value.int .i64) (fun a5 l h=>by obtain⟨k_,_,e_,_⟩:=mo h;exact⟨(k_.1,aX k_.2),e_⟩) (fun v y hv=>by obtain⟨c_,rfl,_⟩:=plainElem_int_inv Tryz.underlying3 hv;exact⟨c_,rfl⟩) bm w1.heap.size K.length _ _ _ rfl U.out ?_ ?_))
  ·intro al ac
   go_wp2_with fail
   go_ret
   subst al
   have e:=agree_end HA.out ac (b.out.canon nt_law) (HD.out.canon nt_law)
   subst e
   exact⟨g',a,rfl,⟨HG.out.trans HE.out.cell,⟨_,by simpa using b.out,Hs.out,a1.out⟩,HN.out.nd,HN.out.ok⟩,n.out,hg1,af⟩
  ·intro p bs c l yd yp w2 B u aa hy R s hlt A hs1 a8
   have C:=tt s
   have E:=tt u
   have a4:=tt R
   have d:=tt A
   have HY:=tt hy
   clear s u R A hy aa
   go_upto_region 5 with fail
   have k:=ae w2 (.cells #[.int .i64 p,.string bs] 116)
   have i:=tL w2 (.cells #[.int .i64 p,.string bs] 116)
   have q:=World.grownBy_alloc w2 (.cells #[.int .i64 p,.string bs] 116) none
   obtain⟨w3,hw3⟩:∃w3,w2.alloc (.cells #[.int .i64 p,.string bs] 116)=w3:=⟨_,rfl⟩
   rw[hw3] at k i q ⊢
   have O:g'<w2.heap.size:=by have:=n.out.size;have:=(tz (HG.out.trans HE.out.cell)).1;omega
   have Q:g'≠w1.heap.size:=by omega
   have x1:w3.cell? ⟨g',0,none⟩=some (.map (some a)):=by
    have h1:=(k.block g' O).trans ((d.out.block g' (by omega) (fun he=>by injection he with he;exact Q he)).trans (HG.out.trans HE.out.cell))
    exact cell_of_row w3 g' 0 _ _ _ h1▸rfl
   have x2:w3.cell? ⟨wr.heap.size,0,none⟩=some (.int .i64 p):=by rw[←hs1,cell_of_row w3 w2.heap.size 0 _ _ _ i];rfl
   have x3:w3.cell? ⟨wr.heap.size,1,none⟩=some (.string bs):=by rw[←hs1,cell_of_row w3 w2.heap.size 1 _ _ _ i];rfl
   have V:=tt ((b.out.kept d.out (by intro he;injection he with he;have:=G.2;omega)).kept q (by simp))
   have T:=tt (C.out.kept q (by simp) (by simp))
   have J:=tt (((n.out.grown d.out n.out.size (fun j hj=>by injection hj with hj;rw[←hj];exact L)).trans (k.mono (by have:=n.out.size;omega))))
   have X:Hid (w3.heap[g']? =w1.heap[g']?):=tt ((k.block g' O).trans ((d.out.block g' (by omega) (fun he=>by injection he with he;exact Q he)).trans HG.out))
   have bb:=tt i
   clear k i q hw3 b C
   refine bz 6 (by kernel_rfl) (by kernel_rfl) ?_
   simp only[List.take_succ_cons,List.take_zero,tE,List.drop_zero]
   repeat still_step
   refine wpStill_nil ?_
   clear x1 x2 x3
   go_wp2_with (at_mapUpdate;refine wpList_mapUpdate_own _ rfl _ _ _ 91 rfl 116 3 nt_law Tryz.underlying91 _ a (K.length - m) f rfl (show w3.drew.ownsMap _ _ _ _ _ _ from V.out) (by unfold maxLen;omega) _ _ l rfl rfl E.out yd yp HY.out ?_;intro w4 F H;go_frame)
   have N:w3.drew.ranges Tryz.prog 116 (plainElem Tryz.prog 3) bm w1.heap.size K.length D (fun z=>left z&& !z.sameKey l) B:=T.out
   have r:=N.kept H (fun he=>by injection he with he;have:=P.2;omega) (fun he=>by injection he with he;have:=G.2;omega)
   obtain⟨k_,a7,a6,ad⟩:=mo E.out
   refine⟨⟨_,B,_,tt r,by omega,tt (F.mono (by omega)),tt (agree_step HA.out V.out.isMap (by rw[ad];exact pe k_) a4.out),tt (J.out.drew.grown H (by have:=J.out.size;exact this) (fun j hj=>by injection hj with hj;omega)),tt ((H.block g' (by have:=J.out.size;show g'<w3.heap.size;have:=(tz (X.out.trans HE.out.cell)).1;omega) (fun he=>by injection he with he;exact Z he)).trans X.out)⟩,?_⟩
   rw[r.left_eq,U.out.left_eq];exact hlt
theorem jW (S:Nat→Prop) (g:Nat) (l:List Key) (w:World) (hN:Ntr w S g l) (hl:l.length≤1000000):
 Calls Tryz.prog 29 #[.pointer (some ⟨g,0,none⟩)] w fun e w'=>∃(g':Nat) (S':Nat→Prop),e= .returned (.pointer (some ⟨g',0,none⟩))∧Ntr w' S' g' l∧(∀b,S' b→w.heap.size≤b∧b<w'.heap.size)∧Below w.heap.size w w':=by
 obtain⟨vp,vt,h,hp,ht,_⟩:=hN.ex
 obtain⟨Ap,cp,rfl,_,_,_⟩:=ao hp
 obtain⟨At,ct,rfl,_,_,_⟩:=ao ht
 have D:=kz hp
 have C:=kz ht
 have l0:=ab (w:=w.drew) (show w.drew.cell? ⟨g,0,none⟩=some (.slice Ap l.length cp) from by rw[cell_of_row w.drew g 0 _ _ _ h];rfl)
 have l1:=ab (w:=w.drew) (show w.drew.cell? ⟨g,1,none⟩=some (.slice At l.length ct) from by rw[cell_of_row w.drew g 1 _ _ _ h];rfl)
 have z:Hid (Rd w.drew w.drew.heap.size 1 (.slice Ap l.length cp) l.length (l.map fun k=>.int .i64 k.1)):=tt (Rd.of_own hp)
 have y:Hid (Rd w.drew w.drew.heap.size 1 (.slice At l.length ct) l.length (l.map fun k=>.string (aX k.2))):=tt (Rd.of_own ht)
 have v:Hid (∀u∈(l.map fun k=>(.int .i64 k.1:Value)),u.oneCell'=true):=tt fun u hu=>by obtain⟨x,_,rfl⟩:=List.mem_map.1 hu;rfl
 have t:Hid (∀u∈(l.map fun k=>(.string (aX k.2):Value)),u.oneCell'=true):=tt fun u hu=>by obtain⟨x,_,rfl⟩:=List.mem_map.1 hu;rfl
 clear hN h hp ht
 go_enter Tryz.func29,Tryz.ntmps29
 go_wp2_with fail
 refine bX [(true,0),(true,1),(true,2),(true,3),(true,5),(true,6),(true,7),(true,8),(false,4),(false,9)] (by kernel_rfl) (by kernel_rfl) ?_
 simp only[phW,tu,tx,Option.toList,tC,tD,Nat.reduceAdd,tE,List.drop_zero]
 repeat (first|go_big_quiet_step (fail)|quiet_step (fail)|refine wpQuiet_nil ?_)
 clear l0 l1
 go_wp2_with (at_builtin;refine bk intE rfl _ _ rfl w.drew.heap.size _ 0 [] rfl (World.ownsRow_nil _ _ _ _) w.drew.heap.size _ _ _ rfl z.out v.out (by unfold maxLen;omega) (by omega) (tJ _) ?_;intro v1 w1 d hg1 _;have a:Below w.drew.heap.size w.drew w1:=(Below.refl _ _).grown hg1 (tJ _) (fun k hk=>by simp[Act.eval,Value.ownBlock] at hk);clear hg1;rw[Nat.zero_add,List.nil_append] at d;obtain⟨A1,c1,rfl,_,_,_⟩:=ao d)
 refine And.intro ⟨⟨w1,a⟩,rfl⟩ ?_
 have p:=tt ((y.out.below a).more a.size)
 have m:=tt d
 have i:=tt a
 clear d a
 go_wp2_with (at_builtin;refine bk strE rfl _ _ rfl w1.heap.size _ 0 [] rfl (World.ownsRow_nil _ _ _ _) w1.heap.size _ _ _ rfl p.out t.out (by unfold maxLen;omega) (by omega) (tJ _) ?_;intro v2 w2 c o _;have f:Below w1.heap.size w1 w2:=(Below.refl _ _).grown o (tJ _) (fun k hk=>by simp[Act.eval,Value.ownBlock] at hk);clear o;rw[Nat.zero_add,List.nil_append] at c;obtain⟨A2,c2,rfl,_,_,_⟩:=ao c)
 refine And.intro ⟨⟨w2,Below.then i.out f i.out.size⟩,rfl⟩ ?_
 have q:=tt c
 have n:=tt f
 clear c f
 go_wp2_with fail
 go_ret
 have j:=ae w2 (.cells #[.slice A1 l.length c1,.slice A2 l.length c2] 29)
 have s:=tL w2 (.cells #[.slice A1 l.length c1,.slice A2 l.length c2] 29)
 have r:(w2.alloc (.cells #[.slice A1 l.length c1,.slice A2 l.length c2] 29)).heap.size=w2.heap.size+1:=by simp
 have B:w.heap.size≤w1.heap.size:=i.out.size
 have A:=n.out.size
 have hb0:Below w.heap.size w w1:=(show Below w.heap.size w w.drew from (Below.refl _ _).drew).trans i.out
 have o1:=bE (bE m.out n.out) j
 have o2:=bE q.out j
 refine⟨w2.heap.size,fun b=>w.heap.size≤b∧b<w2.heap.size+1,rfl,⟨⟨_,_,s,bA o1 (Nat.zero_le _),bA o2 (Nat.zero_le _),⟨by omega,by omega⟩,fun b hb=>?_,fun b hb=>?_⟩⟩,fun b hb=>⟨hb.1,by rw[r];exact hb.2⟩,(Below.then hb0 n.out hb0.size).trans (j.mono (by omega))⟩
 ·have h1:=m.out.lt b hb
  have h2:w.heap.size≤b:=h1.1
  omega
 ·have h1:=q.out.lt b hb
  refine⟨by omega,by omega,fun he=>?_⟩
  have h2:=(m.out.lt b he).2
  omega
theorem nJ {c:Cf} (hc:c.ok=true):(1≤c.f∧c.f≤4)∧(1≤c.cl∧c.cl≤4)∧(1≤c.re∧c.re≤64):=by
 unfold Cf.ok at hc
 simp only[tI] at hc
 obtain⟨h0,h1,h2,h3,h4,h5,h6,h7,h8,h9,g,e,d,b,a⟩:=hc
 exact⟨(Psp.aN _ _ _).1 h0,(Psp.aN _ _ _).1 h1,(Psp.aN _ _ _).1 a⟩
theorem pO {w W:World} {S:Nat→Prop} {bm:Nat} {a:ActV} (h:kP w (fun b=>b<w.heap.size) a) (hb:Below w.heap.size w W) (hS:∀b,S b→w.heap.size≤b) (c:w.heap.size≤bm):Bk W S bm a.v a.b:=
 ⟨RdP.keeps h ⟨hb.size,fun b hP hlt=>⟨hb.block b hlt,by have:=hb.size;omega,fun hs=>by have:=hS b hs;omega,by omega⟩⟩⟩
theorem iW {w:World} {b o:Nat} {l:List ActV} (h:Lies w b o (l.flatMap gI)) {k:Nat} (hk:k<l.length):w.rangeAt b (o+k*9) (gI l[k]):=by
 intro j v hv
 have hj:j<9:=(List.getElem?_eq_some_iff.1 hv).1
 have h1:=cD (f:=gI) (k:=9) (fun _=>rfl) l k j hj
 rw[tK hk] at h1
 rw[Nat.add_assoc]
 exact h _ v (by rw[h1];exact hv)
theorem lO (a:ActV):(Tryz.prog.info? 82).map (·.size)=some (gI a).length:=by
 show _=some 9
 kernel_rfl
section
variable {W W':World} {S:Nat→Prop} {g bm h k ct rk:Nat} {K L:List Key} {c:Cf} {id:Int} {s:CS} {r:RC}
theorem pD {n m:Nat} (hT:Tv W (fun b=>b=h) g bm h [] []) (hC:Clm W (fun b=>b=k∨b=ct) k ct g c id cs0) (hR:Rcm W (fun b=>b=rk) rk h c id rc0) (h1:g<n∧bm<n∧h<n) (h2:n≤k∧n≤ct) (h3:k<m∧ct<m) (h4:m≤rk):
 Cr W (fun b=>(b=k∨b=ct)∨b=h∨b=rk) g bm h [] [] k ct rk c id cs0 rc0:=by
 have a:=hT.sep
 exact⟨⟨fun b=>b=k∨b=ct,fun b=>b=h,fun b=>b=rk,fun b=>Iff.rfl,⟨hT.nt,hC,by omega,by omega⟩,hT.nr,hR,fun b hb=>⟨by omega,by omega⟩,fun b hb=>by omega,a,⟨by omega,by omega⟩,hT.lt⟩⟩
theorem pF {n0 n1 n2 n3:Nat} {V T U:Nat→Prop} (hN:Nt W g bm K) (hT:Ntr W T h K) (hC:Clm W V k ct g c id s) (hR:Rcm W U rk h c id r) (h0:n0≤g∧n0≤bm∧g<n1∧bm<n1) (h1:∀b,T b→n1≤b∧b<n2) (h2:∀b,V b→n2≤b∧b<n3) (h3:∀b,U b→n3≤b∨b<n0) (h4:n0≤n1∧n1≤n2∧n2≤n3∧n2≤W.heap.size):
 Cr W (fun b=>V b∨T b∨U b) g bm h K K k ct rk c id s r:=
 ⟨⟨V,T,U,fun b=>Iff.rfl,⟨hN,hC,fun hh=>by have:=h2 _ hh;omega,fun hh=>by have:=h2 _ hh;omega⟩,hT,hR,fun b hb=>⟨fun hh=>by have:=h2 _ hb;have:=h1 _ hh;omega,fun hh=>by have:=h2 _ hb;have:=h3 _ hh;omega⟩,fun b hb hh=>by have:=h1 _ hb;have:=h3 _ hh;omega,⟨fun hh=>by have:=h1 _ hh;omega,fun hh=>by have:=h1 _ hh;omega⟩,⟨fun hh=>by have:=h3 _ hh;omega,fun hh=>by have:=h3 _ hh;omega⟩,fun b hb=>by have:=h1 _ hb;omega⟩⟩
structure Fst1 (W:World) (g bm h k ct rk:Nat) (K:List Key) (c:Cf) (id:Int) (s:CS) (vb:Value):Prop where
 ex:∃(V T:Nat→Prop) (Ac:Option Addr) (cc:Nat),Clm W V k ct g c id s∧Nt W g bm K∧Ntr W T h K∧(∀b,T b→b<W.heap.size)∧W.cell? ⟨rk,54,none⟩=some (.slice Ac s.acc.length cc)∧W.ownsRow 0 61 7 (.slice Ac s.acc.length cc) s.acc.length (s.acc.flatMap ev)∧
  ∀b,vb.ownBlock=some b→¬V b∧¬T b∧b≠g∧b≠bm∧b≠rk∧(Value.slice Ac s.acc.length cc).ownBlock≠some b
theorem pE (H:Cr W S g bm h K K k ct rk c id s r) (hacc:r.acc=s.acc):∃(U:Nat→Prop) (Ab:Option Addr) (cb:Nat) (Ai:Option Addr) (ci:Nat) (Ac:Option Addr) (cc:Nat) (Ao:Option Addr) (co:Nat) (Ls:List SendV),
 Rco W U rk h c id r (.slice Ab r.bs.length cb) (.slice Ai r.iss.length ci) (.slice Ac r.acc.length cc) (.slice Ao Ls.length co) Ls∧(∀b,U b→S b)∧Fst1 W g bm h k ct rk K c id s (.slice Ab r.bs.length cb)∧(∃V T:Nat→Prop,Clm W V k ct g c id s∧Ntr W T h K∧(∀b,T b→b<W.heap.size)):=by
 obtain⟨V,T,U,hS,h1,h2,h3,h4,h5,h6,h7,h8⟩:=H.ex
 obtain⟨Ab,cb,Ai,ci,Ac,cc,Ao,co,Ls,ho⟩:=h3.opens
 refine⟨U,Ab,cb,Ai,ci,Ac,cc,Ao,co,Ls,ho,fun b hb=>(hS b).2 (.inr (.inr hb)),⟨V,T,Ac,cc,h1.cm,h1.nt,h2,h8,?_,?_,fun b hb=>?_⟩,V,T,h1.cm,h2,h8⟩
 ·have h9:=am ho.row 54 rfl
  rw[hacc] at h9
  exact h9
 ·have h9:=ho.oc
  rw[hacc] at h9
  exact h9
 ·have hU:=ho.ub b hb
  refine⟨fun hv=>(h4 b hv).2 hU,fun ht=>h5 b ht hU,fun he=>h7.1 (he▸hU),fun he=>h7.2 (he▸hU),aC ho.ob ho.row (by decide) b hb,?_⟩
  have h9:=ho.oc
  rw[hacc] at h9
  exact bC ho.ob h9 (by decide) b hb
theorem Fst1.fp {T0:Nat→Prop} {vb:Value} (H:Fst1 W g bm h k ct rk K c id s vb) (hf:Fp T0 W W') (hT:∀b,b<W.heap.size→T0 b→vb.ownBlock=some b):
 ∃(V:Nat→Prop) (Ac:Option Addr) (cc:Nat) (Ap:Option Addr) (cp:Nat),Clm W' V k ct g c id s∧Nt W' g bm K∧W'.cell? ⟨h,0,none⟩=some (.slice Ap K.length cp)∧W'.cell? ⟨rk,54,none⟩=some (.slice Ac s.acc.length cc)∧Rd W' W'.heap.size 7 (.slice Ac s.acc.length cc) s.acc.length (s.acc.flatMap ev):=by
 obtain⟨V,T,Ac,cc,h1,h2,h3,h4,h5,h6,h7⟩:=H.ex
 have hlt:=h2.lt
 have hV:∀b,V b→¬T0 b:=fun b hb ht=>(h7 b (hT b (h1.lt b hb) ht)).1 hb
 have i:∀b,T b→¬T0 b:=fun b hb ht=>(h7 b (hT b (h4 b hb) ht)).2.1 hb
 have hg:¬T0 g:=fun ht=>(h7 g (hT g hlt.1 ht)).2.2.1 rfl
 have f:¬T0 bm:=fun ht=>(h7 bm (hT bm hlt.2 ht)).2.2.2.1 rfl
 have d:rk<W.heap.size:=World.block_lt_of_cell? W ⟨rk,54,none⟩ h5
 have e:¬T0 rk:=fun ht=>(h7 rk (hT rk d ht)).2.2.2.2.1 rfl
 obtain⟨vp,vt,a,hp,_⟩:=(h3.fp hf i).ex
 obtain⟨Ap,cp,rfl,_,_,_⟩:=ao hp
 refine⟨V,Ac,cc,Ap,cp,h1.fp hf hV,h2.fp hf hg f,am a 0 rfl,?_,?_⟩
 ·rw[hf.cell d e];exact h5
 ·exact Rd.of_own (ar h6 fun b hb=>hf.block b (du h6 hb) fun ht=>(h7 b (hT b (du h6 hb) ht)).2.2.2.2.2 hb)
end
structure Pst (w0 w:World) (S0 S:Nat→Prop) (tb g bm h k ct rk:Nat) (c:Cf) (id:Int) (j:Nat):Prop where
 ex:∃(K:List Key) (s:CS) (r:RC),Cr w S g bm h K K k ct rk c id s r∧Pl c id K s r∧s.out=[]∧Sz j K s
 new:∀b,S b→S0 b∨w0.heap.size≤b
 fp:Fp (fun b=>S0 b∨b=bm) w0 w
 row:Rw w S bm tb (.cells #[.pointer (some ⟨g,0,none⟩),.pointer (some ⟨h,0,none⟩)] 31 (0,0))
theorem Pst.drew {w0 w:World} {S0 S:Nat→Prop} {tb g bm h k ct rk:Nat} {c:Cf} {id:Int} {j:Nat} (H:Pst w0 w S0 S tb g bm h k ct rk c id j):Pst w0 w.drew S0 S tb g bm h k ct rk c id j:=by
 obtain⟨K,s,r,h1,h2,h3,h4⟩:=H.ex
 have hd:Below w.heap.size w w.drew:=(Below.refl _ _).drew
 exact⟨⟨K,s,r,h1.below hd,h2,h3,h4⟩,H.new,H.fp.drew,H.row.below hd⟩
theorem Pst.did {w0 w w':World} {S0 S:Nat→Prop} {tb g bm h k ct rk:Nat} {c:Cf} {id:Int} {j n:Nat} (H:Pst w0 w S0 S tb g bm h k ct rk c id j) (hd:Did S g bm h k ct rk c id n w w'):
 Fp (fun b=>S b∨b=bm) w w'∧∃S',Pst w0 w' S0 S' tb g bm h k ct rk c id n:=by
 obtain⟨S',K',s',r',h1,h2,h3,h4,h5,h6⟩:=hd.ex
 refine⟨h6,S',⟨K',s',r',h1,h2,h3,h4⟩,fun b hb=>?_,H.fp.trans h6 fun b hb=>?_,H.row.seal h6 h5⟩
 ·rcases h5 b hb with h7|h7
  ·exact H.new b h7
  ·have:=H.fp.size;right;omega
 ·rcases hb with hb|hb
  ·rcases H.new b hb with h7|h7
   ·exact .inl (.inl h7)
   ·exact .inr h7
  ·exact .inl (.inr hb)
end Go.Proofs.YtipmjleohadoeaaGreat
end
