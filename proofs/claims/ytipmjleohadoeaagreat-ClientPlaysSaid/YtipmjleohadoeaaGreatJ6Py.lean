import Derived.Test.YtipmjleohadoeaaGreatJ5Py
import Derived.Test.YtipmjleohadoeaaGreatGfPy
import Derived.Test.YtipmjleohadoeaaGreatGgPy
import Derived.Test.YtipmjleohadoeaaGreatGaPy
import Derived.BigQuiet
import Derived.Deep.CutBlock
set_option maxRecDepth 100000
set_option maxHeartbeats 16000000
set_option linter.unusedVariables false
set_option linter.unusedSimpArgs false
section
namespace Go.Proofs.YtipmjleohadoeaaGreat
open Go.RowKit
def lI (d:Psp.Dec Int) (b:List UInt8) (a:Int) (w:World) (e:Ending) (w':World):Prop:=
 (∀n a',d b a=some (n,a')→e= .returned (.tuple #[.int .i64 n,.int .i64 a',.bool true]))∧(d b a=none→e= .returned (.tuple #[.int .i64 0,.int .i64 0,.bool false]))∧w=w'
theorem mJ (b:List UInt8) (x:Value) (a:Int) (w:World) (P:Nat→Prop) (hx:RdP w P 1 x b.length (b.map bv)) (ha:aE a):
 Calls Tryz.prog 59 #[x,.int .i64 a] w (lI dN b a w):=by
 cases h:bT b a with
 |none=>
  refine (ij x b.length b a w hx.to_rd ha.1 ha.2 h).mono ?_
  rintro e w' ⟨rfl,rfl⟩
  exact⟨fun n a' hd=>(by rw[eR h] at hd;cases hd),fun _=>rfl,rfl⟩
 |some p=>
  obtain⟨v,m⟩:=p
  refine (gt x b.length b a v m w hx.to_rd ha.2 h).mono ?_
  rintro e w' ⟨rfl,rfl⟩
  refine⟨fun n a' hd=>?_,fun hd=>(by rw[dy h] at hd;cases hd),rfl⟩
  rw[dy h] at hd
  injection hd with hd
  injection hd with h1 h2
  subst h1 h2
  rfl
theorem rtk_N (b:List UInt8) (x:Value) (a:Int) (w:World) (P:Nat→Prop) (hx:RdP w P 1 x b.length (b.map bv)) (ha:aE a):
 Calls Tryz.prog 103 #[x,.int .i64 a] w (lI dN b a w):=by
 cases h:bT b a with
 |none=>
  refine (iy x b.length b a w hx.to_rd ha.1 ha.2 h).mono ?_
  rintro e w' ⟨rfl,rfl⟩
  exact⟨fun n a' hd=>(by rw[eR h] at hd;cases hd),fun _=>rfl,rfl⟩
 |some p=>
  obtain⟨v,m⟩:=p
  refine (gL x b.length b a v m w hx.to_rd ha.2 h).mono ?_
  rintro e w' ⟨rfl,rfl⟩
  refine⟨fun n a' hd=>?_,fun hd=>(by rw[dy h] at hd;cases hd),rfl⟩
  rw[dy h] at hd
  injection hd with hd
  injection hd with h1 h2
  subst h1 h2
  rfl
theorem tk_S (b:List UInt8) (x:Value) (a:Int) (w:World) (P:Nat→Prop) (hx:RdP w P 1 x b.length (b.map bv)) (ha:aE a):
 Calls Tryz.prog 82 #[x,.int .i64 a] w (lI Psp.dS b a w):=by
 cases h:bT b a with
 |none=>
  refine (nW x b.length b a w hx.to_rd ha.1 ha.2 h).mono ?_
  rintro e w' ⟨rfl,rfl⟩
  exact⟨fun n a' hd=>(by unfold Psp.dS at hd;rw[eR h] at hd;cases hd),fun _=>rfl,rfl⟩
 |some p=>
  obtain⟨v,m⟩:=p
  refine (mK x b.length b a v m w hx.to_rd ha.2 h).mono ?_
  rintro e w' ⟨rfl,rfl⟩
  refine⟨fun n a' hd=>?_,fun hd=>(by unfold Psp.dS at hd;rw[dy h] at hd;cases hd),rfl⟩
  unfold Psp.dS at hd
  rw[dy h] at hd
  injection hd with hd
  injection hd with h1 h2
  subst h1 h2
  rfl
abbrev zs:Array Value:=#[.int .i64 0,.int .i64 0,.int .i64 0,.int .i64 0,.int .i64 0,.int .i64 0,.slice none 0 0,.slice none 0 0,.slice none 0 0,.slice none 0 0]
structure Pc (w0 W:World) (cs:Array Value):Prop where
 vr:W.heap[w0.heap.size+1]? =some (.cells cs 56 (0,0))
 rr:W.heap[w0.heap.size]? =some (.cells zs 56 (0,0))
 be:Below w0.heap.size w0 W
theorem Pc.lt {w0 W:World} {cs:Array Value} (h:Pc w0 W cs):w0.heap.size+1 < W.heap.size:=(tz h.vr).1
theorem Pc.new (w0:World):Pc w0 ((w0.alloc (.cells zs 56)).alloc (.cells zs 56)) zs:=by
 refine⟨?_,?_,(ae w0 _).trans ((ae _ _).mono (by simp))⟩
 ·have:=tL (w0.alloc (.cells zs 56)) (.cells zs 56)
  simpa using this
 ·rw[(ae _ _).block _ (by simp)];exact tL w0 _
theorem Pc.call {w0 W W':World} {cs:Array Value} (h:Pc w0 W cs) (hb:Below W.heap.size W W'):Pc w0 W' cs:=by
 have:=h.lt
 exact⟨(hb.block _ (by omega)).trans h.vr,(hb.block _ (by omega)).trans h.rr,h.be.trans (hb.mono (by omega))⟩
theorem Pc.store {w0 W:World} {cs cs':Array Value} (h:Pc w0 W cs) (i:Nat) (v:Value) (hc:cs.setIfInBounds i v=cs'):Pc w0 (W.setCell ⟨w0.heap.size+1,i,none⟩ v) cs':=by
 refine⟨?_,?_,h.be.setCell (Nat.le_succ _) _⟩
 ·rw[heap_setCell_same W _ i _ _ _ h.vr,hc]
 ·exact (Below.heap_setCell W ⟨w0.heap.size+1,i,none⟩ v _ (by show w0.heap.size≠w0.heap.size+1;omega)).trans h.rr
theorem Pc.cell {w0 W:World} {cs:Array Value} (h:Pc w0 W cs) (i:Nat) {u:Value} (hi:cs[i]? =some u):W.cell? ⟨w0.heap.size+1,i,none⟩=some u∧W.frozen? ⟨w0.heap.size+1,i,none⟩=false:=by
 refine⟨?_,frozen_of_row _ _ i _ _ h.vr⟩
 rw[cell_of_row _ _ i _ _ _ h.vr];exact hi
theorem ax:(Tryz.prog.info? 56).map (·.size)=some 10:=by kernel_rfl
theorem Pc.fin {w0 W:World} {cs:Array Value} (h:Pc w0 W cs) (l:List Value) (hl:l.length=10):
 (W.setCells w0.heap.size 0 l).heap[w0.heap.size]? =some (.cells l.toArray 56 (0,0))∧Below w0.heap.size w0 (W.setCells w0.heap.size 0 l)∧∀b,b≠w0.heap.size→(W.setCells w0.heap.size 0 l).heap[b]? =W.heap[b]?:=by
 obtain⟨h1,h2⟩:=aQ h.rr l hl
 exact⟨h1,bY h.be _ (tJ _) l,h2⟩
def TakenM (b:List UInt8) (w:World) (e:Ending) (w':World):Prop:=
 (∀m,Psp.aY b=some m→∃vb vo vc vp,e= .returned (.tuple #[.agg #[.int .i64 m.k,.int .i64 m.f,.int .i64 m.v,.int .i64 m.i,.int .i64 m.q,.int .i64 m.r,vb,vo,vc,vp],.bool true])∧MsgOk w' (fun k=>w.heap.size≤k) ⟨m,vb,vo,vc,vp⟩)∧
 (Psp.aY b=none→e= .returned (.tuple #[.agg zs,.bool false]))∧Below w.heap.size w w'
end Go.Proofs.YtipmjleohadoeaaGreat
namespace Psp
open Go.Proofs.YtipmjleohadoeaaGreat (dN)
theorem ky {b:List UInt8} (h:b.length≤65536):aY b=(dN b 0).bind fun k=>(dN b k.2).bind fun f=>(dN b f.2).bind fun v=>(dN b v.2).bind fun i=>(dN b i.2).bind fun q=>(dS b q.2).bind fun r=>
 (dL dR b r.2).bind fun l=>(dL dV b l.2).bind fun o=>(dL dC b o.2).bind fun c=>(dL dP b c.2).bind fun p=>if p.2=(b.length:Int) then some ⟨k.1,f.1,v.1,i.1,q.1,r.1,l.1,o.1,c.1,p.1⟩ else none:=by
 unfold aY dM
 simp only[Option.bind_assoc,Option.bind_map,Function.comp_def,h,and_true]
theorem lv {b:List UInt8} (h:¬b.length≤65536):aY b=none:=by
 unfold aY
 simp only[h,and_false,if_false]
 cases dM b 0 <;> rfl
end Psp
end
section
namespace Go.Proofs.YtipmjleohadoeaaGreat
open Go.RowKit
theorem aB {W:World} {g:Nat} {cs:Array Value} {T:TypeId} (h:W.heap[g]? =some (.cells cs T (0,0))):W.rangeAt g 0 cs.toList:=fun j v hv=>by
 rw[Nat.zero_add,cell_of_row _ _ j _ _ _ h];simpa using hv
theorem bd2 {α:Type} {e:α→List UInt8} {ok:α→Bool} {d:Psp.Dec α} (hc:Psp.Codec e ok d) {b:List UInt8} {a a':Int} {x:α} (h:d b a=some (x,a')) (hb:b.length≤65536):aE a':=by have:=hc.bd h;exact⟨by omega,by omega⟩
theorem Keeps.set (N j:Nat) (W:World) (v:Value):Keeps (fun k=>N+1 < k) (fun k=>N+1 < k) W (W.setCell ⟨N+1,j,none⟩ v):=
 ⟨by simp[World.setCell],fun b hb _=>⟨Below.heap_setCell W ⟨N+1,j,none⟩ v b (by show b≠N+1;omega),hb⟩⟩
theorem Keeps.fin {N:Nat} {W W':World} (hs:W.heap.size≤W'.heap.size) (h:∀b,b≠N→W'.heap[b]? =W.heap[b]?):Keeps (fun k=>N+1 < k) (fun k=>N≤k) W W':=⟨hs,fun b hb _=>⟨h b (by omega),by omega⟩⟩
theorem Keeps.into {N M:Nat} {W:World} (h:N+1 < M):Keeps (fun k=>M≤k) (fun k=>N+1 < k) W W:=Keeps.mono fun b _ hb=>by omega
theorem nC (n:Nat) (a:Act) (hs:a.tmps.size=n) (hd:a.defers=[]):a={tmps:=((List.range n).map fun i=>a.tmps.getD i undef).toArray,defers:=[]}:=by
 obtain⟨t,d⟩:=a
 simp only at hs hd ⊢
 subst hd
 congr 1
 apply Array.ext
 ·simp[hs]
 ·intro i h1 h2
  simp[Array.getD,h1]
def JP (b:List UInt8) (w:World) (lab:Nat) (a':Act) (w':World):Prop:=lab=0∧Psp.aY b=none∧(∃cs,Pc w w' cs)∧a'.tmps.size=118∧a'.tmps.getD 2 undef= .pointer (some ⟨w.heap.size,0,none⟩)∧a'.defers=[]
theorem ma (b:List UInt8) (x:Value) (w:World) (hx:RdP w (fun k=>k < w.heap.size) 1 x b.length (b.map bv)):
 Calls Tryz.prog 60 #[x] w (TakenM b w):=by
 obtain⟨_,A,c,rfl,E,D,_⟩:=hx.parts
 have HX:=tt hx
 have hP:=Pc.new w
 have HP:=tt hP
 clear hx hP
 have za:aE 0:=⟨by omega,by omega⟩
 go_enter Tryz.func60,Tryz.ntmps60
 go_wp2_with fail
 refine ce (fun B a' w'=>JP b w B a' w') (fun _ _ _=>0) ?_ ?_
 ·rintro B a' w' ⟨rfl,hn,⟨cs,hp⟩,hs,h2,hd⟩
  obtain⟨f,hf,rfl⟩:∃f:Nat→Value,f 2= .pointer (some ⟨w.heap.size,0,none⟩)∧a'={tmps:=#[f 0,f 1,f 2,f 3,f 4,f 5,f 6,f 7,f 8,f 9,f 10,f 11,f 12,f 13,f 14,f 15,f 16,f 17,f 18,f 19,f 20,f 21,f 22,f 23,f 24,f 25,f 26,f 27,f 28,f 29,f 30,f 31,f 32,f 33,f 34,f 35,f 36,f 37,f 38,f 39,f 40,f 41,f 42,f 43,f 44,f 45,f 46,f 47,f 48,f 49,f 50,f 51,f 52,f 53,f 54,f 55,f 56,f 57,f 58,f 59,f 60,f 61,f 62,f 63,f 64,f 65,f 66,f 67,f 68,f 69,f 70,f 71,f 72,f 73,f 74,f 75,f 76,f 77,f 78,f 79,f 80,f 81,f 82,f 83,f 84,f 85,f 86,f 87,f 88,f 89,f 90,f 91,f 92,f 93,f 94,f 95,f 96,f 97,f 98,f 99,f 100,f 101,f 102,f 103,f 104,f 105,f 106,f 107,f 108,f 109,f 110,f 111,f 112,f 113,f 114,f 115,f 116,f 117],defers:=[]}:=⟨fun i=>a'.tmps.getD i undef,h2,nC 118 a' hs hd⟩
  rw[hf]
  clear hs h2 hd hf
  refine⟨_,rfl,?_⟩
  have Hn:=tt hn
  have HP:=tt hp
  clear hn hp HX za
  have t:=tt (au HP.out.rr)
  obtain⟨t1,t2,_⟩:=HP.out.fin zs.toList rfl
  have T1:=tt t1
  have T2:=tt t2
  clear t1 t2
  go_wp2_with (first|(refine wpList_store_mid rfl 56 (.tmp 2) (.tmp 117) rfl w.heap.size 0 zs rfl rfl t.out ax (by simp[Value.oneCell']) ?_))
  refine bodyPost_ret (v:=.tuple #[.agg zs,.bool false]) ?_ rfl ?_
  ·exact aI Tryz.results60 _ _ w.heap.size _ _ _ _ rfl T1.out Tryz.underlying56 rfl ax
  ·exact⟨fun m h=>(by rw[Hn.out] at h;cases h),fun _=>rfl,T2.out⟩
 intro _
 by_cases d:b.length≤65536
 case' neg=>
  have Hn:=tt (Psp.lv d)
  have d0:decide ((b.length:Int) > 65536)=true:=by simp;omega
  clear za
  go_wp2_with fail
  go_step3
  exact⟨rfl,Hn.out,⟨_,HP.out⟩,rfl,rfl,rfl⟩
 have Hc:=tt (Psp.ky d)
 have d0:decide ((b.length:Int) > 65536)=false:=by simp;omega
 obtain⟨W0,hW0⟩:∃W0,(w.alloc (.cells zs 56)).alloc (.cells zs 56)=W0:=⟨_,rfl⟩
 rw[hW0] at HP
 go_wp2_with fail
 clear hW0
 refine (mJ b _ 0 W0 _ (HX.out.keeps (Keeps.on HP.out.be)) za).mono ?_
 rintro e wa ⟨g1,g2,rfl⟩
 obtain⟨k0,y0⟩:=HP.out.cell 0 (u:=.int .i64 0) rfl
 rcases hd:dN b 0 with _|⟨n0,a0⟩
 ·obtain rfl:=g2 hd
  have Hn:Hid (Psp.aY b=none):=tt (by have:=Hc.out;rw[hd] at this;exact this)
  replace HP:=tt (HP.out.store 0 (.int .i64 0) (cs':=#[.int .i64 0,.int .i64 0,.int .i64 0,.int .i64 0,.int .i64 0,.int .i64 0,.slice none 0 0,.slice none 0 0,.slice none 0 0,.slice none 0 0]) rfl)
  clear g1 g2 hd Hc HX za
  obtain⟨WF,hW1⟩:∃Wx,W0.setCell ⟨w.heap.size+1,0,none⟩ (.int .i64 0)=Wx:=⟨_,rfl⟩
  rw[hW1] at HP
  go_wp2_with fail
  go_step3
  exact⟨rfl,Hn.out,⟨_,HP.out⟩,rfl,rfl,rfl⟩
 obtain rfl:=g1 _ _ hd
 have hc:=Hc.out
 rw[hd,Option.bind_some] at hc
 dsimp only at hc
 replace Hc:=tt hc
 replace za:aE a0:=bd2 codec_N hd d
 clear hc hd g1 g2
 replace HP:=tt (HP.out.store 0 (.int .i64 n0) (cs':=#[.int .i64 n0,.int .i64 0,.int .i64 0,.int .i64 0,.int .i64 0,.int .i64 0,.slice none 0 0,.slice none 0 0,.slice none 0 0,.slice none 0 0]) rfl)
 obtain⟨W1,hW⟩:∃Wx,W0.setCell ⟨w.heap.size+1,0,none⟩ (.int .i64 n0)=Wx:=⟨_,rfl⟩
 rw[hW] at HP
 go_wp2_with fail
 clear k0 y0
 try clear hW
 refine (mJ b _ a0 W1 _ (HX.out.keeps (Keeps.on HP.out.be)) za).mono ?_
 rintro e wa ⟨g1,g2,rfl⟩
 obtain⟨k1,y1⟩:=HP.out.cell 1 (u:=.int .i64 0) rfl
 rcases hd:dN b a0 with _|⟨n1,a1⟩
 ·obtain rfl:=g2 hd
  have Hn:Hid (Psp.aY b=none):=tt (by have:=Hc.out;rw[hd] at this;exact this)
  replace HP:=tt (HP.out.store 1 (.int .i64 0) (cs':=#[.int .i64 n0,.int .i64 0,.int .i64 0,.int .i64 0,.int .i64 0,.int .i64 0,.slice none 0 0,.slice none 0 0,.slice none 0 0,.slice none 0 0]) rfl)
  clear g1 g2 hd Hc HX za
  obtain⟨WF,hW1⟩:∃Wx,W1.setCell ⟨w.heap.size+1,1,none⟩ (.int .i64 0)=Wx:=⟨_,rfl⟩
  rw[hW1] at HP
  go_wp2_with fail
  go_step3
  exact⟨rfl,Hn.out,⟨_,HP.out⟩,rfl,rfl,rfl⟩
 obtain rfl:=g1 _ _ hd
 have hc:=Hc.out
 rw[hd,Option.bind_some] at hc
 dsimp only at hc
 replace Hc:=tt hc
 replace za:aE a1:=bd2 codec_N hd d
 clear hc hd g1 g2
 replace HP:=tt (HP.out.store 1 (.int .i64 n1) (cs':=#[.int .i64 n0,.int .i64 n1,.int .i64 0,.int .i64 0,.int .i64 0,.int .i64 0,.slice none 0 0,.slice none 0 0,.slice none 0 0,.slice none 0 0]) rfl)
 obtain⟨W2,hW⟩:∃Wx,W1.setCell ⟨w.heap.size+1,1,none⟩ (.int .i64 n1)=Wx:=⟨_,rfl⟩
 rw[hW] at HP
 go_wp2_with fail
 clear k1 y1
 try clear hW
 refine (mJ b _ a1 W2 _ (HX.out.keeps (Keeps.on HP.out.be)) za).mono ?_
 rintro e wa ⟨g1,g2,rfl⟩
 obtain⟨k2,y2⟩:=HP.out.cell 2 (u:=.int .i64 0) rfl
 rcases hd:dN b a1 with _|⟨n2,a2⟩
 ·obtain rfl:=g2 hd
  have Hn:Hid (Psp.aY b=none):=tt (by have:=Hc.out;rw[hd] at this;exact this)
  replace HP:=tt (HP.out.store 2 (.int .i64 0) (cs':=#[.int .i64 n0,.int .i64 n1,.int .i64 0,.int .i64 0,.int .i64 0,.int .i64 0,.slice none 0 0,.slice none 0 0,.slice none 0 0,.slice none 0 0]) rfl)
  clear g1 g2 hd Hc HX za
  obtain⟨WF,hW1⟩:∃Wx,W2.setCell ⟨w.heap.size+1,2,none⟩ (.int .i64 0)=Wx:=⟨_,rfl⟩
  rw[hW1] at HP
  go_wp2_with fail
  go_step3
  exact⟨rfl,Hn.out,⟨_,HP.out⟩,rfl,rfl,rfl⟩
 obtain rfl:=g1 _ _ hd
 have hc:=Hc.out
 rw[hd,Option.bind_some] at hc
 dsimp only at hc
 replace Hc:=tt hc
 replace za:aE a2:=bd2 codec_N hd d
 clear hc hd g1 g2
 replace HP:=tt (HP.out.store 2 (.int .i64 n2) (cs':=#[.int .i64 n0,.int .i64 n1,.int .i64 n2,.int .i64 0,.int .i64 0,.int .i64 0,.slice none 0 0,.slice none 0 0,.slice none 0 0,.slice none 0 0]) rfl)
 obtain⟨W3,hW⟩:∃Wx,W2.setCell ⟨w.heap.size+1,2,none⟩ (.int .i64 n2)=Wx:=⟨_,rfl⟩
 rw[hW] at HP
 go_wp2_with fail
 clear k2 y2
 try clear hW
 refine (mJ b _ a2 W3 _ (HX.out.keeps (Keeps.on HP.out.be)) za).mono ?_
 rintro e wa ⟨g1,g2,rfl⟩
 obtain⟨k3,y3⟩:=HP.out.cell 3 (u:=.int .i64 0) rfl
 rcases hd:dN b a2 with _|⟨n3,a3⟩
 ·obtain rfl:=g2 hd
  have Hn:Hid (Psp.aY b=none):=tt (by have:=Hc.out;rw[hd] at this;exact this)
  replace HP:=tt (HP.out.store 3 (.int .i64 0) (cs':=#[.int .i64 n0,.int .i64 n1,.int .i64 n2,.int .i64 0,.int .i64 0,.int .i64 0,.slice none 0 0,.slice none 0 0,.slice none 0 0,.slice none 0 0]) rfl)
  clear g1 g2 hd Hc HX za
  obtain⟨WF,hW1⟩:∃Wx,W3.setCell ⟨w.heap.size+1,3,none⟩ (.int .i64 0)=Wx:=⟨_,rfl⟩
  rw[hW1] at HP
  go_wp2_with fail
  go_step3
  exact⟨rfl,Hn.out,⟨_,HP.out⟩,rfl,rfl,rfl⟩
 obtain rfl:=g1 _ _ hd
 have hc:=Hc.out
 rw[hd,Option.bind_some] at hc
 dsimp only at hc
 replace Hc:=tt hc
 replace za:aE a3:=bd2 codec_N hd d
 clear hc hd g1 g2
 replace HP:=tt (HP.out.store 3 (.int .i64 n3) (cs':=#[.int .i64 n0,.int .i64 n1,.int .i64 n2,.int .i64 n3,.int .i64 0,.int .i64 0,.slice none 0 0,.slice none 0 0,.slice none 0 0,.slice none 0 0]) rfl)
 obtain⟨W4,hW⟩:∃Wx,W3.setCell ⟨w.heap.size+1,3,none⟩ (.int .i64 n3)=Wx:=⟨_,rfl⟩
 rw[hW] at HP
 go_wp2_with fail
 clear k3 y3
 try clear hW
 refine (mJ b _ a3 W4 _ (HX.out.keeps (Keeps.on HP.out.be)) za).mono ?_
 rintro e wa ⟨g1,g2,rfl⟩
 obtain⟨k4,y4⟩:=HP.out.cell 4 (u:=.int .i64 0) rfl
 rcases hd:dN b a3 with _|⟨n4,a4⟩
 ·obtain rfl:=g2 hd
  have Hn:Hid (Psp.aY b=none):=tt (by have:=Hc.out;rw[hd] at this;exact this)
  replace HP:=tt (HP.out.store 4 (.int .i64 0) (cs':=#[.int .i64 n0,.int .i64 n1,.int .i64 n2,.int .i64 n3,.int .i64 0,.int .i64 0,.slice none 0 0,.slice none 0 0,.slice none 0 0,.slice none 0 0]) rfl)
  clear g1 g2 hd Hc HX za
  obtain⟨WF,hW1⟩:∃Wx,W4.setCell ⟨w.heap.size+1,4,none⟩ (.int .i64 0)=Wx:=⟨_,rfl⟩
  rw[hW1] at HP
  go_wp2_with fail
  go_step3
  exact⟨rfl,Hn.out,⟨_,HP.out⟩,rfl,rfl,rfl⟩
 obtain rfl:=g1 _ _ hd
 have hc:=Hc.out
 rw[hd,Option.bind_some] at hc
 dsimp only at hc
 replace Hc:=tt hc
 replace za:aE a4:=bd2 codec_N hd d
 clear hc hd g1 g2
 replace HP:=tt (HP.out.store 4 (.int .i64 n4) (cs':=#[.int .i64 n0,.int .i64 n1,.int .i64 n2,.int .i64 n3,.int .i64 n4,.int .i64 0,.slice none 0 0,.slice none 0 0,.slice none 0 0,.slice none 0 0]) rfl)
 obtain⟨W5,hW⟩:∃Wx,W4.setCell ⟨w.heap.size+1,4,none⟩ (.int .i64 n4)=Wx:=⟨_,rfl⟩
 rw[hW] at HP
 go_wp2_with fail
 clear k4 y4
 try clear hW
 refine (tk_S b _ a4 W5 _ (HX.out.keeps (Keeps.on HP.out.be)) za).mono ?_
 rintro e wa ⟨g1,g2,rfl⟩
 obtain⟨k5,y5⟩:=HP.out.cell 5 (u:=.int .i64 0) rfl
 rcases hd:Psp.dS b a4 with _|⟨n5,a5⟩
 ·obtain rfl:=g2 hd
  have Hn:Hid (Psp.aY b=none):=tt (by have:=Hc.out;rw[hd] at this;exact this)
  replace HP:=tt (HP.out.store 5 (.int .i64 0) (cs':=#[.int .i64 n0,.int .i64 n1,.int .i64 n2,.int .i64 n3,.int .i64 n4,.int .i64 0,.slice none 0 0,.slice none 0 0,.slice none 0 0,.slice none 0 0]) rfl)
  clear g1 g2 hd Hc HX za
  obtain⟨WF,hW1⟩:∃Wx,W5.setCell ⟨w.heap.size+1,5,none⟩ (.int .i64 0)=Wx:=⟨_,rfl⟩
  rw[hW1] at HP
  go_wp2_with fail
  go_step3
  exact⟨rfl,Hn.out,⟨_,HP.out⟩,rfl,rfl,rfl⟩
 obtain rfl:=g1 _ _ hd
 have hc:=Hc.out
 rw[hd,Option.bind_some] at hc
 dsimp only at hc
 replace Hc:=tt hc
 replace za:aE a5:=bd2 Psp.ka hd d
 clear hc hd g1 g2
 replace HP:=tt (HP.out.store 5 (.int .i64 n5) (cs':=#[.int .i64 n0,.int .i64 n1,.int .i64 n2,.int .i64 n3,.int .i64 n4,.int .i64 n5,.slice none 0 0,.slice none 0 0,.slice none 0 0,.slice none 0 0]) rfl)
 obtain⟨W6,hW⟩:∃Wx,W5.setCell ⟨w.heap.size+1,5,none⟩ (.int .i64 n5)=Wx:=⟨_,rfl⟩
 rw[hW] at HP
 go_wp2_with fail
 clear k5 y5
 try clear hW
 refine (takeR b _ a5 W6 (HX.out.keeps (Keeps.on HP.out.be)) za).mono ?_
 rintro e z ⟨g1,g2,g3⟩
 have p:=HP.out.lt
 replace HP:=tt (HP.out.call g3)
 clear g3
 obtain⟨k6,y6⟩:=HP.out.cell 6 (u:=.slice none 0 0) rfl
 rcases hd:(Psp.dL Psp.dR) b a5 with _|⟨l6,a6⟩
 ·obtain rfl:=g2 hd
  have Hn:Hid (Psp.aY b=none):=tt (by have:=Hc.out;rw[hd] at this;exact this)
  replace HP:=tt (HP.out.store 6 (.slice none 0 0) (cs':=#[.int .i64 n0,.int .i64 n1,.int .i64 n2,.int .i64 n3,.int .i64 n4,.int .i64 n5,.slice none 0 0,.slice none 0 0,.slice none 0 0,.slice none 0 0]) rfl)
  clear g1 g2 hd Hc HX za p
  obtain⟨WF,hW1⟩:∃Wx,z.setCell ⟨w.heap.size+1,6,none⟩ (.slice none 0 0)=Wx:=⟨_,rfl⟩
  rw[hW1] at HP
  go_wp2_with fail
  go_step3
  exact⟨rfl,Hn.out,⟨_,HP.out⟩,rfl,rfl,rfl⟩
 obtain⟨v6,he,hr⟩:=g1 _ _ hd
 subst he
 obtain⟨_,A6,c6,rfl,_⟩:=RdP.parts (show RdP _ _ 6 v6 l6.length (l6.flatMap rq) from hr)
 have a:=tt (RdR.keeps' hr (Keeps.into p))
 clear hr p
 have hc:=Hc.out
 rw[hd,Option.bind_some] at hc
 dsimp only at hc
 replace Hc:=tt hc
 replace za:aE a6:=bd2 (Psp.cV Psp.kd) hd d
 clear hc hd g1 g2
 replace HP:=tt (HP.out.store 6 (.slice A6 l6.length c6) (cs':=#[.int .i64 n0,.int .i64 n1,.int .i64 n2,.int .i64 n3,.int .i64 n4,.int .i64 n5,.slice A6 l6.length c6,.slice none 0 0,.slice none 0 0,.slice none 0 0]) rfl)
 replace a:=tt (a.out.keeps' (Keeps.set w.heap.size 6 _ (.slice A6 l6.length c6)))
 obtain⟨W7,hW⟩:∃Wx,z.setCell ⟨w.heap.size+1,6,none⟩ (.slice A6 l6.length c6)=Wx:=⟨_,rfl⟩
 rw[hW] at HP a
 go_wp2_with fail
 clear k6 y6
 try clear hW
 refine (takeV b _ a6 W7 (HX.out.keeps (Keeps.on HP.out.be)) za).mono ?_
 rintro e y ⟨g1,g2,g3⟩
 have o:=HP.out.lt
 replace HP:=tt (HP.out.call g3)
 replace a:=tt (a.out.keeps (Keeps.below g3))
 clear g3
 obtain⟨k7,y7⟩:=HP.out.cell 7 (u:=.slice none 0 0) rfl
 rcases hd:(Psp.dL Psp.dV) b a6 with _|⟨l7,a7⟩
 ·obtain rfl:=g2 hd
  have Hn:Hid (Psp.aY b=none):=tt (by have:=Hc.out;rw[hd] at this;exact this)
  replace HP:=tt (HP.out.store 7 (.slice none 0 0) (cs':=#[.int .i64 n0,.int .i64 n1,.int .i64 n2,.int .i64 n3,.int .i64 n4,.int .i64 n5,.slice A6 l6.length c6,.slice none 0 0,.slice none 0 0,.slice none 0 0]) rfl)
  clear g1 g2 hd Hc HX za o
  obtain⟨WF,hW1⟩:∃Wx,y.setCell ⟨w.heap.size+1,7,none⟩ (.slice none 0 0)=Wx:=⟨_,rfl⟩
  rw[hW1] at HP
  go_wp2_with fail
  go_step3
  exact⟨rfl,Hn.out,⟨_,HP.out⟩,rfl,rfl,rfl⟩
 obtain⟨v7,he,hr⟩:=g1 _ _ hd
 subst he
 obtain⟨_,A7,c7,rfl,_⟩:=RdP.parts (show RdP _ _ 2 v7 l7.length (l7.flatMap vt) from hr)
 have g:=tt (RdV.keeps' hr (Keeps.into o))
 clear hr o
 have hc:=Hc.out
 rw[hd,Option.bind_some] at hc
 dsimp only at hc
 replace Hc:=tt hc
 replace za:aE a7:=bd2 (Psp.cV Psp.ia) hd d
 clear hc hd g1 g2
 replace HP:=tt (HP.out.store 7 (.slice A7 l7.length c7) (cs':=#[.int .i64 n0,.int .i64 n1,.int .i64 n2,.int .i64 n3,.int .i64 n4,.int .i64 n5,.slice A6 l6.length c6,.slice A7 l7.length c7,.slice none 0 0,.slice none 0 0]) rfl)
 replace a:=tt (a.out.keeps' (Keeps.set w.heap.size 7 _ (.slice A7 l7.length c7)))
 replace g:=tt (g.out.keeps' (Keeps.set w.heap.size 7 _ (.slice A7 l7.length c7)))
 obtain⟨W8,hW⟩:∃Wx,y.setCell ⟨w.heap.size+1,7,none⟩ (.slice A7 l7.length c7)=Wx:=⟨_,rfl⟩
 rw[hW] at HP a g
 go_wp2_with fail
 clear k7 y7
 try clear hW
 refine (takeC b _ a7 W8 (HX.out.keeps (Keeps.on HP.out.be)) za).mono ?_
 rintro e s ⟨g1,g2,g3⟩
 have n:=HP.out.lt
 replace HP:=tt (HP.out.call g3)
 replace a:=tt (a.out.keeps (Keeps.below g3))
 replace g:=tt (g.out.keeps (Keeps.below g3))
 clear g3
 obtain⟨k8,y8⟩:=HP.out.cell 8 (u:=.slice none 0 0) rfl
 rcases hd:(Psp.dL Psp.dC) b a7 with _|⟨l8,a8⟩
 ·obtain rfl:=g2 hd
  have Hn:Hid (Psp.aY b=none):=tt (by have:=Hc.out;rw[hd] at this;exact this)
  replace HP:=tt (HP.out.store 8 (.slice none 0 0) (cs':=#[.int .i64 n0,.int .i64 n1,.int .i64 n2,.int .i64 n3,.int .i64 n4,.int .i64 n5,.slice A6 l6.length c6,.slice A7 l7.length c7,.slice none 0 0,.slice none 0 0]) rfl)
  clear g1 g2 hd Hc HX za n
  obtain⟨WF,hW1⟩:∃Wx,s.setCell ⟨w.heap.size+1,8,none⟩ (.slice none 0 0)=Wx:=⟨_,rfl⟩
  rw[hW1] at HP
  go_wp2_with fail
  go_step3
  exact⟨rfl,Hn.out,⟨_,HP.out⟩,rfl,rfl,rfl⟩
 obtain⟨v8,he,hr⟩:=g1 _ _ hd
 subst he
 obtain⟨L8,r1,r2,r3⟩:=hr
 obtain⟨_,A8,c8,rfl,_⟩:=r2.parts
 have hr:RdC s _ (.slice A8 L8.length c8) l8:=⟨L8,r1,r2,r3⟩
 clear r1 r2 r3
 have j:=tt (RdC.keeps hr (Keeps.into n))
 clear hr n
 have hc:=Hc.out
 rw[hd,Option.bind_some] at hc
 dsimp only at hc
 replace Hc:=tt hc
 replace za:aE a8:=bd2 (Psp.cV Psp.ke) hd d
 clear hc hd g1 g2
 replace HP:=tt (HP.out.store 8 (.slice A8 L8.length c8) (cs':=#[.int .i64 n0,.int .i64 n1,.int .i64 n2,.int .i64 n3,.int .i64 n4,.int .i64 n5,.slice A6 l6.length c6,.slice A7 l7.length c7,.slice A8 L8.length c8,.slice none 0 0]) rfl)
 replace a:=tt (a.out.keeps' (Keeps.set w.heap.size 8 _ (.slice A8 L8.length c8)))
 replace g:=tt (g.out.keeps' (Keeps.set w.heap.size 8 _ (.slice A8 L8.length c8)))
 replace j:=tt (j.out.keeps (Keeps.set w.heap.size 8 _ (.slice A8 L8.length c8)))
 obtain⟨W9,hW⟩:∃Wx,s.setCell ⟨w.heap.size+1,8,none⟩ (.slice A8 L8.length c8)=Wx:=⟨_,rfl⟩
 rw[hW] at HP a g j
 go_wp2_with fail
 clear k8 y8
 try clear hW
 refine (takeP b _ a8 W9 (HX.out.keeps (Keeps.on HP.out.be)) za).mono ?_
 rintro e r ⟨g1,g2,g3⟩
 have l:=HP.out.lt
 replace HP:=tt (HP.out.call g3)
 replace a:=tt (a.out.keeps (Keeps.below g3))
 replace g:=tt (g.out.keeps (Keeps.below g3))
 replace j:=tt (j.out.keeps (Keeps.below g3))
 clear g3
 obtain⟨k9,y9⟩:=HP.out.cell 9 (u:=.slice none 0 0) rfl
 rcases hd:(Psp.dL Psp.dP) b a8 with _|⟨l9,a9⟩
 ·obtain rfl:=g2 hd
  have Hn:Hid (Psp.aY b=none):=tt (by have:=Hc.out;rw[hd] at this;exact this)
  replace HP:=tt (HP.out.store 9 (.slice none 0 0) (cs':=#[.int .i64 n0,.int .i64 n1,.int .i64 n2,.int .i64 n3,.int .i64 n4,.int .i64 n5,.slice A6 l6.length c6,.slice A7 l7.length c7,.slice A8 L8.length c8,.slice none 0 0]) rfl)
  clear g1 g2 hd Hc HX za l
  obtain⟨WF,hW1⟩:∃Wx,r.setCell ⟨w.heap.size+1,9,none⟩ (.slice none 0 0)=Wx:=⟨_,rfl⟩
  rw[hW1] at HP
  go_wp2_with fail
  go_step3
  exact⟨rfl,Hn.out,⟨_,HP.out⟩,rfl,rfl,rfl⟩
 obtain⟨v9,he,hr⟩:=g1 _ _ hd
 subst he
 obtain⟨L9,r1,r2,r3⟩:=hr
 obtain⟨_,A9,c9,rfl,_⟩:=r2.parts
 have hr:RdA r _ (.slice A9 L9.length c9) l9:=⟨L9,r1,r2,r3⟩
 clear r1 r2 r3
 have q:=tt (RdA.keeps hr (Keeps.into l))
 clear hr l
 have hc:=Hc.out
 rw[hd,Option.bind_some] at hc
 dsimp only at hc
 replace Hc:=tt hc
 replace za:aE a9:=bd2 (Psp.cV Psp.mu) hd d
 clear hc hd g1 g2
 replace HP:=tt (HP.out.store 9 (.slice A9 L9.length c9) (cs':=#[.int .i64 n0,.int .i64 n1,.int .i64 n2,.int .i64 n3,.int .i64 n4,.int .i64 n5,.slice A6 l6.length c6,.slice A7 l7.length c7,.slice A8 L8.length c8,.slice A9 L9.length c9]) rfl)
 replace a:=tt (a.out.keeps' (Keeps.set w.heap.size 9 _ (.slice A9 L9.length c9)))
 replace g:=tt (g.out.keeps' (Keeps.set w.heap.size 9 _ (.slice A9 L9.length c9)))
 replace j:=tt (j.out.keeps (Keeps.set w.heap.size 9 _ (.slice A9 L9.length c9)))
 replace q:=tt (q.out.keeps (Keeps.set w.heap.size 9 _ (.slice A9 L9.length c9)))
 obtain⟨W10,hW⟩:∃Wx,r.setCell ⟨w.heap.size+1,9,none⟩ (.slice A9 L9.length c9)=Wx:=⟨_,rfl⟩
 rw[hW] at HP a g j q
 by_cases he:a9=(b.length:Int)
 case' neg=>
  have d9:(a9 != (b.length:Int))=true:=by rw[bne_iff_ne];exact he
  have C:decide (a9≠(b.length:Int))=true:=tB he
  have Hn:Hid (Psp.aY b=none):=tt (by rw[Hc.out];exact if_neg he)
  clear Hc HX za he
  go_wp2_with fail
  go_step3
  exact⟨rfl,Hn.out,⟨_,HP.out⟩,rfl,rfl,rfl⟩
 have d9:(a9 != (b.length:Int))=false:=by rw[he];simp
 have C:decide (a9≠(b.length:Int))=false:=by rw[he];simp
 have Hy:Hid (Psp.aY b=some ⟨n0,n1,n2,n3,n4,n5,l6,l7,l8,l9⟩):=tt (by rw[Hc.out];exact if_pos he)
 clear Hc HX za he
 have x0:=(HP.out.cell 0 (u:=.int .i64 n0) rfl).1
 have x1:=(HP.out.cell 1 (u:=.int .i64 n1) rfl).1
 have x2:=(HP.out.cell 2 (u:=.int .i64 n2) rfl).1
 have x3:=(HP.out.cell 3 (u:=.int .i64 n3) rfl).1
 have x4:=(HP.out.cell 4 (u:=.int .i64 n4) rfl).1
 have x5:=(HP.out.cell 5 (u:=.int .i64 n5) rfl).1
 have x6:=(HP.out.cell 6 (u:=.slice A6 l6.length c6) rfl).1
 have x7:=(HP.out.cell 7 (u:=.slice A7 l7.length c7) rfl).1
 have x8:=(HP.out.cell 8 (u:=.slice A8 L8.length c8) rfl).1
 have x9:=(HP.out.cell 9 (u:=.slice A9 L9.length c9) rfl).1
 have t:=tt (au HP.out.rr)
 obtain⟨t1,t2,t3⟩:=HP.out.fin [.int .i64 n0,.int .i64 n1,.int .i64 n2,.int .i64 n3,.int .i64 n4,.int .i64 n5,.slice A6 l6.length c6,.slice A7 l7.length c7,.slice A8 L8.length c8,.slice A9 L9.length c9] rfl
 have HK:=tt (Keeps.fin (N:=w.heap.size) ((Fp.refl (fun _=>True) W10).setCells (Or.inl trivial) _).size t3)
 have T1:=tt t1
 have T2:=tt t2
 clear t1 t2 t3
 go_wp2_with (first|(refine wpList_store_mid rfl 56 (.tmp 2) (.tmp 116) rfl w.heap.size 0 #[.int .i64 n0,.int .i64 n1,.int .i64 n2,.int .i64 n3,.int .i64 n4,.int .i64 n5,.slice A6 l6.length c6,.slice A7 l7.length c7,.slice A8 L8.length c8,.slice A9 L9.length c9] rfl rfl t.out ax (by simp[Value.oneCell']) ?_))
 rw[hop_ret]
 refine bodyPost_ret (v:=.tuple #[.agg #[.int .i64 n0,.int .i64 n1,.int .i64 n2,.int .i64 n3,.int .i64 n4,.int .i64 n5,.slice A6 l6.length c6,.slice A7 l7.length c7,.slice A8 L8.length c8,.slice A9 L9.length c9],.bool true]) ?_ rfl ?_
 ·exact aI Tryz.results60 _ _ w.heap.size _ _ _ _ rfl T1.out Tryz.underlying56 rfl ax
 ·refine⟨fun m h=>?_,fun h=>(by rw[Hy.out] at h;cases h),T2.out⟩
  rw[Hy.out] at h
  injection h with h
  subst h
  exact⟨_,_,_,_,rfl,MsgOk.keeps ⟨a.out,g.out,j.out,q.out⟩ HK.out⟩
theorem br (n lo hi:Int) (w:World):Calls Tryz.prog 93 #[.int .i64 n,.int .i64 lo,.int .i64 hi] w fun e w'=>e= .returned (.bool (Psp.win n lo hi))∧w=w':=by
 by_cases h1:lo≤n
 ·have d1:decide (n≥lo)=true:=tB h1
  by_cases h2:n≤hi
  ·go_enter Tryz.func93,Tryz.ntmps93
   go_wp2_with fail
   go_ret
   exact⟨by simp[Psp.win,h1,h2],rfl⟩
  ·go_enter Tryz.func93,Tryz.ntmps93
   go_wp2_with fail
   go_ret
   exact⟨by simp[Psp.win,h2],rfl⟩
 ·have d1:decide (n≥lo)=false:=tA h1
  go_enter Tryz.func93,Tryz.ntmps93
  go_wp2_with fail
  go_ret
  exact⟨by rw[(Psp.dm n lo hi).2 (by omega)];rfl,rfl⟩
theorem oX {l:List Int} {k:Nat} {x:Int} (hx:l[k]? =some x) (h:x≠0):Psp.noB l=false:=Psp.eU hx (by simpa using h)
theorem fz (l:List Int) (b n:Nat) (w:World) (hn:l.length=n) (hl:Lies w b 0 (l.map iv)) (c:n≤10):Calls Tryz.prog 87 #[.slice (some ⟨b,0,none⟩) n n] w fun e w'=>e= .returned (.bool (Psp.noB l))∧w=w':=by
 have Hn:=tt hn
 have Hl:=tt hl
 clear hn hl
 go_enter Tryz.func87,Tryz.ntmps87
 go_wp2_with fail
 go_loopw [7] (fun i wr=>∃k:Nat,i= .int .i64 (k:Int)∧k≤n∧wr=w∧Hid (∀j x,j < k→l[j]? =some x→x=0)) (fun i _=>n - (intOf i).toNat)
 case atStart=>exact⟨0,rfl,Nat.zero_le _,rfl,tt fun j x h=>by omega⟩
 case round=>
  obtain⟨k,rfl,hk,rfl,HI⟩:=hrel
  by_cases hlt:k < n
  ·obtain⟨x,hx⟩:∃x,l[k]? =some x:=⟨_,tK (by rw[Hn.out];exact hlt)⟩
   have hc:wr.cell? ⟨b,k,none⟩=some (.int .i64 x):=by
    have:=Hl.out k (iv x) (by rw[List.getElem?_map,hx];rfl)
    rwa [Nat.zero_add] at this
   have Hx:=tt hx
   clear hx
   by_cases h0:x=0
   ·have d1:(x != 0)=false:=by rw[h0];rfl
    have a:Hid (∀j y,j < k+1→l[j]? =some y→y=0):=tt fun j y hj hy=>by
     by_cases he:j=k
     ·subst he;rw[Hx.out] at hy;injection hy with hy;omega
     ·exact HI.out j y (by omega) hy
    clear HI Hx h0
    go_wp2_with fail
    go_roundw
    case rel=>exact⟨k+1,by go_num,by omega,(by first|rfl|trivial),a⟩
    case measure=>simp[intOf];omega
   ·have d1:(x != 0)=true:=by rw[bne_iff_ne];exact h0
    have Hf:=tt (oX Hx.out h0)
    clear HI Hx h0
    go_wp2_with fail
    go_ret
    exact⟨by rw[Hf.out];rfl,rfl⟩
  ·obtain rfl:k=n:=by omega
   have Hf:Hid (Psp.noB l=true):=tt (Psp.eu fun j hj x hx=>by have:=HI.out j x (by rw[←Hn.out];exact hj) hx;rw[this];rfl)
   clear HI
   go_wp2_with fail
   go_ret
   exact⟨by rw[Hf.out];rfl,rfl⟩
theorem cC (n f cl:Int) (w:World):Calls Tryz.prog 90 #[.agg #[.int .i64 f,.int .i64 cl],.int .i64 n] w fun e w'=>e= .returned (.bool (Psp.bB n f))∧Below w.heap.size w w':=by
 obtain⟨z0,z1⟩:=Psp.cd f
 have Hf:Hid (Psp.bB n f=Psp.win n 0 (Psp.aO f - 1)):=tt rfl
 obtain⟨q,hq⟩:∃q,Psp.aO f=q:=⟨_,rfl⟩
 rw[hq] at z0 z1 Hf
 have hb:=ae w (.cells #[.int .i64 f,.int .i64 cl] 153)
 have Hb:=tt hb
 have hn:=bg f
 rw[hq] at hn
 have Hn:=tt hn
 clear hq hb hn
 go_enter Tryz.func90,Tryz.ntmps90
 go_wp2_with (first|(go_at_call 58;refine (Hn.out _).mono ?_;rintro e w' ⟨rfl,rfl⟩)|(go_at_call 93;refine (br _ _ _ _).mono ?_;rintro e w' ⟨rfl,rfl⟩))
 go_ret
 exact⟨by rw[Hf.out];rfl,Hb.out⟩
theorem fx (v i q f cl:Int) (w:World):Calls Tryz.prog 91 #[.agg #[.int .i64 f,.int .i64 cl],.int .i64 v,.int .i64 i,.int .i64 q] w fun e w'=>e= .returned (.bool (Psp.cH v i q f))∧Below w.heap.size w w':=by
 have Hb:=tt (ae w (.cells #[.int .i64 f,.int .i64 cl] 153))
 cases h1:Psp.win v 0 12 with
 |false=>
  go_enter Tryz.func91,Tryz.ntmps91
  go_wp2_with (first|(go_at_call 93;refine (br _ _ _ _).mono ?_;rintro e w' ⟨rfl,rfl⟩))
  go_ret
  exact⟨by rw[Psp.cH,h1];rfl,Hb.out⟩
 |true=>
  cases h2:Psp.win i 0 f with
  |false=>
   go_enter Tryz.func91,Tryz.ntmps91
   go_wp2_with (first|(go_at_call 93;refine (br _ _ _ _).mono ?_;rintro e w' ⟨rfl,rfl⟩))
   go_ret
   exact⟨by rw[Psp.cH,h1,h2];rfl,Hb.out⟩
  |true=>
   go_enter Tryz.func91,Tryz.ntmps91
   go_wp2_with (first|(go_at_call 93;refine (br _ _ _ _).mono ?_;rintro e w' ⟨rfl,rfl⟩))
   go_ret
   exact⟨by rw[Psp.cH,h1,h2];rfl,Hb.out⟩
theorem eH (k f v i q r:Int) (Ab Ao Ac Ap:Option Addr) (nb no nc np cb co cc cp:Nat) (b o c p:Bool) (w:World):
 Calls Tryz.prog 88 #[.agg #[.int .i64 k,.int .i64 f,.int .i64 v,.int .i64 i,.int .i64 q,.int .i64 r,.slice Ab nb cb,.slice Ao no co,.slice Ac nc cc,.slice Ap np cp],.bool b,.bool o,.bool c,.bool p] w fun e w'=>e= .returned (.bool ((b||decide (nb=0))&&((o||decide (no=0))&&((c||decide (nc=0))&&(p||decide (np=0))))))∧Below w.heap.size w w':=by
 cases b with
 |true=>
  cases o with
  |true=>
   cases c with
   |true=>
    cases p with
    |true=>
     go_enter Tryz.func88,Tryz.ntmps88
     go_wp2_with fail
     go_ret
     refine⟨?_,by first|exact ae w _|exact ak (ae w _) _⟩
     simp[*]
    |false=>
     by_cases h3:np=0
     ·have d3:(((np:Nat):Int)==0)=true:=by rw[h3];rfl
      go_enter Tryz.func88,Tryz.ntmps88
      go_wp2_with fail
      go_ret
      refine⟨?_,by first|exact ae w _|exact ak (ae w _) _⟩
      simp[*]
     ·have d3:(((np:Nat):Int)==0)=false:=by rw[beq_eq_false_iff_ne];omega
      go_enter Tryz.func88,Tryz.ntmps88
      go_wp2_with fail
      go_ret
      refine⟨?_,by first|exact ae w _|exact ak (ae w _) _⟩
      simp[*]
   |false=>
    by_cases h2:nc=0
    ·have d2:(((nc:Nat):Int)==0)=true:=by rw[h2];rfl
     cases p with
     |true=>
      go_enter Tryz.func88,Tryz.ntmps88
      go_wp2_with fail
      go_ret
      refine⟨?_,by first|exact ae w _|exact ak (ae w _) _⟩
      simp[*]
     |false=>
      by_cases h3:np=0
      ·have d3:(((np:Nat):Int)==0)=true:=by rw[h3];rfl
       go_enter Tryz.func88,Tryz.ntmps88
       go_wp2_with fail
       go_ret
       refine⟨?_,by first|exact ae w _|exact ak (ae w _) _⟩
       simp[*]
      ·have d3:(((np:Nat):Int)==0)=false:=by rw[beq_eq_false_iff_ne];omega
       go_enter Tryz.func88,Tryz.ntmps88
       go_wp2_with fail
       go_ret
       refine⟨?_,by first|exact ae w _|exact ak (ae w _) _⟩
       simp[*]
    ·have d2:(((nc:Nat):Int)==0)=false:=by rw[beq_eq_false_iff_ne];omega
     go_enter Tryz.func88,Tryz.ntmps88
     go_wp2_with fail
     go_ret
     refine⟨?_,by first|exact ae w _|exact ak (ae w _) _⟩
     simp[*]
  |false=>
   by_cases h1:no=0
   ·have d1:(((no:Nat):Int)==0)=true:=by rw[h1];rfl
    cases c with
    |true=>
     cases p with
     |true=>
      go_enter Tryz.func88,Tryz.ntmps88
      go_wp2_with fail
      go_ret
      refine⟨?_,by first|exact ae w _|exact ak (ae w _) _⟩
      simp[*]
     |false=>
      by_cases h3:np=0
      ·have d3:(((np:Nat):Int)==0)=true:=by rw[h3];rfl
       go_enter Tryz.func88,Tryz.ntmps88
       go_wp2_with fail
       go_ret
       refine⟨?_,by first|exact ae w _|exact ak (ae w _) _⟩
       simp[*]
      ·have d3:(((np:Nat):Int)==0)=false:=by rw[beq_eq_false_iff_ne];omega
       go_enter Tryz.func88,Tryz.ntmps88
       go_wp2_with fail
       go_ret
       refine⟨?_,by first|exact ae w _|exact ak (ae w _) _⟩
       simp[*]
    |false=>
     by_cases h2:nc=0
     ·have d2:(((nc:Nat):Int)==0)=true:=by rw[h2];rfl
      cases p with
      |true=>
       go_enter Tryz.func88,Tryz.ntmps88
       go_wp2_with fail
       go_ret
       refine⟨?_,by first|exact ae w _|exact ak (ae w _) _⟩
       simp[*]
      |false=>
       by_cases h3:np=0
       ·have d3:(((np:Nat):Int)==0)=true:=by rw[h3];rfl
        go_enter Tryz.func88,Tryz.ntmps88
        go_wp2_with fail
        go_ret
        refine⟨?_,by first|exact ae w _|exact ak (ae w _) _⟩
        simp[*]
       ·have d3:(((np:Nat):Int)==0)=false:=by rw[beq_eq_false_iff_ne];omega
        go_enter Tryz.func88,Tryz.ntmps88
        go_wp2_with fail
        go_ret
        refine⟨?_,by first|exact ae w _|exact ak (ae w _) _⟩
        simp[*]
     ·have d2:(((nc:Nat):Int)==0)=false:=by rw[beq_eq_false_iff_ne];omega
      go_enter Tryz.func88,Tryz.ntmps88
      go_wp2_with fail
      go_ret
      refine⟨?_,by first|exact ae w _|exact ak (ae w _) _⟩
      simp[*]
   ·have d1:(((no:Nat):Int)==0)=false:=by rw[beq_eq_false_iff_ne];omega
    go_enter Tryz.func88,Tryz.ntmps88
    go_wp2_with fail
    go_ret
    refine⟨?_,by first|exact ae w _|exact ak (ae w _) _⟩
    simp[*]
 |false=>
  by_cases h0:nb=0
  ·have d0:(((nb:Nat):Int)==0)=true:=by rw[h0];rfl
   cases o with
   |true=>
    cases c with
    |true=>
     cases p with
     |true=>
      go_enter Tryz.func88,Tryz.ntmps88
      go_wp2_with fail
      go_ret
      refine⟨?_,by first|exact ae w _|exact ak (ae w _) _⟩
      simp[*]
     |false=>
      by_cases h3:np=0
      ·have d3:(((np:Nat):Int)==0)=true:=by rw[h3];rfl
       go_enter Tryz.func88,Tryz.ntmps88
       go_wp2_with fail
       go_ret
       refine⟨?_,by first|exact ae w _|exact ak (ae w _) _⟩
       simp[*]
      ·have d3:(((np:Nat):Int)==0)=false:=by rw[beq_eq_false_iff_ne];omega
       go_enter Tryz.func88,Tryz.ntmps88
       go_wp2_with fail
       go_ret
       refine⟨?_,by first|exact ae w _|exact ak (ae w _) _⟩
       simp[*]
    |false=>
     by_cases h2:nc=0
     ·have d2:(((nc:Nat):Int)==0)=true:=by rw[h2];rfl
      cases p with
      |true=>
       go_enter Tryz.func88,Tryz.ntmps88
       go_wp2_with fail
       go_ret
       refine⟨?_,by first|exact ae w _|exact ak (ae w _) _⟩
       simp[*]
      |false=>
       by_cases h3:np=0
       ·have d3:(((np:Nat):Int)==0)=true:=by rw[h3];rfl
        go_enter Tryz.func88,Tryz.ntmps88
        go_wp2_with fail
        go_ret
        refine⟨?_,by first|exact ae w _|exact ak (ae w _) _⟩
        simp[*]
       ·have d3:(((np:Nat):Int)==0)=false:=by rw[beq_eq_false_iff_ne];omega
        go_enter Tryz.func88,Tryz.ntmps88
        go_wp2_with fail
        go_ret
        refine⟨?_,by first|exact ae w _|exact ak (ae w _) _⟩
        simp[*]
     ·have d2:(((nc:Nat):Int)==0)=false:=by rw[beq_eq_false_iff_ne];omega
      go_enter Tryz.func88,Tryz.ntmps88
      go_wp2_with fail
      go_ret
      refine⟨?_,by first|exact ae w _|exact ak (ae w _) _⟩
      simp[*]
   |false=>
    by_cases h1:no=0
    ·have d1:(((no:Nat):Int)==0)=true:=by rw[h1];rfl
     cases c with
     |true=>
      cases p with
      |true=>
       go_enter Tryz.func88,Tryz.ntmps88
       go_wp2_with fail
       go_ret
       refine⟨?_,by first|exact ae w _|exact ak (ae w _) _⟩
       simp[*]
      |false=>
       by_cases h3:np=0
       ·have d3:(((np:Nat):Int)==0)=true:=by rw[h3];rfl
        go_enter Tryz.func88,Tryz.ntmps88
        go_wp2_with fail
        go_ret
        refine⟨?_,by first|exact ae w _|exact ak (ae w _) _⟩
        simp[*]
       ·have d3:(((np:Nat):Int)==0)=false:=by rw[beq_eq_false_iff_ne];omega
        go_enter Tryz.func88,Tryz.ntmps88
        go_wp2_with fail
        go_ret
        refine⟨?_,by first|exact ae w _|exact ak (ae w _) _⟩
        simp[*]
     |false=>
      by_cases h2:nc=0
      ·have d2:(((nc:Nat):Int)==0)=true:=by rw[h2];rfl
       cases p with
       |true=>
        go_enter Tryz.func88,Tryz.ntmps88
        go_wp2_with fail
        go_ret
        refine⟨?_,by first|exact ae w _|exact ak (ae w _) _⟩
        simp[*]
       |false=>
        by_cases h3:np=0
        ·have d3:(((np:Nat):Int)==0)=true:=by rw[h3];rfl
         go_enter Tryz.func88,Tryz.ntmps88
         go_wp2_with fail
         go_ret
         refine⟨?_,by first|exact ae w _|exact ak (ae w _) _⟩
         simp[*]
        ·have d3:(((np:Nat):Int)==0)=false:=by rw[beq_eq_false_iff_ne];omega
         go_enter Tryz.func88,Tryz.ntmps88
         go_wp2_with fail
         go_ret
         refine⟨?_,by first|exact ae w _|exact ak (ae w _) _⟩
         simp[*]
      ·have d2:(((nc:Nat):Int)==0)=false:=by rw[beq_eq_false_iff_ne];omega
       go_enter Tryz.func88,Tryz.ntmps88
       go_wp2_with fail
       go_ret
       refine⟨?_,by first|exact ae w _|exact ak (ae w _) _⟩
       simp[*]
    ·have d1:(((no:Nat):Int)==0)=false:=by rw[beq_eq_false_iff_ne];omega
     go_enter Tryz.func88,Tryz.ntmps88
     go_wp2_with fail
     go_ret
     refine⟨?_,by first|exact ae w _|exact ak (ae w _) _⟩
     simp[*]
  ·have d0:(((nb:Nat):Int)==0)=false:=by rw[beq_eq_false_iff_ne];omega
   go_enter Tryz.func88,Tryz.ntmps88
   go_wp2_with fail
   go_ret
   refine⟨?_,by first|exact ae w _|exact ak (ae w _) _⟩
   simp[*]
structure Lk (w0 W:World) (f cl:Int):Prop where
 box:W.heap[w0.heap.size]? =some (.cells #[.int .i64 f,.int .i64 cl] 153 (0,0))
 be:Below w0.heap.size w0 W
theorem Lk.new (w:World) (f cl:Int):Lk w (w.alloc (.cells #[.int .i64 f,.int .i64 cl] 153)) f cl:=⟨tL w _,ae w _⟩
theorem Lk.lt {w0 W:World} {f cl:Int} (h:Lk w0 W f cl):w0.heap.size < W.heap.size:=(tz h.box).1
theorem Lk.below {w0 W W':World} {f cl:Int} (h:Lk w0 W f cl) (hb:Below W.heap.size W W'):Lk w0 W' f cl:=by
 have:=h.lt
 exact⟨(hb.block _ this).trans h.box,h.be.trans (hb.mono (by omega))⟩
theorem Lk.cells {w0 W:World} {f cl:Int} (h:Lk w0 W f cl):W.cell? ⟨w0.heap.size,0,none⟩=some (.int .i64 f)∧W.cell? ⟨w0.heap.size,1,none⟩=some (.int .i64 cl):=by
 refine⟨?_,?_⟩
 ·rw[cell_of_row _ _ 0 _ _ _ h.box];rfl
 ·rw[cell_of_row _ _ 1 _ _ _ h.box];rfl
theorem cw {α:Type} {f:α→List Value} {k:Nat} (hf:∀a,(f a).length=k) (hk:0 < k) {w:World} {P:Nat→Prop} {v:Value} {l:List α} {n:Nat} (h:RdP w P k v n (l.flatMap f)) (hn:l.length=n) {j:Nat} (hj:j < n):
 ∃(b o c:Nat) (x:α),v= .slice (some ⟨b,o,none⟩) n c∧P b∧b < w.heap.size∧l[j]? =some x∧∀w':World,w'.heap[b]? =w.heap[b]?→w'.rangeAt b (o+j * k) (f x):=by
 obtain⟨_,A,c,rfl,_,_,h1⟩:=h
 obtain⟨b,o,rfl,hP,hb,hl⟩:=h1 (by omega)
 obtain⟨x,hx⟩:∃x,l[j]? =some x:=⟨_,tK (by omega)⟩
 refine⟨b,o,c,x,rfl,hP,hb,hx,fun w' d r u hu=>?_⟩
 have hr:r < k:=by have:=(List.getElem?_eq_some_iff.1 hu).1;rw[hf] at this;exact this
 have:=hl (j * k+r) u (by rw[cD hf l j r hr,hx];exact hu)
 rw[←Nat.add_assoc] at this
 exact (World.cell?_of_block (a:=⟨b,o+j * k+r,none⟩) d).trans this
theorem ry (l:List Psp.Vote):l.flatMap vt=(l.map fun v=>(v.n,v.s)).flatMap vv:=by rw[List.flatMap_map];rfl
theorem ov (l:List Psp.Vote) (n:Nat) (x:Value) (f:Int) (w:World) (P:Nat→Prop) (hx:RdP w P 2 x n (l.flatMap vt)) (hn:l.length=n) (hw:∀v∈l,ea v):
 Calls Tryz.prog 156 #[x,.int .i64 f] w fun e w'=>e= .returned (.bool (Psp.dF (l.map (·.n)) f))∧Below w.heap.size w w':=by
 subst hn
 have h:=ln (l.map fun v=>(v.n,v.s)) x f w (by rw[List.length_map,←ry];exact hx.to_rd) (by
  intro a ha
  obtain⟨v,hv,rfl⟩:=List.mem_map.1 ha
  exact hw v hv)
 rw[List.map_map] at h
 exact h
theorem jm (l:List Psp.Vote) (n:Nat) (x:Value) (f:Int) (w:World) (P:Nat→Prop) (hx:RdP w P 2 x n (l.flatMap vt)) (hn:l.length=n) (hw:∀v∈l,ea v):
 Calls Tryz.prog 160 #[x,.int .i64 f] w fun e w'=>e= .returned (.bool (Psp.dF (l.map (·.n)) f))∧Below w.heap.size w w':=by
 subst hn
 have h:=jQ (l.map fun v=>(v.n,v.s)) x f w (by rw[List.length_map,←ry];exact hx.to_rd) (by
  intro a ha
  obtain⟨v,hv,rfl⟩:=List.mem_map.1 ha
  exact hw v hv)
 rw[List.map_map] at h
 exact h
theorem fD (l:List Psp.Req) (n:Nat) (x:Value) (f cl lo hi:Int) (w:World) (P:Nat→Prop) (hx:RdP w P 6 x n (l.flatMap rq)) (hn:l.length=n):
 Calls Tryz.prog 89 #[.agg #[.int .i64 f,.int .i64 cl],x,.int .i64 lo,.int .i64 hi] w fun e w'=>e= .returned (.bool (Psp.bn l cl lo hi))∧Below w.heap.size w w':=by
 obtain⟨_,A,c,rfl,u,t,_⟩:=hx.parts
 have HX:=tt hx
 have Hn:=tt hn
 have HL:=tt (Lk.new w f cl)
 clear hx hn
 go_enter Tryz.func89,Tryz.ntmps89
 go_wp2_with fail
 go_loopw [13] (fun i wr=>∃k:Nat,i= .int .i64 (k:Int)∧k≤n∧Hid (∀(j:Nat) (y:Psp.Req),j < k→l[j]? =some y→Psp.aZ y cl=true)∧Hid (Lk w wr f cl)) (fun i _=>n - (intOf i).toNat)
 case atStart=>exact⟨0,rfl,Nat.zero_le _,tt fun j y hj=>by omega,HL⟩
 case round=>
  clear HL
  obtain⟨k,rfl,hk,HI,HL⟩:=hrel
  by_cases hlt:k < n
  ·obtain⟨b0,o0,c0,y,he,hb0,hb1,hy,d⟩:=cw (f:=rq) (k:=6) (fun _=>rfl) (by omega) HX.out Hn.out hlt
   injection he with q _ o
   subst q o
   have HQ:=tt (d wr (HL.out.be.block b0 hb1))
   have Hy:=tt hy
   have d1:decide ((k:Int) < (n:Int))=true:=by simp;omega
   clear d hy
   go_upto_region 4 with (first|(refine aA rfl 42 (.tmp 15) rfl b0 (o0+k * 6) rfl (rq y) _ HQ.out Tryz.underlying42 rfl az ?_)|(refine bj rfl 42 (.tmp 10) (.tmp 16) rfl _ _ (rq y) rfl rfl rfl az (rQ y) ?_;intro w1 hb1 b hs1))
   have a:=tt (HL.out.below hb1)
   have h:=tt b
   obtain⟨_,kc⟩:=a.out.cells
   obtain⟨sb,hsb⟩:∃sb,Psp.aZ y cl=sb:=⟨_,rfl⟩
   clear hb1 b HQ HL
   go_wp2_with (first|(refine aA rfl 42 (.tmp 10) rfl wr.heap.size 0 rfl (rq y) _ h.out Tryz.underlying42 rfl az ?_))
   refine (gr y cl w1).mono ?_
   rw[hsb]
   rintro e w2 ⟨rfl,hb2⟩
   have m:=tt (a.out.below hb2)
   have g:=tt hsb
   clear hb2 a h kc hsb hs1
   cases sb with
   |true=>
    have s:Hid (∀(j:Nat) (z:Psp.Req),j < k+1→l[j]? =some z→Psp.aZ z cl=true):=tt fun j z hj hz=>by
     by_cases he:j=k
     ·subst he;have e1:=Hy.out.symm.trans hz;injection e1 with e1;subst e1;exact g.out
     ·exact HI.out j z (by omega) hz
    clear HI
    go_wp2_with fail
    go_roundw
    case rel=>exact⟨k+1,by go_num,by omega,s,m⟩
    case measure=>simp[intOf];omega
   |false=>
    have Hf:Hid (Psp.bn l cl lo hi=false):=tt (by unfold Psp.bn Psp.fj;rw[Psp.eU (p:=fun r=>Psp.aZ r cl) Hy.out g.out];rfl)
    clear HI
    go_wp2_with fail
    go_ret
    exact⟨by rw[Hf.out];rfl,m.out.be⟩
  ·obtain rfl:k=n:=by omega
   have Hf:Hid (Psp.bn l cl lo hi=Psp.win (k:Int) lo hi):=tt (by
    unfold Psp.bn Psp.fj
    rw[Psp.eu (p:=fun r=>Psp.aZ r cl) (l:=l) fun j hj y hy=>HI.out j y (by rw[←Hn.out];exact hj) hy,Hn.out];rfl)
   clear HI
   go_wp2_with (first|(go_at_call 93;refine (br _ _ _ _).mono ?_;rintro e w' ⟨rfl,rfl⟩))
   go_ret
   exact⟨by rw[Hf.out];rfl,HL.out.be⟩
theorem lJ (l:List Psp.Vote) (n:Nat) (x:Value) (f cl:Int) (w:World) (P:Nat→Prop) (hx:RdP w P 2 x n (l.flatMap vt)) (hn:l.length=n) (hw:∀v∈l,ea v):
 Calls Tryz.prog 125 #[.agg #[.int .i64 f,.int .i64 cl],x] w fun e w'=>e= .returned (.bool (Psp.ed l f))∧Below w.heap.size w w':=by
 obtain⟨_,A,c,rfl,t,r,_⟩:=hx.parts
 have HX:=tt hx
 have Hn:=tt hn
 have Hw:=tt hw
 have HL:=tt (Lk.new w f cl)
 clear hx hn hw
 go_enter Tryz.func125,Tryz.ntmps125
 go_wp2_with fail
 go_loopw [9] (fun i wr=>∃k:Nat,i= .int .i64 (k:Int)∧k≤n∧Hid (∀(j:Nat) (y:Psp.Vote),j < k→l[j]? =some y→Psp.eA y.s=true)∧Hid (Lk w wr f cl)) (fun i _=>n - (intOf i).toNat)
 case atStart=>exact⟨0,rfl,Nat.zero_le _,tt fun j y hj=>by omega,HL⟩
 case round=>
  clear HL
  obtain⟨k,rfl,hk,HI,HL⟩:=hrel
  by_cases hlt:k < n
  ·obtain⟨b0,o0,c0,y,he,hb0,hb1,hy,b⟩:=cw (f:=vt) (k:=2) (fun _=>rfl) (by omega) HX.out Hn.out hlt
   injection he with m _ h
   subst m h
   have HQ:=tt (b wr (HL.out.be.block b0 hb1))
   have Hy:=tt hy
   have d1:decide ((k:Int) < (n:Int))=true:=by simp;omega
   clear b hy
   go_upto_region 4 with (first|(refine aA rfl 166 (.tmp 11) rfl b0 (o0+k * 2) rfl (vt y) _ HQ.out Tryz.underlying166 rfl ga ?_)|(refine bj rfl 166 (.tmp 6) (.tmp 12) rfl _ _ (vt y) rfl rfl rfl ga (by simp[vt,iv,Value.oneCell']) ?_;intro w1 hb1 a hs1))
   have g:=tt (HL.out.below hb1)
   have kc:w1.cell? ⟨wr.heap.size,1,none⟩=some (.int .i64 y.s):=by have:=a 1 (iv y.s) rfl;simpa [iv] using this
   obtain⟨sb,hsb⟩:∃sb,Psp.win y.s 0 1099511627775=sb:=⟨_,rfl⟩
   clear hb1 a HQ HL
   go_wp2_with fail
   refine (br y.s 0 1099511627775 w1).mono ?_
   rw[hsb]
   rintro e w2 ⟨rfl,rfl⟩
   have d:Hid (Psp.eA y.s=sb):=tt hsb
   clear kc hsb hs1
   cases sb with
   |true=>
    have q:Hid (∀(j:Nat) (z:Psp.Vote),j < k+1→l[j]? =some z→Psp.eA z.s=true):=tt fun j z hj hz=>by
     by_cases he:j=k
     ·subst he;have e1:=Hy.out.symm.trans hz;injection e1 with e1;subst e1;exact d.out
     ·exact HI.out j z (by omega) hz
    clear HI
    go_wp2_with fail
    go_roundw
    case rel=>exact⟨k+1,by go_num,by omega,q,g⟩
    case measure=>simp[intOf];omega
   |false=>
    have Hf:Hid (Psp.ed l f=false):=tt (by unfold Psp.ed Psp.eF;rw[Psp.eU (p:=fun v:Psp.Vote=>Psp.eA v.s) Hy.out d.out];rfl)
    clear HI
    go_wp2_with fail
    go_ret
    exact⟨by rw[Hf.out];rfl,g.out.be⟩
  ·obtain rfl:k=n:=by omega
   have Hf:Hid (Psp.ed l f=Psp.dF (l.map (·.n)) f):=tt (by
    unfold Psp.ed Psp.eF
    rw[Psp.eu (p:=fun v:Psp.Vote=>Psp.eA v.s) (l:=l) fun j hj y hy=>HI.out j y (by rw[←Hn.out];exact hj) hy];rfl)
   obtain⟨kc,_⟩:=HL.out.cells
   clear HI
   go_wp2_with fail
   refine (ov l k (.slice A k c) f wr _ (HX.out.keeps (Keeps.below HL.out.be)) Hn.out Hw.out).mono ?_
   rintro e w2 ⟨rfl,hb2⟩
   have o:=tt (HL.out.below hb2)
   clear hb2 kc HL
   go_wp2_with fail
   go_ret
   exact⟨by rw[Hf.out];rfl,o.out.be⟩
end Go.Proofs.YtipmjleohadoeaaGreat
end
