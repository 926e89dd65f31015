import Derived.Test.YtipmjleohadoeaaGreatJ12Py
import Derived.Test.YtipmjleohadoeaaGreatJ10Py
import Derived.Test.YtipmjleohadoeaaGreatJ9Py
import Derived.Test.YtipmjleohadoeaaGreatJ8Py
import Derived.Deep.CutBlock
import Derived.Test.YtipmjleohadoeaaGreatJ2Py
import Derived.Test.YtipmjleohadoeaaGreatJ1Py
import Derived.Test.YtipmjleohadoeaaGreatJ7Py
import Derived.Test.YtipmjleohadoeaaGreatJ5Py
import Derived.Deep.RegionHeld3
set_option maxRecDepth 100000
set_option maxHeartbeats 16000000
set_option linter.unusedVariables false
set_option linter.unusedSimpArgs false
section
namespace Go.Proofs.YtipmjleohadoeaaGreat
open Go.RowKit
def upd {α:Type} (f:Nat→α) (n:Nat) (v:α):Nat→α:=fun i=>if i=n then v else f i
def iR (s:RC) (r:Int) (i:Nat):Nat:=(List.range i).countP fun j=>s.has j&&(s.rep j==r)
def dn (s:RC) (id:Int) (m:Psp.Msg) (n:Nat):Bool:=decide (m.k=10)&&(decide (m.i=id)&&(decide (m.q=s.q.t)&& !s.has n))
def ks (s:RC) (n:Nat) (r:Int):RC:={s with has:=upd s.has n true,rep:=upd s.rep n r}
def gv (c:Cf) (s:RC) (n:Nat) (r:Int):RC:=
 if Psp.dE c.f≤(iR (ks s n r) r 13:Int) then {ks s n r with acc:=s.acc++[(s.q,r)],wt:=false} else ks s n r
theorem nI (s:RC) (r:Int) (i:Nat):iR s r (i+1)=iR s r i+if (s.has i&&(s.rep i==r))=true then 1 else 0:=by
 unfold iR
 rw[List.range_succ,List.countP_append]
 simp[List.countP_cons]
theorem qQ (s:RC) (r:Int) (i:Nat):iR s r i≤i:=by
 unfold iR
 have:=List.countP_le_length (p:=fun j=>s.has j&&(s.rep j==r)) (l:=List.range i)
 simpa using this
section
variable {c:Cf} {id:Int} {h n:Nat} {s:RC} {vb vi va vo:Value} {b:Bool} {r:Int}
theorem jP (hn:n < 13):(rcA c id h s vb vi va vo)[40+n]? =some (.bool (s.has n)):=by
 rcases n with _|_|_|_|_|_|_|_|_|_|_|_|_|n <;> first|rfl|omega
theorem lW (hn:n < 13):(rcA c id h s vb vi va vo)[27+n]? =some (.int .i64 (s.rep n)):=by
 rcases n with _|_|_|_|_|_|_|_|_|_|_|_|_|n <;> first|rfl|omega
theorem oG (hn:n < 13):(rcA c id h s vb vi va vo).setIfInBounds (40+n) (.bool b)=rcA c id h {s with has:=upd s.has n b} vb vi va vo:=by
 rcases n with _|_|_|_|_|_|_|_|_|_|_|_|_|n <;> first|rfl|omega
theorem oF (hn:n < 13):(rcA c id h s vb vi va vo).setIfInBounds (27+n) (.int .i64 r)=rcA c id h {s with rep:=upd s.rep n r} vb vi va vo:=by
 rcases n with _|_|_|_|_|_|_|_|_|_|_|_|_|n <;> first|rfl|omega
end
theorem Rdone.same {T U:Nat→Prop} {k h:Nat} {L0:List Key} {c:Cf} {id:Int} {s:RC} {w w':World} (H:∃T' U':Nat→Prop,Ntr w T' h L0∧Rcm w U' k h c id s∧(∀b,T' b→¬U' b)∧(∀b,T' b→b < w.heap.size)∧(∀b,T' b→T b∨w.heap.size≤b)∧(∀b,U' b→U b∨w.heap.size≤b)∧Fp (fun b=>T b∨U b) w w) (hb:Below w.heap.size w w'):Rdone T U k h L0 c id s w w':=by
 obtain⟨T',U',h1,h2,h3,h4,h5,h6,h7⟩:=H
 exact⟨⟨T',U',h1.below hb,h2.below hb,h3,fun b a=>Nat.lt_of_lt_of_le (h4 b a) hb.size,h5,h6,Fp.of_below hb _⟩⟩
theorem li (T U:Nat→Prop) (k h:Nat) (L0:List Key) (c:Cf) (id:Int) (s:RC) (b:List UInt8) (v:Value) (m:Psp.Msg) (x_:Int) (n:Nat) (w:World) (H:Rcm w U k h c id s) (c2:Ntr w T h L0) (cp:L0.Nodup) (C:∀b,T b→¬U b) (Q:∀b,T b→b < w.heap.size) (hw:s.wt=true) (hx:RdP w (fun x=>x < w.heap.size) 1 v b.length (b.map bv)) (hop:bW b c.f c.cl L0=some (m,x_)) (cq:m.k=10→m.f=(n:Int)∧n < 13) (hf:1≤c.f∧c.f≤4) (gg:s.acc.length≤1000000) (hb:Bool) (s2:RC) (cz:dn s id m n=hb) (aa:s2=if hb=true then gv c s n m.r else s):
 Calls Tryz.prog 50 #[.pointer (some ⟨k,0,none⟩),v] w fun e w'=>e= .returned (.bool hb)∧Rdone T U k h L0 c id s2 w w':=by
 have a9:=tt cz
 have ad:=tt aa
 have e8:=tt cq
 clear cz aa cq
 have HX:=tt hx
 have d9:=tt hop
 have al:=tt c2
 have HN:=tt H
 obtain⟨Ab,cb,Ai,ci,Ac,cc,Ao,co,L,ho⟩:=H.opens
 clear H hx hop c2
 have cm:=ho.row
 have dO:w.cell? ⟨k,18,none⟩=some (.bool true):=by rw[←hw];exact am cm 18 rfl
 clear cm
 go_enter Tryz.func50,Tryz.ntmps50
 go_upto_region 3 with fail
 clear dO
 have a:=ho.row
 have f6:=ho.lt k ho.uk
 have l0:=ab (w:=w.drew) (show w.drew.cell? ⟨k,0,none⟩=some (.int .i64 c.f) from am a 0 rfl)
 have l1:=ab (w:=w.drew) (show w.drew.cell? ⟨k,1,none⟩=some (.int .i64 c.cl) from am a 1 rfl)
 have cj:=ab (w:=w.drew) (show w.drew.cell? ⟨k,16,none⟩=some (.pointer (some ⟨h,0,none⟩)) from am a 16 rfl)
 have HO:=tt ho
 have g:Hid (Below w.drew.heap.size w.drew w.drew):=tt (Below.refl _ _)
 clear a ho
 go_cut [5,6,7] from 15 (fun mv fl es wx=>∃j Gb gb E D Gc gc Gp gp,mv= .pointer (some ⟨j,0,none⟩)∧w.heap.size≤j∧Hid (wx.heap[j]? =some (.cells #[.int .i64 m.k,.int .i64 m.f,.int .i64 m.v,.int .i64 m.i,.int .i64 m.q,.int .i64 m.r,.slice Gb m.b.length gb,.slice E m.o.length D,.slice Gc m.c.length gc,.slice Gp m.p.length gp] 56 (0,0)))∧es= .bool true∧Hid (Below w.heap.size w wx))
 case first=>
  refine cJ (fun w'=>∃p:Later w.drew,w'=p.W) [0,1,2,3,4,5,6,7,8,9,10,11,12,13,14,15,16,17,18,19,20,21,22,23] 24 (by kernel_rfl) (by kernel_rfl) ?_
  obtain⟨Wd,hWd⟩:∃Wd,w.drew=Wd:=⟨_,rfl⟩
  have cZ:Wd.heap.size=w.heap.size:=by rw[←hWd];rfl
  have bm:Below w.heap.size w Wd:=by rw[←hWd];exact (Below.refl _ _).drew
  have em:=tt cZ
  have bN:=tt bm
  rw[hWd] at l0 l1 cj g ⊢
  have el:=tt (al.out.below bm)
  have d3:=tt (RdP.keeps HX.out (Keeps.on bm))
  clear hWd cZ bm
  refine aS [] [0,1,2,3,4,5,6,7,8,9,10,11,12,13,14] 15 rfl (by kernel_rfl) (fun _ d _ _ _ h=>by cases d <;> exact h) ⟨⟨_,g.out⟩,rfl⟩ ?_
  simp only[phR,tu,tx,Option.toList]
  repeat (first|go_big_quiet_step (fail)|quiet_step (fail)|refine wpQuiet_nil ?_)
  clear l0 l1 cj
  refine cK 15 20 (by kernel_rfl) ?_ ?_
  ·skip
   simp only[tu,tx,Option.toList]
   go_wp2_with fail
   refine (gY b v c.f c.cl T h L0 Wd d3.out el.out cp).mono ?_
   rintro e w5 ⟨h1,h2,hbq⟩
   obtain⟨vb,vo,vc,vp,rfl,a4⟩:=h1 _ _ d9.out
   obtain⟨Gb,E,Gc,Gp,gb,D,gc,gp,rfl,rfl,rfl,rfl⟩:=aG a4
   clear a4
   replace g:=tt (Below.then g.out hbq g.out.size)
   have en:=tt hbq
   have eG:=hbq.size
   clear h1 h2 hbq
   go_wp2_with fail
   first|refine And.intro (fun _=>⟨⟨_,g.out⟩,rfl⟩) ?_|refine And.intro ⟨⟨_,g.out⟩,rfl⟩ ?_
   refine aS [0,1,2,3,4,5,6,7,8,9,10,11,12,13,14,15] [16,17,18,19] 4 rfl (by kernel_rfl) (fun _ d _ _ _ h=>by cases d <;> exact h) ⟨⟨_,g.out⟩,rfl⟩ ?_
   simp only[phR,tu,tx,Option.toList]
   repeat (first|go_big_quiet_step (fail)|quiet_step (fail)|refine wpQuiet_nil ?_)
   refine ap 20 (by kernel_rfl) ?_
   simp only[tu,tx,Option.toList]
   go_wp2_with fail
   have N:=ae w5 (.cells #[.int .i64 0,.int .i64 0,.int .i64 0,.int .i64 0,.int .i64 0,.int .i64 0,.slice none 0 0,.slice none 0 0,.slice none 0 0,.slice none 0 0] 56)
   have M:=tL w5 (.cells #[.int .i64 0,.int .i64 0,.int .i64 0,.int .i64 0,.int .i64 0,.int .i64 0,.slice none 0 0,.slice none 0 0,.slice none 0 0,.slice none 0 0] 56)
   replace g:=tt (Below.then g.out N g.out.size)
   first|refine And.intro (fun _=>⟨⟨_,g.out⟩,rfl⟩) ?_|refine And.intro ⟨⟨_,g.out⟩,rfl⟩ ?_
   obtain⟨w6,hW_⟩:∃W_,(w5).alloc (.cells #[.int .i64 0,.int .i64 0,.int .i64 0,.int .i64 0,.int .i64 0,.int .i64 0,.slice none 0 0,.slice none 0 0,.slice none 0 0,.slice none 0 0] 56)=W_:=⟨_,rfl⟩
   rw[hW_] at N M g ⊢
   have bO:=(tz M).1
   have S:=tt M
   have ch:=tt N
   clear hW_ N M
   refine ap 21 (by kernel_rfl) ?_
   simp only[tu,tx,Option.toList]
   have a2:=au S.out
   obtain⟨s1,s2⟩:=aQ S.out [.int .i64 m.k,.int .i64 m.f,.int .i64 m.v,.int .i64 m.i,.int .i64 m.q,.int .i64 m.r,.slice Gb m.b.length gb,.slice E m.o.length D,.slice Gc m.c.length gc,.slice Gp m.p.length gp] rfl
   have a5:Wd.heap.size≤w5.heap.size:=by omega
   have z:Hid (Below Wd.heap.size Wd (w6.setCells (w5.heap.size) 0 [.int .i64 m.k,.int .i64 m.f,.int .i64 m.v,.int .i64 m.i,.int .i64 m.q,.int .i64 m.r,.slice Gb m.b.length gb,.slice E m.o.length D,.slice Gc m.c.length gc,.slice Gp m.p.length gp])):=tt (((Fp.of_below g.out (fun _=>False)).setCells (Or.inr a5) _).to_below (tJ _) fun _ _ h=>h.elim)
   have b5:=tt a2
   have S1:=tt s1
   clear a2 s1 s2
   go_wp2_with (refine wpList_store_mid rfl 56 (.tmp 5) (.tmp 32) rfl (w5.heap.size) 0 #[.int .i64 m.k,.int .i64 m.f,.int .i64 m.v,.int .i64 m.i,.int .i64 m.q,.int .i64 m.r,.slice Gb m.b.length gb,.slice E m.o.length D,.slice Gc m.c.length gc,.slice Gp m.p.length gp] rfl rfl b5.out ax (by simp[Value.oneCell']) ?_)
   first|refine And.intro (fun _=>⟨⟨_,z.out⟩,rfl⟩) ?_|refine And.intro ⟨⟨_,z.out⟩,rfl⟩ ?_
   refine ap 22 (by kernel_rfl) ?_
   simp only[tu,tx,Option.toList]
   go_wp2_with fail
   first|refine And.intro (fun _=>⟨⟨_,z.out⟩,rfl⟩) ?_|refine And.intro ⟨⟨_,z.out⟩,rfl⟩ ?_
   refine ap 23 (by kernel_rfl) ?_
   simp only[tu,tx,Option.toList]
   go_wp2_with fail
   first|refine And.intro (fun _=>⟨⟨_,z.out⟩,rfl⟩) ?_|refine And.intro ⟨⟨_,z.out⟩,rfl⟩ ?_
   refine And.intro (by kernel_rfl) ?_
   go_wp2_with fail
   go_meet
   have B:=Below.then bN.out z.out bN.out.size
   exact⟨_,Gb,gb,E,D,Gc,gc,Gp,gp,rfl,by have:=em.out;omega,tt S1.out,rfl,tt B⟩
  ·skip
   simp only[tu,tx,Option.toList]
   go_wp2_with fail
   have N:=ae Wd (.cells #[.int .i64 0,.int .i64 0,.int .i64 0,.int .i64 0,.int .i64 0,.int .i64 0,.slice none 0 0,.slice none 0 0,.slice none 0 0,.slice none 0 0] 56)
   have M:=tL Wd (.cells #[.int .i64 0,.int .i64 0,.int .i64 0,.int .i64 0,.int .i64 0,.int .i64 0,.slice none 0 0,.slice none 0 0,.slice none 0 0,.slice none 0 0] 56)
   replace g:=tt (Below.then g.out N g.out.size)
   first|refine And.intro (fun _=>⟨⟨_,g.out⟩,rfl⟩) ?_|refine And.intro ⟨⟨_,g.out⟩,rfl⟩ ?_
   obtain⟨w5,hW_⟩:∃W_,(Wd).alloc (.cells #[.int .i64 0,.int .i64 0,.int .i64 0,.int .i64 0,.int .i64 0,.int .i64 0,.slice none 0 0,.slice none 0 0,.slice none 0 0,.slice none 0 0] 56)=W_:=⟨_,rfl⟩
   rw[hW_] at N M g ⊢
   have bO:=(tz M).1
   have S:=tt M
   have ch:=tt N
   clear hW_ N M
   have e6:=tt (RdP.keeps d3.out (Keeps.on ch.out))
   refine ap 15 (by kernel_rfl) ?_
   simp only[tu,tx,Option.toList]
   go_wp2_with fail
   refine (gY b v c.f c.cl T h L0 w5 e6.out (el.out.below ch.out) cp).mono ?_
   rintro e w6 ⟨h1,h2,hbq⟩
   obtain⟨vb,vo,vc,vp,rfl,a4⟩:=h1 _ _ d9.out
   obtain⟨Gb,E,Gc,Gp,gb,D,gc,gp,rfl,rfl,rfl,rfl⟩:=aG a4
   clear a4
   replace g:=tt (Below.then g.out hbq g.out.size)
   have en:=tt hbq
   have eG:=hbq.size
   clear h1 h2 hbq
   go_wp2_with fail
   first|refine And.intro (fun _=>⟨⟨_,g.out⟩,rfl⟩) ?_|refine And.intro ⟨⟨_,g.out⟩,rfl⟩ ?_
   refine aS [0,1,2,3,4,5,6,7,8,9,10,11,12,13,14,20,15] [16,17,18,19] 4 rfl (by kernel_rfl) (fun _ d _ _ _ h=>by cases d <;> exact h) ⟨⟨_,g.out⟩,rfl⟩ ?_
   simp only[phR,tu,tx,Option.toList]
   repeat (first|go_big_quiet_step (fail)|quiet_step (fail)|refine wpQuiet_nil ?_)
   replace S:=tt ((en.out.block _ bO).trans S.out)
   refine ap 21 (by kernel_rfl) ?_
   simp only[tu,tx,Option.toList]
   have a2:=au S.out
   obtain⟨s1,s2⟩:=aQ S.out [.int .i64 m.k,.int .i64 m.f,.int .i64 m.v,.int .i64 m.i,.int .i64 m.q,.int .i64 m.r,.slice Gb m.b.length gb,.slice E m.o.length D,.slice Gc m.c.length gc,.slice Gp m.p.length gp] rfl
   have a5:Wd.heap.size≤Wd.heap.size:=by omega
   have z:Hid (Below Wd.heap.size Wd (w6.setCells (Wd.heap.size) 0 [.int .i64 m.k,.int .i64 m.f,.int .i64 m.v,.int .i64 m.i,.int .i64 m.q,.int .i64 m.r,.slice Gb m.b.length gb,.slice E m.o.length D,.slice Gc m.c.length gc,.slice Gp m.p.length gp])):=tt (((Fp.of_below g.out (fun _=>False)).setCells (Or.inr a5) _).to_below (tJ _) fun _ _ h=>h.elim)
   have b5:=tt a2
   have S1:=tt s1
   clear a2 s1 s2
   go_wp2_with (refine wpList_store_mid rfl 56 (.tmp 5) (.tmp 32) rfl (Wd.heap.size) 0 #[.int .i64 m.k,.int .i64 m.f,.int .i64 m.v,.int .i64 m.i,.int .i64 m.q,.int .i64 m.r,.slice Gb m.b.length gb,.slice E m.o.length D,.slice Gc m.c.length gc,.slice Gp m.p.length gp] rfl rfl b5.out ax (by simp[Value.oneCell']) ?_)
   first|refine And.intro (fun _=>⟨⟨_,z.out⟩,rfl⟩) ?_|refine And.intro ⟨⟨_,z.out⟩,rfl⟩ ?_
   refine ap 22 (by kernel_rfl) ?_
   simp only[tu,tx,Option.toList]
   go_wp2_with fail
   first|refine And.intro (fun _=>⟨⟨_,z.out⟩,rfl⟩) ?_|refine And.intro ⟨⟨_,z.out⟩,rfl⟩ ?_
   refine ap 23 (by kernel_rfl) ?_
   simp only[tu,tx,Option.toList]
   go_wp2_with fail
   first|refine And.intro (fun _=>⟨⟨_,z.out⟩,rfl⟩) ?_|refine And.intro ⟨⟨_,z.out⟩,rfl⟩ ?_
   refine And.intro (by kernel_rfl) ?_
   go_wp2_with fail
   go_meet
   have B:=Below.then bN.out z.out bN.out.size
   exact⟨_,Gb,gb,E,D,Gc,gc,Gp,gp,rfl,by have:=em.out;omega,tt S1.out,rfl,tt B⟩
 case rest=>
  obtain⟨j,Gb,gb,E,D,Gc,gc,Gp,gp,rfl,f3,af,rfl,HB⟩:=hcut
  have ho:=HO.out.below HB.out
  have a:=ho.row
  have f5:k < w.heap.size:=HN.out.lt k HN.out.uk
  have fn:w.heap.size≤wc.heap.size:=HB.out.size
  have gd:j≠k:=by omega
  have f7:k≠j:=by omega
  have eX:j < wc.heap.size:=(tz af.out).1
  have eb:=tt ho
  clear ho HO
  go_upto_region 4 with fail
  have m0:=ab (w:=wc) (show wc.cell? ⟨j,0,none⟩=some (.int .i64 m.k) from am af.out 0 rfl)
  have m3:=ab (w:=wc) (show wc.cell? ⟨j,3,none⟩=some (.int .i64 m.i) from am af.out 3 rfl)
  have m4:=ab (w:=wc) (show wc.cell? ⟨j,4,none⟩=some (.int .i64 m.q) from am af.out 4 rfl)
  have a1:=ab (w:=wc) (show wc.cell? ⟨k,15,none⟩=some (.int .i64 id) from am a 15 rfl)
  have a0:=ab (w:=wc) (show wc.cell? ⟨k,20,none⟩=some (.int .i64 s.q.t) from am a 20 rfl)
  by_cases h1:m.k=10
  case neg=>
   have ds:(m.k != 10)=true:=by simp[h1]
   have dr:(m.k==10)=false:=by simp[h1]
   have dj:decide (m.k=10)=false:=tA h1
   have di:decide (¬m.k=10)=true:=tB h1
   have A:dn s id m n=false:=by unfold dn;simp[h1]
   have HH:Hid (hb=false):=tt (by rw[←a9.out,A])
   clear A
   refine ai (by kernel_rfl) (by kernel_rfl) ?_
   repeat ((with_reducible show wpQuiet _ _ _ _ _ _);first|((with_reducible refine aq ?_ ?_);(·rfl))|go_big_quiet_step (fail)|quiet_step (fail))
   refine wpQuiet_nil ?_
   intro w3 l
   have hb3:=ay l
   clear l
   have F:=tt hb3
   clear hb3 m0 m3 m4 a1 a0
   go_wp2_with fail
   go_ret
   rw[ad.out,HH.out]
   exact⟨rfl,Rdone.same ⟨T,U,al.out,HN.out,C,Q,fun b hb=>.inl hb,fun b hb=>.inl hb,Fp.refl _ _⟩ (Below.then HB.out F.out HB.out.size)⟩
  have ds:(m.k != 10)=false:=by simp[h1]
  have dr:(m.k==10)=true:=by simp[h1]
  have dj:decide (m.k=10)=true:=tB h1
  have di:decide (¬m.k=10)=false:=tA (fun hh=>hh h1)
  by_cases h2:m.i=id
  case neg=>
   have dc:(m.i != id)=true:=by simp[h2]
   have da:(m.i==id)=false:=by simp[h2]
   have c9:decide (m.i=id)=false:=tA h2
   have c8:decide (¬m.i=id)=true:=tB h2
   have A:dn s id m n=false:=by unfold dn;simp[h2]
   have HH:Hid (hb=false):=tt (by rw[←a9.out,A])
   clear A
   refine ai (by kernel_rfl) (by kernel_rfl) ?_
   repeat ((with_reducible show wpQuiet _ _ _ _ _ _);first|((with_reducible refine aq ?_ ?_);(·rfl))|go_big_quiet_step (fail)|quiet_step (fail))
   refine wpQuiet_nil ?_
   intro w3 l
   have hb3:=ay l
   clear l
   have F:=tt hb3
   clear hb3 m0 m3 m4 a1 a0
   go_wp2_with fail
   go_ret
   rw[ad.out,HH.out]
   exact⟨rfl,Rdone.same ⟨T,U,al.out,HN.out,C,Q,fun b hb=>.inl hb,fun b hb=>.inl hb,Fp.refl _ _⟩ (Below.then HB.out F.out HB.out.size)⟩
  have dc:(m.i != id)=false:=by simp[h2]
  have da:(m.i==id)=true:=by simp[h2]
  have c9:decide (m.i=id)=true:=tB h2
  have c8:decide (¬m.i=id)=false:=tA (fun hh=>hh h2)
  by_cases h3:m.q=s.q.t
  case neg=>
   have c7:(m.q != s.q.t)=true:=by simp[h3]
   have c6:(m.q==s.q.t)=false:=by simp[h3]
   have c4:decide (m.q=s.q.t)=false:=tA h3
   have c3:decide (¬m.q=s.q.t)=true:=tB h3
   have A:dn s id m n=false:=by unfold dn;simp[h3]
   have HH:Hid (hb=false):=tt (by rw[←a9.out,A])
   clear A
   refine ai (by kernel_rfl) (by kernel_rfl) ?_
   repeat ((with_reducible show wpQuiet _ _ _ _ _ _);first|((with_reducible refine aq ?_ ?_);(·rfl))|go_big_quiet_step (fail)|quiet_step (fail))
   refine wpQuiet_nil ?_
   intro w3 l
   have hb3:=ay l
   clear l
   have F:=tt hb3
   clear hb3 m0 m3 m4 a1 a0
   go_wp2_with fail
   go_ret
   rw[ad.out,HH.out]
   exact⟨rfl,Rdone.same ⟨T,U,al.out,HN.out,C,Q,fun b hb=>.inl hb,fun b hb=>.inl hb,Fp.refl _ _⟩ (Below.then HB.out F.out HB.out.size)⟩
  have c7:(m.q != s.q.t)=false:=by simp[h3]
  have c6:(m.q==s.q.t)=true:=by simp[h3]
  have c4:decide (m.q=s.q.t)=true:=tB h3
  have c3:decide (¬m.q=s.q.t)=false:=tA (fun hh=>hh h3)
  obtain⟨b3,O⟩:=e8.out h1
  have k0:(0:Int)≤(n:Int):=by omega
  have k1:(n:Int) < 13:=by omega
  have m1:=ab (w:=wc) (show wc.cell? ⟨j,1,none⟩=some (.int .i64 (n:Int)) from by rw[←b3];exact am af.out 1 rfl)
  have G:=ab (w:=wc) (show wc.cell? ⟨k,40+n,none⟩=some (.bool (s.has n)) from am a (40+n) (jP O))
  have e5:=tt b3
  clear b3
  cases h4:s.has n with
  |true=>
   rw[h4] at G
   have A:dn s id m n=false:=by unfold dn;simp[h4]
   have HH:Hid (hb=false):=tt (by rw[←a9.out,A])
   clear A
   refine ai (by kernel_rfl) (by kernel_rfl) ?_
   repeat ((with_reducible show wpQuiet _ _ _ _ _ _);first|((with_reducible refine aq ?_ ?_);(·rfl))|go_big_quiet_step (fail)|quiet_step (fail))
   refine wpQuiet_nil ?_
   intro w3 l
   have hb3:=ay l
   clear l
   have F:=tt hb3
   clear hb3 m0 m1 m3 m4 a1 a0 G
   go_wp2_with fail
   go_ret
   rw[ad.out,HH.out]
   exact⟨rfl,Rdone.same ⟨T,U,al.out,HN.out,C,Q,fun b hb=>.inl hb,fun b hb=>.inl hb,Fp.refl _ _⟩ (Below.then HB.out F.out HB.out.size)⟩
  |false=>
   rw[h4] at G
   have A:dn s id m n=true:=by unfold dn;simp[h1,h2,h3,h4]
   have HH:Hid (hb=true):=tt (by rw[←a9.out,A])
   clear A
   refine ai (by kernel_rfl) (by kernel_rfl) ?_
   repeat ((with_reducible show wpQuiet _ _ _ _ _ _);first|((with_reducible refine aq ?_ ?_);(·rfl))|go_big_quiet_step (fail)|quiet_step (fail))
   refine wpQuiet_nil ?_
   intro w3 l
   have hb3:=ay l
   clear l
   have Y:=tt ((hb3.block j eX).trans af.out)
   have a8:=tt (eb.out.below hb3)
   have F:=tt (Below.then HB.out hb3 HB.out.size)
   have f1:=hb3.size
   clear hb3 m0 m1 m3 m4 a1 a0 G a eb
   clear ds dr dj di dc da c9 c8 c7 c6 c4 c3
   have a:=a8.out.row
   have q1:w3.cell? ⟨j,1,none⟩=some (.int .i64 (n:Int)):=by rw[←e5.out];exact am Y.out 1 rfl
   have q5:w3.cell? ⟨j,5,none⟩=some (.int .i64 m.r):=am Y.out 5 rfl
   have e3:w3.cell? ⟨k,40+n,none⟩=some (.bool (s.has n)):=am a (40+n) (jP O)
   have eq:=frozen_of_row _ _ (40+n) _ _ a
   have e4:w3.cell? ⟨k,27+n,none⟩=some (.int .i64 (s.rep n)):=am a (27+n) (lW O)
   have er:=frozen_of_row _ _ (27+n) _ _ a
   clear a
   go_upto_region 6 with fail
   go_region
   have ho4:=(a8.out.set (j:=40+n) (u:=.bool true) (s':={s with has:=upd s.has n true}) (oG O) rfl rfl rfl rfl).set (j:=27+n) (u:=.int .i64 m.r) (s':=ks s n m.r) (oF O) rfl rfl rfl rfl
   have cW:Fp U w3 ((w3.setCell ⟨k,40+n,none⟩ (.bool true)).setCell ⟨k,27+n,none⟩ (.int .i64 m.r)):=((Fp.refl U w3).setCell (p:=⟨k,40+n,none⟩) (Or.inl a8.out.uk) _).setCell (p:=⟨k,27+n,none⟩) (Or.inl a8.out.uk) _
   have b4:Below ((w3.setCell ⟨k,40+n,none⟩ (.bool true)).setCell ⟨k,27+n,none⟩ (.int .i64 m.r)).heap.size ((w3.setCell ⟨k,40+n,none⟩ (.bool true)).setCell ⟨k,27+n,none⟩ (.int .i64 m.r)) ((w3.setCell ⟨k,40+n,none⟩ (.bool true)).setCell ⟨k,27+n,none⟩ (.int .i64 m.r)).drew:=(Below.refl _ _).drew
   have X:=ho4.below b4
   have I:=cW.trans (Fp.of_below b4 U) fun b hb=>.inl hb
   obtain⟨w4,hw4⟩:∃w4,((w3.setCell ⟨k,40+n,none⟩ (.bool true)).setCell ⟨k,27+n,none⟩ (.int .i64 m.r)).drew=w4:=⟨_,rfl⟩
   rw[hw4] at X I ⊢
   have cy:¬U j:=fun hu=>by have:=HN.out.lt j hu;omega
   obtain⟨s1,hs1⟩:∃s1,ks s n m.r=s1:=⟨_,rfl⟩
   rw[hs1] at X
   have bq:=tt hs1
   have e7:=tt X
   have d7:=tt ((I.block j (by omega) cy).trans Y.out)
   have e9:Hid (Fp (fun b=>T b∨U b) w w4):=tt ((Fp.of_below F.out _).trans I fun b hb=>.inl (.inr hb))
   have ec:=tt ((al.out.below F.out).fp I C)
   have fv:w3.heap.size≤w4.heap.size:=I.size
   clear ho4 cW b4 X I hw4 hs1 q1 q5 e3 eq e4 er a8 Y
   go_upto_region 9 with fail
   go_loopw [8,9] (fun n_ i_ wr=>∃i:Nat,i_= .int .i64 (i:Int)∧i≤13∧n_= .int .i64 (iR s1 m.r i:Int)∧Hid (Below w4.heap.size w4 wr)) (fun _ i_ _=>13 - (intOf i_).toNat)
   case atStart=>exact⟨0,rfl,by omega,rfl,tt (Below.refl _ _)⟩
   case round=>
    obtain⟨i,rfl,hi,rfl,V⟩:=hrel
    have ac:=e7.out.below V.out
    have a:=ac.row
    have ct:j < w4.heap.size:=by omega
    have bc:=(V.out.block j ct).trans d7.out
    have hcl:=qQ s1 m.r i
    obtain⟨cn,hcn⟩:∃cn,iR s1 m.r i=cn:=⟨_,rfl⟩
    have b6:=tt hcn
    rw[hcn] at hcl ⊢
    clear hcn
    by_cases hlt:i < 13
    case pos=>
     have e1:decide ((i:Int) < 13)=true:=by simp;omega
     have i0:(0:Int)≤(i:Int):=by omega
     have i1:(i:Int) < 13:=by omega
     have G:=ab (w:=wr) (show wr.cell? ⟨k,40+i,none⟩=some (.bool (s1.has i)) from am a (40+i) (jP hlt))
     have b0:=ab (w:=wr) (show wr.cell? ⟨k,27+i,none⟩=some (.int .i64 (s1.rep i)) from am a (27+i) (lW hlt))
     have l5:=ab (w:=wr) (show wr.cell? ⟨j,5,none⟩=some (.int .i64 m.r) from am bc 5 rfl)
     have b2:=nI s1 m.r i
     rw[b6.out] at b2
     have bp:=tt b2
     clear a bc ac b2
     go_upto_region 11 with fail
     go_cut [104] from 88 to 103 (fun c_ wx=>c_= .bool (s1.has i&&(s1.rep i==m.r))∧Hid (Below wr.heap.size wr wx))
     case first=>
      cases hh:s1.has i with
      |false=>
       rw[hh] at G
       refine ai (by kernel_rfl) (by kernel_rfl) ?_
       repeat ((with_reducible show wpQuiet _ _ _ _ _ _);first|((with_reducible refine aq ?_ ?_);(·rfl))|go_big_quiet_step (fail)|quiet_step (fail))
       refine wpQuiet_nil ?_
       intro w5 l
       have bb:=tt (ay l)
       clear l G b0 l5
       go_wp2_with fail
       go_meet
       exact⟨by rw[hh];rfl,bb⟩
      |true=>
       rw[hh] at G
       refine ai (by kernel_rfl) (by kernel_rfl) ?_
       repeat ((with_reducible show wpQuiet _ _ _ _ _ _);first|((with_reducible refine aq ?_ ?_);(·rfl))|go_big_quiet_step (fail)|quiet_step (fail))
       refine wpQuiet_nil ?_
       intro w5 l
       have bb:=tt (ay l)
       clear l G b0 l5
       go_wp2_with fail
       go_meet
       exact⟨by rw[hh];rfl,bb⟩
     case rest=>
      obtain⟨rfl,bb⟩:=hcut
      have c1:=Below.then V.out bb.out V.out.size
      have eo:=tt c1
      clear G b0 l5 c1
      have f4:IntKind.i64.wrap ((cn:Int)+1)=(cn:Int)+1:=IntWalk.i64_in _ (by omega)
      cases c0:(s1.has i&&(s1.rep i==m.r)) with
      |true=>
       rw[c0,if_pos rfl] at bp
       go_wp2_with fail
       refine⟨⟨i+1,by go_num,by omega,by rw[bp.out];simp,eo⟩,?_⟩
       simp[intOf];omega
      |false=>
       rw[c0,if_neg (by decide)] at bp
       go_wp2_with fail
       refine⟨⟨i+1,by go_num,by omega,by rw[bp.out];simp,eo⟩,?_⟩
       simp[intOf];omega
    case neg=>
     have e1:decide ((i:Int) < 13)=false:=by simp;omega
     obtain rfl:i=13:=by omega
     have f0:wr.cell? ⟨k,0,none⟩=some (.int .i64 c.f):=am a 0 rfl
     have P:=tt ac
     have d6:=tt bc
     have d1:=tt (e9.out.trans (Fp.of_below V.out (fun b=>T b∨U b)) fun b hb=>.inl hb)
     have d0:=tt (ec.out.below V.out)
     have fm:w4.heap.size≤wr.heap.size:=V.out.size
     clear ac bc a
     by_cases b1:Psp.dE c.f≤(cn:Int)
     case neg=>
      have e0:decide ((cn:Int)≥Psp.dE c.f)=false:=tA b1
      go_wp2_with (go_at_call 78;refine (iw _ _).mono ?_;rintro e w' ⟨rfl,rfl⟩)
      go_ret
      have aa:s2=s1:=by rw[ad.out,HH.out,if_pos rfl];unfold gv;rw[bq.out,b6.out,if_neg (by omega)]
      rw[aa,HH.out]
      exact⟨rfl,⟨⟨T,U,d0.out,P.out.m,C,fun b hb=>by have:=Q b hb;omega,fun b hb=>.inl hb,fun b hb=>.inl hb,d1.out⟩⟩⟩
     case pos=>
      have e0:decide ((cn:Int)≥Psp.dE c.f)=true:=tB b1
      go_upto_region 14 with (go_at_call 78;refine (iw _ _).mono ?_;rintro e w' ⟨rfl,rfl⟩)
      clear f0
      have cs:k < wr.heap.size:=by omega
      have f8:j < wr.heap.size:=by omega
      have a:=P.out.row
      have ex:=aT (w:=wr.drew) (T:=fun b=>b≠k∧b≠j) (show wr.drew.cell? ⟨k,54,none⟩=some (.slice Ac s.acc.length cc) from am a 54 rfl) (fun hh=>hh.1 rfl)
      have l5:=aT (w:=wr.drew) (T:=fun b=>b≠k∧b≠j) (show wr.drew.cell? ⟨j,5,none⟩=some (.int .i64 m.r) from am d6.out 5 rfl) (fun hh=>hh.2 rfl)
      have d5:Hid (∀w':World,(∃p:LaterF wr.drew (fun b=>b≠k∧b≠j),w'=p.W)→w'.rangeAt k 19 [.int .i64 s1.q.c,.int .i64 s1.q.t,.int .i64 s1.q.k,.int .i64 s1.q.y,.int .i64 s1.q.v,.int .i64 s1.q.s]):=tt (by
       rintro w' ⟨p,rfl⟩ j_ u_ h_
       have h2:=aB ((p.h.block k (show k < wr.heap.size from cs) (fun hh=>hh.1 rfl)).trans a) (j_+19) u_ (by have h3:j_ < 6:=(List.getElem?_eq_some_iff.1 h_).1;rcases j_ with _|_|_|_|_|_|j_ <;> first|exact h_|exact absurd h3 (by omega))
       rw[Nat.zero_add] at h2
       rw[Nat.add_comm 19 j_];exact h2)
      have b9:=tt (show wr.drew.ownsRow 0 61 7 _ _ _ from P.out.oc)
      have a7:=tt (aC P.out.oc P.out.row (by decide))
      have bQ:Hid (∀b,(Value.slice Ac s.acc.length cc).ownBlock=some b→b≠j):=tt fun b hb he=>cy (he▸P.out.uc b hb)
      have a6:s1.acc.length=s.acc.length:=by rw[←bq.out];rfl
      have d2:=tt a6
      rw[a6] at b9
      clear a a6
      refine aU (fun b=>b≠k∧b≠j) [(true,0),(true,1),(true,2),(true,3),(true,4),(true,5),(true,6),(true,7),(true,8),(true,9),(true,10),(true,11),(false,12),(false,13)] (by kernel_rfl) (by kernel_rfl) ?_
      simp only[phS,tu,tx,Option.toList,tC,tD,Nat.reduceAdd,tE,List.drop_zero]
      repeat (first|go_big_quiet_step (fail)|(refine aj (by simp[Region.wanted,yielded]) 42 (.tmp 122) (by rfl) k 19 (by rfl) [.int .i64 s1.q.c,.int .i64 s1.q.t,.int .i64 s1.q.k,.int .i64 s1.q.y,.int .i64 s1.q.v,.int .i64 s1.q.s] _ d5.out Tryz.underlying42 rfl az ?_;intro K hK;go_simp;refine hK _ ?_;clear hK K)|quiet_step (fail)|refine wpQuiet_nil ?_)
      clear ex l5 d5
      go_wp2_with fail
      refine And.intro ⟨⟨_,(Fp.refl _ wr.drew).alloc _⟩,rfl⟩ ?_
      go_wp2_with (at_builtin;refine aW qN rfl _ _ rfl 0 (.slice Ac s.acc.length cc) s.acc.length (s1.acc.flatMap ev) rfl b9.out _ rfl rfl (by simp[Value.oneCell']) (by omega) (by decide) (Nat.zero_le _) ?_;intro v5 w5 a3 cA _ ck;have Z:=tt a3;have ca:=tt cA;have d4:=tt ck;clear a3 cA ck;obtain⟨A5,c5,rfl,_,_,_⟩:=ao Z.out)
      refine And.intro ⟨⟨w5,(Fp.refl _ wr.drew).grown ca.out (fun b hb=>Or.inl ⟨a7.out b hb,bQ.out b hb⟩)⟩,rfl⟩ ?_
      have R:Hid (Fp (fun b=>(Value.slice Ac s.acc.length cc).ownBlock=some b) wr w5):=tt ((Fp.of_below (show Below wr.heap.size wr wr.drew from (Below.refl _ _).drew) _).grown ca.out (fun b hb=>Or.inl hb))
      have J:=(R.out.block k cs (fun hh=>a7.out k hh rfl)).trans P.out.row
      have d8:=tt J
      have e2:w5.cell? ⟨k,54,none⟩=some (.slice Ac s.acc.length cc):=am J 54 rfl
      have ep:=frozen_of_row _ _ 54 _ _ J
      have fr:wr.heap.size≤w5.heap.size:=R.out.size
      clear J
      go_upto_region 15 with fail
      clear e2 ep
      have ho:=P.out
      have B:=eK (W:=w5) (U:=fun b=>U b∨(wr.heap.size≤b∧b < w5.heap.size)) (k:=k) (h:=h) (c:=c) (id:=id) (j:=54) (u:=(.slice A5 (s.acc.length+1) c5)) (s':={s1 with acc:=s1.acc++[(s1.q,m.r)]}) (vb':=(.slice Ab s.bs.length cb)) (vi':=(.slice Ai s.iss.length ci)) (va':=(.slice A5 (s.acc.length+1) c5)) (vo':=(.slice Ao L.length co)) (L':=L) d8.out rfl (.inl ho.uk) (fun b hb=>by
       rcases hb with hb|hb
       ·have:=ho.lt b hb;omega
       ·exact hb.2) (ar ho.ob fun b hb=>R.out.block b (ho.ob.lt b hb).2 (bC ho.ob ho.oc (by decide) b hb))
       (ar ho.oi fun b hb=>R.out.block b (ho.oi.lt b hb).2 (bC ho.oi ho.oc (by decide) b hb))
       (by rw[tH,List.flatMap_append,d2.out];simpa [ev,iv] using Z.out) ho.om
       (ho.oo.keep fun b hb hlt ac=>⟨R.out.block b hlt (by rcases ac with h1|⟨x,hx,h1⟩;exact bC ho.oo.own ho.oc (by decide) b h1;exact bC (ho.oo.ok x hx).1 ho.oc (by decide) b h1),.inl hb⟩)
       (fun b hb=>.inl (ho.ub b hb)) (fun b hb=>.inl (ho.ui b hb)) (fun b hb=>by
         rcases d4.out with h1|h1
         ·rw[h1] at hb;exact .inl (ho.uc b hb)
         ·have h2:=(Z.out.lt b hb).2
          rw[h1] at hb;injection hb with hb
          right;exact⟨by rw[←hb];show wr.heap.size≤wr.heap.size+1;omega,h2⟩)
      have bd:Fp U wr (w5.setCell ⟨k,54,none⟩ (.slice A5 (s.acc.length+1) c5)):=(R.out.mono fun b _ hb=>ho.uc b hb).setCell (p:=⟨k,54,none⟩) (Or.inl ho.uk) _
      have eS:(w5.setCell ⟨k,54,none⟩ (.slice A5 (s.acc.length+1) c5)).heap.size=w5.heap.size:=by simp
      obtain⟨w6,hw6⟩:∃w6,w5.setCell ⟨k,54,none⟩ (.slice A5 (s.acc.length+1) c5)=w6:=⟨_,rfl⟩
      rw[hw6] at B bd eS ⊢
      have dv:=B.set (j:=18) (u:=.bool false) (s':={s1 with acc:=s1.acc++[(s1.q,m.r)],wt:=false}) rfl rfl rfl rfl rfl
      have cQ:Fp U w6 (w6.setCell ⟨k,18,none⟩ (.bool false)):=iu w6 18 _ ho.uk
      have HM:=tt dv.m
      have cf:=tt (bd.trans cQ fun b hb=>.inl hb)
      have dO:w6.cell? ⟨k,18,none⟩=some (.bool s1.wt):=am B.row 18 rfl
      have fi:=frozen_of_row _ _ 18 _ _ B.row
      have fq:wr.heap.size≤w6.heap.size:=bd.size
      clear B bd hw6 ho dv cQ b9 a7 bQ Z ca d4 R d8
      go_wp2_with fail
      go_ret
      have aa:s2={s1 with acc:=s1.acc++[(s1.q,m.r)],wt:=false}:=by rw[ad.out,HH.out,if_pos rfl];unfold gv;rw[bq.out,b6.out,if_pos b1,←bq.out];rfl
      rw[aa,HH.out]
      have f2:w.heap.size≤w3.heap.size:=F.out.size
      refine⟨rfl,⟨⟨T,_,d0.out.fp cf.out C,HM.out,fun b hb hu=>?_,fun b hb=>?_,fun b hb=>.inl hb,fun b hb=>?_,d1.out.trans cf.out fun b hb=>.inl (.inr hb)⟩⟩⟩
      ·rcases hu with hu|hu
       ·exact C b hb hu
       ·have:=Q b hb;omega
      ·have h1:=Q b hb
       have h2:=cf.out.size
       omega
      ·rcases hb with hb|hb
       ·exact .inl hb
       ·right;omega
structure Cr (W:World) (S:Nat→Prop) (g bm h:Nat) (K L:List Key) (k ct rk:Nat) (c:Cf) (id:Int) (s:CS) (r:RC):Prop where
 ex:∃V T U:Nat→Prop,(∀b,S b↔(V b∨T b∨U b))∧Cn W V g bm K k ct c id s∧Ntr W T h L∧Rcm W U rk h c id r∧(∀b,V b→¬T b∧¬U b)∧(∀b,T b→¬U b)∧(¬T g∧¬T bm)∧(¬U g∧¬U bm)∧∀b,T b→b < W.heap.size
section
variable {W W':World} {S:Nat→Prop} {g bm h k ct rk:Nat} {K L:List Key} {c:Cf} {id:Int} {s:CS} {r:RC}
theorem Cr.nt (H:Cr W S g bm h K L k ct rk c id s r):Nt W g bm K:=by obtain⟨V,T,U,_,h1,_⟩:=H.ex;exact h1.nt
theorem Cr.lt (H:Cr W S g bm h K L k ct rk c id s r):∀b,S b→b < W.heap.size:=by
 obtain⟨V,T,U,hS,h1,h2,h3,_,_,_,_,h8⟩:=H.ex
 intro b hb
 rcases (hS b).1 hb with hb|hb|hb
 ·exact h1.cm.lt b hb
 ·exact h8 b hb
 ·exact h3.lt b hb
theorem Cr.below (H:Cr W S g bm h K L k ct rk c id s r) (hb:Below W.heap.size W W'):Cr W' S g bm h K L k ct rk c id s r:=by
 obtain⟨V,T,U,hS,h1,h2,h3,h4,h5,h6,h7,h8⟩:=H.ex
 exact⟨V,T,U,hS,h1.below hb,h2.below hb,h3.below hb,h4,h5,h6,h7,fun b ht=>Nat.lt_of_lt_of_le (h8 b ht) hb.size⟩
theorem Cr.fp {R:Nat→Prop} (H:Cr W S g bm h K L k ct rk c id s r) (hf:Fp R W W') (hg:¬R g) (hb:¬R bm) (hR:∀b,S b→¬R b):Cr W' S g bm h K L k ct rk c id s r:=by
 obtain⟨V,T,U,hS,h1,h2,h3,h4,h5,h6,h7,h8⟩:=H.ex
 exact⟨V,T,U,hS,h1.fp hf (fun b hb=>hR b ((hS b).2 (.inl hb))) hg hb,h2.fp hf (fun b hb=>hR b ((hS b).2 (.inr (.inl hb)))),h3.fp hf (fun b hb=>hR b ((hS b).2 (.inr (.inr hb)))),h4,h5,h6,h7,fun b ht=>Nat.lt_of_lt_of_le (h8 b ht) hf.size⟩
theorem Cr.op {P:Program} {f:FuncId} {args:Array Value} {K':List Key} {s':CS} {Q:Ending→World→Prop} (H:Cr W S g bm h K L k ct rk c id s r)
 (hop:∀V,Cn W V g bm K k ct c id s→Calls P f args W fun e W'=>Q e W'∧∃V',Cn W' V' g bm K' k ct c id s'∧(∀b,V' b→V b∨W.heap.size≤b)∧Fp (fun b=>V b∨b=bm) W W'):
 Calls P f args W fun e W'=>Q e W'∧∃S',Cr W' S' g bm h K' L k ct rk c id s' r∧(∀b,S' b→S b∨W.heap.size≤b)∧Fp (fun b=>S b∨b=bm) W W':=by
 obtain⟨V,T,U,hS,h1,h2,h3,h4,h5,h6,h7,h8⟩:=H.ex
 refine (hop V h1).mono ?_
 rintro e W' ⟨hq,V',g1,g2,g3⟩
 have hT:∀b,T b→¬ (V b∨b=bm):=fun b hb=>by
  rintro (hh|hh)
  ·exact (h4 b hh).1 hb
  ·exact h6.2 (hh▸hb)
 have hU:∀b,U b→¬ (V b∨b=bm):=fun b hb=>by
  rintro (hh|hh)
  ·exact (h4 b hh).2 hb
  ·exact h7.2 (hh▸hb)
 refine⟨hq,fun b=>V' b∨T b∨U b,⟨V',T,U,fun b=>Iff.rfl,g1,h2.fp g3 hT,h3.fp g3 hU,fun b hb=>?_,h5,h6,h7,fun b ht=>Nat.lt_of_lt_of_le (h8 b ht) g3.size⟩,fun b hb=>?_,g3.mono fun b _ hb=>?_⟩
 ·rcases g2 b hb with h9|h9
  ·exact h4 b h9
  ·exact⟨fun ht=>by have:=h8 b ht;omega,fun hu=>by have:=h3.lt b hu;omega⟩
 ·rcases hb with hb|hb
  ·rcases g2 b hb with h9|h9
   ·exact .inl ((hS b).2 (.inl h9))
   ·exact .inr h9
  ·exact .inl ((hS b).2 (.inr hb))
 ·rcases hb with hb|hb
  ·exact .inl ((hS b).2 (.inl hb))
  ·exact .inr hb
theorem Cr.rop {P:Program} {f:FuncId} {args:Array Value} {L':List Key} {r':RC} {Q:Ending→World→Prop} (H:Cr W S g bm h K L k ct rk c id s r)
 (hop:∀T U,Ntr W T h L→Rcm W U rk h c id r→(∀b,T b→¬U b)→(∀b,T b→b < W.heap.size)→Calls P f args W fun e W'=>Q e W'∧Rdone T U rk h L' c id r' W W'):
 Calls P f args W fun e W'=>Q e W'∧∃S',Cr W' S' g bm h K L' k ct rk c id s r'∧(∀b,S' b→S b∨W.heap.size≤b)∧Fp (fun b=>S b∨b=bm) W W':=by
 obtain⟨V,T,U,hS,h1,h2,h3,h4,h5,h6,h7,h8⟩:=H.ex
 refine (hop T U h2 h3 h5 h8).mono ?_
 rintro e W' ⟨hq,hr⟩
 obtain⟨T',U',g1,g2,g3,g4,g5,g6,g7⟩:=hr.ex
 have d:=h1.nt.lt
 have hg:¬ (T g∨U g):=by rintro (hh|hh);exact h6.1 hh;exact h7.1 hh
 have a:¬ (T bm∨U bm):=by rintro (hh|hh);exact h6.2 hh;exact h7.2 hh
 have hV:∀b,V b→¬ (T b∨U b):=fun b hb=>by rintro (hh|hh);exact (h4 b hb).1 hh;exact (h4 b hb).2 hh
 refine⟨hq,fun b=>V b∨T' b∨U' b,⟨V,T',U',fun b=>Iff.rfl,h1.fp g7 hV hg a,g1,g2,fun b hb=>⟨fun ht=>?_,fun hu=>?_⟩,g3,⟨fun ht=>?_,fun ht=>?_⟩,⟨fun hu=>?_,fun hu=>?_⟩,g4⟩,fun b hb=>?_,g7.mono fun b _ hb=>?_⟩
 ·rcases g5 b ht with h9|h9
  ·exact (h4 b hb).1 h9
  ·have:=h1.cm.lt b hb;omega
 ·rcases g6 b hu with h9|h9
  ·exact (h4 b hb).2 h9
  ·have:=h1.cm.lt b hb;omega
 ·rcases g5 g ht with h9|h9
  ·exact h6.1 h9
  ·omega
 ·rcases g5 bm ht with h9|h9
  ·exact h6.2 h9
  ·omega
 ·rcases g6 g hu with h9|h9
  ·exact h7.1 h9
  ·omega
 ·rcases g6 bm hu with h9|h9
  ·exact h7.2 h9
  ·omega
 ·rcases hb with hb|hb|hb
  ·exact .inl ((hS b).2 (.inl hb))
  ·rcases g5 b hb with h9|h9
   ·exact .inl ((hS b).2 (.inr (.inl h9)))
   ·exact .inr h9
  ·rcases g6 b hb with h9|h9
   ·exact .inl ((hS b).2 (.inr (.inr h9)))
   ·exact .inr h9
 ·rcases hb with hb|hb
  ·exact .inl ((hS b).2 (.inr (.inl hb)))
  ·exact .inl ((hS b).2 (.inr (.inr hb)))
theorem Cr.two {P:Program} {f:FuncId} {args:Array Value} {K' L':List Key} {Q:Ending→World→(Nat→Prop)→Prop} (H:Cr W S g bm h K L k ct rk c id s r)
 (hop:∀T,Tv W T g bm h K L→Calls P f args W fun e W'=>∃T',Q e W' T'∧Tv W' T' g bm h K' L'∧(∀b,T' b→T b∨W.heap.size≤b)∧Fp (fun b=>T b∨b=bm) W W'):
 Calls P f args W fun e W'=>∃T' S',Q e W' T'∧(∀b,S' b→T' b∨b < W.heap.size)∧Cr W' S' g bm h K' L' k ct rk c id s r∧(∀b,S' b→S b∨W.heap.size≤b)∧Fp (fun b=>S b∨b=bm) W W':=by
 obtain⟨V,T,U,hS,h1,h2,h3,h4,h5,h6,h7,h8⟩:=H.ex
 have a:T h:=by obtain⟨_,_,_,_,_,hh,_⟩:=h2.ex;exact hh
 refine (hop T ⟨h1.nt,h2,h6,h8,a⟩).mono ?_
 rintro e W' ⟨T',hq,g1,g2,g3⟩
 have hV:∀b,V b→¬ (T b∨b=bm):=fun b hb=>by
  rintro (hh|hh)
  ·exact (h4 b hb).1 hh
  ·exact h1.sep.2 (hh▸hb)
 have hU:∀b,U b→¬ (T b∨b=bm):=fun b hb=>by
  rintro (hh|hh)
  ·exact h5 b hh hb
  ·exact h7.2 (hh▸hb)
 refine⟨T',fun b=>V b∨T' b∨U b,hq,fun b hb=>?_,⟨V,T',U,fun b=>Iff.rfl,⟨g1.nt,h1.cm.fp g3 hV,h1.sep⟩,g1.nr,h3.fp g3 hU,fun b hb=>⟨fun ht=>?_,(h4 b hb).2⟩,fun b hb hu=>?_,g1.sep,h7,g1.lt⟩,fun b hb=>?_,g3.mono fun b _ hb=>?_⟩
 ·rcases hb with hb|hb|hb
  ·exact .inr (h1.cm.lt b hb)
  ·exact .inl hb
  ·exact .inr (h3.lt b hb)
 ·rcases g2 b ht with h9|h9
  ·exact (h4 b hb).1 h9
  ·have:=h1.cm.lt b hb;omega
 ·rcases g2 b hb with h9|h9
  ·exact h5 b h9 hu
  ·have:=h3.lt b hu;omega
 ·rcases hb with hb|hb|hb
  ·exact .inl ((hS b).2 (.inl hb))
  ·rcases g2 b hb with h9|h9
   ·exact .inl ((hS b).2 (.inr (.inl h9)))
   ·exact .inr h9
  ·exact .inl ((hS b).2 (.inr (.inr hb)))
 ·rcases hb with hb|hb
  ·exact .inl ((hS b).2 (.inr (.inl hb)))
  ·exact .inr hb
theorem Cr.ask {P:Program} {f:FuncId} {args:Array Value} {Q:Ending→World→Prop} (H:Cr W S g bm h K L k ct rk c id s r) (hop:∀V,Clm W V k ct g c id s→Calls P f args W Q):Calls P f args W Q:=by
 obtain⟨V,T,U,hS,h1,_⟩:=H.ex
 exact hop V h1.cm
theorem Cr.row (H:Cr W S g bm h K L k ct rk c id s r):∃(Ab:Option Addr) (cb:Nat) (Ai:Option Addr) (ci:Nat) (Ac:Option Addr) (cc:Nat) (Ao:Option Addr) (co:Nat) (Ls:List SendV) (U:Nat→Prop),Rco W U rk h c id r (.slice Ab r.bs.length cb) (.slice Ai r.iss.length ci) (.slice Ac r.acc.length cc) (.slice Ao Ls.length co) Ls:=by
 obtain⟨V,T,U,hS,h1,h2,h3,_⟩:=H.ex
 obtain⟨Ab,cb,Ai,ci,Ac,cc,Ao,co,Ls,ho⟩:=h3.opens
 exact⟨Ab,cb,Ai,ci,Ac,cc,Ao,co,Ls,U,ho⟩
theorem Cr.nd (H:Cr W S g bm h K L k ct rk c id s r):K.Nodup:=H.nt.nd
end
theorem nz {s:CS} {id n i q r:Int}:s.hears id (aR n i q r)=(decide (i=id)&&(decide (q=s.last.t)&& !(s.ans.any fun a=>a.1==n))):=rfl
theorem nA {s:CS} {c:Cf} {n i q r:Int}:s.heard c (aR n i q r)=if Psp.dE c.f≤s.same r then {s with ans:=s.ans++[(n,r)],acc:=s.acc++[(s.last,r)],waits:=false} else {s with ans:=s.ans++[(n,r)]}:=rfl
theorem told {c:Cf} {id:Int} {K:List Key} {s:CS} {n i q r:Int} (hf:1≤c.f∧c.f≤4) (hcl:c.cl≤4) (hn:0≤n∧n≤3 * c.f) (hi:0≤i∧i < c.cl) (hq:1≤q∧q≤1048576) (hr: -100000≤r∧r≤100000) (hK:K.length < 1000000):
 cL c id (sealK K (aR n i q r)) s (cX K (aR n i q r))=if (s.waits&&s.hears id (aR n i q r))=true then (true,s.heard c (aR n i q r)) else (false,s):=by
 unfold cL
 rw[(oA hf hn hi hcl hq hr hK).2]
 cases s.waits with
 |false=>rfl
 |true=>
  dsimp only
  rw[if_pos rfl,Bool.true_and]
theorem pU {f:Int} (hf:1≤f∧f≤4):Psp.dE f=f+1:=by unfold Psp.dE;rw[if_pos hf]
theorem sI {l:List (Int×Int)} {n:Int} (h:(l.any fun a=>a.1==n)=false):n∉l.map (·.1):=by
 intro hm
 obtain⟨a,ha,he⟩:=List.mem_map.1 hm
 rw[List.any_eq_false] at h
 exact h a ha (by simpa using he)
theorem jZ {s:CS} {is0:List Psp.Req} {r:Psp.Req} (h:s.issued=is0++[r]):s.last=r:=by
 unfold CS.last
 rw[h]
 simp
structure Wk2 (s:CS) (is0:List Psp.Req) (r:Psp.Req) (ac0:List (Psp.Req×Int)) (f bs res:Int) (i:Nat):Prop where
 w:s.waits=decide ((i:Int)≤f)
 is:s.issued=is0++[r]
 lo:∀a∈s.ans,a.1 < bs+(i:Int)
 re:(s.ans.countP fun a=>a.2==res)=i
 ac:s.acc=if (i:Int)≤f then ac0 else ac0++[(r,res)]
section
variable {s:CS} {is0:List Psp.Req} {r:Psp.Req} {ac0:List (Psp.Req×Int)} {f bs res id:Int} {i:Nat} {c:Cf}
theorem Wk2.start (hw:s.waits=true) (hi:s.issued=is0++[r]) (ha:s.ans=[]) (hc:s.acc=ac0) (hf:1≤f):Wk2 s is0 r ac0 f bs res 0:=
 ⟨by rw[hw];exact (tB (by omega)).symm,hi,fun a h=>by (rw[ha] at h;cases h),by rw[ha];rfl,by rw[hc];exact (if_pos (by omega)).symm⟩
theorem Wk2.hears (h:Wk2 s is0 r ac0 f bs res i) (hi:(i:Int)≤f):(s.waits&&s.hears id (aR (bs+(i:Int)) id r.t res))=true:=by
 rw[h.w,tB hi,Bool.true_and,nz,decide_eq_true rfl,Bool.true_and,jZ h.is,decide_eq_true rfl,Bool.true_and,Bool.not_eq_true',List.any_eq_false]
 intro a ha
 have:=h.lo a ha
 simp
 omega
theorem Wk2.step (h:Wk2 s is0 r ac0 f bs res i) (hf:1≤f∧f≤4) (k:c.f=f) (hi:(i:Int)≤f):Wk2 (s.heard c (aR (bs+(i:Int)) id r.t res)) is0 r ac0 f bs res (i+1):=by
 have b:=h.ac
 rw[if_pos hi] at b
 have hw:=h.w
 rw[tB hi] at hw
 have j:s.same res=1+(i:Int):=by unfold CS.same;rw[h.re]
 have e:∀a∈s.ans++[(bs+(i:Int),res)],a.1 < bs+((i+1:Nat):Int):=fun a ha=>by
  rcases List.mem_append.1 ha with ha|ha
  ·have:=h.lo a ha;omega
  ·rw[List.mem_singleton.1 ha];show bs+(i:Int) < _;omega
 have d:((s.ans++[(bs+(i:Int),res)]).countP fun a=>a.2==res)=i+1:=by rw[List.countP_append,h.re];simp
 rw[nA,k,pU hf,j]
 by_cases g:f+1≤1+(i:Int)
 ·rw[if_pos g]
  exact⟨(tA (by omega)).symm,h.is,e,d,by rw[if_neg (by omega)];show s.acc++[(s.last,res)]=_;rw[b,jZ h.is]⟩
 ·rw[if_neg g]
  exact⟨by show s.waits=_;rw[hw];exact (tB (by omega)).symm,h.is,e,d,by rw[if_pos (by omega)];exact b⟩
end
section
variable {s:CS} {r:Psp.Req} {f won id:Int} {has:List Bool} {vo:List Int} {done:Bool} {n v:Nat} {c:Cf}
end
abbrev fF (f:Int):Cf:=⟨f,2,2,4,64,8,8,8,1,2,12,8,6,2,6⟩
theorem rO {f:Int} (hf:1≤f∧f≤4):(fF f).ok=true:=by
 unfold Cf.ok
 rw[(Psp.aN (fF f).f 1 4).2 hf]
 rfl
theorem gR {c:Cf} {id:Int} {K K2:List Key} {s s2:CS} {r:Psp.Req} {k:Key} (hf:1≤c.f∧c.f≤4) (h:dl c id (bi K k) {s with issued:=s.issued++[r],waits:=true,at_:=s.now,ans:=[]} =(s2,K2)):
 s2.waits=true∧s2.issued=s.issued++[r]∧s2.ans=[]∧s2.acc=s.acc∧s2.out.length≤s.out.length+13∧K2.length≤K.length+2∧s2.now=s.now∧s2.at_=s.now:=by
 unfold dl at h
 injection h with h1 h2
 have h3:=cY (bi K k) (b7 id ({s with issued:=s.issued++[r],waits:=true,at_:=s.now,ans:=[]}:CS).last)
 have h4:=fo K k
 rw[h2] at h3
 have hn:=fd hf
 refine⟨?_,?_,?_,?_,?_,by omega,?_,?_⟩
 all_goals rw[←h1]
 all_goals split
 all_goals first
  |rfl
  |(show (s.out++bK _ _).length≤_;rw[tH];unfold bK;rw[List.length_map,List.length_range];omega)
  |(show s.out.length≤_;omega)
theorem jy {s:CS} {c:Cf} {m:Psp.Msg}:(s.heard c m).ans.length=s.ans.length+1∧(s.heard c m).issued=s.issued∧(s.heard c m).acc.length≤s.acc.length+1∧(s.heard c m).out=s.out:=by
 unfold CS.heard
 split
 ·exact⟨by simp,rfl,by simp,rfl⟩
 ·exact⟨by simp,rfl,by show s.acc.length≤_;omega,rfl⟩
theorem qL {K:List Key} {n i q r:Int} (hn:0≤n∧n < 1000) (hi:0≤i∧i < 1000) (hq:0≤q∧q < 2000000) (hr: -100000≤r∧r≤100000) (hK:K.length < 1000000):res (cX K (aR n i q r)) (okS K (aR n i q r))=cX K (aR n i q r):=by
 obtain⟨o1,o2⟩:=lp hn hi hq hr
 rw[ei o1 o2 hK]
 rfl
theorem lD (U:Nat→Prop) (g k ct:Nat) (c:Cf) (id:Int) (s:CS) (kk y v:Int) (w:World) (h:Clm w U k ct g c id s) (hw:s.waits=true):
 Calls Tryz.prog 12 #[.pointer (some ⟨k,0,none⟩),.agg #[.int .i64 kk,.int .i64 y,.int .i64 v]] w fun e w'=>e= .returned (.tuple #[.agg #[.int .i64 0,.int .i64 0,.int .i64 0,.int .i64 0,.int .i64 0,.int .i64 0],.int .i64 5])∧Below w.heap.size w w':=by
 have i:=ae w (.cells #[.int .i64 kk,.int .i64 y,.int .i64 v] 40)
 have hbb:=ae (w.alloc (.cells #[.int .i64 kk,.int .i64 y,.int .i64 v] 40)) (.cells #[.int .i64 0,.int .i64 0,.int .i64 0,.int .i64 0,.int .i64 0,.int .i64 0] 42)
 have hcb:=tL (w.alloc (.cells #[.int .i64 kk,.int .i64 y,.int .i64 v] 40)) (.cells #[.int .i64 0,.int .i64 0,.int .i64 0,.int .i64 0,.int .i64 0,.int .i64 0] 42)
 have f:(w.alloc (.cells #[.int .i64 kk,.int .i64 y,.int .i64 v] 40)).heap.size=w.heap.size+1:=by simp
 have hsb:((w.alloc (.cells #[.int .i64 kk,.int .i64 y,.int .i64 v] 40)).alloc (.cells #[.int .i64 0,.int .i64 0,.int .i64 0,.int .i64 0,.int .i64 0,.int .i64 0] 42)).heap.size=w.heap.size+2:=by simp
 rw[f] at hcb
 have b:=i.trans (hbb.mono (by omega))
 clear i hbb
 have HN:=tt h
 clear h
 go_enter Tryz.func12,Tryz.ntmps12
 go_upto_region 1 with fail
 obtain⟨W,hW⟩:∃W,(w.alloc (.cells #[.int .i64 kk,.int .i64 y,.int .i64 v] 40)).alloc (.cells #[.int .i64 0,.int .i64 0,.int .i64 0,.int .i64 0,.int .i64 0,.int .i64 0] 42)=W:=⟨_,rfl⟩
 rw[hW] at b hcb hsb ⊢
 have j:=tt (HN.out.below b)
 obtain⟨Ai,ci,Aa,ca,Ac,cc,Ao,co,L,ho⟩:=j.out.opens
 have a:=ho.row
 rw[hw] at a
 have n:W.cell? ⟨k,18,none⟩=some (.bool true):=am a 18 rfl
 have d:=au hcb
 obtain⟨s1,s2⟩:=aQ hcb [.int .i64 0,.int .i64 0,.int .i64 0,.int .i64 0,.int .i64 0,.int .i64 0] rfl
 have l:=tt d
 have S1:=tt s1
 have m:=tt b
 clear hW b hcb hsb f ho a d s1 s2 HN j
 go_wp2_with (first|(refine wpList_store_mid rfl 42 (.tmp 4) (.tmp 12) rfl (w.heap.size+1) 0 #[.int .i64 0,.int .i64 0,.int .i64 0,.int .i64 0,.int .i64 0,.int .i64 0] rfl rfl l.out az (by simp[Value.oneCell']) ?_))
 refine bodyPost_ret (v:=.tuple #[.agg #[.int .i64 0,.int .i64 0,.int .i64 0,.int .i64 0,.int .i64 0,.int .i64 0],.int .i64 5]) ?_ rfl ?_
 ·exact aI Tryz.results12 _ _ (w.heap.size+1) _ _ _ _ rfl S1.out Tryz.underlying42 rfl az
 ·exact⟨rfl,((Fp.of_below m.out (fun _=>False)).setCells (Or.inr (by omega)) _).to_below (tJ _) fun _ _ h=>h.elim⟩
theorem Clm.ticked {W:World} {U:Nat→Prop} {k ct g:Nat} {c:Cf} {id n:Int} {s:CS} (h:Clm W U k ct g c id s):Clm (W.setCell ⟨ct,0,none⟩ (.int .i64 n)) U k ct g c id {s with now:=n}:=by
 obtain⟨Ai,ci,Aa,ca,Ac,cc,Ao,co,L,ho⟩:=h.opens
 have hs:(W.setCell ⟨ct,0,none⟩ (.int .i64 n)).heap.size=W.heap.size:=by simp
 refine⟨⟨_,_,_,_,L,(bP k (ol ho.row ho.clk (by decide))).trans ho.row,ar ho.oi fun b hb=>bP b (aC ho.oi ho.clk (by decide) b hb),ar ho.oa fun b hb=>bP b (aC ho.oa ho.clk (by decide) b hb),ar ho.oc fun b hb=>bP b (aC ho.oc ho.clk (by decide) b hb),ho.om,ho.oo.keep fun b hb hlt a=>⟨bP b ?_,hb⟩,ho.ui,ho.ua,ho.uc⟩,?_,ho.uk,ho.uct,fun b hb=>by rw[hs];exact ho.lt b hb⟩
 ·rcases a with h1|⟨x,hx,h1⟩
  ·exact aC ho.oo.own ho.clk (by decide) b h1
  ·exact aC (ho.oo.ok x hx).1 ho.clk (by decide) b h1
 ·rw[heap_setCell_same W ct 0 _ _ _ ho.clk];rfl
theorem Cn.ticked {W:World} {U:Nat→Prop} {g bm k ct:Nat} {K:List Key} {c:Cf} {id n:Int} {s:CS} (h:Cn W U g bm K k ct c id s):Cn (W.setCell ⟨ct,0,none⟩ (.int .i64 n)) U g bm K k ct c id {s with now:=n}∧Fp (fun b=>U b∨b=bm) W (W.setCell ⟨ct,0,none⟩ (.int .i64 n)):=by
 have hf:Fp (fun b=>b=ct) W (W.setCell ⟨ct,0,none⟩ (.int .i64 n)):=(Fp.refl (fun b=>b=ct) W).setCell (p:=⟨ct,0,none⟩) (Or.inl (show ct=ct from rfl)) _
 exact⟨⟨h.nt.fp hf (fun he=>h.sep.1 (he▸h.cm.uct)) (fun he=>h.sep.2 (he▸h.cm.uct)),h.cm.ticked,h.sep⟩,hf.mono fun b _ hb=>.inl (hb▸h.cm.uct)⟩
theorem rN (U:Nat→Prop) (g bm k ct:Nat) (K:List Key) (c:Cf) (id:Int) (s:CS) (w:World) (h:Cn w U g bm K k ct c id s) (hf:1≤c.f∧c.f≤4) (E:0≤id∧id < 100) (O:1≤c.re∧c.re≤64) (hn:0≤s.now∧s.now < 1048576) (P:0≤s.at_∧s.at_≤s.now) (hlen:s.issued.length≤1000000) (D:s.out.length≤1000000) (hK:K.length < 1000000)
 (hw:s.waits=true→s.issued≠[]∧okS K (b7 id s.last)=true):
 Calls Tryz.prog 21 #[.pointer (some ⟨k,0,none⟩)] w fun e w'=>e= .returned (.tuple #[])∧∃U',Cn w' U' g bm (eY c id K s).2 k ct c id (eY c id K s).1∧(∀b,U' b→U b∨w.heap.size≤b)∧Fp (fun b=>U b∨b=bm) w w':=by
 obtain⟨Ai,ci,Aa,ca,Ac,cc,Ao,co,L,ho⟩:=h.cm.opens
 have r:w.cell? ⟨k,17,none⟩=some (.pointer (some ⟨ct,0,none⟩)):=am ho.row 17 rfl
 have x:=tt ho.clk
 obtain⟨hcn,t⟩:=h.ticked (n:=s.now+1)
 obtain⟨X,R,Z,T,Y,S,V,Q,L1,ho1⟩:=hcn.cm.opens
 have i:=tt hcn
 have l:=tt t
 have v:=tt ho1.row
 have y:=tt ho1.clk
 have q:eY c id K s=if s.waits=true∧(s.now+1 - s.at_) % c.re=0 then dl c id K {s with now:=s.now+1} else ({s with now:=s.now+1},K):=by unfold eY;rw[if_pos hn.2]
 have d:=tt q
 clear ho ho1 hcn t q h
 go_enter Tryz.func21,Tryz.ntmps21
 go_wp2_with fail
 clear r
 refine (qS ct s.now _ w x.out hn).mono ?_
 rintro e w1 ⟨rfl,hw1⟩
 rw[←hw1] at i l v y
 have a:=v.out
 clear hw1 x
 by_cases j:s.waits=true
 case neg=>
  have C:s.waits=false:=by simpa using j
  have u:w1.cell? ⟨k,18,none⟩=some (.bool false):=by rw[←C];exact am a 18 rfl
  clear a
  rw[if_neg (fun hh=>j hh.1)] at d
  have hT:=d.out
  go_wp2_with fail
  refine bodyPost_ret (results_none rfl _ _ _) rfl ?_
  exact⟨rfl,U,by rw[hT];exact i.out,fun b hb=>.inl hb,l.out⟩
 case pos=>
  have u:w1.cell? ⟨k,18,none⟩=some (.bool true):=by rw[←j];exact am a 18 rfl
  go_upto_region 1 with fail
  clear u
  have A:=ab (w:=w1) (show w1.cell? ⟨k,17,none⟩=some (.pointer (some ⟨ct,0,none⟩)) from am a 17 rfl)
  have z:=ab (w:=w1) (show w1.cell? ⟨k,20,none⟩=some (.int .i64 s.at_) from am a 20 rfl)
  have B:=ab (w:=w1) (show w1.cell? ⟨k,14,none⟩=some (.int .i64 c.re) from am a 14 rfl)
  have m:Hid (∀p:Later w1,Calls Tryz.prog 36 #[.pointer (some ⟨ct,0,none⟩)] p.W fun e w'=>e= .returned (.int .i64 (s.now+1))∧p.W=w'):=tt fun p=>pH ct (s.now+1) _ p.W ((p.h.block ct (i.out.cm.lt _ i.out.cm.uct)).trans y.out)
  have M:IntKind.i64.wrap (s.now+1 - s.at_)=s.now+1 - s.at_:=IntWalk.i64_in _ (by omega)
  have J:¬c.re=0:=by omega
  have N:(s.now+1 - s.at_).tmod c.re=(s.now+1 - s.at_) % c.re:=Int.tmod_eq_emod_of_nonneg (by omega)
  clear a
  go_cut [31] from 15 (fun z_ wx=>z_= .bool (decide ((s.now+1 - s.at_) % c.re=0))∧Hid (Below w1.heap.size w1 wx))
  case first=>
   refine ai (by kernel_rfl) (by kernel_rfl) ?_
   repeat ((with_reducible show wpQuiet _ _ _ _ _ _);first|go_big_quiet_step ((go_at_call 36;exact ah _ (m.out _)))|quiet_step ((go_at_call 36;exact ah _ (m.out _))))
   refine wpQuiet_nil ?_
   intro w3 o
   have hb3:=ay o
   have I:=tt hb3
   clear o hb3 A z B
   go_wp2_with fail
   go_meet
   exact⟨rfl,I⟩
  case rest=>
   obtain⟨rfl,HB⟩:=hcut
   by_cases hz:(s.now+1 - s.at_) % c.re=0
   case neg=>
    have H:decide ((s.now+1 - s.at_) % c.re=0)=false:=tA hz
    rw[if_neg (fun hh=>hz hh.2)] at d
    have hT:=d.out
    go_wp2_with fail
    go_end0
    refine⟨rfl,U,by rw[hT];exact i.out.below HB.out,fun b hb=>.inl hb,l.out.trans (Fp.of_below HB.out (fun b=>U b∨b=bm)) fun b hb=>.inl hb⟩
   case pos=>
    have H:decide ((s.now+1 - s.at_) % c.re=0)=true:=tB hz
    rw[if_pos ⟨j,hz⟩] at d
    obtain⟨G,F⟩:=hw j
    go_wp2_with fail
    refine (od U g bm k ct K c id {s with now:=s.now+1} wc (i.out.below HB.out) hf E G hlen D F hK).mono ?_
    rintro e w5 ⟨rfl,U',h1,h2,h3⟩
    go_wp2_with fail
    go_end0
    refine⟨rfl,U',by rw[d.out];exact h1,fun b hb=>?_,?_⟩
    ·rcases h2 b hb with h4|h4
     ·exact .inl h4
     ·have:=l.out.size;have:=HB.out.size;right;omega
    ·exact (l.out.trans (Fp.of_below HB.out (fun b=>U b∨b=bm)) fun b hb=>.inl hb).trans h3 fun b hb=>.inl hb
structure RdS (W:World) (v:Value) (L:List SendV):Prop where
 rd:Rd W W.heap.size 2 v L.length (L.flatMap sv)
 ok:∀x∈L,Rd W W.heap.size 1 x.v x.b.length (x.b.map bv)
theorem RdS.below {W W':World} {v:Value} {L:List SendV} (h:RdS W v L) (hb:Below W.heap.size W W'):RdS W' v L:=
 ⟨(h.rd.below hb).more hb.size,fun x hx=>((h.ok x hx).below hb).more hb.size⟩
theorem RdS.later {W:World} {v:Value} {L:List SendV} (h:RdS W v L) (p:Later W):RdS p.W v L:=h.below p.h
theorem Outs.rds {W:World} {U:Nat→Prop} {v:Value} {L:List SendV} (h:Outs W U v L):RdS W v L:=
 ⟨Rd.of_own h.own,fun x hx=>Rd.of_own (h.ok x hx).1⟩
theorem rz {W:World} {b o:Nat} {L:List SendV} (h:Lies W b o (L.flatMap sv)) {k:Nat} (hk:k < L.length):W.cell? ⟨b,o+k * 2,none⟩=some (.int .i64 L[k].t)∧W.cell? ⟨b,o+k * 2+1,none⟩=some L[k].v:=by
 have h1:=cD (f:=sv) (k:=2) (fun _=>rfl) L k 0 (by omega)
 have h2:=cD (f:=sv) (k:=2) (fun _=>rfl) L k 1 (by omega)
 rw[tK hk] at h1 h2
 exact⟨h (k * 2) _ (by rw[Nat.add_zero] at h1;rw[h1];rfl),by rw[Nat.add_assoc];exact h (k * 2+1) _ (by rw[h2];rfl)⟩
theorem mQ (va vb:Value) (La Lb:List SendV) (w:World) (ha:RdS w va La) (hb:RdS w vb Lb) (he:La.map SendV.s=Lb.map SendV.s):
 Calls Tryz.prog 23 #[va,vb] w fun e w'=>e= .returned (.bool true)∧Below w.heap.size w w':=by
 have r:La.length=Lb.length:=by have:=congrArg List.length he;simpa using this
 obtain⟨n,hn⟩:∃n,La.length=n:=⟨_,rfl⟩
 have hnb:Lb.length=n:=by omega
 have HA:=tt ha
 have C:=tt hb
 have h:=ha.rd
 have g:=hb.rd
 rw[hn] at h
 rw[hnb] at g
 obtain⟨_,A,ca,rfl,H,o,j⟩:=h
 obtain⟨_,B,cb,rfl,G,m,hlb⟩:=g
 unfold maxLen at o m
 have y:=tt j
 have v:=tt hlb
 have z:=tt he
 have Hn:=tt hn
 have u:=tt hnb
 clear ha hb he r hn hnb j hlb
 go_enter Tryz.func23,Tryz.ntmps23
 go_upto_region 4 with fail
 go_loopw [5] (fun ix wr=>∃i:Nat,ix= .int .i64 (i:Int)∧i≤n∧Hid (Below w.heap.size w wr)) (fun ix _=>n - (intOf ix).toNat)
 case atStart=>exact⟨0,rfl,Nat.zero_le _,tt (Below.refl _ _)⟩
 case round=>
  obtain⟨i,rfl,hi,HB⟩:=hrel
  by_cases hlt:i < n
  case neg=>
   have t:decide ((i:Int) < (n:Int))=false:=by simp;omega
   go_wp2_with fail
   go_ret
   exact⟨rfl,HB.out⟩
  case pos=>
   have t:decide ((i:Int) < (n:Int))=true:=by simp;omega
   obtain⟨b1,o1,rfl,hb1,l⟩:=y.out (by omega)
   obtain⟨b2,o2,rfl,hb2,k⟩:=v.out (by omega)
   have c:i < La.length:=by rw[Hn.out];exact hlt
   have b:i < Lb.length:=by rw[u.out];exact hlt
   have F:=tt (HA.out.below HB.out)
   have D:=tt (C.out.below HB.out)
   obtain⟨p1,p2⟩:=rz l c
   obtain⟨q1,q2⟩:=rz k b
   have hx:=F.out.ok La[i] (List.getElem_mem c)
   have hy:=D.out.ok Lb[i] (List.getElem_mem b)
   have hs:La[i].s=Lb[i].s:=by
    have h1:(La.map SendV.s)[i]? =(Lb.map SendV.s)[i]?:=by rw[z.out]
    rw[List.getElem?_map,List.getElem?_map,tK c,tK b] at h1
    exact Option.some.inj h1
   obtain⟨⟨t1,d1,v1⟩,hx1⟩:∃x,La[i]=x:=⟨_,rfl⟩
   obtain⟨⟨t2,d2,v2⟩,hx2⟩:∃x,Lb[i]=x:=⟨_,rfl⟩
   rw[hx1] at p1 p2 hx hs
   rw[hx2] at q1 q2 hy hs
   unfold SendV.s at hs
   injection hs with hs1 f
   dsimp only at hs1 f p1 p2 q1 q2 hx hy
   subst hs1 f
   have l1:=ab (w:=wr) (show wr.cell? ⟨b1,o1+i * 2,none⟩=some (.int .i64 t1) from (World.cell?_of_block (a:=⟨b1,o1+i * 2,none⟩) (HB.out.block b1 hb1)).trans p1)
   have l2:=ab (w:=wr) (show wr.cell? ⟨b1,o1+i * 2+1,none⟩=some v1 from (World.cell?_of_block (a:=⟨b1,o1+i * 2+1,none⟩) (HB.out.block b1 hb1)).trans p2)
   have l3:=ab (w:=wr) (show wr.cell? ⟨b2,o2+i * 2,none⟩=some (.int .i64 t1) from (World.cell?_of_block (a:=⟨b2,o2+i * 2,none⟩) (HB.out.block b2 hb2)).trans q1)
   have l4:=ab (w:=wr) (show wr.cell? ⟨b2,o2+i * 2+1,none⟩=some v2 from (World.cell?_of_block (a:=⟨b2,o2+i * 2+1,none⟩) (HB.out.block b2 hb2)).trans q2)
   have q:Hid (∀p:Later wr,Calls Tryz.prog 45 #[v1,v2] p.W fun e w'=>e= .returned (.bool true)∧Below p.W.heap.size p.W w'):=tt fun p=>by
    exact iq v1 v2 _ _ d1 d1 p.W (hx.later (tJ _) p) (hy.later (tJ _) p) rfl
   have k0:(0:Int)≤(i:Int):=by omega
   have k1:(i:Int) < (n:Int):=by omega
   clear hx hy hx1 hx2 p1 p2 q1 q2 l k c b
   go_upto_region 6 with fail
   refine ai (by kernel_rfl) (by kernel_rfl) ?_
   repeat ((with_reducible show wpQuiet _ _ _ _ _ _);first|((with_reducible refine aq ?_ ?_);(·rfl))|go_big_quiet_step ((go_at_call 45;exact ag _ (q.out _)))|quiet_step ((go_at_call 45;exact ag _ (q.out _))))
   refine wpQuiet_nil ?_
   intro w3 d
   have hb3:=ay d
   have E:=tt (Below.then HB.out hb3 HB.out.size)
   clear d hb3 l1 l2 l3 l4
   go_wp2_with fail
   refine⟨⟨i+1,by go_num,by omega,E⟩,?_⟩
   simp[intOf];omega
structure Fst (W:World) (U:Nat→Prop) (bm:Nat) (v:Value) (L:List SendV):Prop where
 ex:∃V:Nat→Prop,Outs W V v L∧∀b,V b→¬U b∧b≠bm∧b < W.heap.size
theorem Fst.rds {W:World} {U:Nat→Prop} {bm:Nat} {v:Value} {L:List SendV} (h:Fst W U bm v L):RdS W v L:=by obtain⟨V,h1,_⟩:=h.ex;exact h1.rds
theorem Fst.below {W W':World} {U:Nat→Prop} {bm:Nat} {v:Value} {L:List SendV} (h:Fst W U bm v L) (hb:Below W.heap.size W W'):Fst W' U bm v L:=by
 obtain⟨V,h1,h2⟩:=h.ex
 exact⟨V,h1.keep fun b a _ _=>⟨hb.block b (h2 b a).2.2,a⟩,fun b a=>⟨(h2 b a).1,(h2 b a).2.1,Nat.lt_of_lt_of_le (h2 b a).2.2 hb.size⟩⟩
theorem Fst.seal {W W':World} {U U':Nat→Prop} {bm:Nat} {v:Value} {L:List SendV} (h:Fst W U bm v L) (hf:Fp (fun b=>U b∨b=bm) W W') (hS:∀b,U' b→U b∨W.heap.size≤b):Fst W' U' bm v L:=by
 obtain⟨V,h1,h2⟩:=h.ex
 refine⟨V,h1.keep fun b a _ _=>⟨hf.block b (h2 b a).2.2 ?_,a⟩,fun b a=>⟨fun hu=>?_,(h2 b a).2.1,Nat.lt_of_lt_of_le (h2 b a).2.2 hf.size⟩⟩
 ·rintro (hh|hh)
  ·exact (h2 b a).1 hh
  ·exact (h2 b a).2.1 hh
 ·rcases hS b hu with hh|hh
  ·exact (h2 b a).1 hh
  ·have:=(h2 b a).2.2;omega
theorem Cn.lt {W:World} {U:Nat→Prop} {g bm k ct:Nat} {K:List Key} {c:Cf} {id:Int} {s:CS} (h:Cn W U g bm K k ct c id s):∀b,U b→b < W.heap.size:=h.cm.lt
theorem rW (U:Nat→Prop) (g bm k ct:Nat) (K:List Key) (c:Cf) (id:Int) (s:CS) (w:World) (h:Cn w U g bm K k ct c id s):
 Calls Tryz.prog 22 #[.pointer (some ⟨k,0,none⟩)] w fun e w'=>∃(A:Option Addr) (cp:Nat) (L:List SendV) (U':Nat→Prop),e= .returned (.slice A s.out.length cp)∧L.map SendV.s=s.out∧Cn w' U' g bm K k ct c id {s with out:=[]}∧(∀b,U' b→U b∨w.heap.size≤b)∧Fp (fun b=>U b∨b=bm) w w'∧Fst w' U' bm (.slice A s.out.length cp) L:=by
 refine (out_m U k ct g c id s w h.cm).mono ?_
 rintro e w' ⟨v,L,rfl,hL,hO,hC,hF⟩
 have hlen:L.length=s.out.length:=by rw[←hL,List.length_map]
 obtain⟨A,cp,rfl,_,_,_⟩:=ao hO.own
 rw[hlen] at hO hC ⊢
 have d:¬g=k:=fun he=>h.sep.1 (he▸h.cm.uk)
 have a:¬bm=k:=fun he=>h.sep.2 (he▸h.cm.uk)
 exact⟨A,cp,L,_,rfl,hL,⟨h.nt.fp hF d a,hC,fun hh=>h.sep.1 hh.1,fun hh=>h.sep.2 hh.1⟩,fun b hb=>.inl hb.1,hF.mono fun b _ hb=>.inl (hb▸h.cm.uk),⟨_,hO,fun b hb=>⟨fun hh=>hh.2 hb.2,fun he=>h.sep.2 (he▸hb.1),Nat.lt_of_lt_of_le (h.cm.lt b hb.1) hF.size⟩⟩⟩
theorem ld (K:List Key) (k:Key):bi (bi K k) k=bi K k∧aV (bi K k) k=aV K k:=by
 unfold bi aV
 by_cases h:k∈K
 ·rw[if_pos h];exact⟨if_pos h,rfl⟩
 ·rw[if_neg h]
  have h2:k∈K++[k]:=List.mem_append_right _ List.mem_cons_self
  rw[if_pos h2,if_pos h2,if_neg h,List.idxOf_append,if_neg h]
  exact⟨rfl,by simp⟩
theorem nH {K:List Key} {m:Psp.Msg} (h:Psp.okB m=true):cX (sealK K m) m=cX K m:=by
 unfold cX sealK
 rw[if_pos h,(ld K (kM m)).2]
structure Pl (c:Cf) (id:Int) (K:List Key) (s:CS) (r:RC):Prop where
 wt:r.wt=s.waits
 n:r.n=(s.issued.length:Int)
 q:r.q=s.last
 iss:r.iss=s.issued
 acc:r.acc=s.acc
 out:r.out=s.out
 lo:0≤s.at_∧s.at_≤s.now
 tk:s.waits=true→r.tk=s.now - s.at_
 tl:0≤r.tk∧r.tk≤s.now
 an:(s.ans.map (·.1)).Nodup∧∀a∈s.ans,0≤a.1∧a.1 < 13
 has:s.waits=true→∀n:Nat,n < 13→r.has n=s.ans.any fun a=>a.1==(n:Int)
 rep:s.waits=true→∀a∈s.ans,r.rep a.1.toNat=a.2
 sl:s.waits=true→s.issued≠[]∧okS K (b7 id s.last)=true∧kM (b7 id s.last)∈K∧r.bs=cX K (b7 id s.last)
theorem Pl.init (c:Cf) (id:Int):Pl c id [] cs0 rc0:=
 ⟨rfl,rfl,rfl,rfl,rfl,rfl,⟨by decide,by decide⟩,fun h=>(by cases h),⟨by decide,by decide⟩,⟨List.nodup_nil,fun a h=>(by cases h)⟩,fun h=>(by cases h),fun h=>(by cases h),fun h=>(by cases h)⟩
theorem oe {K:List Key} {k:Key} (h:k∈K) (k':Key):aV (bi K k') k=aV K k∧k∈bi K k':=by
 unfold aV bi
 by_cases h':k'∈K
 ·rw[if_pos h'];exact⟨rfl,h⟩
 ·rw[if_neg h',if_pos h,if_pos (List.mem_append_left _ h),List.idxOf_append,if_pos h]
  exact⟨rfl,List.mem_append_left _ h⟩
theorem Pl.seal {c:Cf} {id:Int} {K:List Key} {s:CS} {r:RC} (h:Pl c id K s r) (k:Key):Pl c id (bi K k) s r:=
 ⟨h.wt,h.n,h.q,h.iss,h.acc,h.out,h.lo,h.tk,h.tl,h.an,h.has,h.rep,fun hw=>by
  obtain⟨h1,h2,h3,h4⟩:=h.sl hw
  obtain⟨e1,e2⟩:=oe h3 k
  refine⟨h1,?_,e2,?_⟩
  ·unfold okS at h2 ⊢;rw[e1];exact h2
  ·rw[h4];unfold cX;rw[e1]⟩
theorem Pl.sealK {c:Cf} {id:Int} {K:List Key} {s:CS} {r:RC} (h:Pl c id K s r) (m:Psp.Msg):Pl c id (sealK K m) s r:=by
 unfold Proofs.YtipmjleohadoeaaGreat.sealK
 split
 ·exact h.seal _
 ·exact h
theorem Pl.clear {c:Cf} {id:Int} {K:List Key} {s:CS} {r:RC} (h:Pl c id K s r):Pl c id K {s with out:=[]} {r with out:=[]}:=
 ⟨h.wt,h.n,h.q,h.iss,h.acc,rfl,h.lo,h.tk,h.tl,h.an,h.has,h.rep,h.sl⟩
def lQ (c:Cf) (s:RC):RC:=if s.wt=true then (if (s.tk+1) % c.re=0 then {s with tk:=s.tk+1,out:=s.out++bK (Psp.aO c.f).toNat s.bs} else {s with tk:=s.tk+1}) else s
theorem qb {K:List Key} {m:Psp.Msg} (h:kM m∈K):Proofs.YtipmjleohadoeaaGreat.sealK K m=K:=by
 unfold Proofs.YtipmjleohadoeaaGreat.sealK bi
 rw[if_pos h]
 split <;> rfl
theorem Pl.tick {c:Cf} {id:Int} {K:List Key} {s:CS} {r:RC} (h:Pl c id K s r) (hn:s.now < 1048576):(eY c id K s).2=K∧Pl c id K (eY c id K s).1 (lQ c r):=by
 obtain⟨now,wa,d,at_,an,ac,ou⟩:=s
 obtain⟨rn,b,rq,rb,rt,rr,rh,ri,ra,ro⟩:=r
 obtain rfl:b=wa:=h.wt
 have a:0≤at_∧at_≤now:=h.lo
 have f:0≤rt∧rt≤now:=h.tl
 have hn':now < 1048576:=hn
 unfold eY lQ
 rw[if_pos hn]
 dsimp only
 cases b with
 |false=>
  rw[if_neg (by simp),if_neg (by simp)]
  exact⟨rfl,⟨rfl,h.n,h.q,h.iss,h.acc,h.out,⟨a.1,by show at_≤now+1;omega⟩,fun hh=>(by cases hh),⟨f.1,by show rt≤now+1;omega⟩,h.an,fun hh=>(by cases hh),fun hh=>(by cases hh),fun hh=>(by cases hh)⟩⟩
 |true=>
  have k:rt=now - at_:=h.tk rfl
  have e:rt+1=now+1 - at_:=by omega
  obtain⟨h1,h2,h3,h4⟩:=h.sl rfl
  have g:rb=_:=h4
  rw[if_pos rfl,e]
  by_cases hz:(now+1 - at_) % c.re=0
  ·rw[if_pos ⟨rfl,hz⟩,if_pos hz]
   have j:okS K (b7 id (CS.last ⟨now+1,true,d,at_,an,ac,ou⟩))=true:=h2
   have i:kM (b7 id (CS.last ⟨now+1,true,d,at_,an,ac,ou⟩))∈K:=h3
   unfold dl
   rw[if_pos j,qb i]
   exact⟨rfl,⟨rfl,h.n,h.q,h.iss,h.acc,by show ro++_=ou++_;rw[show ro=ou from h.out,g];rfl,⟨a.1,by show at_≤now+1;omega⟩,fun _=>rfl,⟨by show 0≤now+1 - at_;omega,by show now+1 - at_≤now+1;omega⟩,h.an,fun _=>h.has rfl,fun _=>h.rep rfl,fun _=>⟨h1,h2,h3,h4⟩⟩⟩
  ·rw[if_neg (fun hh=>hz hh.2),if_neg hz]
   exact⟨rfl,⟨rfl,h.n,h.q,h.iss,h.acc,h.out,⟨a.1,by show at_≤now+1;omega⟩,fun _=>rfl,⟨by show 0≤now+1 - at_;omega,by show now+1 - at_≤now+1;omega⟩,h.an,fun _=>h.has rfl,fun _=>h.rep rfl,fun _=>⟨h1,h2,h3,h4⟩⟩⟩
theorem Pl.issue {c:Cf} {id:Int} {K K2:List Key} {s s2:CS} {r:RC} {k y v:Int} {q:Psp.Req} (h:Pl c id K s r) (hw:s.waits=false) (i:0≤id∧id < 4) (hcl:c.cl≤4) (hn:0≤s.now) (hK:K.length < 900000) (hv:Psp.aZ (bI id s k y v) c.cl=true)
 (hq:q={bI id s k y v with s:=aV K (kR (bI id s k y v))}) (h2:dl c id (bi K (kR (bI id s k y v))) {s with issued:=s.issued++[q],waits:=true,at_:=s.now,ans:=[]} =(s2,K2)):
 okS (bi K (kR (bI id s k y v))) (b7 id q)=true∧Proofs.YtipmjleohadoeaaGreat.sealK (bi K (kR (bI id s k y v))) (b7 id q)=K2∧
 Pl c id K2 s2 ⟨r.n+1,true,q,cX (bi K (kR (bI id s k y v))) (b7 id q),0,r.rep,noH r.has,r.iss++[q],r.acc,r.out++bK (Psp.aO c.f).toNat (cX (bi K (kR (bI id s k y v))) (b7 id q))⟩:=by
 obtain⟨K1,hK1⟩:∃K1,bi K (kR (bI id s k y v))=K1:=⟨_,rfl⟩
 rw[hK1] at h2 ⊢
 have l:K1.length≤K.length+1:=by rw[←hK1];exact fo _ _
 have j:=kp K (kR (bI id s k y v))
 have g:Psp.aZ q c.cl=true:=by
  have d:=hv
  unfold Psp.aZ bI at d
  rw[decide_eq_true_eq] at d
  rw[hq]
  unfold Psp.aZ bI
  rw[decide_eq_true_eq]
  dsimp only at d ⊢
  unfold bI at j
  omega
 obtain⟨o1,o2⟩:=oz (id:=id) ⟨i.1,by omega⟩ g hcl
 have e:okS K1 (b7 id q)=true:=ei o1 o2 (by omega)
 have b:(CS.last {s with issued:=s.issued++[q],waits:=true,at_:=s.now,ans:=[]})=q:=jZ rfl
 unfold dl at h2
 rw[b,if_pos e] at h2
 injection h2 with e1 e2
 refine⟨e,e2,?_⟩
 rw[←e1,←e2]
 have hin:kM (b7 id q)∈Proofs.YtipmjleohadoeaaGreat.sealK K1 (b7 id q):=by
  unfold Proofs.YtipmjleohadoeaaGreat.sealK bi
  rw[if_pos o1]
  split
  ·assumption
  ·exact List.mem_append_right _ List.mem_cons_self
 refine⟨rfl,by show r.n+1=((s.issued++[q]).length:Int);rw[h.n,tH];rfl,b.symm,by show r.iss++[q]=s.issued++[q];rw[h.iss],h.acc,by show r.out++_=s.out++_;rw[h.out],⟨hn,Int.le_refl _⟩,fun _=>by show (0:Int)=s.now - s.now;omega,⟨Int.le_refl _,hn⟩,⟨List.nodup_nil,fun a ha=>(by cases ha)⟩,fun _ n hn=>by show noH r.has n=false;unfold noH;rw[if_pos hn],fun _ a ha=>(by cases ha),fun _=>⟨by show s.issued++[q]≠[];simp,?_,?_,?_⟩⟩
 ·exact (congrArg (fun z=>okS (Proofs.YtipmjleohadoeaaGreat.sealK K1 (b7 id q)) (b7 id z)) b).trans (ei o1 o2 (by have:=cY K1 (b7 id q);omega))
 ·exact (congrArg (fun z=>kM (b7 id z)∈Proofs.YtipmjleohadoeaaGreat.sealK K1 (b7 id q)) b).mpr hin
 ·exact (nH o1).symm.trans (congrArg (fun z=>cX (Proofs.YtipmjleohadoeaaGreat.sealK K1 (b7 id q)) (b7 id z)) b.symm)
theorem jD {α:Type} (p q:α→Bool):∀l:List α,(∀x∈l,p x=true→q x=false)→l.countP (fun x=>p x||q x)=l.countP p+l.countP q
 | [],_=>rfl
 |x :: l,h=>by
  have ih:=jD p q l fun y hy=>h y (List.mem_cons_of_mem _ hy)
  have hx:=h x List.mem_cons_self
  rw[List.countP_cons,List.countP_cons,List.countP_cons,ih]
  cases hp:p x with
  |true=>rw[hx hp];simp;omega
  |false=>cases q x <;> simp <;> omega
theorem kL (c:Bool) (n:Nat):∀k:Nat,(List.range k).countP (fun j=>decide (j=n)&&c)=if n < k∧c=true then 1 else 0
 |0=>by simp
 |k+1=>by
  rw[List.range_succ,List.countP_append,kL c n k,List.countP_cons,List.countP_nil]
  by_cases hk:k=n
  ·subst hk
   cases c <;> simp
  ·cases c with
   |false=>simp
   |true=>
    by_cases hn:n < k
    ·simp[hk,hn];omega
    ·have:¬n < k+1:=by omega
     simp[hk,hn,this]
theorem iQ (rep:Nat→Int) (r:Int):∀l:List (Int×Int),(l.map (·.1)).Nodup→(∀a∈l,0≤a.1∧a.1 < 13)→(∀a∈l,rep a.1.toNat=a.2)→
 (List.range 13).countP (fun j:Nat=>(l.any fun a=>a.1==(j:Int))&&(rep j==r))=l.countP fun a=>a.2==r
 | [],_,_,_=>by simp
 |a :: l,hn,hb,hr=>by
  have ih:=iQ rep r l (List.nodup_cons.1 hn).2 (fun x hx=>hb x (List.mem_cons_of_mem _ hx)) (fun x hx=>hr x (List.mem_cons_of_mem _ hx))
  obtain⟨b1,b2⟩:=hb a List.mem_cons_self
  have e1:=hr a List.mem_cons_self
  have hno:∀j:Nat,(a.1==(j:Int))=true→(l.any fun x=>x.1==(j:Int))=false:=fun j hj=>by
   rw[List.any_eq_false]
   intro x hx he
   have h1:a.1=(j:Int):=by simpa using hj
   have h2:x.1=(j:Int):=by simpa using he
   exact (List.nodup_cons.1 hn).1 (List.mem_map.2 ⟨x,hx,show x.1=a.1 by rw[h2,h1]⟩)
  have e2:(fun j:Nat=>((a :: l).any fun x=>x.1==(j:Int))&&(rep j==r))=fun j:Nat=>(decide (j=a.1.toNat)&&(a.2==r))||((l.any fun x=>x.1==(j:Int))&&(rep j==r)):=by
   funext j
   rw[List.any_cons]
   by_cases hj:j=a.1.toNat
   ·have h1:a.1=(j:Int):=by omega
    have h2:(a.1==(j:Int))=true:=by simp[h1]
    rw[h2,hno j h2,hj,e1]
    simp
   ·have h2:(a.1==(j:Int))=false:=by simp;omega
    rw[h2]
    simp[hj]
  rw[e2,jD _ _ _ (fun j _ hj=>by
   have h1:j=a.1.toNat:=by
    have:=(tI _ _▸hj).1
    simpa using this
   rw[hno j (by simp;omega)];rfl),ih,kL,List.countP_cons]
  by_cases hc:(a.2==r)=true
  ·rw[hc];rw[if_pos ⟨by omega,rfl⟩,if_pos rfl];omega
  ·have:(a.2==r)=false:=by simpa using hc
   rw[this];simp
theorem ni {b:List UInt8} {f cl:Int} {K:List Key} {m:Psp.Msg} {x:Int} (h:bW b f cl K=some (m,x)) (hf:1≤f∧f≤4) (hk:m.k=10):0≤m.f∧m.f < 13:=by
 unfold bW at h
 split at h
 ·cases hd:dN b 0 with
  |none=>rw[hd] at h;cases h
  |some p=>
   rw[hd,Option.bind_some] at h
   cases hp:Psp.aY (b.drop p.2.toNat) with
   |none=>rw[hp] at h;cases h
   |some m'=>
    rw[hp,Option.bind_some] at h
    split at h
    ·rename_i hc
     injection h with h
     injection h with h1 _
     subst h1
     rw[tI] at hc
     have a:=hc.1
     obtain⟨k_,f_,v_,i_,q_,r_,b_,o_,c_,p_⟩:=m'
     have c:k_=10:=hk
     subst c
     have e:Psp.aF ⟨10,f_,v_,i_,q_,r_,b_,o_,c_,p_⟩ f cl=(Psp.may f&&(Psp.bB f_ f&&(((v_:Int)==0)&&(Psp.bZ ⟨10,f_,v_,i_,q_,r_,b_,o_,c_,p_⟩ false false false false&&(Psp.win i_ 0 (cl - 1)&&(Psp.win q_ 1 1048576&&Psp.win r_ (-549755813887) 549755813887)))))):=rfl
     rw[e] at a
     simp only[tI] at a
     have hn:=a.2.1
     unfold Psp.bB at hn
     rw[fd hf] at hn
     have:=(Psp.aN _ _ _).1 hn
     show 0≤f_∧f_ < 13
     omega
    ·cases h
 ·cases h
theorem Pl.hears {c:Cf} {id:Int} {K:List Key} {s:CS} {r:RC} {m:Psp.Msg} (h:Pl c id K s r) (hw:s.waits=true) (hm:m.k=10→0≤m.f∧m.f < 13):dn r id m m.f.toNat=s.hears id m:=by
 unfold dn CS.hears
 by_cases hk:m.k=10
 ·obtain⟨h0,h1⟩:=hm hk
  rw[h.q,h.has hw m.f.toNat (by omega)]
  have:((m.f.toNat:Nat):Int)=m.f:=by omega
  rw[this]
 ·simp[hk]
theorem Pl.heard {c:Cf} {id:Int} {K:List Key} {s:CS} {r:RC} {m:Psp.Msg} (h:Pl c id K s r) (hw:s.waits=true) (hf:1≤c.f∧c.f≤4) (hh:s.hears id m=true) (hm:0≤m.f∧m.f < 13):Pl c id K (s.heard c m) (gv c r m.f.toNat m.r):=by
 obtain⟨now,wa,v,at_,an,ac,ou⟩:=s
 obtain rfl:wa=true:=hw
 have hno:(an.any fun a=>a.1==m.f)=false:=by
  unfold CS.hears at hh
  simp only[tI,Bool.not_eq_true'] at hh
  exact hh.2.2.2
 have o:m.f∉an.map (·.1):=sI hno
 have y:((m.f.toNat:Nat):Int)=m.f:=by omega
 have i:(an.map (·.1)).Nodup∧∀a∈an,0≤a.1∧a.1 < 13:=h.an
 have t:=h.has rfl
 have l:=h.rep rfl
 have d:((an++[(m.f,m.r)]).map (·.1)).Nodup∧∀a∈an++[(m.f,m.r)],0≤a.1∧a.1 < 13:=by
  refine⟨?_,fun a ha=>?_⟩
  ·rw[List.map_append,List.nodup_append]
   exact⟨i.1,by simp,fun a ha b hb=>by rw[show b=m.f by simpa using hb];rintro rfl;exact o ha⟩
  ·rcases List.mem_append.1 ha with ha|ha
   ·exact i.2 a ha
   ·rw[List.mem_singleton.1 ha];exact hm
 have g:∀n:Nat,n < 13→upd r.has m.f.toNat true n=(an++[(m.f,m.r)]).any fun a=>a.1==(n:Int):=fun n hn=>by
  rw[List.any_append]
  unfold upd
  by_cases he:n=m.f.toNat
  ·rw[if_pos he,he,y];simp
  ·rw[if_neg he,t n hn]
   have:¬m.f=(n:Int):=by omega
   simp[this]
 have e:∀a∈an++[(m.f,m.r)],upd r.rep m.f.toNat m.r a.1.toNat=a.2:=fun a ha=>by
  unfold upd
  rcases List.mem_append.1 ha with ha|ha
  ·have h1:=i.2 a ha
   have h2:¬a.1.toNat=m.f.toNat:=fun he=>o (List.mem_map.2 ⟨a,ha,by omega⟩)
   rw[if_neg h2];exact l a ha
  ·rw[List.mem_singleton.1 ha,if_pos rfl]
 have u:(iR (ks r m.f.toNat m.r) m.r 13:Int)=CS.same ⟨now,true,v,at_,an,ac,ou⟩ m.r:=by
  have h1:=iQ (upd r.rep m.f.toNat m.r) m.r (an++[(m.f,m.r)]) d.1 d.2 e
  have h2:iR (ks r m.f.toNat m.r) m.r 13=(List.range 13).countP fun j:Nat=>((an++[(m.f,m.r)]).any fun a=>a.1==(j:Int))&&(upd r.rep m.f.toNat m.r j==m.r):=by
   unfold iR ks
   apply List.countP_congr
   intro j hj
   have:=g j (by simpa using hj)
   dsimp only
   rw[this]
  rw[h2,h1,List.countP_append]
  unfold CS.same
  simp
  omega
 unfold CS.heard gv
 rw[u]
 have p:=h.lo
 have w:=h.tk
 have k:=h.tl
 have x:=h.sl rfl
 split
 ·exact⟨rfl,h.n,h.q,h.iss,by show r.acc++[(r.q,m.r)]=ac++[(_,m.r)];rw[show r.acc=ac from h.acc,h.q],h.out,p,fun hh=>(by cases hh),k,d,fun hh=>(by cases hh),fun hh=>(by cases hh),fun hh=>(by cases hh)⟩
 ·exact⟨h.wt,h.n,h.q,h.iss,h.acc,h.out,p,w,k,d,fun _=>g,fun _=>e,fun _=>x⟩
theorem su (m:Psp.Msg) (vb vo vc vp:Value) (f cl:Int) (w:World) (P:Nat→Prop) (hx:MsgOk w P ⟨m,vb,vo,vc,vp⟩) (hw:cr m) (hf:Psp.may f=true) (hk:m.k=1):
 Calls Tryz.prog 61 #[.agg #[.int .i64 m.k,.int .i64 m.f,.int .i64 m.v,.int .i64 m.i,.int .i64 m.q,.int .i64 m.r,vb,vo,vc,vp],.int .i64 f,.int .i64 cl] w fun e w'=>e= .returned (.bool (Psp.aF m f cl))∧Below w.heap.size w w':=by
 obtain⟨Ab,Ao,Ac,Ap,cb,co,cc,cp,rfl,rfl,rfl,rfl⟩:=aG hx
 have HX:=tt hx
 have Hw:=tt hw
 obtain⟨q,hq⟩:∃q,Psp.aO f=q:=⟨_,rfl⟩
 have T:(q==0)=false:=by rw[←hq,bl,hf];rfl
 have C:=bg f
 rw[hq] at C
 have L:=tt C
 obtain⟨nb,hnb⟩:∃x,Psp.bB m.f f=x:=⟨_,rfl⟩
 have O:Hid (∀w':World,Calls Tryz.prog 90 #[.agg #[.int .i64 f,.int .i64 cl],.int .i64 m.f] w' fun e w''=>e= .returned (.bool nb)∧Below w'.heap.size w' w''):=tt fun w'=>by rw[←hnb];exact cC _ _ _ w'
 have t1:(m.k==1)=true:=by rw[hk];rfl
 have t2:(m.k==2)=false:=by rw[hk];rfl
 have t3:(m.k==3)=false:=by rw[hk];rfl
 have t4:(m.k==4)=false:=by rw[hk];rfl
 have t5:(m.k==5)=false:=by rw[hk];rfl
 have t6:(m.k==6)=false:=by rw[hk];rfl
 have t7:(m.k==7)=false:=by rw[hk];rfl
 have t8:(m.k==8)=false:=by rw[hk];rfl
 have t9:(m.k==9)=false:=by rw[hk];rfl
 have Q:(m.k==10)=false:=by rw[hk];rfl
 obtain⟨b0,hb0⟩:∃x,Psp.noB [m.v,m.i,m.q,m.r]=x:=⟨_,rfl⟩
 have u:Hid (∀(w':World) (b:Nat),Lies w' b 0 ([m.v,m.i,m.q,m.r].map iv)→Calls Tryz.prog 87 #[.slice (some ⟨b,0,none⟩) 4 4] w' fun e w''=>e= .returned (.bool b0)∧w'=w''):=tt fun w' b hl=>by rw[←hb0];exact fz [m.v,m.i,m.q,m.r] b 4 w' rfl hl (by omega)
 obtain⟨b1,hb1⟩:∃x,Psp.bZ m true false false false=x:=⟨_,rfl⟩
 have j:Hid (∀w':World,Calls Tryz.prog 88 #[.agg #[.int .i64 m.k,.int .i64 m.f,.int .i64 m.v,.int .i64 m.i,.int .i64 m.q,.int .i64 m.r,.slice Ab m.b.length cb,.slice Ao m.o.length co,.slice Ac m.c.length cc,.slice Ap m.p.length cp],.bool true,.bool false,.bool false,.bool false] w' fun e w''=>e= .returned (.bool b1)∧Below w'.heap.size w' w''):=tt fun w'=>by rw[←hb1];exact eH _ _ _ _ _ _ _ _ _ _ _ _ _ _ _ _ _ _ _ _ _ _ w'
 obtain⟨b2,hb2⟩:∃x,Psp.bn m.b cl 1 1=x:=⟨_,rfl⟩
 have M:Hid (Psp.bn m.b cl 1 1=b2):=tt hb2
 have g:Hid (∀w':World,Hid (Fb w w' m (.slice Ab m.b.length cb) (.slice Ao m.o.length co) (.slice Ac m.c.length cc) (.slice Ap m.p.length cp) f cl)→Calls Tryz.prog 89 #[.agg #[.int .i64 f,.int .i64 cl],.slice Ab m.b.length cb,.int .i64 1,.int .i64 1] w' fun e w''=>e= .returned (.bool b2)∧Below w'.heap.size w' w''):=tt fun w' h=>by rw[←hb2];exact fD m.b m.b.length _ f cl 1 1 w' P (HX.out.1.keeps' (Keeps.below h.out.be)) rfl
 obtain⟨b3,hb3⟩:∃x,decide (100≤m.f)=x:=⟨_,rfl⟩
 have N:decide (m.f≥100)=b3:=hb3
 have G:Hid (decide (100≤m.f)=b3):=tt hb3
 obtain⟨b4,hb4⟩:∃x,decide (m.f - 100=Psp.iM m.b)=x:=⟨_,rfl⟩
 have H:Hid (decide (m.f - 100=Psp.iM m.b)=b4):=tt hb4
 have Hr:Hid (Psp.aF m f cl=(b0&&(b1&&(b2&&(b3&&b4))))):=tt (by unfold Psp.aF;rw[hf,hk];simp only[if_true,Bool.true_and];rw[hb0,hb1,hb2,hb3,hb4])
 clear hq C hnb hx hw hb0 hb1 hb2 hb3 hb4 hk hf
 have I:=cE w m (.slice Ab m.b.length cb) (.slice Ao m.o.length co) (.slice Ac m.c.length cc) (.slice Ap m.p.length cp) f cl
 obtain⟨HF,c0,c1,c2,c3,c4,c5,c6,c7,c8,c9,c10,c11⟩:=aD I (Below.refl _ _)
 go_enter Tryz.func61,Tryz.ntmps61
 go_wp2_with (first|(go_at_call 58;refine (L.out _).mono ?_;rintro e w' ⟨rfl,rfl⟩))
 obtain⟨w2,hw2⟩:∃w2,(w.alloc (.cells #[.int .i64 m.k,.int .i64 m.f,.int .i64 m.v,.int .i64 m.i,.int .i64 m.q,.int .i64 m.r,.slice Ab m.b.length cb,.slice Ao m.o.length co,.slice Ac m.c.length cc,.slice Ap m.p.length cp] 56)).alloc (.cells #[.int .i64 f,.int .i64 cl] 153)=w2:=⟨_,rfl⟩
 rw[hw2] at HF c0 c1 c2 c3 c4 c5 c6 c7 c8 c9 c10 c11 ⊢
 clear hw2 I
 cases b0 with
 |false=>
  go_wp2_with fail
  have l0:=ab (w:=w2.drew) c0
  have l1:=ab (w:=w2.drew) c1
  have l2:=ab (w:=w2.drew) c2
  have l3:=ab (w:=w2.drew) c3
  have l4:=ab (w:=w2.drew) c4
  have l5:=ab (w:=w2.drew) c5
  have l6:=ab (w:=w2.drew) c6
  have l7:=ab (w:=w2.drew) c7
  have l8:=ab (w:=w2.drew) c8
  have l9:=ab (w:=w2.drew) c9
  refine aw [(true,0),(true,1),(true,2),(true,3),(true,4),(true,5),(true,6),(true,7)] 2 (by kernel_rfl) (by kernel_rfl) ?_
  simp only[phW,tu,tx,Option.toList,tC,tD,Nat.reduceAdd,tE,List.drop_zero,List.take_succ_cons,List.take_zero]
  repeat (first|go_big_quiet_step (fail)|quiet_step (fail)|refine wpQuiet_nil ?_)
  clear l0 l1 l2 l3 l4 l5 l6 l7 l8 l9 c0 c1 c2 c3 c4 c5 c6 c7 c8 c9 c10 c11
  go_wp2_with fail
  refine (u.out _ _ (aJ w2.drew [.int .i64 m.v,.int .i64 m.i,.int .i64 m.q,.int .i64 m.r] 3 _ rfl)).mono ?_
  rintro e w3 ⟨rfl,rfl⟩
  go_wp2_with fail
  obtain⟨a,c0,c1,c2,c3,c4,c5,c6,c7,c8,c9,c10,c11⟩:=aD HF ((ae w2 (.cells #[.int .i64 m.v,.int .i64 m.i,.int .i64 m.q,.int .i64 m.r] 3)).drew)
  obtain⟨w3,hw3⟩:∃w3,(w2.alloc (.cells #[.int .i64 m.v,.int .i64 m.i,.int .i64 m.q,.int .i64 m.r] 3)).drew=w3:=⟨_,rfl⟩
  rw[hw3] at a c0 c1 c2 c3 c4 c5 c6 c7 c8 c9 c10 c11
  try rw[hw3]
  clear hw3
  have l0:=ab (w:=w3) c0
  have l1:=ab (w:=w3) c1
  have l2:=ab (w:=w3) c2
  have l3:=ab (w:=w3) c3
  have l4:=ab (w:=w3) c4
  have l5:=ab (w:=w3) c5
  have l6:=ab (w:=w3) c6
  have l7:=ab (w:=w3) c7
  have l8:=ab (w:=w3) c8
  have l9:=ab (w:=w3) c9
  have z:=ab (w:=w3) c10
  have y:=ab (w:=w3) c11
  have n:Hid (∀w':World,(∃p:Later w3,w'=p.W)→w'.rangeAt (w.heap.size+1) 0 [.int .i64 f,.int .i64 cl]):=tt (by rintro w' ⟨p,rfl⟩;exact (a.out.below p.h).lk)
  have l:Hid (∀w':World,(∃p:Later w3,w'=p.W)→w'.rangeAt w.heap.size 0 [.int .i64 m.k,.int .i64 m.f,.int .i64 m.v,.int .i64 m.i,.int .i64 m.q,.int .i64 m.r,.slice Ab m.b.length cb,.slice Ao m.o.length co,.slice Ac m.c.length cc,.slice Ap m.p.length cp]):=tt (by rintro w' ⟨p,rfl⟩;exact (a.out.below p.h).range)
  show wpQuiet _ _ _ _ _ _
  repeat (first|go_big_quiet_step (first|(go_at_call 88;exact ag _ (j.out _))|(go_at_call 89;exact ag _ (g.out _ (tt (a.out.below (Later.h _))))))|(refine aj (by simp[Region.wanted,yielded]) 153 (.tmp 7) (by rfl) (w.heap.size+1) (0) (by rfl) [.int .i64 f,.int .i64 cl] _ n.out Tryz.underlying153 rfl bh ?_;intro K hK;go_simp;refine hK _ ?_;clear hK K)|(refine aj (by simp[Region.wanted,yielded]) 56 (.tmp 3) (by rfl) w.heap.size (0) (by rfl) [.int .i64 m.k,.int .i64 m.f,.int .i64 m.v,.int .i64 m.i,.int .i64 m.q,.int .i64 m.r,.slice Ab m.b.length cb,.slice Ao m.o.length co,.slice Ac m.c.length cc,.slice Ap m.p.length cp] _ l.out Tryz.underlying56 rfl ax ?_;intro K hK;go_simp;refine hK _ ?_;clear hK K)|quiet_step (first|(go_at_call 88;exact ag _ (j.out _))|(go_at_call 89;exact ag _ (g.out _ (tt (a.out.below (Later.h _)))))))
  refine wpQuiet_nil ?_
  intro w4 d
  have hb4:=ay d
  clear d
  have s:=tt (a.out.below hb4)
  clear hb4
  go_wp2_with fail
  go_ret
  exact⟨by rw[Hr.out];rfl,s.out.be⟩
 |true=>
 cases b1 with
 |false=>
  go_wp2_with fail
  have l0:=ab (w:=w2.drew) c0
  have l1:=ab (w:=w2.drew) c1
  have l2:=ab (w:=w2.drew) c2
  have l3:=ab (w:=w2.drew) c3
  have l4:=ab (w:=w2.drew) c4
  have l5:=ab (w:=w2.drew) c5
  have l6:=ab (w:=w2.drew) c6
  have l7:=ab (w:=w2.drew) c7
  have l8:=ab (w:=w2.drew) c8
  have l9:=ab (w:=w2.drew) c9
  refine aw [(true,0),(true,1),(true,2),(true,3),(true,4),(true,5),(true,6),(true,7)] 2 (by kernel_rfl) (by kernel_rfl) ?_
  simp only[phW,tu,tx,Option.toList,tC,tD,Nat.reduceAdd,tE,List.drop_zero,List.take_succ_cons,List.take_zero]
  repeat (first|go_big_quiet_step (fail)|quiet_step (fail)|refine wpQuiet_nil ?_)
  clear l0 l1 l2 l3 l4 l5 l6 l7 l8 l9 c0 c1 c2 c3 c4 c5 c6 c7 c8 c9 c10 c11
  go_wp2_with fail
  refine (u.out _ _ (aJ w2.drew [.int .i64 m.v,.int .i64 m.i,.int .i64 m.q,.int .i64 m.r] 3 _ rfl)).mono ?_
  rintro e w3 ⟨rfl,rfl⟩
  go_wp2_with fail
  obtain⟨a,c0,c1,c2,c3,c4,c5,c6,c7,c8,c9,c10,c11⟩:=aD HF ((ae w2 (.cells #[.int .i64 m.v,.int .i64 m.i,.int .i64 m.q,.int .i64 m.r] 3)).drew)
  obtain⟨w3,hw3⟩:∃w3,(w2.alloc (.cells #[.int .i64 m.v,.int .i64 m.i,.int .i64 m.q,.int .i64 m.r] 3)).drew=w3:=⟨_,rfl⟩
  rw[hw3] at a c0 c1 c2 c3 c4 c5 c6 c7 c8 c9 c10 c11
  try rw[hw3]
  clear hw3
  have l0:=ab (w:=w3) c0
  have l1:=ab (w:=w3) c1
  have l2:=ab (w:=w3) c2
  have l3:=ab (w:=w3) c3
  have l4:=ab (w:=w3) c4
  have l5:=ab (w:=w3) c5
  have l6:=ab (w:=w3) c6
  have l7:=ab (w:=w3) c7
  have l8:=ab (w:=w3) c8
  have l9:=ab (w:=w3) c9
  have z:=ab (w:=w3) c10
  have y:=ab (w:=w3) c11
  have n:Hid (∀w':World,(∃p:Later w3,w'=p.W)→w'.rangeAt (w.heap.size+1) 0 [.int .i64 f,.int .i64 cl]):=tt (by rintro w' ⟨p,rfl⟩;exact (a.out.below p.h).lk)
  have l:Hid (∀w':World,(∃p:Later w3,w'=p.W)→w'.rangeAt w.heap.size 0 [.int .i64 m.k,.int .i64 m.f,.int .i64 m.v,.int .i64 m.i,.int .i64 m.q,.int .i64 m.r,.slice Ab m.b.length cb,.slice Ao m.o.length co,.slice Ac m.c.length cc,.slice Ap m.p.length cp]):=tt (by rintro w' ⟨p,rfl⟩;exact (a.out.below p.h).range)
  show wpQuiet _ _ _ _ _ _
  repeat (first|go_big_quiet_step (first|(go_at_call 88;exact ag _ (j.out _))|(go_at_call 89;exact ag _ (g.out _ (tt (a.out.below (Later.h _))))))|(refine aj (by simp[Region.wanted,yielded]) 153 (.tmp 7) (by rfl) (w.heap.size+1) (0) (by rfl) [.int .i64 f,.int .i64 cl] _ n.out Tryz.underlying153 rfl bh ?_;intro K hK;go_simp;refine hK _ ?_;clear hK K)|(refine aj (by simp[Region.wanted,yielded]) 56 (.tmp 3) (by rfl) w.heap.size (0) (by rfl) [.int .i64 m.k,.int .i64 m.f,.int .i64 m.v,.int .i64 m.i,.int .i64 m.q,.int .i64 m.r,.slice Ab m.b.length cb,.slice Ao m.o.length co,.slice Ac m.c.length cc,.slice Ap m.p.length cp] _ l.out Tryz.underlying56 rfl ax ?_;intro K hK;go_simp;refine hK _ ?_;clear hK K)|quiet_step (first|(go_at_call 88;exact ag _ (j.out _))|(go_at_call 89;exact ag _ (g.out _ (tt (a.out.below (Later.h _)))))))
  refine wpQuiet_nil ?_
  intro w4 d
  have hb4:=ay d
  clear d
  have s:=tt (a.out.below hb4)
  clear hb4
  go_wp2_with fail
  go_ret
  exact⟨by rw[Hr.out];rfl,s.out.be⟩
 |true=>
 cases b2 with
 |false=>
  go_wp2_with fail
  have l0:=ab (w:=w2.drew) c0
  have l1:=ab (w:=w2.drew) c1
  have l2:=ab (w:=w2.drew) c2
  have l3:=ab (w:=w2.drew) c3
  have l4:=ab (w:=w2.drew) c4
  have l5:=ab (w:=w2.drew) c5
  have l6:=ab (w:=w2.drew) c6
  have l7:=ab (w:=w2.drew) c7
  have l8:=ab (w:=w2.drew) c8
  have l9:=ab (w:=w2.drew) c9
  refine aw [(true,0),(true,1),(true,2),(true,3),(true,4),(true,5),(true,6),(true,7)] 2 (by kernel_rfl) (by kernel_rfl) ?_
  simp only[phW,tu,tx,Option.toList,tC,tD,Nat.reduceAdd,tE,List.drop_zero,List.take_succ_cons,List.take_zero]
  repeat (first|go_big_quiet_step (fail)|quiet_step (fail)|refine wpQuiet_nil ?_)
  clear l0 l1 l2 l3 l4 l5 l6 l7 l8 l9 c0 c1 c2 c3 c4 c5 c6 c7 c8 c9 c10 c11
  go_wp2_with fail
  refine (u.out _ _ (aJ w2.drew [.int .i64 m.v,.int .i64 m.i,.int .i64 m.q,.int .i64 m.r] 3 _ rfl)).mono ?_
  rintro e w3 ⟨rfl,rfl⟩
  go_wp2_with fail
  obtain⟨a,c0,c1,c2,c3,c4,c5,c6,c7,c8,c9,c10,c11⟩:=aD HF ((ae w2 (.cells #[.int .i64 m.v,.int .i64 m.i,.int .i64 m.q,.int .i64 m.r] 3)).drew)
  obtain⟨w3,hw3⟩:∃w3,(w2.alloc (.cells #[.int .i64 m.v,.int .i64 m.i,.int .i64 m.q,.int .i64 m.r] 3)).drew=w3:=⟨_,rfl⟩
  rw[hw3] at a c0 c1 c2 c3 c4 c5 c6 c7 c8 c9 c10 c11
  try rw[hw3]
  clear hw3
  have l0:=ab (w:=w3) c0
  have l1:=ab (w:=w3) c1
  have l2:=ab (w:=w3) c2
  have l3:=ab (w:=w3) c3
  have l4:=ab (w:=w3) c4
  have l5:=ab (w:=w3) c5
  have l6:=ab (w:=w3) c6
  have l7:=ab (w:=w3) c7
  have l8:=ab (w:=w3) c8
  have l9:=ab (w:=w3) c9
  have z:=ab (w:=w3) c10
  have y:=ab (w:=w3) c11
  have n:Hid (∀w':World,(∃p:Later w3,w'=p.W)→w'.rangeAt (w.heap.size+1) 0 [.int .i64 f,.int .i64 cl]):=tt (by rintro w' ⟨p,rfl⟩;exact (a.out.below p.h).lk)
  have l:Hid (∀w':World,(∃p:Later w3,w'=p.W)→w'.rangeAt w.heap.size 0 [.int .i64 m.k,.int .i64 m.f,.int .i64 m.v,.int .i64 m.i,.int .i64 m.q,.int .i64 m.r,.slice Ab m.b.length cb,.slice Ao m.o.length co,.slice Ac m.c.length cc,.slice Ap m.p.length cp]):=tt (by rintro w' ⟨p,rfl⟩;exact (a.out.below p.h).range)
  show wpQuiet _ _ _ _ _ _
  repeat (first|go_big_quiet_step (first|(go_at_call 88;exact ag _ (j.out _))|(go_at_call 89;exact ag _ (g.out _ (tt (a.out.below (Later.h _))))))|(refine aj (by simp[Region.wanted,yielded]) 153 (.tmp 7) (by rfl) (w.heap.size+1) (0) (by rfl) [.int .i64 f,.int .i64 cl] _ n.out Tryz.underlying153 rfl bh ?_;intro K hK;go_simp;refine hK _ ?_;clear hK K)|(refine aj (by simp[Region.wanted,yielded]) 56 (.tmp 3) (by rfl) w.heap.size (0) (by rfl) [.int .i64 m.k,.int .i64 m.f,.int .i64 m.v,.int .i64 m.i,.int .i64 m.q,.int .i64 m.r,.slice Ab m.b.length cb,.slice Ao m.o.length co,.slice Ac m.c.length cc,.slice Ap m.p.length cp] _ l.out Tryz.underlying56 rfl ax ?_;intro K hK;go_simp;refine hK _ ?_;clear hK K)|quiet_step (first|(go_at_call 88;exact ag _ (j.out _))|(go_at_call 89;exact ag _ (g.out _ (tt (a.out.below (Later.h _)))))))
  refine wpQuiet_nil ?_
  intro w4 d
  have hb4:=ay d
  clear d
  have s:=tt (a.out.below hb4)
  clear hb4
  go_wp2_with fail
  go_ret
  exact⟨by rw[Hr.out];rfl,s.out.be⟩
 |true=>
 cases b3 with
 |false=>
  go_wp2_with fail
  have l0:=ab (w:=w2.drew) c0
  have l1:=ab (w:=w2.drew) c1
  have l2:=ab (w:=w2.drew) c2
  have l3:=ab (w:=w2.drew) c3
  have l4:=ab (w:=w2.drew) c4
  have l5:=ab (w:=w2.drew) c5
  have l6:=ab (w:=w2.drew) c6
  have l7:=ab (w:=w2.drew) c7
  have l8:=ab (w:=w2.drew) c8
  have l9:=ab (w:=w2.drew) c9
  refine aw [(true,0),(true,1),(true,2),(true,3),(true,4),(true,5),(true,6),(true,7)] 2 (by kernel_rfl) (by kernel_rfl) ?_
  simp only[phW,tu,tx,Option.toList,tC,tD,Nat.reduceAdd,tE,List.drop_zero,List.take_succ_cons,List.take_zero]
  repeat (first|go_big_quiet_step (fail)|quiet_step (fail)|refine wpQuiet_nil ?_)
  clear l0 l1 l2 l3 l4 l5 l6 l7 l8 l9 c0 c1 c2 c3 c4 c5 c6 c7 c8 c9 c10 c11
  go_wp2_with fail
  refine (u.out _ _ (aJ w2.drew [.int .i64 m.v,.int .i64 m.i,.int .i64 m.q,.int .i64 m.r] 3 _ rfl)).mono ?_
  rintro e w3 ⟨rfl,rfl⟩
  go_wp2_with fail
  obtain⟨a,c0,c1,c2,c3,c4,c5,c6,c7,c8,c9,c10,c11⟩:=aD HF ((ae w2 (.cells #[.int .i64 m.v,.int .i64 m.i,.int .i64 m.q,.int .i64 m.r] 3)).drew)
  obtain⟨w3,hw3⟩:∃w3,(w2.alloc (.cells #[.int .i64 m.v,.int .i64 m.i,.int .i64 m.q,.int .i64 m.r] 3)).drew=w3:=⟨_,rfl⟩
  rw[hw3] at a c0 c1 c2 c3 c4 c5 c6 c7 c8 c9 c10 c11
  try rw[hw3]
  clear hw3
  have l0:=ab (w:=w3) c0
  have l1:=ab (w:=w3) c1
  have l2:=ab (w:=w3) c2
  have l3:=ab (w:=w3) c3
  have l4:=ab (w:=w3) c4
  have l5:=ab (w:=w3) c5
  have l6:=ab (w:=w3) c6
  have l7:=ab (w:=w3) c7
  have l8:=ab (w:=w3) c8
  have l9:=ab (w:=w3) c9
  have z:=ab (w:=w3) c10
  have y:=ab (w:=w3) c11
  have n:Hid (∀w':World,(∃p:Later w3,w'=p.W)→w'.rangeAt (w.heap.size+1) 0 [.int .i64 f,.int .i64 cl]):=tt (by rintro w' ⟨p,rfl⟩;exact (a.out.below p.h).lk)
  have l:Hid (∀w':World,(∃p:Later w3,w'=p.W)→w'.rangeAt w.heap.size 0 [.int .i64 m.k,.int .i64 m.f,.int .i64 m.v,.int .i64 m.i,.int .i64 m.q,.int .i64 m.r,.slice Ab m.b.length cb,.slice Ao m.o.length co,.slice Ac m.c.length cc,.slice Ap m.p.length cp]):=tt (by rintro w' ⟨p,rfl⟩;exact (a.out.below p.h).range)
  show wpQuiet _ _ _ _ _ _
  repeat (first|go_big_quiet_step (first|(go_at_call 88;exact ag _ (j.out _))|(go_at_call 89;exact ag _ (g.out _ (tt (a.out.below (Later.h _))))))|(refine aj (by simp[Region.wanted,yielded]) 153 (.tmp 7) (by rfl) (w.heap.size+1) (0) (by rfl) [.int .i64 f,.int .i64 cl] _ n.out Tryz.underlying153 rfl bh ?_;intro K hK;go_simp;refine hK _ ?_;clear hK K)|(refine aj (by simp[Region.wanted,yielded]) 56 (.tmp 3) (by rfl) w.heap.size (0) (by rfl) [.int .i64 m.k,.int .i64 m.f,.int .i64 m.v,.int .i64 m.i,.int .i64 m.q,.int .i64 m.r,.slice Ab m.b.length cb,.slice Ao m.o.length co,.slice Ac m.c.length cc,.slice Ap m.p.length cp] _ l.out Tryz.underlying56 rfl ax ?_;intro K hK;go_simp;refine hK _ ?_;clear hK K)|quiet_step (first|(go_at_call 88;exact ag _ (j.out _))|(go_at_call 89;exact ag _ (g.out _ (tt (a.out.below (Later.h _)))))))
  refine wpQuiet_nil ?_
  intro w4 d
  have hb4:=ay d
  clear d
  have s:=tt (a.out.below hb4)
  clear hb4
  go_wp2_with fail
  go_ret
  exact⟨by rw[Hr.out];rfl,s.out.be⟩
 |true=>
 have B:=M.out
 have U:(100:Int)≤m.f:=of_decide_eq_true G.out
 have hf1:m.f≤9223372036854775807:=Hw.out.2.1.2
 have hlen:m.b.length=1:=by unfold Psp.bn at B;rw[tI,Psp.aN] at B;omega
 obtain⟨r,rest,hmb⟩:∃r rest,m.b=r :: rest:=by cases hm:m.b with|nil=>(rw[hm] at hlen;cases hlen)|cons r rest=>exact⟨r,rest,rfl⟩
 have A:=H.out
 have hy:((m.f - 100)==r.c)=b4:=by rw[hmb] at A;rw[←A];rfl
 obtain⟨_,A9,d9,e9,S,R,t⟩:=RdP.parts (show RdP _ _ 6 (.slice Ab m.b.length cb) m.b.length (m.b.flatMap rq) from HX.out.1)
 injection e9 with e7 e8 e9
 obtain⟨bc,oc,F,_,J,E⟩:=t (by omega)
 rw[F] at e7
 have E7:=tt e7
 have r1:=bF (f:=rq) (k:=6) (fun _=>rfl) E (i:=0) (by omega)
 have D:m.b[0]'(by omega)=r:=by simp only[hmb,tF]
 rw[D] at r1
 have R1:=tt r1
 have hlen0:(0:Int) < (m.b.length:Int):=by omega
 clear e7 e8 e9 F hlen hmb E t r1 D A B
 go_wp2_with fail
 have l0:=ab (w:=w2.drew) c0
 have l1:=ab (w:=w2.drew) c1
 have l2:=ab (w:=w2.drew) c2
 have l3:=ab (w:=w2.drew) c3
 have l4:=ab (w:=w2.drew) c4
 have l5:=ab (w:=w2.drew) c5
 have l6:=ab (w:=w2.drew) c6
 have l7:=ab (w:=w2.drew) c7
 have l8:=ab (w:=w2.drew) c8
 have l9:=ab (w:=w2.drew) c9
 refine aw [(true,0),(true,1),(true,2),(true,3),(true,4),(true,5),(true,6),(true,7)] 2 (by kernel_rfl) (by kernel_rfl) ?_
 simp only[phW,tu,tx,Option.toList,tC,tD,Nat.reduceAdd,tE,List.drop_zero,List.take_succ_cons,List.take_zero]
 repeat (first|go_big_quiet_step (fail)|quiet_step (fail)|refine wpQuiet_nil ?_)
 clear l0 l1 l2 l3 l4 l5 l6 l7 l8 l9 c0 c1 c2 c3 c4 c5 c6 c7 c8 c9 c10 c11
 go_wp2_with fail
 refine (u.out _ _ (aJ w2.drew [.int .i64 m.v,.int .i64 m.i,.int .i64 m.q,.int .i64 m.r] 3 _ rfl)).mono ?_
 rintro e w3 ⟨rfl,rfl⟩
 go_wp2_with fail
 obtain⟨a,c0,c1,c2,c3,c4,c5,c6,c7,c8,c9,c10,c11⟩:=aD HF ((ae w2 (.cells #[.int .i64 m.v,.int .i64 m.i,.int .i64 m.q,.int .i64 m.r] 3)).drew)
 obtain⟨w3,hw3⟩:∃w3,(w2.alloc (.cells #[.int .i64 m.v,.int .i64 m.i,.int .i64 m.q,.int .i64 m.r] 3)).drew=w3:=⟨_,rfl⟩
 rw[hw3] at a c0 c1 c2 c3 c4 c5 c6 c7 c8 c9 c10 c11
 try rw[hw3]
 clear hw3
 have l0:=ab (w:=w3) c0
 have l1:=ab (w:=w3) c1
 have l2:=ab (w:=w3) c2
 have l3:=ab (w:=w3) c3
 have l4:=ab (w:=w3) c4
 have l5:=ab (w:=w3) c5
 have l6:=ab (w:=w3) c6
 have l7:=ab (w:=w3) c7
 have l8:=ab (w:=w3) c8
 have l9:=ab (w:=w3) c9
 have z:=ab (w:=w3) c10
 have y:=ab (w:=w3) c11
 have n:Hid (∀w':World,(∃p:Later w3,w'=p.W)→w'.rangeAt (w.heap.size+1) 0 [.int .i64 f,.int .i64 cl]):=tt (by rintro w' ⟨p,rfl⟩;exact (a.out.below p.h).lk)
 have l:Hid (∀w':World,(∃p:Later w3,w'=p.W)→w'.rangeAt w.heap.size 0 [.int .i64 m.k,.int .i64 m.f,.int .i64 m.v,.int .i64 m.i,.int .i64 m.q,.int .i64 m.r,.slice Ab m.b.length cb,.slice Ao m.o.length co,.slice Ac m.c.length cc,.slice Ap m.p.length cp]):=tt (by rintro w' ⟨p,rfl⟩;exact (a.out.below p.h).range)
 have q0:=ab (w:=w3) (show w3.cell? ⟨bc,oc,none⟩=some (.int .i64 r.c) by have h:=cM R1.out (a.out.be.block bc J) 0 _ rfl;simpa [rq,iv] using h)
 show wpQuiet _ _ _ _ _ _
 iterate 19 (first|go_big_quiet_step (first|(go_at_call 88;exact ag _ (j.out _))|(go_at_call 89;exact ag _ (g.out _ (tt (a.out.below (Later.h _))))))|(refine aj (by simp[Region.wanted,yielded]) 153 (.tmp 7) (by rfl) (w.heap.size+1) (0) (by rfl) [.int .i64 f,.int .i64 cl] _ n.out Tryz.underlying153 rfl bh ?_;intro K hK;go_simp;refine hK _ ?_;clear hK K)|(refine aj (by simp[Region.wanted,yielded]) 56 (.tmp 3) (by rfl) w.heap.size (0) (by rfl) [.int .i64 m.k,.int .i64 m.f,.int .i64 m.v,.int .i64 m.i,.int .i64 m.q,.int .i64 m.r,.slice Ab m.b.length cb,.slice Ao m.o.length co,.slice Ac m.c.length cc,.slice Ap m.p.length cp] _ l.out Tryz.underlying56 rfl ax ?_;intro K hK;go_simp;refine hK _ ?_;clear hK K)|quiet_step (first|(go_at_call 88;exact ag _ (j.out _))|(go_at_call 89;exact ag _ (g.out _ (tt (a.out.below (Later.h _)))))))
 have e7:=E7.out
 repeat (first|go_big_quiet_step (first|(go_at_call 88;exact ag _ (j.out _))|(go_at_call 89;exact ag _ (g.out _ (tt (a.out.below (Later.h _))))))|(refine aj (by simp[Region.wanted,yielded]) 153 (.tmp 7) (by rfl) (w.heap.size+1) (0) (by rfl) [.int .i64 f,.int .i64 cl] _ n.out Tryz.underlying153 rfl bh ?_;intro K hK;go_simp;refine hK _ ?_;clear hK K)|(refine aj (by simp[Region.wanted,yielded]) 56 (.tmp 3) (by rfl) w.heap.size (0) (by rfl) [.int .i64 m.k,.int .i64 m.f,.int .i64 m.v,.int .i64 m.i,.int .i64 m.q,.int .i64 m.r,.slice Ab m.b.length cb,.slice Ao m.o.length co,.slice Ac m.c.length cc,.slice Ap m.p.length cp] _ l.out Tryz.underlying56 rfl ax ?_;intro K hK;go_simp;refine hK _ ?_;clear hK K)|quiet_step (first|(go_at_call 88;exact ag _ (j.out _))|(go_at_call 89;exact ag _ (g.out _ (tt (a.out.below (Later.h _)))))))
 refine wpQuiet_nil ?_
 intro w4 d
 have hb4:=ay d
 clear d
 have s:=tt (a.out.below hb4)
 clear hb4
 go_wp2_with fail
 go_ret
 exact⟨by rw[Hr.out];rfl,s.out.be⟩
theorem sk (m:Psp.Msg) (vb vo vc vp:Value) (f cl:Int) (w:World) (P:Nat→Prop) (hx:MsgOk w P ⟨m,vb,vo,vc,vp⟩) (hw:cr m) (hf:Psp.may f=true) (hk:m.k=8):
 Calls Tryz.prog 61 #[.agg #[.int .i64 m.k,.int .i64 m.f,.int .i64 m.v,.int .i64 m.i,.int .i64 m.q,.int .i64 m.r,vb,vo,vc,vp],.int .i64 f,.int .i64 cl] w fun e w'=>e= .returned (.bool (Psp.aF m f cl))∧Below w.heap.size w w':=by
 obtain⟨Ab,Ao,Ac,Ap,cb,co,cc,cp,rfl,rfl,rfl,rfl⟩:=aG hx
 have HX:=tt hx
 have Hw:=tt hw
 obtain⟨q,hq⟩:∃q,Psp.aO f=q:=⟨_,rfl⟩
 have I:(q==0)=false:=by rw[←hq,bl,hf];rfl
 have A:=bg f
 rw[hq] at A
 have G:=tt A
 obtain⟨nb,hnb⟩:∃x,Psp.bB m.f f=x:=⟨_,rfl⟩
 have C:Hid (∀w':World,Calls Tryz.prog 90 #[.agg #[.int .i64 f,.int .i64 cl],.int .i64 m.f] w' fun e w''=>e= .returned (.bool nb)∧Below w'.heap.size w' w''):=tt fun w'=>by rw[←hnb];exact cC _ _ _ w'
 have t1:(m.k==1)=false:=by rw[hk];rfl
 have t2:(m.k==2)=false:=by rw[hk];rfl
 have t3:(m.k==3)=false:=by rw[hk];rfl
 have t4:(m.k==4)=false:=by rw[hk];rfl
 have t5:(m.k==5)=false:=by rw[hk];rfl
 have t6:(m.k==6)=false:=by rw[hk];rfl
 have t7:(m.k==7)=false:=by rw[hk];rfl
 have t8:(m.k==8)=true:=by rw[hk];rfl
 have t9:(m.k==9)=false:=by rw[hk];rfl
 have H:(m.k==10)=false:=by rw[hk];rfl
 obtain⟨pr,hpr⟩:∃x,Psp.aP f m.v m.i=x:=⟨_,rfl⟩
 have g:Hid (∀w':World,Calls Tryz.prog 92 #[.int .i64 f,.int .i64 m.v,.int .i64 m.i] w' fun e w''=>e= .returned (.int .i64 pr)∧w'=w''):=tt fun w'=>by rw[←hpr];exact fL f m.v m.i w' hw.2.2.1.1 hw.2.2.1.2 hw.2.2.2.1.1 hw.2.2.2.1.2
 obtain⟨b0,hb0⟩:∃x,Psp.noB [m.q,m.r]=x:=⟨_,rfl⟩
 have u:Hid (∀(w':World) (b:Nat),Lies w' b 0 ([m.q,m.r].map iv)→Calls Tryz.prog 87 #[.slice (some ⟨b,0,none⟩) 2 2] w' fun e w''=>e= .returned (.bool b0)∧w'=w''):=tt fun w' b hl=>by rw[←hb0];exact fz [m.q,m.r] b 2 w' rfl hl (by omega)
 obtain⟨b1,hb1⟩:∃x,Psp.bZ m false false false true=x:=⟨_,rfl⟩
 have l:Hid (∀w':World,Calls Tryz.prog 88 #[.agg #[.int .i64 m.k,.int .i64 m.f,.int .i64 m.v,.int .i64 m.i,.int .i64 m.q,.int .i64 m.r,.slice Ab m.b.length cb,.slice Ao m.o.length co,.slice Ac m.c.length cc,.slice Ap m.p.length cp],.bool false,.bool false,.bool false,.bool true] w' fun e w''=>e= .returned (.bool b1)∧Below w'.heap.size w' w''):=tt fun w'=>by rw[←hb1];exact eH _ _ _ _ _ _ _ _ _ _ _ _ _ _ _ _ _ _ _ _ _ _ w'
 obtain⟨b2,hb2⟩:∃x,Psp.win m.v 1 12=x:=⟨_,rfl⟩
 have F:Psp.win m.v 1 12=b2:=hb2
 obtain⟨b3,hb3⟩:∃x,Psp.win m.i 0 f=x:=⟨_,rfl⟩
 have E:Psp.win m.i 0 f=b3:=hb3
 obtain⟨b4,hb4⟩:∃x,decide (m.f=Psp.aP f m.v m.i)=x:=⟨_,rfl⟩
 have hy:(m.f==pr)=b4:=by rw[←hb4,hpr];rfl
 obtain⟨b5,hb5⟩:∃x,Psp.cN m.v m.p f cl=x:=⟨_,rfl⟩
 have j:Hid (∀w':World,Hid (Fb w w' m (.slice Ab m.b.length cb) (.slice Ao m.o.length co) (.slice Ac m.c.length cc) (.slice Ap m.p.length cp) f cl)→Calls Tryz.prog 95 #[.agg #[.int .i64 f,.int .i64 cl],.int .i64 m.v,.slice Ap m.p.length cp] w' fun e w''=>e= .returned (.bool b5)∧Below w'.heap.size w' w''):=tt fun w' h=>by rw[←hb5];exact qv m.v m.p _ f cl w' P (HX.out.2.2.2.keeps (Keeps.below h.out.be)) Hw.out.2.2.2.2.2.2.2.2.2
 have Hr:Hid (Psp.aF m f cl=(nb&&(b0&&(b1&&(b2&&(b3&&(b4&&(b5)))))))):=tt (by unfold Psp.aF;rw[hf,hk,hnb];simp only[Int.reduceEq,if_false,if_true,or_false,or_true,Bool.true_and,false_or];rw[hb0,hb1,hb2,hb3,hb4,hb5])
 clear hq A hnb hx hw hpr hb0 hb1 hb2 hb3 hb4 hb5 hk hf
 have D:=cE w m (.slice Ab m.b.length cb) (.slice Ao m.o.length co) (.slice Ac m.c.length cc) (.slice Ap m.p.length cp) f cl
 obtain⟨HF,c0,c1,c2,c3,c4,c5,c6,c7,c8,c9,c10,c11⟩:=aD D (Below.refl _ _)
 go_enter Tryz.func61,Tryz.ntmps61
 go_wp2_with (first|(go_at_call 58;refine (G.out _).mono ?_;rintro e w' ⟨rfl,rfl⟩))
 refine (C.out _).mono ?_
 rintro e w2 ⟨rfl,B⟩
 obtain⟨HF,c0,c1,c2,c3,c4,c5,c6,c7,c8,c9,c10,c11⟩:=aD HF B
 clear B D
 cases nb with
 |false=>
  go_wp2_with fail
  go_ret
  exact⟨by rw[Hr.out];rfl,HF.out.be⟩
 |true=>
  cases b0 with
  |false=>
   go_wp2_with fail
   have l0:=ab (w:=w2.drew) c0
   have l1:=ab (w:=w2.drew) c1
   have l2:=ab (w:=w2.drew) c2
   have l3:=ab (w:=w2.drew) c3
   have l4:=ab (w:=w2.drew) c4
   have l5:=ab (w:=w2.drew) c5
   have l6:=ab (w:=w2.drew) c6
   have l7:=ab (w:=w2.drew) c7
   have l8:=ab (w:=w2.drew) c8
   have l9:=ab (w:=w2.drew) c9
   refine aw [(true,0),(true,1),(true,2),(true,3)] 2 (by kernel_rfl) (by kernel_rfl) ?_
   simp only[phW,tu,tx,Option.toList,tC,tD,Nat.reduceAdd,tE,List.drop_zero,List.take_succ_cons,List.take_zero]
   repeat (first|go_big_quiet_step (fail)|quiet_step (fail)|refine wpQuiet_nil ?_)
   clear l0 l1 l2 l3 l4 l5 l6 l7 l8 l9 c0 c1 c2 c3 c4 c5 c6 c7 c8 c9 c10 c11
   go_wp2_with fail
   refine (u.out _ _ (aJ w2.drew [.int .i64 m.q,.int .i64 m.r] 3 _ rfl)).mono ?_
   rintro e w3 ⟨rfl,rfl⟩
   go_wp2_with fail
   obtain⟨a,c0,c1,c2,c3,c4,c5,c6,c7,c8,c9,c10,c11⟩:=aD HF ((ae w2 (.cells #[.int .i64 m.q,.int .i64 m.r] 3)).drew)
   obtain⟨w3,hw3⟩:∃w3,(w2.alloc (.cells #[.int .i64 m.q,.int .i64 m.r] 3)).drew=w3:=⟨_,rfl⟩
   rw[hw3] at a c0 c1 c2 c3 c4 c5 c6 c7 c8 c9 c10 c11
   try rw[hw3]
   clear hw3
   have l0:=ab (w:=w3) c0
   have l1:=ab (w:=w3) c1
   have l2:=ab (w:=w3) c2
   have l3:=ab (w:=w3) c3
   have l4:=ab (w:=w3) c4
   have l5:=ab (w:=w3) c5
   have l6:=ab (w:=w3) c6
   have l7:=ab (w:=w3) c7
   have l8:=ab (w:=w3) c8
   have l9:=ab (w:=w3) c9
   have z:=ab (w:=w3) c10
   have y:=ab (w:=w3) c11
   have s:Hid (∀w':World,(∃p:Later w3,w'=p.W)→w'.rangeAt (w.heap.size+1) 0 [.int .i64 f,.int .i64 cl]):=tt (by rintro w' ⟨p,rfl⟩;exact (a.out.below p.h).lk)
   have n:Hid (∀w':World,(∃p:Later w3,w'=p.W)→w'.rangeAt w.heap.size 0 [.int .i64 m.k,.int .i64 m.f,.int .i64 m.v,.int .i64 m.i,.int .i64 m.q,.int .i64 m.r,.slice Ab m.b.length cb,.slice Ao m.o.length co,.slice Ac m.c.length cc,.slice Ap m.p.length cp]):=tt (by rintro w' ⟨p,rfl⟩;exact (a.out.below p.h).range)
   show wpQuiet _ _ _ _ _ _
   repeat (first|go_big_quiet_step (first|(go_at_call 88;exact ag _ (l.out _))|(go_at_call 93;exact ah _ (br _ _ _ _))|(go_at_call 92;exact ah _ (g.out _))|(go_at_call 95;exact ag _ (j.out _ (tt (a.out.below (Later.h _))))))|(refine aj (by simp[Region.wanted,yielded]) 153 (.tmp 7) (by rfl) (w.heap.size+1) (0) (by rfl) [.int .i64 f,.int .i64 cl] _ s.out Tryz.underlying153 rfl bh ?_;intro K hK;go_simp;refine hK _ ?_;clear hK K)|(refine aj (by simp[Region.wanted,yielded]) 56 (.tmp 3) (by rfl) w.heap.size (0) (by rfl) [.int .i64 m.k,.int .i64 m.f,.int .i64 m.v,.int .i64 m.i,.int .i64 m.q,.int .i64 m.r,.slice Ab m.b.length cb,.slice Ao m.o.length co,.slice Ac m.c.length cc,.slice Ap m.p.length cp] _ n.out Tryz.underlying56 rfl ax ?_;intro K hK;go_simp;refine hK _ ?_;clear hK K)|quiet_step (first|(go_at_call 88;exact ag _ (l.out _))|(go_at_call 93;exact ah _ (br _ _ _ _))|(go_at_call 92;exact ah _ (g.out _))|(go_at_call 95;exact ag _ (j.out _ (tt (a.out.below (Later.h _)))))))
   refine wpQuiet_nil ?_
   intro w4 d
   have hb4:=ay d
   clear d
   have t:=tt (a.out.below hb4)
   clear hb4
   go_wp2_with fail
   go_ret
   exact⟨by rw[Hr.out];rfl,t.out.be⟩
  |true=>
   cases b1 with
   |false=>
    go_wp2_with fail
    have l0:=ab (w:=w2.drew) c0
    have l1:=ab (w:=w2.drew) c1
    have l2:=ab (w:=w2.drew) c2
    have l3:=ab (w:=w2.drew) c3
    have l4:=ab (w:=w2.drew) c4
    have l5:=ab (w:=w2.drew) c5
    have l6:=ab (w:=w2.drew) c6
    have l7:=ab (w:=w2.drew) c7
    have l8:=ab (w:=w2.drew) c8
    have l9:=ab (w:=w2.drew) c9
    refine aw [(true,0),(true,1),(true,2),(true,3)] 2 (by kernel_rfl) (by kernel_rfl) ?_
    simp only[phW,tu,tx,Option.toList,tC,tD,Nat.reduceAdd,tE,List.drop_zero,List.take_succ_cons,List.take_zero]
    repeat (first|go_big_quiet_step (fail)|quiet_step (fail)|refine wpQuiet_nil ?_)
    clear l0 l1 l2 l3 l4 l5 l6 l7 l8 l9 c0 c1 c2 c3 c4 c5 c6 c7 c8 c9 c10 c11
    go_wp2_with fail
    refine (u.out _ _ (aJ w2.drew [.int .i64 m.q,.int .i64 m.r] 3 _ rfl)).mono ?_
    rintro e w3 ⟨rfl,rfl⟩
    go_wp2_with fail
    obtain⟨a,c0,c1,c2,c3,c4,c5,c6,c7,c8,c9,c10,c11⟩:=aD HF ((ae w2 (.cells #[.int .i64 m.q,.int .i64 m.r] 3)).drew)
    obtain⟨w3,hw3⟩:∃w3,(w2.alloc (.cells #[.int .i64 m.q,.int .i64 m.r] 3)).drew=w3:=⟨_,rfl⟩
    rw[hw3] at a c0 c1 c2 c3 c4 c5 c6 c7 c8 c9 c10 c11
    try rw[hw3]
    clear hw3
    have l0:=ab (w:=w3) c0
    have l1:=ab (w:=w3) c1
    have l2:=ab (w:=w3) c2
    have l3:=ab (w:=w3) c3
    have l4:=ab (w:=w3) c4
    have l5:=ab (w:=w3) c5
    have l6:=ab (w:=w3) c6
    have l7:=ab (w:=w3) c7
    have l8:=ab (w:=w3) c8
    have l9:=ab (w:=w3) c9
    have z:=ab (w:=w3) c10
    have y:=ab (w:=w3) c11
    have s:Hid (∀w':World,(∃p:Later w3,w'=p.W)→w'.rangeAt (w.heap.size+1) 0 [.int .i64 f,.int .i64 cl]):=tt (by rintro w' ⟨p,rfl⟩;exact (a.out.below p.h).lk)
    have n:Hid (∀w':World,(∃p:Later w3,w'=p.W)→w'.rangeAt w.heap.size 0 [.int .i64 m.k,.int .i64 m.f,.int .i64 m.v,.int .i64 m.i,.int .i64 m.q,.int .i64 m.r,.slice Ab m.b.length cb,.slice Ao m.o.length co,.slice Ac m.c.length cc,.slice Ap m.p.length cp]):=tt (by rintro w' ⟨p,rfl⟩;exact (a.out.below p.h).range)
    show wpQuiet _ _ _ _ _ _
    repeat (first|go_big_quiet_step (first|(go_at_call 88;exact ag _ (l.out _))|(go_at_call 93;exact ah _ (br _ _ _ _))|(go_at_call 92;exact ah _ (g.out _))|(go_at_call 95;exact ag _ (j.out _ (tt (a.out.below (Later.h _))))))|(refine aj (by simp[Region.wanted,yielded]) 153 (.tmp 7) (by rfl) (w.heap.size+1) (0) (by rfl) [.int .i64 f,.int .i64 cl] _ s.out Tryz.underlying153 rfl bh ?_;intro K hK;go_simp;refine hK _ ?_;clear hK K)|(refine aj (by simp[Region.wanted,yielded]) 56 (.tmp 3) (by rfl) w.heap.size (0) (by rfl) [.int .i64 m.k,.int .i64 m.f,.int .i64 m.v,.int .i64 m.i,.int .i64 m.q,.int .i64 m.r,.slice Ab m.b.length cb,.slice Ao m.o.length co,.slice Ac m.c.length cc,.slice Ap m.p.length cp] _ n.out Tryz.underlying56 rfl ax ?_;intro K hK;go_simp;refine hK _ ?_;clear hK K)|quiet_step (first|(go_at_call 88;exact ag _ (l.out _))|(go_at_call 93;exact ah _ (br _ _ _ _))|(go_at_call 92;exact ah _ (g.out _))|(go_at_call 95;exact ag _ (j.out _ (tt (a.out.below (Later.h _)))))))
    refine wpQuiet_nil ?_
    intro w4 d
    have hb4:=ay d
    clear d
    have t:=tt (a.out.below hb4)
    clear hb4
    go_wp2_with fail
    go_ret
    exact⟨by rw[Hr.out];rfl,t.out.be⟩
   |true=>
    cases b2 with
    |false=>
     go_wp2_with fail
     have l0:=ab (w:=w2.drew) c0
     have l1:=ab (w:=w2.drew) c1
     have l2:=ab (w:=w2.drew) c2
     have l3:=ab (w:=w2.drew) c3
     have l4:=ab (w:=w2.drew) c4
     have l5:=ab (w:=w2.drew) c5
     have l6:=ab (w:=w2.drew) c6
     have l7:=ab (w:=w2.drew) c7
     have l8:=ab (w:=w2.drew) c8
     have l9:=ab (w:=w2.drew) c9
     refine aw [(true,0),(true,1),(true,2),(true,3)] 2 (by kernel_rfl) (by kernel_rfl) ?_
     simp only[phW,tu,tx,Option.toList,tC,tD,Nat.reduceAdd,tE,List.drop_zero,List.take_succ_cons,List.take_zero]
     repeat (first|go_big_quiet_step (fail)|quiet_step (fail)|refine wpQuiet_nil ?_)
     clear l0 l1 l2 l3 l4 l5 l6 l7 l8 l9 c0 c1 c2 c3 c4 c5 c6 c7 c8 c9 c10 c11
     go_wp2_with fail
     refine (u.out _ _ (aJ w2.drew [.int .i64 m.q,.int .i64 m.r] 3 _ rfl)).mono ?_
     rintro e w3 ⟨rfl,rfl⟩
     go_wp2_with fail
     obtain⟨a,c0,c1,c2,c3,c4,c5,c6,c7,c8,c9,c10,c11⟩:=aD HF ((ae w2 (.cells #[.int .i64 m.q,.int .i64 m.r] 3)).drew)
     obtain⟨w3,hw3⟩:∃w3,(w2.alloc (.cells #[.int .i64 m.q,.int .i64 m.r] 3)).drew=w3:=⟨_,rfl⟩
     rw[hw3] at a c0 c1 c2 c3 c4 c5 c6 c7 c8 c9 c10 c11
     try rw[hw3]
     clear hw3
     have l0:=ab (w:=w3) c0
     have l1:=ab (w:=w3) c1
     have l2:=ab (w:=w3) c2
     have l3:=ab (w:=w3) c3
     have l4:=ab (w:=w3) c4
     have l5:=ab (w:=w3) c5
     have l6:=ab (w:=w3) c6
     have l7:=ab (w:=w3) c7
     have l8:=ab (w:=w3) c8
     have l9:=ab (w:=w3) c9
     have z:=ab (w:=w3) c10
     have y:=ab (w:=w3) c11
     have s:Hid (∀w':World,(∃p:Later w3,w'=p.W)→w'.rangeAt (w.heap.size+1) 0 [.int .i64 f,.int .i64 cl]):=tt (by rintro w' ⟨p,rfl⟩;exact (a.out.below p.h).lk)
     have n:Hid (∀w':World,(∃p:Later w3,w'=p.W)→w'.rangeAt w.heap.size 0 [.int .i64 m.k,.int .i64 m.f,.int .i64 m.v,.int .i64 m.i,.int .i64 m.q,.int .i64 m.r,.slice Ab m.b.length cb,.slice Ao m.o.length co,.slice Ac m.c.length cc,.slice Ap m.p.length cp]):=tt (by rintro w' ⟨p,rfl⟩;exact (a.out.below p.h).range)
     show wpQuiet _ _ _ _ _ _
     repeat (first|go_big_quiet_step (first|(go_at_call 88;exact ag _ (l.out _))|(go_at_call 93;exact ah _ (br _ _ _ _))|(go_at_call 92;exact ah _ (g.out _))|(go_at_call 95;exact ag _ (j.out _ (tt (a.out.below (Later.h _))))))|(refine aj (by simp[Region.wanted,yielded]) 153 (.tmp 7) (by rfl) (w.heap.size+1) (0) (by rfl) [.int .i64 f,.int .i64 cl] _ s.out Tryz.underlying153 rfl bh ?_;intro K hK;go_simp;refine hK _ ?_;clear hK K)|(refine aj (by simp[Region.wanted,yielded]) 56 (.tmp 3) (by rfl) w.heap.size (0) (by rfl) [.int .i64 m.k,.int .i64 m.f,.int .i64 m.v,.int .i64 m.i,.int .i64 m.q,.int .i64 m.r,.slice Ab m.b.length cb,.slice Ao m.o.length co,.slice Ac m.c.length cc,.slice Ap m.p.length cp] _ n.out Tryz.underlying56 rfl ax ?_;intro K hK;go_simp;refine hK _ ?_;clear hK K)|quiet_step (first|(go_at_call 88;exact ag _ (l.out _))|(go_at_call 93;exact ah _ (br _ _ _ _))|(go_at_call 92;exact ah _ (g.out _))|(go_at_call 95;exact ag _ (j.out _ (tt (a.out.below (Later.h _)))))))
     refine wpQuiet_nil ?_
     intro w4 d
     have hb4:=ay d
     clear d
     have t:=tt (a.out.below hb4)
     clear hb4
     go_wp2_with fail
     go_ret
     exact⟨by rw[Hr.out];rfl,t.out.be⟩
    |true=>
     cases b3 with
     |false=>
      go_wp2_with fail
      have l0:=ab (w:=w2.drew) c0
      have l1:=ab (w:=w2.drew) c1
      have l2:=ab (w:=w2.drew) c2
      have l3:=ab (w:=w2.drew) c3
      have l4:=ab (w:=w2.drew) c4
      have l5:=ab (w:=w2.drew) c5
      have l6:=ab (w:=w2.drew) c6
      have l7:=ab (w:=w2.drew) c7
      have l8:=ab (w:=w2.drew) c8
      have l9:=ab (w:=w2.drew) c9
      refine aw [(true,0),(true,1),(true,2),(true,3)] 2 (by kernel_rfl) (by kernel_rfl) ?_
      simp only[phW,tu,tx,Option.toList,tC,tD,Nat.reduceAdd,tE,List.drop_zero,List.take_succ_cons,List.take_zero]
      repeat (first|go_big_quiet_step (fail)|quiet_step (fail)|refine wpQuiet_nil ?_)
      clear l0 l1 l2 l3 l4 l5 l6 l7 l8 l9 c0 c1 c2 c3 c4 c5 c6 c7 c8 c9 c10 c11
      go_wp2_with fail
      refine (u.out _ _ (aJ w2.drew [.int .i64 m.q,.int .i64 m.r] 3 _ rfl)).mono ?_
      rintro e w3 ⟨rfl,rfl⟩
      go_wp2_with fail
      obtain⟨a,c0,c1,c2,c3,c4,c5,c6,c7,c8,c9,c10,c11⟩:=aD HF ((ae w2 (.cells #[.int .i64 m.q,.int .i64 m.r] 3)).drew)
      obtain⟨w3,hw3⟩:∃w3,(w2.alloc (.cells #[.int .i64 m.q,.int .i64 m.r] 3)).drew=w3:=⟨_,rfl⟩
      rw[hw3] at a c0 c1 c2 c3 c4 c5 c6 c7 c8 c9 c10 c11
      try rw[hw3]
      clear hw3
      have l0:=ab (w:=w3) c0
      have l1:=ab (w:=w3) c1
      have l2:=ab (w:=w3) c2
      have l3:=ab (w:=w3) c3
      have l4:=ab (w:=w3) c4
      have l5:=ab (w:=w3) c5
      have l6:=ab (w:=w3) c6
      have l7:=ab (w:=w3) c7
      have l8:=ab (w:=w3) c8
      have l9:=ab (w:=w3) c9
      have z:=ab (w:=w3) c10
      have y:=ab (w:=w3) c11
      have s:Hid (∀w':World,(∃p:Later w3,w'=p.W)→w'.rangeAt (w.heap.size+1) 0 [.int .i64 f,.int .i64 cl]):=tt (by rintro w' ⟨p,rfl⟩;exact (a.out.below p.h).lk)
      have n:Hid (∀w':World,(∃p:Later w3,w'=p.W)→w'.rangeAt w.heap.size 0 [.int .i64 m.k,.int .i64 m.f,.int .i64 m.v,.int .i64 m.i,.int .i64 m.q,.int .i64 m.r,.slice Ab m.b.length cb,.slice Ao m.o.length co,.slice Ac m.c.length cc,.slice Ap m.p.length cp]):=tt (by rintro w' ⟨p,rfl⟩;exact (a.out.below p.h).range)
      show wpQuiet _ _ _ _ _ _
      repeat (first|go_big_quiet_step (first|(go_at_call 88;exact ag _ (l.out _))|(go_at_call 93;exact ah _ (br _ _ _ _))|(go_at_call 92;exact ah _ (g.out _))|(go_at_call 95;exact ag _ (j.out _ (tt (a.out.below (Later.h _))))))|(refine aj (by simp[Region.wanted,yielded]) 153 (.tmp 7) (by rfl) (w.heap.size+1) (0) (by rfl) [.int .i64 f,.int .i64 cl] _ s.out Tryz.underlying153 rfl bh ?_;intro K hK;go_simp;refine hK _ ?_;clear hK K)|(refine aj (by simp[Region.wanted,yielded]) 56 (.tmp 3) (by rfl) w.heap.size (0) (by rfl) [.int .i64 m.k,.int .i64 m.f,.int .i64 m.v,.int .i64 m.i,.int .i64 m.q,.int .i64 m.r,.slice Ab m.b.length cb,.slice Ao m.o.length co,.slice Ac m.c.length cc,.slice Ap m.p.length cp] _ n.out Tryz.underlying56 rfl ax ?_;intro K hK;go_simp;refine hK _ ?_;clear hK K)|quiet_step (first|(go_at_call 88;exact ag _ (l.out _))|(go_at_call 93;exact ah _ (br _ _ _ _))|(go_at_call 92;exact ah _ (g.out _))|(go_at_call 95;exact ag _ (j.out _ (tt (a.out.below (Later.h _)))))))
      refine wpQuiet_nil ?_
      intro w4 d
      have hb4:=ay d
      clear d
      have t:=tt (a.out.below hb4)
      clear hb4
      go_wp2_with fail
      go_ret
      exact⟨by rw[Hr.out];rfl,t.out.be⟩
     |true=>
      cases b4 with
      |false=>
       go_wp2_with fail
       have l0:=ab (w:=w2.drew) c0
       have l1:=ab (w:=w2.drew) c1
       have l2:=ab (w:=w2.drew) c2
       have l3:=ab (w:=w2.drew) c3
       have l4:=ab (w:=w2.drew) c4
       have l5:=ab (w:=w2.drew) c5
       have l6:=ab (w:=w2.drew) c6
       have l7:=ab (w:=w2.drew) c7
       have l8:=ab (w:=w2.drew) c8
       have l9:=ab (w:=w2.drew) c9
       refine aw [(true,0),(true,1),(true,2),(true,3)] 2 (by kernel_rfl) (by kernel_rfl) ?_
       simp only[phW,tu,tx,Option.toList,tC,tD,Nat.reduceAdd,tE,List.drop_zero,List.take_succ_cons,List.take_zero]
       repeat (first|go_big_quiet_step (fail)|quiet_step (fail)|refine wpQuiet_nil ?_)
       clear l0 l1 l2 l3 l4 l5 l6 l7 l8 l9 c0 c1 c2 c3 c4 c5 c6 c7 c8 c9 c10 c11
       go_wp2_with fail
       refine (u.out _ _ (aJ w2.drew [.int .i64 m.q,.int .i64 m.r] 3 _ rfl)).mono ?_
       rintro e w3 ⟨rfl,rfl⟩
       go_wp2_with fail
       obtain⟨a,c0,c1,c2,c3,c4,c5,c6,c7,c8,c9,c10,c11⟩:=aD HF ((ae w2 (.cells #[.int .i64 m.q,.int .i64 m.r] 3)).drew)
       obtain⟨w3,hw3⟩:∃w3,(w2.alloc (.cells #[.int .i64 m.q,.int .i64 m.r] 3)).drew=w3:=⟨_,rfl⟩
       rw[hw3] at a c0 c1 c2 c3 c4 c5 c6 c7 c8 c9 c10 c11
       try rw[hw3]
       clear hw3
       have l0:=ab (w:=w3) c0
       have l1:=ab (w:=w3) c1
       have l2:=ab (w:=w3) c2
       have l3:=ab (w:=w3) c3
       have l4:=ab (w:=w3) c4
       have l5:=ab (w:=w3) c5
       have l6:=ab (w:=w3) c6
       have l7:=ab (w:=w3) c7
       have l8:=ab (w:=w3) c8
       have l9:=ab (w:=w3) c9
       have z:=ab (w:=w3) c10
       have y:=ab (w:=w3) c11
       have s:Hid (∀w':World,(∃p:Later w3,w'=p.W)→w'.rangeAt (w.heap.size+1) 0 [.int .i64 f,.int .i64 cl]):=tt (by rintro w' ⟨p,rfl⟩;exact (a.out.below p.h).lk)
       have n:Hid (∀w':World,(∃p:Later w3,w'=p.W)→w'.rangeAt w.heap.size 0 [.int .i64 m.k,.int .i64 m.f,.int .i64 m.v,.int .i64 m.i,.int .i64 m.q,.int .i64 m.r,.slice Ab m.b.length cb,.slice Ao m.o.length co,.slice Ac m.c.length cc,.slice Ap m.p.length cp]):=tt (by rintro w' ⟨p,rfl⟩;exact (a.out.below p.h).range)
       show wpQuiet _ _ _ _ _ _
       repeat (first|go_big_quiet_step (first|(go_at_call 88;exact ag _ (l.out _))|(go_at_call 93;exact ah _ (br _ _ _ _))|(go_at_call 92;exact ah _ (g.out _))|(go_at_call 95;exact ag _ (j.out _ (tt (a.out.below (Later.h _))))))|(refine aj (by simp[Region.wanted,yielded]) 153 (.tmp 7) (by rfl) (w.heap.size+1) (0) (by rfl) [.int .i64 f,.int .i64 cl] _ s.out Tryz.underlying153 rfl bh ?_;intro K hK;go_simp;refine hK _ ?_;clear hK K)|(refine aj (by simp[Region.wanted,yielded]) 56 (.tmp 3) (by rfl) w.heap.size (0) (by rfl) [.int .i64 m.k,.int .i64 m.f,.int .i64 m.v,.int .i64 m.i,.int .i64 m.q,.int .i64 m.r,.slice Ab m.b.length cb,.slice Ao m.o.length co,.slice Ac m.c.length cc,.slice Ap m.p.length cp] _ n.out Tryz.underlying56 rfl ax ?_;intro K hK;go_simp;refine hK _ ?_;clear hK K)|quiet_step (first|(go_at_call 88;exact ag _ (l.out _))|(go_at_call 93;exact ah _ (br _ _ _ _))|(go_at_call 92;exact ah _ (g.out _))|(go_at_call 95;exact ag _ (j.out _ (tt (a.out.below (Later.h _)))))))
       refine wpQuiet_nil ?_
       intro w4 d
       have hb4:=ay d
       clear d
       have t:=tt (a.out.below hb4)
       clear hb4
       go_wp2_with fail
       go_ret
       exact⟨by rw[Hr.out];rfl,t.out.be⟩
      |true=>
       go_wp2_with fail
       have l0:=ab (w:=w2.drew) c0
       have l1:=ab (w:=w2.drew) c1
       have l2:=ab (w:=w2.drew) c2
       have l3:=ab (w:=w2.drew) c3
       have l4:=ab (w:=w2.drew) c4
       have l5:=ab (w:=w2.drew) c5
       have l6:=ab (w:=w2.drew) c6
       have l7:=ab (w:=w2.drew) c7
       have l8:=ab (w:=w2.drew) c8
       have l9:=ab (w:=w2.drew) c9
       refine aw [(true,0),(true,1),(true,2),(true,3)] 2 (by kernel_rfl) (by kernel_rfl) ?_
       simp only[phW,tu,tx,Option.toList,tC,tD,Nat.reduceAdd,tE,List.drop_zero,List.take_succ_cons,List.take_zero]
       repeat (first|go_big_quiet_step (fail)|quiet_step (fail)|refine wpQuiet_nil ?_)
       clear l0 l1 l2 l3 l4 l5 l6 l7 l8 l9 c0 c1 c2 c3 c4 c5 c6 c7 c8 c9 c10 c11
       go_wp2_with fail
       refine (u.out _ _ (aJ w2.drew [.int .i64 m.q,.int .i64 m.r] 3 _ rfl)).mono ?_
       rintro e w3 ⟨rfl,rfl⟩
       go_wp2_with fail
       obtain⟨a,c0,c1,c2,c3,c4,c5,c6,c7,c8,c9,c10,c11⟩:=aD HF ((ae w2 (.cells #[.int .i64 m.q,.int .i64 m.r] 3)).drew)
       obtain⟨w3,hw3⟩:∃w3,(w2.alloc (.cells #[.int .i64 m.q,.int .i64 m.r] 3)).drew=w3:=⟨_,rfl⟩
       rw[hw3] at a c0 c1 c2 c3 c4 c5 c6 c7 c8 c9 c10 c11
       try rw[hw3]
       clear hw3
       have l0:=ab (w:=w3) c0
       have l1:=ab (w:=w3) c1
       have l2:=ab (w:=w3) c2
       have l3:=ab (w:=w3) c3
       have l4:=ab (w:=w3) c4
       have l5:=ab (w:=w3) c5
       have l6:=ab (w:=w3) c6
       have l7:=ab (w:=w3) c7
       have l8:=ab (w:=w3) c8
       have l9:=ab (w:=w3) c9
       have z:=ab (w:=w3) c10
       have y:=ab (w:=w3) c11
       have s:Hid (∀w':World,(∃p:Later w3,w'=p.W)→w'.rangeAt (w.heap.size+1) 0 [.int .i64 f,.int .i64 cl]):=tt (by rintro w' ⟨p,rfl⟩;exact (a.out.below p.h).lk)
       have n:Hid (∀w':World,(∃p:Later w3,w'=p.W)→w'.rangeAt w.heap.size 0 [.int .i64 m.k,.int .i64 m.f,.int .i64 m.v,.int .i64 m.i,.int .i64 m.q,.int .i64 m.r,.slice Ab m.b.length cb,.slice Ao m.o.length co,.slice Ac m.c.length cc,.slice Ap m.p.length cp]):=tt (by rintro w' ⟨p,rfl⟩;exact (a.out.below p.h).range)
       show wpQuiet _ _ _ _ _ _
       repeat (first|go_big_quiet_step (first|(go_at_call 88;exact ag _ (l.out _))|(go_at_call 93;exact ah _ (br _ _ _ _))|(go_at_call 92;exact ah _ (g.out _))|(go_at_call 95;exact ag _ (j.out _ (tt (a.out.below (Later.h _))))))|(refine aj (by simp[Region.wanted,yielded]) 153 (.tmp 7) (by rfl) (w.heap.size+1) (0) (by rfl) [.int .i64 f,.int .i64 cl] _ s.out Tryz.underlying153 rfl bh ?_;intro K hK;go_simp;refine hK _ ?_;clear hK K)|(refine aj (by simp[Region.wanted,yielded]) 56 (.tmp 3) (by rfl) w.heap.size (0) (by rfl) [.int .i64 m.k,.int .i64 m.f,.int .i64 m.v,.int .i64 m.i,.int .i64 m.q,.int .i64 m.r,.slice Ab m.b.length cb,.slice Ao m.o.length co,.slice Ac m.c.length cc,.slice Ap m.p.length cp] _ n.out Tryz.underlying56 rfl ax ?_;intro K hK;go_simp;refine hK _ ?_;clear hK K)|quiet_step (first|(go_at_call 88;exact ag _ (l.out _))|(go_at_call 93;exact ah _ (br _ _ _ _))|(go_at_call 92;exact ah _ (g.out _))|(go_at_call 95;exact ag _ (j.out _ (tt (a.out.below (Later.h _)))))))
       refine wpQuiet_nil ?_
       intro w4 d
       have hb4:=ay d
       clear d
       have t:=tt (a.out.below hb4)
       clear hb4
       go_wp2_with fail
       go_ret
       exact⟨by rw[Hr.out];rfl,t.out.be⟩
end Go.Proofs.YtipmjleohadoeaaGreat
end
