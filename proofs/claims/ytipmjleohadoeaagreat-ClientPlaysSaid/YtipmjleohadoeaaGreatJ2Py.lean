import Derived.Test.YtipmjleohadoeaaGreatJ1Py
import Derived.Test.YtipmjleohadoeaaGreatGaPy
import Derived.Test.YtipmjleohadoeaaGreatProg
import Derived.WalkKit
import Derived.WalkSpells
import Derived.BigQuiet
import Derived.Deep.QuietTactic
import Derived.Deep.Fields
import Derived.ChangeSame
set_option maxRecDepth 100000
set_option maxHeartbeats 16000000
set_option linter.unusedVariables false
set_option linter.unusedSimpArgs false
section
section
namespace Go.Proofs.YtipmjleohadoeaaGreat
open Go.RowKit
theorem WrS.flag {T:TypeId} {w:World} {S:Nat→Prop} {g:Nat} {out:List UInt8} {bad:Bool} (h:Wr T w S g out bad) (ok:Bool):WrS T [] ok 0 S g out bad w S out (bad|| !ok) (w.setCell ⟨g,1,none⟩ (.bool (bad|| !ok))):=by
 obtain⟨h1,h2⟩:=h.setBad (bad|| !ok)
 exact⟨⟨rfl,fun _=>by simp,by simp⟩,h1,h2,fun k hk=>Or.inl hk,fun k hk=>hk⟩
theorem WrS.stop {T:TypeId} {e e':List UInt8} {ok ok':Bool} {n:Nat} {S S':Nat→Prop} {g:Nat} {out out':List UInt8} {bad:Bool} {w w':World} (h:WrS T e ok n S g out bad w S' out' true w') (ho:ok'=true→ok=true):WrS T e' ok' n S g out bad w S' out' true w':=by
 refine⟨⟨?_,(fun hb=>by cases hb),h.wrote.islen⟩,h.wr,h.fp,h.sub,h.sup⟩
 have h1:=h.wrote.isbad
 cases bad with
 |true=>rfl
 |false=>
  cases ok' with
  |false=>rfl
  |true=>rw[ho rfl] at h1;exact h1
theorem gx (n:Int) (w:World):Calls Tryz.prog 98 #[.int .i64 n] w fun e w'=>e= .returned (.int .i64 (Psp.zig n))∧w=w':=by
 by_cases h: -549755813888≤n∧n < 549755813888
 ·exact mY n w (by omega) (by omega)
 ·have hz:Psp.zig n=0:=by unfold Psp.zig;rw[if_pos (by omega)]
  rw[hz]
  clear hz
  by_cases h1:n < -549755813888
  ·go_enter Tryz.func98,Tryz.ntmps98
   go_wp2
   go_ret
   exact⟨rfl,rfl⟩
  ·have h2:549755813888≤n:=by omega
   clear h
   go_enter Tryz.func98,Tryz.ntmps98
   go_wp2
   go_ret
   exact⟨rfl,rfl⟩
theorem lZ (x:Value) (n:Nat) (e:List UInt8) (ok:Bool) (S:Nat→Prop) (g:Nat) (out:List UInt8) (bad:Bool) (w:World) (hW:Wr 131 w S g out bad)
 (hx:RdP w (fun b=>¬S b) 1 x n (e.map bv)) (hb:out.length+n≤1099511627776):
 ∃A c,w.cell? ⟨g,0,none⟩=some (.slice A out.length c)∧w.cell? ⟨g,1,none⟩=some (.bool bad)∧w.frozen? ⟨g,0,none⟩=false∧w.frozen? ⟨g,1,none⟩=false∧
  (w.setCell ⟨g,1,none⟩ (.bool (bad|| !ok))).ownsRow 0 5 1 (.slice A out.length c) out.length (out.map bv)∧Rd (w.setCell ⟨g,1,none⟩ (.bool (bad|| !ok))) (w.setCell ⟨g,1,none⟩ (.bool (bad|| !ok))).heap.size 1 x n (e.map bv)∧
  ∀v' w3,w3.ownsRow 0 5 1 v' (out.length+n) (out.map bv++e.map bv)→(w.setCell ⟨g,1,none⟩ (.bool (bad|| !ok))).grownBy w3 (Value.slice A out.length c).ownBlock→(v'.ownBlock=(Value.slice A out.length c).ownBlock∨v'.ownBlock=some (w.setCell ⟨g,1,none⟩ (.bool (bad|| !ok))).heap.size)→
   WrOk 131 e ok n S g out bad w (.returned (.tuple #[])) (w3.setCell ⟨g,0,none⟩ v')∧w3.cell? ⟨g,0,none⟩=some (.slice A out.length c)∧w3.frozen? ⟨g,0,none⟩=false:=by
 have hn:e.length=n:=by have:=hx.1;simpa using this
 have h:(w.setCell ⟨g,1,none⟩ (.bool (bad|| !ok))).cell? ⟨g,0,none⟩=w.cell? ⟨g,0,none⟩:=by go_simp
 obtain⟨hW1,j⟩:=hW.setBad (bad|| !ok)
 obtain⟨A,c,p,o,k0,k1,z0,z1,m,hS⟩:=hW.cells
 obtain⟨A',c',_,_,a,_,_,_,d,q⟩:=hW1.cells
 rw[h,k0] at a
 injection a with a
 injection a with e1 _ e2
 subst e1 e2
 have hx1:=(hx.fp j (fun b hb=>hb)).to_rd
 refine⟨A,c,k0,k1,z0,z1,d,hx1,?_⟩
 intro v' w3 h3 i hb3
 have f:(w.setCell ⟨g,1,none⟩ (.bool (bad|| !ok))).cell? ⟨g,0,none⟩=some (.slice A out.length c):=by rw[h];exact k0
 refine⟨?_,hW1.grown f i⟩
 obtain⟨h4,h5⟩:=hW1.append f (by rw[hn];exact h3) i hb3
 have l:(w.setCell ⟨g,1,none⟩ (.bool (bad|| !ok))).heap.size=w.heap.size:=by simp[World.setCell]
 refine⟨rfl,out++e,bad|| !ok,⟨rfl,fun _=>rfl,by rw[tH,hn];exact tJ _⟩,?_,j.trans h5 fun k hk=>Or.inl hk⟩
 rw[l] at h4
 exact h4.wider (fun k hk=>by simpa [World.setCell] using hk) (fun k hk=>h4.lt k (by simpa [World.setCell] using hk))
theorem ba (n:Int) (S:Nat→Prop) (g:Nat) (out:List UInt8) (bad:Bool) (w:World) (hW:Wr 131 w S g out bad) (hb:out.length+6≤1099511627776):
 Calls Tryz.prog 64 #[.pointer (some ⟨g,0,none⟩),.int .i64 n] w (WrOk 131 (Psp.aK n) (Psp.okN n) 6 S g out bad w):=by
 have HW:=tt hW
 clear hW
 have o:∀u∈(Psp.aK n).map bv,u.oneCell'=true:=by intro u hu;obtain⟨b,_,rfl⟩:=List.mem_map.1 hu;rfl
 have r:=tt o
 clear o
 by_cases h:Psp.okN n=true
 ·obtain⟨y0,y1⟩:=(Psp.bM n).1 h
  have q:=(Psp.ej h).2
  have m:=tt h
  clear h
  go_enter Tryz.func64,Tryz.ntmps64
  go_wp2_with fail
  refine (gN n _ y0 y1).mono ?_
  rintro e w1 ⟨v,rfl,k,j⟩
  have hr:RdP w1 (fun b=>¬S b) 1 v (Psp.aK n).length ((Psp.aK n).map bv):=(RdP.of_own k).mono fun b _ hb hs=>by have:=HW.out.lt b hs;omega
  obtain⟨A,c,k0,k1,z0,z1,a,hx1,d⟩:=lZ v _ _ true S g out bad w1 (HW.out.below j) hr (by omega)
  have f:=tt d
  have p:=tt j
  clear d j k hr
  cases bad
  all_goals
   simp only[Bool.false_or,Bool.true_or,Bool.not_true] at a hx1 f
   go_wp2_with (at_builtin;refine bk et rfl _ _ rfl 0 (.slice A out.length c) out.length (out.map bv) rfl a _ v _ ((Psp.aK n).map bv) rfl hx1 r.out (by unfold maxLen;omega) (by omega) (by omega) ?_;intro v' w3 h3 i hb3;obtain⟨A4,c4,rfl,_,_,_⟩:=ao h3;obtain⟨hq,q0,q1⟩:=f.out _ w3 h3 i hb3;have H:=tt hq;clear h3 i hb3 hq)
   go_end0
   obtain⟨_,o2,b2,r1,r2,r3⟩:=H.out.from_ p.out
   exact⟨rfl,o2,b2,by rw[m.out];exact r1.more q,r2,r3⟩
 ·have l:Psp.okN n=false:=by simpa using h
  have s:=mt (Psp.bM n).2 h
  have m:=tt l
  clear h l
  go_enter Tryz.func64,Tryz.ntmps64
  go_wp2_with fail
  refine (gO n _ (by omega)).mono ?_
  rintro e w1 ⟨rfl,rfl⟩
  obtain⟨A,c,k0,k1,z0,z1,a,hx1,d⟩:=lZ (.slice none 0 0) 0 [] false S g out bad w HW.out RdP.none_ (by omega)
  have f:=tt d
  clear d
  cases bad
  all_goals
   simp only[Bool.false_or,Bool.true_or,Bool.not_false] at a hx1 f
   go_wp2_with (at_builtin;refine bk et rfl _ _ rfl 0 (.slice A out.length c) out.length (out.map bv) rfl a _ (.slice none 0 0) 0 [] rfl hx1 (by simp) (by unfold maxLen;omega) (by omega) (by omega) ?_;intro v' w3 h3 i hb3;obtain⟨A4,c4,rfl,_,_,_⟩:=ao h3;obtain⟨hq,q0,q1⟩:=f.out _ w3 h3 i hb3;have H:=tt hq;clear h3 i hb3 hq)
   go_end0
   obtain⟨_,o2,b2,r1,r2,r3⟩:=H.out
   refine⟨rfl,o2,b2,⟨by rw[m.out];exact r1.isbad,(fun hb=>by rw[r1.isbad] at hb;simp at hb),by have:=r1.islen;omega⟩,r2,r3⟩
theorem fP (n:Int) (S:Nat→Prop) (g:Nat) (out:List UInt8) (bad:Bool) (w:World) (hW:Wr 131 w S g out bad) (hb:out.length+6≤1099511627776):
 Calls Tryz.prog 65 #[.pointer (some ⟨g,0,none⟩),.int .i64 n] w (WrOk 131 (Psp.ey n) (Psp.okS n) 6 S g out bad w):=by
 have hz:=Psp.jF n
 have d:Psp.okN (Psp.zig n)=true:=(Psp.bM _).2 ⟨hz.1,hz.2⟩
 have h1:=WrS.flag hW (Psp.okS n)
 have H1:=tt h1
 obtain⟨A,c,i,h,k0,k1,z0,z1,f,hS⟩:=hW.cells
 have fin:∀en w2,WrOk 131 (Psp.aK (Psp.zig n)) (Psp.okN (Psp.zig n)) 6 S g out (bad|| !Psp.okS n) (w.setCell ⟨g,1,none⟩ (.bool (bad|| !Psp.okS n))) en w2→en= .returned (.tuple #[])∧WrOk 131 (Psp.ey n) (Psp.okS n) 6 S g out bad w (.returned (.tuple #[])) w2:=by
  intro en w2 hc
  obtain⟨rfl,S2,o2,b2,h2⟩:=H1.out.step hc
  exact⟨rfl,(h2.of (by simp[Psp.ey,Psp.aK]) (by rw[d,Bool.and_true])).done (by omega)⟩
 have a:=tt fin
 have b:=tt h1.wr
 clear h1 hW f hS hz d fin H1
 by_cases c1:n < -549755813888
 ·have ho:Psp.okS n=false:=by unfold Psp.okS;rw[tA (by omega)]
  cases bad
  all_goals
   simp only[ho,Bool.false_or,Bool.true_or,Bool.not_false] at a b ⊢
   go_enter Tryz.func65,Tryz.ntmps65
   go_wp2_with (go_at_call 98;refine (gx n _).mono ?_;rintro e w' ⟨rfl,rfl⟩)
   refine (ba (Psp.zig n) S g out _ _ b.out (by omega)).mono ?_
   intro e w2 hc
   obtain⟨rfl,h3⟩:=a.out _ _ hc
   have H3:=tt h3
   clear h3 hc
   go_wp2_with fail
   go_end0
   exact H3.out
 ·by_cases c2:549755813888≤n
  ·have ho:Psp.okS n=false:=by unfold Psp.okS;rw[tA (by omega)]
   cases bad
   all_goals
    simp only[ho,Bool.false_or,Bool.true_or,Bool.not_false] at a b ⊢
    go_enter Tryz.func65,Tryz.ntmps65
    go_wp2_with (go_at_call 98;refine (gx n _).mono ?_;rintro e w' ⟨rfl,rfl⟩)
    refine (ba (Psp.zig n) S g out _ _ b.out (by omega)).mono ?_
    intro e w2 hc
    obtain⟨rfl,h3⟩:=a.out _ _ hc
    have H3:=tt h3
    clear h3 hc
    go_wp2_with fail
    go_end0
    exact H3.out
  ·have ho:Psp.okS n=true:=by unfold Psp.okS;rw[tB (by omega)]
   cases bad
   all_goals
    simp only[ho,Bool.false_or,Bool.true_or,Bool.not_true] at a b ⊢
    go_enter Tryz.func65,Tryz.ntmps65
    go_wp2_with (go_at_call 98;refine (gx n _).mono ?_;rintro e w' ⟨rfl,rfl⟩)
    refine (ba (Psp.zig n) S g out _ _ b.out (by omega)).mono ?_
    intro e w2 hc
    obtain⟨rfl,h3⟩:=a.out _ _ hc
    have H3:=tt h3
    clear h3 hc
    go_wp2_with fail
    go_end0
    exact H3.out
theorem gi (n:Nat) (S:Nat→Prop) (g:Nat) (out:List UInt8) (bad:Bool) (w:World) (hW:Wr 131 w S g out bad) (hb:out.length+6≤1099511627776):
 Calls Tryz.prog 99 #[.pointer (some ⟨g,0,none⟩),.int .i64 (n:Int)] w (WrOk 131 (Psp.aK n) (decide (n≤256)) 6 S g out bad w):=by
 have h1:=WrS.flag hW (decide (n≤256))
 have H1:=tt h1
 obtain⟨A,c,i,f,k0,k1,z0,z1,d,hS⟩:=hW.cells
 have fin:∀en w2,WrOk 131 (Psp.aK n) (Psp.okN n) 6 S g out (bad|| !decide (n≤256)) (w.setCell ⟨g,1,none⟩ (.bool (bad|| !decide (n≤256)))) en w2→en= .returned (.tuple #[])∧WrOk 131 (Psp.aK n) (decide (n≤256)) 6 S g out bad w (.returned (.tuple #[])) w2:=by
  intro en w2 hc
  obtain⟨rfl,S2,o2,b2,h2⟩:=H1.out.step hc
  refine⟨rfl,(h2.of (by simp) ?_).done (by omega)⟩
  by_cases h:n≤256
  ·rw[tB h];simp[Psp.okN];omega
  ·rw[tA h];rfl
 have a:=tt fin
 have b:=tt h1.wr
 clear h1 hW d hS fin H1
 by_cases h:n≤256
 ·have d1:decide (256 < (n:Int))=false:=by simp;omega
  cases bad
  all_goals
   simp only[tB h,Bool.false_or,Bool.true_or,Bool.not_true] at a b ⊢
   go_enter Tryz.func99,Tryz.ntmps99
   go_wp2_with fail
   refine (ba (n:Int) S g out _ _ b.out (by omega)).mono ?_
   intro e w2 hc
   obtain⟨rfl,h3⟩:=a.out _ _ hc
   have H3:=tt h3
   clear h3 hc
   go_wp2_with fail
   go_end0
   exact H3.out
 ·have d1:decide (256 < (n:Int))=true:=by simp;omega
  cases bad
  all_goals
   simp only[tA h,Bool.false_or,Bool.true_or,Bool.not_false] at a b ⊢
   go_enter Tryz.func99,Tryz.ntmps99
   go_wp2_with fail
   refine (ba (n:Int) S g out _ _ b.out (by omega)).mono ?_
   intro e w2 hc
   obtain⟨rfl,h3⟩:=a.out _ _ hc
   have H3:=tt h3
   clear h3 hc
   go_wp2_with fail
   go_end0
   exact H3.out
theorem lY (c t k y v s:Int) (S:Nat→Prop) (g:Nat) (out:List UInt8) (bad:Bool) (w:World) (hW:Wr 131 w S g out bad) (hb:out.length+36≤1099511627776):
 Calls Tryz.prog 100 #[.pointer (some ⟨g,0,none⟩),.agg #[.int .i64 c,.int .i64 t,.int .i64 k,.int .i64 y,.int .i64 v,.int .i64 s]] w (WrOk 131 (Psp.bR ⟨c,t,k,y,v,s⟩) (Psp.okR ⟨c,t,k,y,v,s⟩) 36 S g out bad w):=by
 have HW:=tt (hW.below (ae w (.cells #[.int .i64 c,.int .i64 t,.int .i64 k,.int .i64 y,.int .i64 v,.int .i64 s] 42)))
 have hS:¬S w.heap.size:=hW.off (tJ _)
 have d:=tt (aJ w [iv c,iv t,iv k,iv y,iv v,iv s] 42 _ rfl)
 have f:w.heap.size < (w.alloc (.cells #[.int .i64 c,.int .i64 t,.int .i64 k,.int .i64 y,.int .i64 v,.int .i64 s] 42)).heap.size:=by simp
 have b:=tt f
 clear hW f
 go_enter Tryz.func100,Tryz.ntmps100
 go_wp2_with fail
 refine (ba c S _ out bad _ (WrS.start HW.out).wr (by omega)).mono ?_
 intro e w1 hc
 obtain⟨rfl,S1,o1,b1,h1⟩:=(WrS.start HW.out).step hc
 have a:=h1.lies d.out b.out hS
 have x1:=a.at_ (j:=1) (by simp)
 simp only[Nat.zero_add,tG,tF,iv] at x1
 have n:=h1.wrote.islen
 have H1:=tt h1
 clear hc h1 a
 go_wp2_with fail
 refine (ba t S1 _ o1 b1 _ H1.out.wr (by omega)).mono ?_
 intro e w2 hc
 obtain⟨rfl,S2,o2,b2,h2⟩:=H1.out.step hc
 have a:=h2.lies d.out b.out hS
 have x2:=a.at_ (j:=2) (by simp)
 simp only[Nat.zero_add,tG,tF,iv] at x2
 have m:=h2.wrote.islen
 have H2:=tt h2
 clear hc h2 a x1
 go_wp2_with fail
 refine (ba k S2 _ o2 b2 _ H2.out.wr (by omega)).mono ?_
 intro e w3 hc
 obtain⟨rfl,S3,o3,b3,h3⟩:=H2.out.step hc
 have a:=h3.lies d.out b.out hS
 have x3:=a.at_ (j:=3) (by simp)
 simp only[Nat.zero_add,tG,tF,iv] at x3
 have l:=h3.wrote.islen
 have H3:=tt h3
 clear hc h3 a x2
 go_wp2_with fail
 refine (fP y S3 _ o3 b3 _ H3.out.wr (by omega)).mono ?_
 intro e w4 hc
 obtain⟨rfl,S4,o4,b4,h4⟩:=H3.out.step hc
 have a:=h4.lies d.out b.out hS
 have x4:=a.at_ (j:=4) (by simp)
 simp only[Nat.zero_add,tG,tF,iv] at x4
 have i:=h4.wrote.islen
 have H4:=tt h4
 clear hc h4 a x3
 go_wp2_with fail
 refine (fP v S4 _ o4 b4 _ H4.out.wr (by omega)).mono ?_
 intro e w5 hc
 obtain⟨rfl,S5,o5,b5,h5⟩:=H4.out.step hc
 have a:=h5.lies d.out b.out hS
 have x5:=a.at_ (j:=5) (by simp)
 simp only[Nat.zero_add,tG,tF,iv] at x5
 have h:=h5.wrote.islen
 have H5:=tt h5
 clear hc h5 a x4
 go_wp2_with fail
 refine (ba s S5 _ o5 b5 _ H5.out.wr (by omega)).mono ?_
 intro e w6 hc
 obtain⟨rfl,S6,o6,b6,h6⟩:=H5.out.step hc
 have H6:=tt h6
 clear hc h6 x5
 go_wp2_with fail
 go_end0
 exact ((H6.out.of (by simp[Psp.bR]) (by simp[Psp.okR,Bool.and_assoc])).done (by omega)).from_ (ae _ _)
theorem ju (l:List Psp.Req) (n:Nat) (x:Value) (S:Nat→Prop) (g:Nat) (out:List UInt8) (bad:Bool) (w:World) (hW:Wr 131 w S g out bad) (hn:l.length=n)
 (hx:RdP w (fun b=>¬S b) 6 x n (l.flatMap rq)) (hb:out.length+9222≤1099511627776):
 Calls Tryz.prog 66 #[.pointer (some ⟨g,0,none⟩),x] w (WrOk 131 (Psp.bw Psp.bR l) (Psp.okL Psp.okR l) 9222 S g out bad w):=by
 have he:l.length=n:=by exact hn
 have He:=tt he
 have Hn:=tt hn
 obtain⟨I,A,cp,rfl,aa,Z,C⟩:=hx.parts
 have O:=tt C
 have HW:=tt hW
 have R:=tt (show Psp.bw Psp.bR l=Psp.aK n++l.flatMap Psp.bR by unfold Psp.bw;rw[he])
 have G:=tt (show Psp.okL Psp.okR l=(decide (n≤256)&&l.all Psp.okR) by unfold Psp.okL;rw[he])
 clear hW hn he hx I C
 go_enter Tryz.func66,Tryz.ntmps66
 go_wp2_with fail
 refine (gi n S g out bad _ HW.out (by omega)).mono ?_
 intro e w2 hc
 obtain⟨rfl,S2,o2,b2,h2⟩:=(WrS.start HW.out).step hc
 have h3:WrS 131 (Psp.aK n++(l.take 0).flatMap Psp.bR) (decide (n≤256)&&(l.take 0).all Psp.okR) (6+0 * 36) S g out bad w S2 o2 b2 w2:=h2.of (by simp) (by simp)
 have H3:=tt h3
 clear hc h2 h3
 go_wp2_with fail
 go_loopw [4] (fun i wr=>∃(k:Nat) (S':Nat→Prop) (out':List UInt8) (bad':Bool),i= .int .i64 (k:Int)∧k≤n∧WrS 131 (Psp.aK n++(l.take k).flatMap Psp.bR) (decide (n≤256)&&(l.take k).all Psp.okR) (6+k * 36) S g out bad w S' out' bad' wr∧(0 < k→n≤256)) (fun i _=>n - (intOf i).toNat)
 case atStart=>exact⟨0,S2,o2,b2,rfl,Nat.zero_le _,H3.out,fun h=>absurd h (by omega)⟩
 case round=>
  obtain⟨k,S',out',bad',rfl,hk,hI,F⟩:=hrel
  have hkb:k * 36≤256 * 36:=by
   rcases Nat.eq_zero_or_pos k with h|h
   ·exact Nat.mul_le_mul_right _ (by omega)
   ·exact Nat.mul_le_mul_right _ (by have:=F h;omega)
  obtain⟨A3,c3,_,_,q0,q1,_,_,_,_⟩:=hI.wr.cells
  clear q0
  by_cases hlt:k < n
  ·cases bad' with
   |true=>
    have a:=(hI.stop (e':=Psp.bw Psp.bR l) (ok':=Psp.okL Psp.okR l) (fun h=>by
     rw[G.out,tI] at h
     rw[tI]
     exact⟨h.1,List.all_eq_true.2 fun x hx=>List.all_eq_true.1 h.2 x (List.mem_of_mem_take hx)⟩)).done (m:=9222) (by omega)
    have z:=tt a
    clear a hI
    go_wp2_with fail
    go_end0
    exact z.out
   |false=>
    have p:n≤256:=by
     have h1:=hI.wrote.isbad
     by_cases h:n≤256
     ·exact h
     ·rw[tA h] at h1;simp at h1
    have q:(k+1) * 36≤256 * 36:=Nat.mul_le_mul_right _ (by omega)
    rw[Nat.succ_mul] at q
    obtain⟨b,o,L,K,J,d⟩:=O.out (by omega)
    subst L
    have E:k < l.length:=by have:=Hn.out;omega
    have j:k < l.length:=by have:=He.out;omega
    have r:=Psp.cG Psp.bR j
    have u:=Psp.cU Psp.okR j
    have Y:=hI.wrote.islen
    obtain⟨t,ht⟩:∃t,l[k]=t:=⟨_,rfl⟩
    have D:∀(W:World),Lies W b o (l.flatMap rq)→W.rangeAt b (o+k * 6) (rq t):=fun W hW=>by have:=bF (f:=rq) (k:=6) (fun _=>rfl) hW E;rwa [ht] at this
    rw[ht] at r u
    have P:=tt D
    have B:=tt d
    have T:=tt r
    have U:=tt u
    have H0:=tt hI
    clear d D r u hI E j ht F
    have Q:=tt (P.out _ (H0.out.lies B.out J K))
    go_wp2_with (refine aA rfl 42 (.tmp 25) rfl b (o+k * 6) rfl [.int .i64 t.c,.int .i64 t.t,.int .i64 t.k,.int .i64 t.y,.int .i64 t.v,.int .i64 t.s] _ ?_ Tryz.underlying42 rfl dz ?_;exact Q.out)
    refine (lY t.c t.t t.k t.y t.v t.s S' _ out' false _ H0.out.wr (by omega)).mono ?_
    intro e V hc
    obtain⟨rfl,N,H,M,h1⟩:=H0.out.step hc
    have X:=h1.wrote.islen
    have H1:=tt h1
    clear hc h1 q1
    have h9:=H1.out.of (show _=Psp.aK n++(l.take (k+1)).flatMap Psp.bR by rw[T.out];simp[Psp.bR]) (show _=(decide (n≤256)&&(l.take (k+1)).all Psp.okR) by rw[U.out];simp[Psp.okR,Bool.and_assoc])
    have H9:=tt h9
    clear h9
    go_wp2_with fail
    go_roundw
    case rel=>exact⟨k+1,N,H,M,by go_num,by omega,⟨H9.out.wrote.more (by rw[Nat.succ_mul];omega),H9.out.wr,H9.out.fp,H9.out.sub,H9.out.sup⟩,fun _=>p⟩
    case measure=>simp[intOf];omega
  ·obtain rfl:k=n:=by omega
   have hE:=He.out
   rw[List.take_of_length_le (by omega)] at hI
   have hd:=(hI.of R.out.symm G.out.symm).done (m:=9222) (by omega)
   have Hd:=tt hd
   clear hd hI hE
   cases bad'
   all_goals
    go_wp2_with fail
    go_end0
    exact Hd.out
theorem gA (l:List Psp.Vote) (n:Nat) (x:Value) (S:Nat→Prop) (g:Nat) (out:List UInt8) (bad:Bool) (w:World) (hW:Wr 131 w S g out bad) (hn:l.length=n)
 (hx:RdP w (fun b=>¬S b) 2 x n (l.flatMap vt)) (hb:out.length+3078≤1099511627776):
 Calls Tryz.prog 67 #[.pointer (some ⟨g,0,none⟩),x] w (WrOk 131 (Psp.bw Psp.cI l) (Psp.okL Psp.okV l) 3078 S g out bad w):=by
 have he:l.length=n:=by exact hn
 have He:=tt he
 have Hn:=tt hn
 obtain⟨J,A,cp,rfl,ac,aa,y⟩:=hx.parts
 have P:=tt y
 have HW:=tt hW
 have Q:=tt (show Psp.bw Psp.cI l=Psp.aK n++l.flatMap Psp.cI by unfold Psp.bw;rw[he])
 have G:=tt (show Psp.okL Psp.okV l=(decide (n≤256)&&l.all Psp.okV) by unfold Psp.okL;rw[he])
 clear hW hn he hx J y
 go_enter Tryz.func67,Tryz.ntmps67
 go_wp2_with fail
 refine (gi n S g out bad _ HW.out (by omega)).mono ?_
 intro e w2 hc
 obtain⟨rfl,S2,o2,b2,h2⟩:=(WrS.start HW.out).step hc
 have h3:WrS 131 (Psp.aK n++(l.take 0).flatMap Psp.cI) (decide (n≤256)&&(l.take 0).all Psp.okV) (6+0 * 12) S g out bad w S2 o2 b2 w2:=h2.of (by simp) (by simp)
 have H3:=tt h3
 clear hc h2 h3
 go_wp2_with fail
 go_loopw [4] (fun i wr=>∃(k:Nat) (S':Nat→Prop) (out':List UInt8) (bad':Bool),i= .int .i64 (k:Int)∧k≤n∧WrS 131 (Psp.aK n++(l.take k).flatMap Psp.cI) (decide (n≤256)&&(l.take k).all Psp.okV) (6+k * 12) S g out bad w S' out' bad' wr∧(0 < k→n≤256)) (fun i _=>n - (intOf i).toNat)
 case atStart=>exact⟨0,S2,o2,b2,rfl,Nat.zero_le _,H3.out,fun h=>absurd h (by omega)⟩
 case round=>
  obtain⟨k,S',out',bad',rfl,hk,hI,C⟩:=hrel
  have hkb:k * 12≤256 * 12:=by
   rcases Nat.eq_zero_or_pos k with h|h
   ·exact Nat.mul_le_mul_right _ (by omega)
   ·exact Nat.mul_le_mul_right _ (by have:=C h;omega)
  obtain⟨A3,c3,_,_,q0,q1,_,_,_,_⟩:=hI.wr.cells
  clear q0
  by_cases hlt:k < n
  ·cases bad' with
   |true=>
    have a:=(hI.stop (e':=Psp.bw Psp.cI l) (ok':=Psp.okL Psp.okV l) (fun h=>by
     rw[G.out,tI] at h
     rw[tI]
     exact⟨h.1,List.all_eq_true.2 fun x hx=>List.all_eq_true.1 h.2 x (List.mem_of_mem_take hx)⟩)).done (m:=3078) (by omega)
    have v:=tt a
    clear a hI
    go_wp2_with fail
    go_end0
    exact v.out
   |false=>
    have p:n≤256:=by
     have h1:=hI.wrote.isbad
     by_cases h:n≤256
     ·exact h
     ·rw[tA h] at h1;simp at h1
    have q:(k+1) * 12≤256 * 12:=Nat.mul_le_mul_right _ (by omega)
    rw[Nat.succ_mul] at q
    obtain⟨b,o,K,E,D,c⟩:=P.out (by omega)
    subst K
    have B:k < l.length:=by have:=Hn.out;omega
    have d:k < l.length:=by have:=He.out;omega
    have r:=Psp.cG Psp.cI d
    have u:=Psp.cU Psp.okV d
    have Z:=hI.wrote.islen
    obtain⟨t,ht⟩:∃t,l[k]=t:=⟨_,rfl⟩
    have z:∀(W:World),Lies W b o (l.flatMap vt)→W.rangeAt b (o+k * 2) (vt t):=fun W hW=>by have:=bF (f:=vt) (k:=2) (fun _=>rfl) hW B;rwa [ht] at this
    rw[ht] at r u
    have F:=tt z
    have j:=tt c
    have R:=tt r
    have T:=tt u
    have H0:=tt hI
    clear c z r u hI B d ht C
    have y0:=F.out _ (H0.out.lies j.out D E) 0 _ rfl
    simp only[Nat.add_zero,iv] at y0
    go_wp2_with fail
    refine (ba t.n S' _ out' false _ H0.out.wr (by omega)).mono ?_
    intro e V hc
    obtain⟨rfl,O,I,M,h1⟩:=H0.out.step hc
    have Y:=h1.wrote.islen
    have H1:=tt h1
    clear hc h1 y0 q1
    have y1:=F.out _ (H1.out.lies j.out D E) 1 _ rfl
    simp only[iv] at y1
    go_wp2_with fail
    refine (ba t.s O _ I M _ H1.out.wr (by omega)).mono ?_
    intro e U hc
    obtain⟨rfl,N,H,L,h2⟩:=H1.out.step hc
    have X:=h2.wrote.islen
    have H2:=tt h2
    clear hc h2 y1
    have h9:=H2.out.of (show _=Psp.aK n++(l.take (k+1)).flatMap Psp.cI by rw[R.out];simp[Psp.cI]) (show _=(decide (n≤256)&&(l.take (k+1)).all Psp.okV) by rw[T.out];simp[Psp.okV,Bool.and_assoc])
    have H9:=tt h9
    clear h9
    go_wp2_with fail
    go_roundw
    case rel=>exact⟨k+1,N,H,L,by go_num,by omega,⟨H9.out.wrote.more (by rw[Nat.succ_mul];omega),H9.out.wr,H9.out.fp,H9.out.sub,H9.out.sup⟩,fun _=>p⟩
    case measure=>simp[intOf];omega
  ·obtain rfl:k=n:=by omega
   have hE:=He.out
   rw[List.take_of_length_le (by omega)] at hI
   have hd:=(hI.of Q.out.symm G.out.symm).done (m:=3078) (by omega)
   have Hd:=tt hd
   clear hd hI hE
   cases bad'
   all_goals
    go_wp2_with fail
    go_end0
    exact Hd.out
theorem na (l:List CertV) (n:Nat) (x:Value) (S:Nat→Prop) (g:Nat) (out:List UInt8) (bad:Bool) (w:World) (hW:Wr 131 w S g out bad) (hn:l.length=n)
 (hx:RdP w (fun b=>¬S b) 5 x n (l.flatMap cv)) (hc:∀y∈l,CertOk w (fun b=>¬S b) y) (hb:out.length+3153414≤1099511627776):
 Calls Tryz.prog 68 #[.pointer (some ⟨g,0,none⟩),x] w (WrOk 131 (Psp.bw Psp.cO (l.map (·.c))) (Psp.okL Psp.okC (l.map (·.c))) 3153414 S g out bad w):=by
 have he:(l.map (·.c)).length=n:=by rw[List.length_map];exact hn
 have He:=tt he
 have Hn:=tt hn
 obtain⟨R,A,cp,rfl,bs,bq,H⟩:=hx.parts
 have a0:=tt H
 have HW:=tt hW
 have a1:=tt (show Psp.bw Psp.cO (l.map (·.c))=Psp.aK n++(l.map (·.c)).flatMap Psp.cO by unfold Psp.bw;rw[he])
 have L:=tt (show Psp.okL Psp.okC (l.map (·.c))=(decide (n≤256)&&(l.map (·.c)).all Psp.okC) by unfold Psp.okL;rw[he])
 clear hW hn he hx R H
 go_enter Tryz.func68,Tryz.ntmps68
 go_wp2_with fail
 refine (gi n S g out bad _ HW.out (by omega)).mono ?_
 intro e w2 hc
 obtain⟨rfl,S2,o2,b2,h2⟩:=(WrS.start HW.out).step hc
 have h3:WrS 131 (Psp.aK n++((l.map (·.c)).take 0).flatMap Psp.cO) (decide (n≤256)&&((l.map (·.c)).take 0).all Psp.okC) (6+0 * 12318) S g out bad w S2 o2 b2 w2:=h2.of (by simp) (by simp)
 have H3:=tt h3
 clear hc h2 h3
 go_wp2_with fail
 go_loopw [4] (fun i wr=>∃(k:Nat) (S':Nat→Prop) (out':List UInt8) (bad':Bool),i= .int .i64 (k:Int)∧k≤n∧WrS 131 (Psp.aK n++((l.map (·.c)).take k).flatMap Psp.cO) (decide (n≤256)&&((l.map (·.c)).take k).all Psp.okC) (6+k * 12318) S g out bad w S' out' bad' wr∧(0 < k→n≤256)) (fun i _=>n - (intOf i).toNat)
 case atStart=>exact⟨0,S2,o2,b2,rfl,Nat.zero_le _,H3.out,fun h=>absurd h (by omega)⟩
 case round=>
  obtain⟨k,S',out',bad',rfl,hk,hI,J⟩:=hrel
  have hkb:k * 12318≤256 * 12318:=by
   rcases Nat.eq_zero_or_pos k with h|h
   ·exact Nat.mul_le_mul_right _ (by omega)
   ·exact Nat.mul_le_mul_right _ (by have:=J h;omega)
  obtain⟨A3,c3,_,_,q0,q1,_,_,_,_⟩:=hI.wr.cells
  clear q0
  by_cases hlt:k < n
  ·cases bad' with
   |true=>
    have d:=(hI.stop (e':=Psp.bw Psp.cO (l.map (·.c))) (ok':=Psp.okL Psp.okC (l.map (·.c))) (fun h=>by
     rw[L.out,tI] at h
     rw[tI]
     exact⟨h.1,List.all_eq_true.2 fun x hx=>List.all_eq_true.1 h.2 x (List.mem_of_mem_take hx)⟩)).done (m:=3153414) (by omega)
    have G:=tt d
    clear d hI
    go_wp2_with fail
    go_end0
    exact G.out
   |false=>
    have B:n≤256:=by
     have h1:=hI.wrote.isbad
     by_cases h:n≤256
     ·exact h
     ·rw[tA h] at h1;simp at h1
    have D:(k+1) * 12318≤256 * 12318:=Nat.mul_le_mul_right _ (by omega)
    rw[Nat.succ_mul] at D
    obtain⟨b,o,T,s,r,j⟩:=a0.out (by omega)
    subst T
    have C:k < l.length:=by have:=Hn.out;omega
    have p:k < (l.map (·.c)).length:=by have:=He.out;omega
    have E:=Psp.cG Psp.cO p
    have F:=Psp.cU Psp.okC p
    have bp:=hI.wrote.islen
    obtain⟨t,ht⟩:∃t,l[k]=t:=⟨_,rfl⟩
    have I:∀(W:World),Lies W b o (l.flatMap cv)→W.rangeAt b (o+k * 5) (cv t):=fun W hW=>by have:=bF (f:=cv) (k:=5) (fun _=>rfl) hW C;rwa [ht] at this
    rw[List.getElem_map,ht] at E F
    have z:=hc t (by rw[←ht];exact List.getElem_mem C)
    have K:=tt z
    obtain⟨_,A5,c5,e5,_,_,_⟩:=z.1.parts
    obtain⟨_,A6,c6,e6,_,_,_⟩:=z.2.parts
    have E5:=tt e5
    have E6:=tt e6
    clear z e5 e6
    have u:=tt I
    have a:=tt j
    have a2:=tt E
    have a3:=tt F
    have H0:=tt hI
    clear j I E F hI C p ht J
    have y0:=u.out _ (H0.out.lies a.out r s) 0 _ rfl
    simp only[Nat.add_zero,iv] at y0
    go_wp2_with fail
    refine (ba t.c.v S' _ out' false _ H0.out.wr (by omega)).mono ?_
    intro e a8 hc
    obtain⟨rfl,al,Q,Z,h1⟩:=H0.out.step hc
    have bm:=h1.wrote.islen
    have H1:=tt h1
    clear hc h1 y0 q1
    have y1:=u.out _ (H1.out.lies a.out r s) 1 _ rfl
    simp only[iv] at y1
    go_wp2_with fail
    refine (ba t.c.i al _ Q Z _ H1.out.wr (by omega)).mono ?_
    intro e a7 hc
    obtain⟨rfl,af,P,Y,h2⟩:=H1.out.step hc
    have bd:=h2.wrote.islen
    have H2:=tt h2
    clear hc h2 y1
    have y2:=u.out _ (H2.out.lies a.out r s) 2 _ rfl
    simp only[iv] at y2
    go_wp2_with fail
    refine (ba t.c.q af _ P Y _ H2.out.wr (by omega)).mono ?_
    intro e a6 hc
    obtain⟨rfl,ad,O,X,h3⟩:=H2.out.step hc
    have bc:=h3.wrote.islen
    have H3:=tt h3
    clear hc h3 y2
    have y3:=u.out _ (H3.out.lies a.out r s) 3 _ rfl
    go_wp2_with fail
    refine (ju t.c.b _ _ ad _ O X _ H3.out.wr rfl (H3.out.rd K.out.1) (by omega)).mono ?_
    intro e a5 hc
    obtain⟨rfl,ac,N,V,h4⟩:=H3.out.step hc
    have bb:=h4.wrote.islen
    have H4:=tt h4
    clear hc h4 y3
    have y4:=u.out _ (H4.out.lies a.out r s) 4 _ rfl
    go_wp2_with fail
    refine (gA t.c.o _ _ ac _ N V _ H4.out.wr rfl (H4.out.rd K.out.2) (by omega)).mono ?_
    intro e a4 hc
    obtain⟨rfl,aa,M,U,h5⟩:=H4.out.step hc
    have a9:=h5.wrote.islen
    have H5:=tt h5
    clear hc h5 y4
    have h9:=H5.out.of (show _=Psp.aK n++((l.map (·.c)).take (k+1)).flatMap Psp.cO by rw[a2.out];simp[Psp.cO]) (show _=(decide (n≤256)&&((l.map (·.c)).take (k+1)).all Psp.okC) by rw[a3.out];simp[Psp.okC,Bool.and_assoc])
    have H9:=tt h9
    clear h9
    go_wp2_with fail
    go_roundw
    case rel=>exact⟨k+1,aa,M,U,by go_num,by omega,⟨H9.out.wrote.more (by rw[Nat.succ_mul];omega),H9.out.wr,H9.out.fp,H9.out.sub,H9.out.sup⟩,fun _=>B⟩
    case measure=>simp[intOf];omega
  ·obtain rfl:k=n:=by omega
   have hE:=He.out
   rw[List.take_of_length_le (by omega)] at hI
   have hd:=(hI.of a1.out.symm L.out.symm).done (m:=3153414) (by omega)
   have Hd:=tt hd
   clear hd hI hE
   cases bad'
   all_goals
    go_wp2_with fail
    go_end0
    exact Hd.out
theorem iA (l:List Psp.Cert) (x:Value) (S:Nat→Prop) (g:Nat) (out:List UInt8) (bad:Bool) (w:World) (hW:Wr 131 w S g out bad) (hx:RdC w (fun b=>¬S b) x l) (hb:out.length+3153414≤1099511627776):
 Calls Tryz.prog 68 #[.pointer (some ⟨g,0,none⟩),x] w (WrOk 131 (Psp.bw Psp.cO l) (Psp.okL Psp.okC l) 3153414 S g out bad w):=by
 obtain⟨L,h0,h1,h2⟩:=hx
 rw[←h0]
 exact na L L.length x S g out bad w hW rfl h1 h2 hb
theorem mZ (l:List PartV) (n:Nat) (x:Value) (S:Nat→Prop) (g:Nat) (out:List UInt8) (bad:Bool) (w:World) (hW:Wr 131 w S g out bad) (hn:l.length=n)
 (hx:RdP w (fun b=>¬S b) 4 x n (l.flatMap pv)) (hc:∀y∈l,PartOk w (fun b=>¬S b) y) (hb:out.length+808065030≤1099511627776):
 Calls Tryz.prog 69 #[.pointer (some ⟨g,0,none⟩),x] w (WrOk 131 (Psp.bw Psp.cP (l.map (·.p))) (Psp.okL Psp.okP (l.map (·.p))) 808065030 S g out bad w):=by
 have he:(l.map (·.p)).length=n:=by rw[List.length_map];exact hn
 have He:=tt he
 have Hn:=tt hn
 obtain⟨R,A,cp,rfl,bd,bc,H⟩:=hx.parts
 have af:=tt H
 have HW:=tt hW
 have al:=tt (show Psp.bw Psp.cP (l.map (·.p))=Psp.aK n++(l.map (·.p)).flatMap Psp.cP by unfold Psp.bw;rw[he])
 have M:=tt (show Psp.okL Psp.okP (l.map (·.p))=(decide (n≤256)&&(l.map (·.p)).all Psp.okP) by unfold Psp.okL;rw[he])
 clear hW hn he hx R H
 go_enter Tryz.func69,Tryz.ntmps69
 go_wp2_with fail
 refine (gi n S g out bad _ HW.out (by omega)).mono ?_
 intro e w2 hc
 obtain⟨rfl,S2,o2,b2,h2⟩:=(WrS.start HW.out).step hc
 have h3:WrS 131 (Psp.aK n++((l.map (·.p)).take 0).flatMap Psp.cP) (decide (n≤256)&&((l.map (·.p)).take 0).all Psp.okP) (6+0 * 3156504) S g out bad w S2 o2 b2 w2:=h2.of (by simp) (by simp)
 have H3:=tt h3
 clear hc h2 h3
 go_wp2_with fail
 go_loopw [4] (fun i wr=>∃(k:Nat) (S':Nat→Prop) (out':List UInt8) (bad':Bool),i= .int .i64 (k:Int)∧k≤n∧WrS 131 (Psp.aK n++((l.map (·.p)).take k).flatMap Psp.cP) (decide (n≤256)&&((l.map (·.p)).take k).all Psp.okP) (6+k * 3156504) S g out bad w S' out' bad' wr∧(0 < k→n≤256)) (fun i _=>n - (intOf i).toNat)
 case atStart=>exact⟨0,S2,o2,b2,rfl,Nat.zero_le _,H3.out,fun h=>absurd h (by omega)⟩
 case round=>
  obtain⟨k,S',out',bad',rfl,hk,hI,J⟩:=hrel
  have hkb:k * 3156504≤256 * 3156504:=by
   rcases Nat.eq_zero_or_pos k with h|h
   ·exact Nat.mul_le_mul_right _ (by omega)
   ·exact Nat.mul_le_mul_right _ (by have:=J h;omega)
  obtain⟨A3,c3,_,_,q0,q1,_,_,_,_⟩:=hI.wr.cells
  clear q0
  by_cases hlt:k < n
  ·cases bad' with
   |true=>
    have d:=(hI.stop (e':=Psp.bw Psp.cP (l.map (·.p))) (ok':=Psp.okL Psp.okP (l.map (·.p))) (fun h=>by
     rw[M.out,tI] at h
     rw[tI]
     exact⟨h.1,List.all_eq_true.2 fun x hx=>List.all_eq_true.1 h.2 x (List.mem_of_mem_take hx)⟩)).done (m:=808065030) (by omega)
    have G:=tt d
    clear d hI
    go_wp2_with fail
    go_end0
    exact G.out
   |false=>
    have B:n≤256:=by
     have h1:=hI.wrote.isbad
     by_cases h:n≤256
     ·exact h
     ·rw[tA h] at h1;simp at h1
    have D:(k+1) * 3156504≤256 * 3156504:=Nat.mul_le_mul_right _ (by omega)
    rw[Nat.succ_mul] at D
    obtain⟨b,o,T,v,u,j⟩:=af.out (by omega)
    subst T
    have C:k < l.length:=by have:=Hn.out;omega
    have q:k < (l.map (·.p)).length:=by have:=He.out;omega
    have E:=Psp.cG Psp.cP q
    have F:=Psp.cU Psp.okP q
    have bb:=hI.wrote.islen
    obtain⟨t,ht⟩:∃t,l[k]=t:=⟨_,rfl⟩
    have I:∀(W:World),Lies W b o (l.flatMap pv)→W.rangeAt b (o+k * 4) (pv t):=fun W hW=>by have:=bF (f:=pv) (k:=4) (fun _=>rfl) hW C;rwa [ht] at this
    rw[List.getElem_map,ht] at E F
    have r:=hc t (by rw[←ht];exact List.getElem_mem C)
    have L:=tt r
    obtain⟨_,A5,c5,e5,_,_,_⟩:=r.1.parts
    obtain⟨L0,_,K,_⟩:=r.2
    obtain⟨_,A6,c6,e6,_,_,_⟩:=K.parts
    have E5:=tt e5
    have E6:=tt e6
    clear r e5 e6 K
    have z:=tt I
    have a:=tt j
    have a0:=tt E
    have a1:=tt F
    have H0:=tt hI
    clear j I E F hI C q ht J
    have y0:=z.out _ (H0.out.lies a.out u v) 0 _ rfl
    simp only[Nat.add_zero,iv] at y0
    go_wp2_with fail
    refine (ba t.p.f S' _ out' false _ H0.out.wr (by omega)).mono ?_
    intro e a5 hc
    obtain⟨rfl,ad,Q,Y,h1⟩:=H0.out.step hc
    have a9:=h1.wrote.islen
    have H1:=tt h1
    clear hc h1 y0 q1
    have y1:=z.out _ (H1.out.lies a.out u v) 1 _ rfl
    go_wp2_with fail
    refine (gA t.p.o _ _ ad _ Q Y _ H1.out.wr rfl (H1.out.rd L.out.1) (by omega)).mono ?_
    intro e a4 hc
    obtain⟨rfl,ac,P,X,h2⟩:=H1.out.step hc
    have a8:=h2.wrote.islen
    have H2:=tt h2
    clear hc h2 y1
    have y2:=z.out _ (H2.out.lies a.out u v) 2 _ rfl
    go_wp2_with fail
    refine (iA t.p.c _ ac _ P X _ H2.out.wr (H2.out.rdC L.out.2) (by omega)).mono ?_
    intro e a3 hc
    obtain⟨rfl,aa,O,V,h3⟩:=H2.out.step hc
    have a7:=h3.wrote.islen
    have H3:=tt h3
    clear hc h3 y2
    have y3:=z.out _ (H3.out.lies a.out u v) 3 _ rfl
    simp only[iv] at y3
    go_wp2_with fail
    refine (ba t.p.s aa _ O V _ H3.out.wr (by omega)).mono ?_
    intro e a2 hc
    obtain⟨rfl,Z,N,U,h4⟩:=H3.out.step hc
    have a6:=h4.wrote.islen
    have H4:=tt h4
    clear hc h4 y3
    have h9:=H4.out.of (show _=Psp.aK n++((l.map (·.p)).take (k+1)).flatMap Psp.cP by rw[a0.out];simp[Psp.cP]) (show _=(decide (n≤256)&&((l.map (·.p)).take (k+1)).all Psp.okP) by rw[a1.out];simp[Psp.okP,Bool.and_assoc])
    have H9:=tt h9
    clear h9
    go_wp2_with fail
    go_roundw
    case rel=>exact⟨k+1,Z,N,U,by go_num,by omega,⟨H9.out.wrote.more (by rw[Nat.succ_mul];omega),H9.out.wr,H9.out.fp,H9.out.sub,H9.out.sup⟩,fun _=>B⟩
    case measure=>simp[intOf];omega
  ·obtain rfl:k=n:=by omega
   have hE:=He.out
   rw[List.take_of_length_le (by omega)] at hI
   have hd:=(hI.of al.out.symm M.out.symm).done (m:=808065030) (by omega)
   have Hd:=tt hd
   clear hd hI hE
   cases bad'
   all_goals
    go_wp2_with fail
    go_end0
    exact Hd.out
theorem iP (S:Nat→Prop) (g:Nat) (out:List UInt8) (w:World) (hW:Wr 131 w S g out true):
 Calls Tryz.prog 70 #[.pointer (some ⟨g,0,none⟩)] w fun e w'=>e= .returned (.tuple #[.slice none 0 0,.bool false])∧w=w':=by
 obtain⟨A,c,d,b,k0,k1,z0,z1,a,hS⟩:=hW.cells
 clear hW a hS
 go_enter Tryz.func70,Tryz.ntmps70
 go_wp2_with fail
 go_ret2
 exact⟨rfl,rfl⟩
theorem gU (S:Nat→Prop) (g:Nat) (out:List UInt8) (w:World) (hW:Wr 131 w S g out false):
 Calls Tryz.prog 70 #[.pointer (some ⟨g,0,none⟩)] w fun e w'=>(∃v,e= .returned (.tuple #[v,.bool true])∧w.ownsRow 0 5 1 v out.length (out.map bv)∧∀k,v.ownBlock=some k→S k)∧w=w':=by
 obtain⟨A,c,f,d,k0,k1,z0,z1,a,hS⟩:=hW.cells
 have b:=tt a
 have HS:=tt hS
 clear hW a hS
 go_enter Tryz.func70,Tryz.ntmps70
 go_wp2_with fail
 go_ret2
 exact⟨⟨_,rfl,b.out,fun k hk=>(HS.out k hk).1⟩,rfl⟩
theorem rR (c t k y v s:Int) (w:World):
 Calls Tryz.prog 102 #[.agg #[.int .i64 c,.int .i64 t,.int .i64 k,.int .i64 y,.int .i64 v,.int .i64 s]] w (Bytes (Psp.bR ⟨c,t,k,y,v,s⟩) (Psp.okR ⟨c,t,k,y,v,s⟩) w):=by
 have e:Wr 131 ((w.alloc (.cells #[.int .i64 c,.int .i64 t,.int .i64 k,.int .i64 y,.int .i64 v,.int .i64 s] 42)).alloc (.cells #[.slice none 0 0,.bool false] 131)) (fun k=>k=w.heap.size+1) (w.heap.size+1) [] false:=Wr.new (w.alloc (.cells #[.int .i64 c,.int .i64 t,.int .i64 k,.int .i64 y,.int .i64 v,.int .i64 s] 42)) _ _ (by simp)
 have g:=tt e
 have l:Below w.heap.size w ((w.alloc (.cells #[.int .i64 c,.int .i64 t,.int .i64 k,.int .i64 y,.int .i64 v,.int .i64 s] 42)).alloc (.cells #[.slice none 0 0,.bool false] 131)):=((ae w _).trans ((ae _ _).mono (by simp)))
 have j:=tt l
 clear e l
 go_enter Tryz.func102,Tryz.ntmps102
 go_wp2_with fail
 refine (lY c t k y v s _ _ [] false _ g.out (by simp)).mono ?_
 intro en w2 hc
 obtain⟨rfl,S2,o2,b2,h2⟩:=(WrS.start g.out).step hc
 have h3:=h2.of (List.nil_append _) (Bool.true_and _)
 have f:Below w.heap.size w w2:=j.out.trans (h3.fp.to_below (B:=w.heap.size) j.out.size (fun k _ hk=>by rw[hk];omega))
 have d:∀k,S2 k→w.heap.size≤k:=fun k hk=>by
  rcases h3.sub k hk with h|h
  ·rw[h];omega
  ·have:=j.out.size;omega
 have i:=tt f
 have m:=tt d
 have H3:=tt h3
 clear h2 h3 hc f d
 cases hk:(Psp.okR ⟨c,t,k,y,v,s⟩) with
 |true=>
  have hb:b2=false:=by rw[H3.out.wrote.isbad,hk];rfl
  subst hb
  have Hk:=tt hk
  clear hk
  go_wp2_with fail
  refine (gU S2 _ o2 _ H3.out.wr).mono ?_
  rintro en w3 ⟨⟨v,rfl,a,hS⟩,rfl⟩
  have ho:=H3.out.wrote.isout rfl
  rw[List.nil_append] at ho
  rw[ho] at a
  have n:=tt (eh a fun b hb=>m.out b (hS b hb))
  clear a hS ho
  go_wp2_with fail
  go_ret2
  exact⟨v,bf v Hk.out,by simpa [Hk.out] using n.out,i.out⟩
 |false=>
  have hb:b2=true:=by rw[H3.out.wrote.isbad,hk];rfl
  subst hb
  have Hk:=tt hk
  clear hk
  go_wp2_with fail
  refine (iP S2 _ o2 _ H3.out.wr).mono ?_
  rintro en w3 ⟨rfl,rfl⟩
  go_wp2_with fail
  go_ret2
  exact⟨.slice none 0 0,bf _ Hk.out,by simpa [Hk.out] using World.ownsRow_nil _ _ _ _,i.out⟩
theorem jK {α:Type} [DecidableEq α] {l r:List α} {k:Nat} {d:α} (hl:k < l.length) (hr:k < r.length) (h:l.take k=r.take k) (e:l.getD k d=r.getD k d):l.take (k+1)=r.take (k+1):=by
 rw[List.take_succ_eq_append_getElem hl,List.take_succ_eq_append_getElem hr,h]
 congr 2
 simpa [List.getD_eq_getElem?_getD,tK hl,tK hr] using e
theorem lf (x y:Value) (n m:Nat) (l r:List UInt8) (w:World) (hx:Rd w w.heap.size 1 x n (l.map bv)) (hy:Rd w w.heap.size 1 y m (r.map bv)):
 Calls Tryz.prog 45 #[x,y] w fun e w'=>e= .returned (.bool (decide (l=r)))∧∃k,w'=w.drewN k:=by
 obtain⟨g,A,c,rfl,hx1,hx2,b⟩:=hx
 obtain⟨f,B,d,rfl,s,o,a⟩:=hy
 have hl:l.length=n:=by simpa using g
 have hr:r.length=m:=by simpa using f
 unfold maxLen at hx2 o
 by_cases p:n=m
 ·subst p
  clear g f
  have Hl:=tt hl
  have Hr:=tt hr
  clear hl hr
  go_enter Tryz.func45,Tryz.ntmps45
  go_wp2
  go_loopw [5] (fun i wr=>∃k:Nat,i= .int .i64 (k:Int)∧k≤n∧Hid (l.take k=r.take k)∧∃q,wr=w.drewN q) (fun i _=>n - (intOf i).toNat)
  case atStart=>exact⟨0,rfl,Nat.zero_le _,tt (by simp),0,rfl⟩
  case round=>
   obtain⟨k,rfl,hk,j,q,rfl⟩:=hrel
   by_cases hlt:k < n
   ·obtain⟨b1,o1,rfl,hb1,h1⟩:=b (by omega)
    obtain⟨b2,o2,rfl,hb2,h2⟩:=a (by omega)
    clear b a
    have c1:w.cell? ⟨b1,o1+k,none⟩=some (bv (l.getD k 0)):=by
     have h3:k < l.length:=by have:=Hl.out;omega
     rw[h1.at_ (by simp;omega)];simp[List.getD_eq_getElem?_getD,tK h3]
    have c2:w.cell? ⟨b2,o2+k,none⟩=some (bv (r.getD k 0)):=by
     have h3:k < r.length:=by have:=Hr.out;omega
     rw[h2.at_ (by simp;omega)];simp[List.getD_eq_getElem?_getD,tK h3]
    obtain⟨x1,hc⟩:∃x,l.getD k 0=x:=⟨_,rfl⟩
    obtain⟨x2,hd⟩:∃x,r.getD k 0=x:=⟨_,rfl⟩
    rw[hc] at c1
    rw[hd] at c2
    unfold bv at c1 c2
    have Hc:=tt hc
    have Hd:=tt hd
    clear hc hd h1 h2
    by_cases he:x1=x2
    ·have hb:((x1.toNat:Int) != (x2.toNat:Int))=false:=by simp[he]
     have He:=tt he
     clear he
     go_wp2
     go_quiet (fail)
     go_wp2
     go_roundw
     case rel=>exact⟨k+1,by go_num,by omega,tt (jK (by rw[Hl.out];omega) (by rw[Hr.out];omega) j.out (by rw[Hc.out,Hd.out,He.out])),_,rfl⟩
     case measure=>simp[intOf];omega
    ·have hb:((x1.toNat:Int) != (x2.toNat:Int))=true:=by simp;exact fun h=>he (UInt8.toNat_inj.1 (by omega))
     have He:=tt he
     clear he
     go_wp2
     go_quiet (fail)
     go_wp2
     go_ret
     exact⟨eg (tA (fun h=>He.out (by rw[←Hc.out,←Hd.out,h]))).symm,_,World.drewN_drewN _ _ _⟩
   ·clear b a
    go_wp2
    go_ret
    refine⟨eg (decide_eq_true ?_).symm,_,rfl⟩
    have h1:=j.out
    rwa [List.take_of_length_le (by rw[Hl.out];omega),List.take_of_length_le (by rw[Hr.out];omega)] at h1
 ·have t:((n:Int) != (m:Int))=true:=by simp;omega
  have hf:=tt (show decide (l=r)=false from tA (fun h=>by subst h;omega))
  clear g f hl hr b a
  go_enter Tryz.func45,Tryz.ntmps45
  go_wp2
  go_ret
  exact⟨eg hf.out.symm,0,rfl⟩
theorem iq (x y:Value) (n m:Nat) (l r:List UInt8) (w:World) (hx:Rd w w.heap.size 1 x n (l.map bv)) (hy:Rd w w.heap.size 1 y m (r.map bv)) (h:l=r):
 Calls Tryz.prog 45 #[x,y] w fun e w'=>e= .returned (.bool true)∧Below w.heap.size w w':=
 (lf x y n m l r w hx hy).mono fun e w' ⟨he,k,hk⟩=>by
   rw[tB h] at he
   exact⟨he,by rw[hk];exact ak (Below.refl _ _) _⟩
theorem qU:Elem Tryz.prog 49 5 1 1:=⟨Tryz.underlying49,by kernel_rfl,by decide⟩
theorem fV (x:Value) (n:Nat) (xs:List Value) (w:World) (hx:Rd w w.heap.size 1 x n xs) (h1:∀u∈xs,u.oneCell'=true) (hn:n * 1≤140737488355328):
 Calls Tryz.prog 49 #[x] w fun e w'=>∃v,e= .returned v∧w'.ownsRow w.heap.size 5 1 v n xs∧Below w.heap.size w w':=by
 have hb:=hx.bd
 go_enter Tryz.func49,Tryz.ntmps49
 go_wp2_with (at_builtin;refine bk qU rfl _ _ rfl w.heap.size _ 0 [] rfl (World.ownsRow_nil _ _ _ _) _ _ _ _ rfl hx h1 (by unfold maxLen;omega) (by omega) (tJ _) ?_;intro v' w' b a _)
 go_ret
 refine⟨_,rfl,by simpa using b,(Below.refl _ _).grown a (tJ _) (fun k hk=>by simp[Act.eval,Value.ownBlock] at hk)⟩
theorem pW {α:Type} {l r:List α} {k:Nat} (hl:k < l.length) (hr:k < r.length) (h:l.take k=r.take k) (e:l[k]=r[k]):l.take (k+1)=r.take (k+1):=by
 rw[List.take_succ_eq_append_getElem hl,List.take_succ_eq_append_getElem hr,h,e]
theorem og (x y:Value) (n m:Nat) (l r:List Psp.Req) (w:World) (P Q:Nat→Prop) (hx:RdP w P 6 x n (l.flatMap rq)) (hy:RdP w Q 6 y m (r.flatMap rq)) (hn:l.length=n) (hm:r.length=m):
 Calls Tryz.prog 51 #[x,y] w fun e w'=>e= .returned (.bool (decide (l=r)))∧∃k,w'=w.drewN k:=by
 obtain⟨z,A,c,rfl,hx1,hx2,j⟩:=hx.parts
 obtain⟨v,A2,d,rfl,N,M,g⟩:=hy.parts
 have I:=tt j
 have H:=tt g
 have Hn:=tt hn
 have Hm:=tt hm
 by_cases E:n=m
 ·subst E
  clear z v j g hn hm hx hy
  go_enter Tryz.func51,Tryz.ntmps51
  go_wp2_with fail
  go_loopw [5] (fun i wr=>∃k:Nat,i= .int .i64 (k:Int)∧k≤n∧Hid (l.take k=r.take k)∧∃q,wr=w.drewN q) (fun i _=>n - (intOf i).toNat)
  case atStart=>exact⟨0,rfl,Nat.zero_le _,tt (by simp),0,rfl⟩
  case round=>
   obtain⟨k,rfl,hk,B,q,rfl⟩:=hrel
   by_cases hlt:k < n
   ·obtain⟨b1,o1,G,R,hb1,h1⟩:=I.out (by omega)
    obtain⟨b2,o2,F,O,hb2,h2⟩:=H.out (by omega)
    subst G F
    have u:k < l.length:=by have:=Hn.out;omega
    have s:k < r.length:=by have:=Hm.out;omega
    have r1:=bF (f:=rq) (k:=6) (fun _=>rfl) h1 u
    have r2:=bF (f:=rq) (k:=6) (fun _=>rfl) h2 s
    have p:=fun e=>pW u s B.out e
    obtain⟨t1,ht1⟩:∃r,l[k]=r:=⟨_,rfl⟩
    obtain⟨t2,ht2⟩:∃t,r[k]=t:=⟨_,rfl⟩
    have b:t1≠t2→l≠r:=fun b e=>by subst e;exact b (ht1.symm.trans ht2)
    rw[ht1] at r1
    rw[ht2] at r2
    rw[ht1,ht2] at p
    have D:Hid (∀w':World,(∃n,w'=(w.drewN q).drewN n)→w'.rangeAt b1 (o1+k * 6) (rq t1)):=tt (by rintro w' ⟨n,rfl⟩;exact r1)
    have C:Hid (∀w':World,(∃n,w'=(w.drewN q).drewN n)→w'.rangeAt b2 (o2+k * 6) (rq t2)):=tt (by rintro w' ⟨n,rfl⟩;exact r2)
    have J:=tt p
    have L:=tt b
    clear r1 r2 ht1 ht2 h1 h2 u s p b
    by_cases he:t1=t2
    ·have He:=tt he
     clear he
     go_wp2_with fail
     refine wp_region_quiet_lit (by kernel_rfl) (by kernel_rfl) ?_
     repeat (first|(refine aj rfl 42 (.tmp 19) rfl b1 (o1+k * 6) rfl (rq t1) _ D.out Tryz.underlying42 rfl dz ?_;intro K hK;go_simp;refine hK _ ?_;clear hK K)|(refine aj rfl 42 (.tmp 23) rfl b2 (o2+k * 6) rfl (rq t2) _ C.out Tryz.underlying42 rfl dz ?_;intro K hK;go_simp;refine hK _ ?_;clear hK K)|(refine bt rfl (.bool false) (fun w hC=>(gk (.tmp 20) (.tmp 24) _ rfl t1 t2 rfl rfl).trans (by simp[He.out])) ?_;intro K hK;go_simp;refine hK _ ?_;clear hK K)|go_big_quiet_step (fail))
     refine wpQuiet_nil ?_
     intro _ o
     obtain⟨nq,a⟩:=o
     subst a
     go_wp2_with fail
     go_roundw
     case rel=>exact⟨k+1,by go_num,by omega,tt (J.out He.out),_,rfl⟩
     case measure=>simp[intOf];omega
    ·have He:=tt he
     clear he
     go_wp2_with fail
     refine wp_region_quiet_lit (by kernel_rfl) (by kernel_rfl) ?_
     repeat (first|(refine aj rfl 42 (.tmp 19) rfl b1 (o1+k * 6) rfl (rq t1) _ D.out Tryz.underlying42 rfl dz ?_;intro K hK;go_simp;refine hK _ ?_;clear hK K)|(refine aj rfl 42 (.tmp 23) rfl b2 (o2+k * 6) rfl (rq t2) _ C.out Tryz.underlying42 rfl dz ?_;intro K hK;go_simp;refine hK _ ?_;clear hK K)|(refine bt rfl (.bool true) (fun w hC=>(gk (.tmp 20) (.tmp 24) _ rfl t1 t2 rfl rfl).trans (by simp[He.out])) ?_;intro K hK;go_simp;refine hK _ ?_;clear hK K)|go_big_quiet_step (fail))
     refine wpQuiet_nil ?_
     intro _ o
     obtain⟨nq,a⟩:=o
     subst a
     go_wp2_with fail
     go_ret
     exact⟨eg (tA (L.out He.out)).symm,_,World.drewN_drewN _ _ _⟩
   ·go_wp2_with fail
    go_ret
    refine⟨eg (decide_eq_true ?_).symm,_,rfl⟩
    have h1:=B.out
    rwa [List.take_of_length_le (by rw[Hn.out];omega),List.take_of_length_le (by rw[Hm.out];omega)] at h1
 ·have b:((n:Int) != (m:Int))=true:=by simp;omega
  have hf:=tt (show decide (l=r)=false from tA (fun h=>by subst h;omega))
  clear z v j g hn hm hx hy
  go_enter Tryz.func51,Tryz.ntmps51
  go_wp2_with fail
  go_ret
  exact⟨eg hf.out.symm,0,rfl⟩
theorem Keeps.on {w w':World} (hb:Below w.heap.size w w'):Keeps (fun b=>b < w.heap.size) (fun b=>b < w'.heap.size) w w':=⟨hb.size,fun b h _=>⟨hb.block b h,Nat.lt_of_lt_of_le h hb.size⟩⟩
theorem Below.then {B:Nat} {w w' w'':World} (h:Below B w w') (g:Below w'.heap.size w' w'') (hB:B≤w'.heap.size):Below B w w'':=h.trans (g.mono hB)
end Go.Proofs.YtipmjleohadoeaaGreat
end
end
section
section
namespace Go.Proofs.YtipmjleohadoeaaGreat
open Go.RowKit Go.ChangeShapes Go.WideShapes
theorem dA {H:Type} {enc:TypeId×Value→H} {w:World} {fuel:Nat} {c:Value} {x:DataW H×List MemPlace} (h:DataW.trod enc Tryz.prog w 0 (fun _=>true) true fuel 3 [c]=some x):∃n,c=iv n∧aE n:=by
 obtain⟨m,e,_,hw⟩:=DataW.trod_int Tryz.underlying3 h
 injection e with e _
 exact⟨m,e,lE hw⟩
theorem cS {α:Type} {l:List α} {n:Nat} (h:l.length=n) {j:Nat} (hj:j < n):∃y,l[j]? =some y:=⟨l[j]'(by omega),tK (by omega)⟩
theorem oR {H:Type} {enc:TypeId×Value→H} {w:World} {fuel:Nat} {cs:List Value} {x:DataW H×List MemPlace} (h:DataW.trod enc Tryz.prog w 0 (fun _=>true) true fuel 40 cs=some x):
 ∃k y v,cs=[iv k,iv y,iv v]∧aE k∧aE y∧aE v:=by
 obtain⟨xs,n,_,_,hl,hlen,hf⟩:=DataW.trod_struct Tryz.underlying40 h
 have hc:Tryz.prog.cellsOf 40=3:=by kernel_rfl
 have h1:Tryz.prog.cellsOf 3=1:=by kernel_rfl
 rw[hc] at hl
 match cs,hl with
 | [c0,c1,c2],_=>
   obtain⟨y0,e0⟩:=cS hlen (j:=0) (by simp)
   obtain⟨y1,e1⟩:=cS hlen (j:=1) (by simp)
   obtain⟨y2,e2⟩:=cS hlen (j:=2) (by simp)
   have g0:=hf 0 _ rfl
   have g1:=hf 1 _ rfl
   have g2:=hf 2 _ rfl
   rw[e0] at g0
   rw[e1] at g1
   rw[e2] at g2
   simp[h1] at g0 g1 g2
   obtain⟨a,rfl,wa⟩:=dA g0
   obtain⟨b,rfl,wb⟩:=dA g1
   obtain⟨c,rfl,wc⟩:=dA g2
   exact⟨a,b,c,rfl,wa,wb,wc⟩
open Go.RowKit Go.ChangeShapes Go.WideShapes
structure OpensAt (P:Program) (t:TypeId) (k:Nat) {α:Type} (f:α→List Value) (wf:α→Prop) (w:World):Prop where
 cells:P.cellsOf t=k
 len:∀a,(f a).length=k
 pos:0 < k
 get:∀{H:Type} (enc:TypeId×Value→H) (fuel:Nat) (cs:List Value) (x:DataW H×List MemPlace),DataW.trod enc P w 0 (fun _=>true) true fuel t cs=some x→∃a,cs=f a∧wf a
theorem Opens.toAt {P:Program} {t:TypeId} {k:Nat} {α:Type} {f:α→List Value} {wf:α→Prop} (E:Opens P t k f wf) (w:World):OpensAt P t k f wf w:=⟨E.cells,E.len,E.pos,fun enc fuel cs x h=>E.get enc w fuel cs x h⟩
theorem iD {P:Program} {t e:TypeId} {k:Nat} {α:Type} {f:α→List Value} {wf:α→Prop} {w:World} (ht:P.underlying t=some (.slice e)) (E:OpensAt P e k f wf w)
 {H:Type} {enc:TypeId×Value→H} {fuel:Nat} {cs0:List Value} {x0:DataW H×List MemPlace} (hf:DataW.trod enc P w 0 (fun _=>true) true fuel t cs0=some x0):
 ∃(v:Value) (l:List α),cs0=[v]∧(∃a n c,v= .slice a n c)∧Rd w w.heap.size k v l.length (l.flatMap f)∧∀a∈l,wf a:=by
 rcases DataW.trod_slice ht hf with⟨q,_⟩|⟨a,len,cap,d,rest,n,_,q,_,_,hl,hm,hlen,B,_,_⟩
 ·subst q
  exact⟨_,[],rfl,⟨_,_,_,rfl⟩,Rd.none_,fun a h=>by simp at h⟩
 ·subst q
  obtain⟨len0,rfl⟩:∃n,n=len:=⟨_,rfl⟩
  obtain⟨cap0,rfl⟩:∃n,n=cap:=⟨_,rfl⟩
  have each:∀i,i < len0→∃b:α,wf b∧∀r,r < k→w.cell? ((a.add (i * k)).add r)=(f b)[r]?:=by
   intro i hi
   have h1:=B i hi
   rw[E.cells] at h1
   have h2:d[i]? =some d[i]:=tK (by omega)
   rw[h2] at h1
   cases hc:w.cells? 0 (a.add (i * k)) k with
   |none=>rw[hc] at h1;simp at h1
   |some cs=>
    rw[hc] at h1
    obtain⟨b,hb,y⟩:=E.get enc n cs _ (by simpa using h1)
    subst hb
    exact⟨b,y,(iT hc).2⟩
  obtain⟨l,z,hp⟩:=fh (fun i b=>wf b∧∀r,r < k→w.cell? ((a.add (i * k)).add r)=(f b)[r]?) len0 each
  subst z
  refine⟨_,l,rfl,⟨_,_,_,rfl⟩,⟨iK E.len l,some a,cap0,rfl,hl,hm,fun x=>?_⟩,fun b hb=>?_⟩
  ·have hk:=E.pos
   obtain⟨b0,hb0⟩:∃b,l[0]? =some b:=⟨l[0],tK x⟩
   have g:=(hp 0 b0 hb0).2 0 hk
   have p:∀i r,(a.add (i * k)).add r=a.add (i * k+r):=by
    intro i r
    unfold Addr.add
    by_cases h1:i * k=0 <;> by_cases h2:r=0 <;> simp[h1,h2,Nat.add_assoc]
   have A:0 < (f b0).length:=by rw[E.len];exact hk
   have h3:(f b0)[0]? =some (f b0)[0]:=tK A
   have hs:a.spot=none:=by
    rw[h3,Nat.zero_mul] at g
    have h4:=World.cell?_spot g
    simpa [Addr.add] using h4
   obtain⟨b,o,s⟩:=a
   subst hs
   have m:∀j,(⟨b,o,none⟩:Addr).add j=⟨b,o+j,none⟩:=by
    intro j
    unfold Addr.add
    split
    ·rename_i h;subst h;rfl
    ·rfl
   refine⟨b,o,rfl,?_,?_⟩
   ·rw[h3] at g
    have:=World.block_lt_of_cell? w _ g
    rw[p,m] at this
    exact this
   ·intro j u hu
    have hj:j=j / k * k+j % k:=by rw[Nat.mul_comm];exact (Nat.div_add_mod j k).symm
    have hr:j % k < k:=Nat.mod_lt _ hk
    rw[hj,cD E.len l _ _ hr] at hu
    cases hb:l[j / k]? with
    |none=>rw[hb] at hu;simp at hu
    |some b1=>
     rw[hb] at hu
     have h5:=(hp _ b1 hb).2 _ hr
     rw[p,m,←hj] at h5
     rw[h5]
     simpa using hu
  ·obtain⟨i,hi,he⟩:=List.getElem_of_mem hb
   exact (hp i b (by rw[tK hi,he])).1
theorem ly {P:Program} {t e:TypeId} {k:Nat} {α:Type} {f:α→List Value} {wf:α→Prop} {w:World} (ht:P.underlying t=some (.slice e)) (E:OpensAt P e k f wf w)
 {H:Type} {enc:TypeId×Value→H} {v:Value} {d:DataW H} {ps:List MemPlace} (h:DataW.Trod enc P w 0 (fun _=>true) true t v d ps) (hv:∃a len cap,v= .slice a len cap):
 ∃l:List α,Rd w w.heap.size k v l.length (l.flatMap f)∧∀a∈l,wf a:=by
 obtain⟨a0,len0,cap0,rfl⟩:=hv
 obtain⟨fuel,hf⟩:=h
 obtain⟨v,l,h1,_,h2,h3⟩:=iD ht E hf
 simp[Value.cells] at h1
 subst h1
 exact⟨l,h2,h3⟩
def ea (v:Psp.Vote):Prop:=aE v.n∧aE v.s
def ig (c:Psp.Cert):Prop:=aE c.v∧aE c.i∧aE c.q∧(∀r∈c.b,nQ r)∧∀v∈c.o,ea v
def jH (p:Psp.Part):Prop:=aE p.f∧(∀v∈p.o,ea v)∧(∀c∈p.c,ig c)∧aE p.s
end Go.Proofs.YtipmjleohadoeaaGreat
end
section
namespace Psp
def nxt {α:Type} (d:Dec α) (b:List UInt8) (o:Option Int):Option Int:=(o.bind (d b)).map (·.2)
def Is {α:Type} (d:Dec α) (b:List UInt8) (o:Option Int) (x:α):Prop:=∀p,o.bind (d b)=some p→x=p.1
theorem bV {α:Type} {d:Dec α} {b:List UInt8} {a:Int} (h:d b a=none):nxt d b (some a)=none:=by simp[nxt,h]
theorem dd {α:Type} {d:Dec α} {b:List UInt8} {a a':Int} {x:α} (h:d b a=some (x,a')):nxt d b (some a)=some a':=by simp[nxt,h]
theorem fA {α:Type} (d:Dec α) (b:List UInt8) (x:α):Is d b none x:=fun p h=>by cases h
theorem de {α:Type} {d:Dec α} {b:List UInt8} {a:Int} (h:d b a=none) (x:α):Is d b (some a) x:=fun p hp=>by simp[h] at hp
theorem gE {α:Type} {d:Dec α} {b:List UInt8} {a a':Int} {x:α} (h:d b a=some (x,a')):Is d b (some a) x:=fun p hp=>by
 simp[h] at hp;rw[←hp]
end Psp
namespace Go.Proofs.YtipmjleohadoeaaGreat
open Go.RowKit
structure Rs (T:TypeId) (w:World) (g:Nat) (x:Value) (o:Option Int):Prop where
 ex:∃a bad,w.heap[g]? =some (.cells #[x,.int .i64 a,.bool bad] T (0,0))∧aE a∧(∀c,o=some c→a=c∧bad=false)∧(o=none→bad=true)
section
variable {T:TypeId} {w w':World} {g:Nat} {x:Value} {o:Option Int} {S:Nat→Prop}
theorem Rs.lt (h:Rs T w g x o):g < w.heap.size:=by
 obtain⟨a,bad,h1,_⟩:=h.ex
 exact (tz h1).1
theorem Rs.keep (h:Rs T w g x o) (hk:w'.heap[g]? =w.heap[g]?):Rs T w' g x o:=by
 obtain⟨a,bad,h1,h2⟩:=h.ex
 exact⟨a,bad,hk.trans h1,h2⟩
theorem Rs.below (h:Rs T w g x o) (hb:Below w.heap.size w w'):Rs T w' g x o:=h.keep (hb.block g h.lt)
theorem Rs.fp (h:Rs T w g x o) (hf:Fp S w w') (hS:¬S g):Rs T w' g x o:=h.keep (hf.block g h.lt hS)
theorem Rs.cells (h:Rs T w g x o):∃a bad,w.cell? ⟨g,0,none⟩=some x∧w.cell? ⟨g,1,none⟩=some (.int .i64 a)∧w.cell? ⟨g,2,none⟩=some (.bool bad)∧w.frozen? ⟨g,1,none⟩=false∧w.frozen? ⟨g,2,none⟩=false∧
 aE a∧(∀c,o=some c→a=c∧bad=false)∧(o=none→bad=true):=by
 obtain⟨a,bad,h1,h2,h3,h4⟩:=h.ex
 refine⟨a,bad,?_,?_,?_,frozen_of_row w g 1 _ _ h1,frozen_of_row w g 2 _ _ h1,h2,h3,h4⟩
 ·rw[cell_of_row w g 0 _ _ _ h1];rfl
 ·rw[cell_of_row w g 1 _ _ _ h1];rfl
 ·rw[cell_of_row w g 2 _ _ _ h1];rfl
theorem Rs.fail (h:Rs T w g x o):Rs T (w.setCell ⟨g,2,none⟩ (.bool true)) g x none∧Fp (fun k=>k=g) w (w.setCell ⟨g,2,none⟩ (.bool true)):=by
 obtain⟨a,bad,h1,h2,h3,h4⟩:=h.ex
 refine⟨⟨a,true,?_,h2,(fun c hc=>by cases hc),fun _=>rfl⟩,(Fp.refl (fun k=>k=g) w).setCell (p:=⟨g,2,none⟩) (Or.inl rfl) _⟩
 rw[heap_setCell_same w g 2 _ _ _ h1];rfl
theorem Rs.move {c:Int} (h:Rs T w g x (some c)) {a':Int} (ha:aE a'):Rs T (w.setCell ⟨g,1,none⟩ (.int .i64 a')) g x (some a')∧Fp (fun k=>k=g) w (w.setCell ⟨g,1,none⟩ (.int .i64 a')):=by
 obtain⟨a,bad,h1,h2,h3,h4⟩:=h.ex
 obtain⟨rfl,rfl⟩:=h3 c rfl
 refine⟨⟨a',false,?_,ha,(fun c hc=>⟨by injection hc,rfl⟩),(fun h=>by cases h)⟩,(Fp.refl (fun k=>k=g) w).setCell (p:=⟨g,1,none⟩) (Or.inl rfl) _⟩
 rw[heap_setCell_same w g 1 _ _ _ h1];rfl
end
def TookN (T:TypeId) (b:List UInt8) (x:Value) (g:Nat) (o:Option Int) (w:World) (e:Ending) (w':World):Prop:=
 ∃n:Int,e= .returned (.int .i64 n)∧0≤n∧n < 1099511627776∧Psp.Is dN b o n∧Rs T w' g x (Psp.nxt dN b o)∧Fp (fun k=>k=g) w w'
def rE (T:TypeId) (b:List UInt8) (x:Value) (g:Nat) (o:Option Int) (w:World) (e:Ending) (w':World):Prop:=
 ∃n:Int,e= .returned (.int .i64 n)∧aE n∧Psp.Is Psp.dS b o n∧Rs T w' g x (Psp.nxt Psp.dS b o)∧Fp (fun k=>k=g) w w'
theorem eR {b:List UInt8} {a:Int} (h:bT b a=none):dN b a=none:=by unfold dN;rw[h];rfl
theorem dy {b:List UInt8} {a:Int} {v m:Nat} (h:bT b a=some (v,m)):dN b a=some ((v:Int),a+(m:Int)):=by unfold dN;rw[h];rfl
theorem bH (b:List UInt8) (x:Value) (g:Nat) (o:Option Int) (w:World) (P:Nat→Prop) (hx:RdP w P 1 x b.length (b.map bv)) (hR:Rs 215 w g x o):
 Calls Tryz.prog 151 #[.pointer (some ⟨g,0,none⟩)] w (TookN 215 b x g o w):=by
 obtain⟨a,bad,k0,k1,k2,z1,z2,ha,hs,hn⟩:=hR.cells
 have HR:=tt hR
 have l:=hx.to_rd
 have q:=tt l
 obtain⟨C,A,c,rfl,hb1,hb2,_⟩:=hx.parts
 obtain⟨t,n⟩:=ha
 cases o with
 |none=>
  have f:=hn rfl
  subst f
  clear hR hs hn hx l
  go_enter Tryz.func151,Tryz.ntmps151
  go_wp2_with fail
  go_ret
  exact⟨0,rfl,by omega,by omega,Psp.fA _ _ _,HR.out,Fp.refl _ _⟩
 |some p=>
  obtain⟨s,f⟩:=hs p rfl
  subst s f
  have K0:=ab k0
  have K1:=ab k1
  have i:∀w3,Below w.heap.size w w3→w3.cell? ⟨g,2,none⟩=some (.bool false)∧w3.frozen? ⟨g,2,none⟩=false∧w3.cell? ⟨g,1,none⟩=some (.int .i64 a)∧w3.frozen? ⟨g,1,none⟩=false:=fun w3 hb3=>by
   obtain⟨a',bad',_,q1,q2,y1,y2,_,q3,_⟩:=(HR.out.below hb3).cells
   obtain⟨rfl,rfl⟩:=q3 a rfl
   exact⟨q2,y2,q1,y1⟩
  have j:=tt i
  clear hR hs hn hx l i
  cases ht:bT b a with
  |none=>
   have HT:Hid (∀p:Later w,Calls Tryz.prog 59 #[.slice A b.length c,.int .i64 a] p.W fun e w'=>e= .returned (.tuple #[.int .i64 0,.int .i64 0,.bool false])∧p.W=w'):=
    tt fun p=>ij _ _ b a p.W (q.out.later (tJ _) p) t n ht
   have Ht:=tt ht
   clear ht
   go_enter Tryz.func151,Tryz.ntmps151
   go_wp2_with fail
   refine ai (by kernel_rfl) (by kernel_rfl) ?_
   repeat (first|go_big_quiet_step ((go_at_call 59;exact ah _ (HT.out _))))
   refine wpQuiet_nil ?_
   intro w3 d
   have hb3:=ay d
   clear d
   obtain⟨q2,y2,q1,y1⟩:=j.out w3 hb3
   have h:=tt hb3
   clear hb3 k0 k1 k2 K0 K1
   go_wp2_with fail
   go_ret
   obtain⟨f1,f2⟩:=(HR.out.below h.out).fail
   exact⟨0,rfl,by omega,by omega,Psp.de (eR Ht.out) _,by rw[Psp.bV (eR Ht.out)];exact f1,(Fp.of_below h.out _).trans f2 fun k hk=>Or.inl hk⟩
  |some vm=>
   obtain⟨v,m⟩:=vm
   have r:=dW ht
   have HT:Hid (∀p:Later w,Calls Tryz.prog 59 #[.slice A b.length c,.int .i64 a] p.W fun e w'=>e= .returned (.tuple #[.int .i64 (v:Int),.int .i64 (a+(m:Int)),.bool true])∧p.W=w'):=
    tt fun p=>gt _ _ b a v m p.W (q.out.later (tJ _) p) n ht
   have Ht:=tt ht
   obtain⟨B,z,y,u⟩:=r
   clear ht
   go_enter Tryz.func151,Tryz.ntmps151
   go_wp2_with fail
   refine ai (by kernel_rfl) (by kernel_rfl) ?_
   repeat (first|go_big_quiet_step ((go_at_call 59;exact ah _ (HT.out _))))
   refine wpQuiet_nil ?_
   intro w3 d
   have hb3:=ay d
   clear d
   obtain⟨q2,y2,q1,y1⟩:=j.out w3 hb3
   have h:=tt hb3
   clear hb3 k0 k1 k2 K0 K1
   go_wp2_with fail
   go_ret
   obtain⟨f1,f2⟩:=(HR.out.below h.out).move (a':=a+(m:Int)) ⟨by omega,by omega⟩
   exact⟨(v:Int),rfl,by omega,by omega,Psp.gE (dy Ht.out),by rw[Psp.dd (dy Ht.out)];exact f1,(Fp.of_below h.out _).trans f2 fun k hk=>Or.inl hk⟩
theorem mb (b:List UInt8) (o:Option Int):Psp.nxt Psp.dS b o=Psp.nxt dN b o:=by
 cases o with
 |none=>rfl
 |some a=>unfold Psp.nxt Psp.dS;cases h:dN b a <;> simp[h]
theorem qD {b:List UInt8} {o:Option Int} {n:Int} (h:Psp.Is dN b o n):Psp.Is Psp.dS b o (Psp.zag n):=by
 intro p hp
 cases o with
 |none=>cases hp
 |some a=>
  cases hd:dN b a with
  |none=>simp[Psp.dS,hd] at hp
  |some q=>
   have:=h q (by simp[hd])
   subst this
   simp[Psp.dS,hd] at hp
   rw[←hp]
theorem TookN.signed {T:TypeId} {b:List UInt8} {x:Value} {g:Nat} {o:Option Int} {w w':World} {n:Int} (h3:Psp.Is dN b o n) (h4:Rs T w' g x (Psp.nxt dN b o)) (h5:Fp (fun k=>k=g) w w'):rE T b x g o w (.returned (.int .i64 (Psp.zag n))) w':=by
 have:=Psp.nO n
 exact⟨_,rfl,⟨by omega,by omega⟩,qD h3,by rw[mb];exact h4,h5⟩
theorem js (b:List UInt8) (x:Value) (g:Nat) (o:Option Int) (w:World) (P:Nat→Prop) (hx:RdP w P 1 x b.length (b.map bv)) (hR:Rs 215 w g x o):
 Calls Tryz.prog 152 #[.pointer (some ⟨g,0,none⟩)] w (rE 215 b x g o w):=by
 have HX:=tt hx
 have HR:=tt hR
 clear hx hR
 go_enter Tryz.func152,Tryz.ntmps152
 go_wp2_with fail
 refine (bH b x g o w P HX.out HR.out).mono ?_
 rintro e w1 ⟨n,rfl,h1,h2,h3,h4,h5⟩
 have H:=tt (TookN.signed h3 h4 h5)
 clear h3 h4 h5
 go_wp2_with (go_at_call 116;refine (jG _ _ (by omega) (by omega)).mono ?_;rintro e w' ⟨rfl,rfl⟩)
 go_ret
 exact H.out
open Psp
theorem mz {b:List UInt8} {o:Option Int} {n:Int} {s:Int} (hn:Psp.Is dN b o n) (hs:Psp.Is dN b (Psp.nxt dN b o) s):
 Psp.Is Psp.dV b o ⟨n,s⟩∧Psp.nxt Psp.dV b o=(Psp.nxt dN b (Psp.nxt dN b o)):=by
 cases o with
 |none=>exact⟨Psp.fA _ _ _,rfl⟩
 |some a0=>
  cases g0:dN b a0 with
  |none=>
   have hd:Psp.dV b a0=none:=by simp[Psp.dV,g0]
   refine⟨Psp.de hd _,?_⟩
   rw[Psp.bV hd]
   simp[Psp.nxt,g0]
  |some p0=>
   obtain⟨y0,a1⟩:=p0
   have e0:n=y0:=hn (y0,a1) (by simp[g0])
   subst e0
   cases g1:dN b a1 with
   |none=>
    have hd:Psp.dV b a0=none:=by simp[Psp.dV,g0,g1]
    refine⟨Psp.de hd _,?_⟩
    rw[Psp.bV hd]
    simp[Psp.nxt,g0,g1]
   |some p1=>
    obtain⟨y1,a2⟩:=p1
    have e1:s=y1:=hs (y1,a2) (by simp[Psp.nxt,g0,g1])
    subst e1
    have hd:Psp.dV b a0=some (⟨n,s⟩,a2):=by simp[Psp.dV,g0,g1]
    refine⟨Psp.gE hd,?_⟩
    rw[Psp.dd hd]
    simp[Psp.nxt,g0,g1]
theorem mA {b:List UInt8} {o:Option Int} {c:Int} {t:Int} {k:Int} {y:Int} {v:Int} {s:Int} (hc:Psp.Is dN b o c) (ht:Psp.Is dN b (Psp.nxt dN b o) t) (hk:Psp.Is dN b (Psp.nxt dN b (Psp.nxt dN b o)) k) (hy:Psp.Is Psp.dS b (Psp.nxt dN b (Psp.nxt dN b (Psp.nxt dN b o))) y) (hv:Psp.Is Psp.dS b (Psp.nxt Psp.dS b (Psp.nxt dN b (Psp.nxt dN b (Psp.nxt dN b o)))) v) (hs:Psp.Is dN b (Psp.nxt Psp.dS b (Psp.nxt Psp.dS b (Psp.nxt dN b (Psp.nxt dN b (Psp.nxt dN b o))))) s):
 Psp.Is Psp.dR b o ⟨c,t,k,y,v,s⟩∧Psp.nxt Psp.dR b o=(Psp.nxt dN b (Psp.nxt Psp.dS b (Psp.nxt Psp.dS b (Psp.nxt dN b (Psp.nxt dN b (Psp.nxt dN b o)))))):=by
 cases o with
 |none=>exact⟨Psp.fA _ _ _,rfl⟩
 |some a0=>
  cases g0:dN b a0 with
  |none=>
   have hd:Psp.dR b a0=none:=by simp[Psp.dR,g0]
   refine⟨Psp.de hd _,?_⟩
   rw[Psp.bV hd]
   simp[Psp.nxt,g0]
  |some p0=>
   obtain⟨y0,a1⟩:=p0
   have e0:c=y0:=hc (y0,a1) (by simp[g0])
   subst e0
   cases g1:dN b a1 with
   |none=>
    have hd:Psp.dR b a0=none:=by simp[Psp.dR,g0,g1]
    refine⟨Psp.de hd _,?_⟩
    rw[Psp.bV hd]
    simp[Psp.nxt,g0,g1]
   |some p1=>
    obtain⟨y1,a2⟩:=p1
    have e1:t=y1:=ht (y1,a2) (by simp[Psp.nxt,g0,g1])
    subst e1
    cases g2:dN b a2 with
    |none=>
     have hd:Psp.dR b a0=none:=by simp[Psp.dR,g0,g1,g2]
     refine⟨Psp.de hd _,?_⟩
     rw[Psp.bV hd]
     simp[Psp.nxt,g0,g1,g2]
    |some p2=>
     obtain⟨y2,a3⟩:=p2
     have e2:k=y2:=hk (y2,a3) (by simp[Psp.nxt,g0,g1,g2])
     subst e2
     cases g3:Psp.dS b a3 with
     |none=>
      have hd:Psp.dR b a0=none:=by simp[Psp.dR,g0,g1,g2,g3]
      refine⟨Psp.de hd _,?_⟩
      rw[Psp.bV hd]
      simp[Psp.nxt,g0,g1,g2,g3]
     |some p3=>
      obtain⟨y3,a4⟩:=p3
      have e3:y=y3:=hy (y3,a4) (by simp[Psp.nxt,g0,g1,g2,g3])
      subst e3
      cases g4:Psp.dS b a4 with
      |none=>
       have hd:Psp.dR b a0=none:=by simp[Psp.dR,g0,g1,g2,g3,g4]
       refine⟨Psp.de hd _,?_⟩
       rw[Psp.bV hd]
       simp[Psp.nxt,g0,g1,g2,g3,g4]
      |some p4=>
       obtain⟨y4,a5⟩:=p4
       have e4:v=y4:=hv (y4,a5) (by simp[Psp.nxt,g0,g1,g2,g3,g4])
       subst e4
       cases g5:dN b a5 with
       |none=>
        have hd:Psp.dR b a0=none:=by simp[Psp.dR,g0,g1,g2,g3,g4,g5]
        refine⟨Psp.de hd _,?_⟩
        rw[Psp.bV hd]
        simp[Psp.nxt,g0,g1,g2,g3,g4,g5]
       |some p5=>
        obtain⟨y5,a6⟩:=p5
        have e5:s=y5:=hs (y5,a6) (by simp[Psp.nxt,g0,g1,g2,g3,g4,g5])
        subst e5
        have hd:Psp.dR b a0=some (⟨c,t,k,y,v,s⟩,a6):=by simp[Psp.dR,g0,g1,g2,g3,g4,g5]
        refine⟨Psp.gE hd,?_⟩
        rw[Psp.dd hd]
        simp[Psp.nxt,g0,g1,g2,g3,g4,g5]
theorem mC {b:List UInt8} {o:Option Int} {v:Int} {i:Int} {q:Int} {l:List Psp.Req} {m:List Psp.Vote} (hv:Psp.Is dN b o v) (hi:Psp.Is dN b (Psp.nxt dN b o) i) (hq:Psp.Is dN b (Psp.nxt dN b (Psp.nxt dN b o)) q) (hl:Psp.Is (Psp.dL Psp.dR) b (Psp.nxt dN b (Psp.nxt dN b (Psp.nxt dN b o))) l) (hm:Psp.Is (Psp.dL Psp.dV) b (Psp.nxt (Psp.dL Psp.dR) b (Psp.nxt dN b (Psp.nxt dN b (Psp.nxt dN b o)))) m):
 Psp.Is Psp.dC b o ⟨v,i,q,l,m⟩∧Psp.nxt Psp.dC b o=(Psp.nxt (Psp.dL Psp.dV) b (Psp.nxt (Psp.dL Psp.dR) b (Psp.nxt dN b (Psp.nxt dN b (Psp.nxt dN b o))))):=by
 cases o with
 |none=>exact⟨Psp.fA _ _ _,rfl⟩
 |some a0=>
  cases g0:dN b a0 with
  |none=>
   have hd:Psp.dC b a0=none:=by simp[Psp.dC,g0]
   refine⟨Psp.de hd _,?_⟩
   rw[Psp.bV hd]
   simp[Psp.nxt,g0]
  |some p0=>
   obtain⟨y0,a1⟩:=p0
   have e0:v=y0:=hv (y0,a1) (by simp[g0])
   subst e0
   cases g1:dN b a1 with
   |none=>
    have hd:Psp.dC b a0=none:=by simp[Psp.dC,g0,g1]
    refine⟨Psp.de hd _,?_⟩
    rw[Psp.bV hd]
    simp[Psp.nxt,g0,g1]
   |some p1=>
    obtain⟨y1,a2⟩:=p1
    have e1:i=y1:=hi (y1,a2) (by simp[Psp.nxt,g0,g1])
    subst e1
    cases g2:dN b a2 with
    |none=>
     have hd:Psp.dC b a0=none:=by simp[Psp.dC,g0,g1,g2]
     refine⟨Psp.de hd _,?_⟩
     rw[Psp.bV hd]
     simp[Psp.nxt,g0,g1,g2]
    |some p2=>
     obtain⟨y2,a3⟩:=p2
     have e2:q=y2:=hq (y2,a3) (by simp[Psp.nxt,g0,g1,g2])
     subst e2
     cases g3:(Psp.dL Psp.dR) b a3 with
     |none=>
      have hd:Psp.dC b a0=none:=by simp[Psp.dC,g0,g1,g2,g3]
      refine⟨Psp.de hd _,?_⟩
      rw[Psp.bV hd]
      simp[Psp.nxt,g0,g1,g2,g3]
     |some p3=>
      obtain⟨y3,a4⟩:=p3
      have e3:l=y3:=hl (y3,a4) (by simp[Psp.nxt,g0,g1,g2,g3])
      subst e3
      cases g4:(Psp.dL Psp.dV) b a4 with
      |none=>
       have hd:Psp.dC b a0=none:=by simp[Psp.dC,g0,g1,g2,g3,g4]
       refine⟨Psp.de hd _,?_⟩
       rw[Psp.bV hd]
       simp[Psp.nxt,g0,g1,g2,g3,g4]
      |some p4=>
       obtain⟨y4,a5⟩:=p4
       have e4:m=y4:=hm (y4,a5) (by simp[Psp.nxt,g0,g1,g2,g3,g4])
       subst e4
       have hd:Psp.dC b a0=some (⟨v,i,q,l,m⟩,a5):=by simp[Psp.dC,g0,g1,g2,g3,g4]
       refine⟨Psp.gE hd,?_⟩
       rw[Psp.dd hd]
       simp[Psp.nxt,g0,g1,g2,g3,g4]
theorem mB {b:List UInt8} {o:Option Int} {f:Int} {m:List Psp.Vote} {l:List Psp.Cert} {s:Int} (hf:Psp.Is dN b o f) (hm:Psp.Is (Psp.dL Psp.dV) b (Psp.nxt dN b o) m) (hl:Psp.Is (Psp.dL Psp.dC) b (Psp.nxt (Psp.dL Psp.dV) b (Psp.nxt dN b o)) l) (hs:Psp.Is dN b (Psp.nxt (Psp.dL Psp.dC) b (Psp.nxt (Psp.dL Psp.dV) b (Psp.nxt dN b o))) s):
 Psp.Is Psp.dP b o ⟨f,m,l,s⟩∧Psp.nxt Psp.dP b o=(Psp.nxt dN b (Psp.nxt (Psp.dL Psp.dC) b (Psp.nxt (Psp.dL Psp.dV) b (Psp.nxt dN b o)))):=by
 cases o with
 |none=>exact⟨Psp.fA _ _ _,rfl⟩
 |some a0=>
  cases g0:dN b a0 with
  |none=>
   have hd:Psp.dP b a0=none:=by simp[Psp.dP,g0]
   refine⟨Psp.de hd _,?_⟩
   rw[Psp.bV hd]
   simp[Psp.nxt,g0]
  |some p0=>
   obtain⟨y0,a1⟩:=p0
   have e0:f=y0:=hf (y0,a1) (by simp[g0])
   subst e0
   cases g1:(Psp.dL Psp.dV) b a1 with
   |none=>
    have hd:Psp.dP b a0=none:=by simp[Psp.dP,g0,g1]
    refine⟨Psp.de hd _,?_⟩
    rw[Psp.bV hd]
    simp[Psp.nxt,g0,g1]
   |some p1=>
    obtain⟨y1,a2⟩:=p1
    have e1:m=y1:=hm (y1,a2) (by simp[Psp.nxt,g0,g1])
    subst e1
    cases g2:(Psp.dL Psp.dC) b a2 with
    |none=>
     have hd:Psp.dP b a0=none:=by simp[Psp.dP,g0,g1,g2]
     refine⟨Psp.de hd _,?_⟩
     rw[Psp.bV hd]
     simp[Psp.nxt,g0,g1,g2]
    |some p2=>
     obtain⟨y2,a3⟩:=p2
     have e2:l=y2:=hl (y2,a3) (by simp[Psp.nxt,g0,g1,g2])
     subst e2
     cases g3:dN b a3 with
     |none=>
      have hd:Psp.dP b a0=none:=by simp[Psp.dP,g0,g1,g2,g3]
      refine⟨Psp.de hd _,?_⟩
      rw[Psp.bV hd]
      simp[Psp.nxt,g0,g1,g2,g3]
     |some p3=>
      obtain⟨y3,a4⟩:=p3
      have e3:s=y3:=hs (y3,a4) (by simp[Psp.nxt,g0,g1,g2,g3])
      subst e3
      have hd:Psp.dP b a0=some (⟨f,m,l,s⟩,a4):=by simp[Psp.dP,g0,g1,g2,g3]
      refine⟨Psp.gE hd,?_⟩
      rw[Psp.dd hd]
      simp[Psp.nxt,g0,g1,g2,g3]
structure Two (RT T:TypeId) (w0 W:World) (g:Nat) (cs zs:Array Value) (x:Value) (o:Option Int):Prop where
 rs:Rs RT W g x o
 vr:W.heap[w0.heap.size+1]? =some (.cells cs T (0,0))
 rr:W.heap[w0.heap.size]? =some (.cells zs T (0,0))
 fp:Fp (fun k=>k=g) w0 W
 hg:g < w0.heap.size
section
variable {RT T:TypeId} {w0 W W':World} {g:Nat} {cs zs:Array Value} {x:Value} {o o':Option Int}
theorem Two.new (h:Rs RT w0 g x o) (zs:Array Value) (T:TypeId):Two RT T w0 ((w0.alloc (.cells zs T)).alloc (.cells zs T)) g zs zs x o:=by
 have hb:Below w0.heap.size w0 ((w0.alloc (.cells zs T)).alloc (.cells zs T)):=(ae w0 _).trans ((ae _ _).mono (by simp))
 exact⟨h.below hb,heap_alloc2_new w0 _ _,((ae (w0.alloc _) _).block w0.heap.size (by simp)).trans (tL w0 _),Fp.of_below hb _,h.lt⟩
theorem Two.lt1 (h:Two RT T w0 W g cs zs x o):w0.heap.size+1 < W.heap.size:=(tz h.vr).1
theorem Two.call (h:Two RT T w0 W g cs zs x o) (hr:Rs RT W' g x o') (hf:Fp (fun k=>k=g) W W'):Two RT T w0 W' g cs zs x o':=by
 have:=h.hg
 have:=h.lt1
 exact⟨hr,(hf.block _ h.lt1 (by omega)).trans h.vr,(hf.block _ (by omega) (by omega)).trans h.rr,h.fp.trans hf fun k hk=>Or.inl hk,h.hg⟩
theorem Two.store (h:Two RT T w0 W g cs zs x o) (i:Nat) (v:Value) {cs':Array Value} (hc:cs.setIfInBounds i v=cs'):Two RT T w0 (W.setCell ⟨w0.heap.size+1,i,none⟩ v) g cs' zs x o:=by
 have hg:=h.hg
 subst hc
 refine⟨h.rs.keep (Below.heap_setCell W ⟨w0.heap.size+1,i,none⟩ _ g (by simp;omega)),heap_setCell_same W _ i _ _ v h.vr,(Below.heap_setCell W ⟨w0.heap.size+1,i,none⟩ _ _ (by simp)).trans h.rr,h.fp.setCell (p:=⟨w0.heap.size+1,i,none⟩) (Or.inr (by simp)) _,hg⟩
theorem Two.cell (h:Two RT T w0 W g cs zs x o) (i:Nat) (hi:i < cs.size):W.cell? ⟨w0.heap.size+1,i,none⟩=some cs[i]∧W.frozen? ⟨w0.heap.size+1,i,none⟩=false:=by
 refine⟨?_,frozen_of_row W _ i _ _ h.vr⟩
 rw[cell_of_row W _ i _ _ _ h.vr,Array.getElem?_eq_getElem hi]
theorem Two.range (h:Two RT T w0 W g cs zs x o) (l:List Value) (hl:l.toArray=cs):W.rangeAt (w0.heap.size+1) 0 l:=fun j v hv=>by
 subst hl
 rw[Nat.zero_add,cell_of_row W _ j _ _ _ h.vr]
 simpa using hv
theorem Two.there (h:Two RT T w0 W g cs zs x o):W.there w0.heap.size 0 zs.size:=fun j hj=>by
 refine⟨?_,frozen_of_row W _ (0+j) _ _ h.rr⟩
 rw[Nat.zero_add,cell_of_row W _ j _ _ _ h.rr]
 simp[hj]
theorem Two.result (h:Two RT T w0 W g cs zs x o) (l:List Value) (hl:l.length=zs.size):(W.setCells w0.heap.size 0 l).heap[w0.heap.size]? =some (.cells l.toArray T (0,0))∧Rs RT (W.setCells w0.heap.size 0 l) g x o∧Fp (fun k=>k=g) w0 (W.setCells w0.heap.size 0 l)∧∀b,b≠w0.heap.size→(W.setCells w0.heap.size 0 l).heap[b]? =W.heap[b]?:=by
 have hg:=h.hg
 have c:∀(vs:List Value) (k:Nat) (W:World) (pre:List Value),W.heap[w0.heap.size]? =some (.cells (pre++zs.toList.drop k).toArray T (0,0))→pre.length=k→k+vs.length=zs.size→(W.setCells w0.heap.size k vs).heap[w0.heap.size]? =some (.cells (pre++vs).toArray T (0,0)):=by
  intro vs
  induction vs with
  |nil=>
   intro k W pre h1 h2 h3
   rw[List.drop_eq_nil_of_le (by simp at h3 ⊢;omega)] at h1
   exact h1
  |cons v vs ih=>
   intro k W pre h1 h2 h3
   have h4:(W.setCell ⟨w0.heap.size,k,none⟩ v).heap[w0.heap.size]? =some (.cells ((pre++[v])++zs.toList.drop (k+1)).toArray T (0,0)):=by
    rw[heap_setCell_same W _ k _ _ v h1]
    congr 2
    have hk:k < zs.toList.length:=by simp at h3 ⊢;omega
    rw[List.drop_eq_getElem_cons hk]
    apply Array.ext'
    simp[h2]
   have:=ih (k+1) _ (pre++[v]) h4 (by simp[h2]) (by simp at h3 ⊢;omega)
   simpa [World.setCells] using this
 have a:∀(vs:List Value) (k:Nat) (W:World) (b:Nat),b≠w0.heap.size→(W.setCells w0.heap.size k vs).heap[b]? =W.heap[b]?:=by
  intro vs
  induction vs with
  |nil=>intro k W b _;rfl
  |cons v vs ih=>
   intro k W b hb
   exact (ih (k+1) _ b hb).trans (Below.heap_setCell W ⟨w0.heap.size,k,none⟩ _ b hb)
 refine⟨by simpa using c l 0 W [] (by simpa using h.rr) rfl (by simpa using hl),h.rs.keep (a l 0 W g (by omega)),h.fp.setCells (Or.inr (tJ _)) _,fun b hb=>a l 0 W b hb⟩
end
def pP (RT:TypeId) {α:Type} (d:Psp.Dec α) (f:α→List Value) (b:List UInt8) (x:Value) (g:Nat) (o:Option Int) (w:World) (e:Ending) (w':World):Prop:=
 ∃a:α,e= .returned (.agg (f a).toArray)∧Psp.Is d b o a∧Rs RT w' g x (Psp.nxt d b o)∧Fp (fun k=>k=g) w w'
theorem qs (b:List UInt8) (x:Value) (g:Nat) (o:Option Int) (w:World) (hx:RdP w (fun k=>k≠g) 1 x b.length (b.map bv)) (hR:Rs 215 w g x o):
 Calls Tryz.prog 120 #[.pointer (some ⟨g,0,none⟩)] w (pP 215 Psp.dV vt b x g o w):=by
 have t0:=Two.new hR #[.int .i64 0,.int .i64 0] 166
 have HX:=tt hx
 have T0:=tt t0
 clear hx hR t0
 go_enter Tryz.func120,Tryz.ntmps120
 go_wp2_with fail
 refine (bH b x g _ _ (fun k=>k≠g) (HX.out.fp T0.out.fp (fun k hk=>hk)) T0.out.rs).mono ?_
 rintro e w1 ⟨n,rfl,h1,h2,h3,h4,h5⟩
 have t1:=T0.out.call h4 h5
 obtain⟨x0,z0⟩:=t1.cell 0 (by simp)
 simp only[List.getElem_toArray,tF] at x0
 have T1:=tt (t1.store 0 (.int .i64 n) (cs':=#[.int .i64 n,.int .i64 0]) rfl)
 have E0:=tt h3
 clear h1 h2 h3 h4 h5 t1
 go_wp2_with fail
 refine (bH b x g _ _ (fun k=>k≠g) (HX.out.fp T1.out.fp (fun k hk=>hk)) T1.out.rs).mono ?_
 rintro e w2 ⟨s,rfl,h1,h2,h3,h4,h5⟩
 have t1:=T1.out.call h4 h5
 obtain⟨x1,z1⟩:=t1.cell 1 (by simp)
 simp only[List.getElem_toArray,tF,tG] at x1
 have T2:=tt (t1.store 1 (.int .i64 s) (cs':=#[.int .i64 n,.int .i64 s]) rfl)
 have E1:=tt h3
 clear h1 h2 h3 h4 h5 t1 x0 z0
 have c:=T2.out.range [.int .i64 n,.int .i64 s] rfl
 have f:=tt c
 have a:=T2.out.there
 have d:=tt a
 clear c a
 go_wp2_with (first|(refine aA rfl 166 (.tmp 3) rfl (w.heap.size+1) 0 rfl [.int .i64 n,.int .i64 s] _ ?_ Tryz.underlying166 rfl ga ?_;exact f.out)|(refine wpList_store_mid rfl 166 (.tmp 2) _ rfl w.heap.size 0 #[.int .i64 n,.int .i64 s] rfl rfl d.out ga (by simp[Value.oneCell']) ?_))
 obtain⟨r1,r2,r3,_⟩:=T2.out.result [.int .i64 n,.int .i64 s] rfl
 refine bodyPost_ret (v:=.agg #[.int .i64 n,.int .i64 s]) ?_ rfl ?_
 ·exact results_cell_row Tryz.results120 _ _ w.heap.size _ _ _ _ rfl r1 Tryz.underlying166 rfl ga
 ·obtain⟨c1,c2⟩:=mz E0.out E1.out
  exact⟨⟨n,s⟩,rfl,c1,by rw[c2];exact r2,r3⟩
theorem rS (b:List UInt8) (x:Value) (g:Nat) (o:Option Int) (w:World) (hx:RdP w (fun k=>k≠g) 1 x b.length (b.map bv)) (hR:Rs 215 w g x o):
 Calls Tryz.prog 118 #[.pointer (some ⟨g,0,none⟩)] w (pP 215 Psp.dR rq b x g o w):=by
 have t0:=Two.new hR #[.int .i64 0,.int .i64 0,.int .i64 0,.int .i64 0,.int .i64 0,.int .i64 0] 42
 have HX:=tt hx
 have T0:=tt t0
 clear hx hR t0
 go_enter Tryz.func118,Tryz.ntmps118
 go_wp2_with fail
 refine (bH b x g _ _ (fun k=>k≠g) (HX.out.fp T0.out.fp (fun k hk=>hk)) T0.out.rs).mono ?_
 rintro e w1 ⟨c,rfl,h1,h2,h3,h4,h5⟩
 have t1:=T0.out.call h4 h5
 obtain⟨x0,z0⟩:=t1.cell 0 (by simp)
 simp only[List.getElem_toArray,tF] at x0
 have T1:=tt (t1.store 0 (.int .i64 c) (cs':=#[.int .i64 c,.int .i64 0,.int .i64 0,.int .i64 0,.int .i64 0,.int .i64 0]) rfl)
 have E0:=tt h3
 clear h1 h2 h3 h4 h5 t1
 go_wp2_with fail
 refine (bH b x g _ _ (fun k=>k≠g) (HX.out.fp T1.out.fp (fun k hk=>hk)) T1.out.rs).mono ?_
 rintro e w2 ⟨t,rfl,h1,h2,h3,h4,h5⟩
 have t1:=T1.out.call h4 h5
 obtain⟨x1,z1⟩:=t1.cell 1 (by simp)
 simp only[List.getElem_toArray,tF,tG] at x1
 have T2:=tt (t1.store 1 (.int .i64 t) (cs':=#[.int .i64 c,.int .i64 t,.int .i64 0,.int .i64 0,.int .i64 0,.int .i64 0]) rfl)
 have E1:=tt h3
 clear h1 h2 h3 h4 h5 t1 x0 z0
 go_wp2_with fail
 refine (bH b x g _ _ (fun k=>k≠g) (HX.out.fp T2.out.fp (fun k hk=>hk)) T2.out.rs).mono ?_
 rintro e w3 ⟨k,rfl,h1,h2,h3,h4,h5⟩
 have t1:=T2.out.call h4 h5
 obtain⟨x2,z2⟩:=t1.cell 2 (by simp)
 simp only[List.getElem_toArray,tF,tG] at x2
 have T3:=tt (t1.store 2 (.int .i64 k) (cs':=#[.int .i64 c,.int .i64 t,.int .i64 k,.int .i64 0,.int .i64 0,.int .i64 0]) rfl)
 have E2:=tt h3
 clear h1 h2 h3 h4 h5 t1 x1 z1
 go_wp2_with fail
 refine (js b x g _ _ (fun k=>k≠g) (HX.out.fp T3.out.fp (fun k hk=>hk)) T3.out.rs).mono ?_
 rintro e w4 ⟨y,rfl,h1,h3,h4,h5⟩
 have t1:=T3.out.call h4 h5
 obtain⟨x3,z3⟩:=t1.cell 3 (by simp)
 simp only[List.getElem_toArray,tF,tG] at x3
 have T4:=tt (t1.store 3 (.int .i64 y) (cs':=#[.int .i64 c,.int .i64 t,.int .i64 k,.int .i64 y,.int .i64 0,.int .i64 0]) rfl)
 have E3:=tt h3
 clear h1 h3 h4 h5 t1 x2 z2
 go_wp2_with fail
 refine (js b x g _ _ (fun k=>k≠g) (HX.out.fp T4.out.fp (fun k hk=>hk)) T4.out.rs).mono ?_
 rintro e w5 ⟨v,rfl,h1,h3,h4,h5⟩
 have t1:=T4.out.call h4 h5
 obtain⟨x4,z4⟩:=t1.cell 4 (by simp)
 simp only[List.getElem_toArray,tF,tG] at x4
 have T5:=tt (t1.store 4 (.int .i64 v) (cs':=#[.int .i64 c,.int .i64 t,.int .i64 k,.int .i64 y,.int .i64 v,.int .i64 0]) rfl)
 have E4:=tt h3
 clear h1 h3 h4 h5 t1 x3 z3
 go_wp2_with fail
 refine (bH b x g _ _ (fun k=>k≠g) (HX.out.fp T5.out.fp (fun k hk=>hk)) T5.out.rs).mono ?_
 rintro e w6 ⟨s,rfl,h1,h2,h3,h4,h5⟩
 have t1:=T5.out.call h4 h5
 obtain⟨x5,z5⟩:=t1.cell 5 (by simp)
 simp only[List.getElem_toArray,tF,tG] at x5
 have T6:=tt (t1.store 5 (.int .i64 s) (cs':=#[.int .i64 c,.int .i64 t,.int .i64 k,.int .i64 y,.int .i64 v,.int .i64 s]) rfl)
 have E5:=tt h3
 clear h1 h2 h3 h4 h5 t1 x4 z4
 have d:=T6.out.range [.int .i64 c,.int .i64 t,.int .i64 k,.int .i64 y,.int .i64 v,.int .i64 s] rfl
 have h:=tt d
 have a:=T6.out.there
 have f:=tt a
 clear d a
 go_wp2_with (first|(refine aA rfl 42 (.tmp 3) rfl (w.heap.size+1) 0 rfl [.int .i64 c,.int .i64 t,.int .i64 k,.int .i64 y,.int .i64 v,.int .i64 s] _ ?_ Tryz.underlying42 rfl dz ?_;exact h.out)|(refine wpList_store_mid rfl 42 (.tmp 2) _ rfl w.heap.size 0 #[.int .i64 c,.int .i64 t,.int .i64 k,.int .i64 y,.int .i64 v,.int .i64 s] rfl rfl f.out dz (by simp[Value.oneCell']) ?_))
 obtain⟨r1,r2,r3,_⟩:=T6.out.result [.int .i64 c,.int .i64 t,.int .i64 k,.int .i64 y,.int .i64 v,.int .i64 s] rfl
 refine bodyPost_ret (v:=.agg #[.int .i64 c,.int .i64 t,.int .i64 k,.int .i64 y,.int .i64 v,.int .i64 s]) ?_ rfl ?_
 ·exact results_cell_row Tryz.results118 _ _ w.heap.size _ _ _ _ rfl r1 Tryz.underlying42 rfl dz
 ·obtain⟨c1,c2⟩:=mA E0.out E1.out E2.out E3.out E4.out E5.out
  exact⟨⟨c,t,k,y,v,s⟩,rfl,c1,by rw[c2];exact r2,r3⟩
end Go.Proofs.YtipmjleohadoeaaGreat
end
section
namespace Psp
open Go.Proofs.YtipmjleohadoeaaGreat
structure Many {α:Type} (d:Dec α) (b:List UInt8) (n:Nat) (o1:Option Int) (xs:List α) (o':Option Int):Prop where
 no:o'=none→o1.bind (dg d b n)=none
 yes:∀a',o'=some a'→o1.bind (dg d b n)=(dg d b (n - xs.length) a').map fun q=>(xs++q.1,q.2)
section
variable {α:Type} {d:Dec α} {b:List UInt8} {n:Nat} {o1 o':Option Int} {xs:List α}
theorem Many.start:Many d b n o1 [] o1:=by
 refine⟨fun h=>by rw[h];rfl,fun a' h=>?_⟩
 rw[h]
 simp
theorem Many.step {a':Int} {y:α} (h:Many d b n o1 xs (some a')) (hk:xs.length < n) (hy:Is d b (some a') y):Many d b n o1 (xs++[y]) (nxt d b (some a')):=by
 have h1:=h.yes a' rfl
 obtain⟨m,hm⟩:∃m,n - xs.length=m+1:=⟨n - xs.length - 1,by omega⟩
 rw[hm] at h1
 have e:n - (xs++[y]).length=m:=by rw[tH,List.length_singleton];omega
 cases hd:d b a' with
 |none=>
  rw[bV hd]
  refine⟨fun _=>?_,fun a hc=>by cases hc⟩
  rw[h1];simp[dg,hd]
 |some p=>
  obtain⟨z,c⟩:=p
  have:y=z:=hy (z,c) (by simp[hd])
  subst this
  rw[dd hd]
  refine⟨(fun hc=>by cases hc),fun a hc=>?_⟩
  injection hc with hc
  subst hc
  rw[h1,e]
  simp[dg,hd,Option.map_map]
  cases dg d b m c <;> simp
theorem Many.done {a':Int} (h:Many d b n o1 xs (some a')) (hk:xs.length=n):o1.bind (dg d b n)=some (xs,a'):=by
 rw[h.yes a' rfl,hk,Nat.sub_self]
 simp[dg]
theorem fK {o:Option Int} {m:Int} (hn:Is dN b o m) (h:m≤256):o.bind (dL d b)=(nxt dN b o).bind (dg d b m.toNat):=by
 cases o with
 |none=>rfl
 |some a=>
  cases hd:dN b a with
  |none=>simp[dL,hd,nxt]
  |some p=>
   have:=hn p (by simp[hd])
   subst this
   simp[dL,hd,nxt,h]
theorem gG {o:Option Int} {m:Int} (hn:Is dN b o m) (h:256 < m):o.bind (dL d b)=none:=by
 cases o with
 |none=>rfl
 |some a=>
  cases hd:dN b a with
  |none=>simp[dL,hd]
  |some p=>
   have:=hn p (by simp[hd])
   subst this
   simp[dL,hd]
   omega
theorem fb {α:Type} {d:Dec α} {o:Option Int} {x:α} {a:Int} (h:o.bind (d b)=some (x,a)):nxt d b o=some a∧Is d b o x:=⟨by unfold nxt;rw[h];rfl,fun p hp=>by rw[h] at hp;injection hp with hp;rw[←hp]⟩
theorem eC {α:Type} {d:Dec α} {o:Option Int} (h:o.bind (d b)=none):nxt d b o=none∧∀x,Is d b o x:=⟨by unfold nxt;rw[h];rfl,fun x p hp=>by rw[h] at hp;cases hp⟩
end
end Psp
namespace Go.Proofs.YtipmjleohadoeaaGreat
open Go.RowKit
def gV (RT:TypeId) {α:Type} (d:Psp.Dec α) (RD:World→(Nat→Prop)→Value→List α→Prop) (b:List UInt8) (x:Value) (g:Nat) (o:Option Int) (w:World) (e:Ending) (w':World):Prop:=
 ∃(v:Value) (l:List α),e= .returned v∧RD w' (fun k=>w.heap.size≤k) v l∧Psp.Is (Psp.dL d) b o l∧Rs RT w' g x (Psp.nxt (Psp.dL d) b o)∧Fp (fun k=>k=g) w w'
def RdR (w:World) (P:Nat→Prop) (v:Value) (l:List Psp.Req):Prop:=RdP w P 6 v l.length (l.flatMap rq)
def RdV (w:World) (P:Nat→Prop) (v:Value) (l:List Psp.Vote):Prop:=RdP w P 2 v l.length (l.flatMap vt)
theorem nil_R (w:World) (P:Nat→Prop):RdR w P (.slice none 0 0) []:=RdP.none_
theorem nil_V (w:World) (P:Nat→Prop):RdV w P (.slice none 0 0) []:=RdP.none_
theorem nil_C (w:World) (P:Nat→Prop):RdC w P (.slice none 0 0) []:=⟨[],rfl,RdP.none_,fun x hx=>by cases hx⟩
theorem nil_A (w:World) (P:Nat→Prop):RdA w P (.slice none 0 0) []:=⟨[],rfl,RdP.none_,fun x hx=>by cases hx⟩
theorem rm (t:Psp.Vote):(Tryz.prog.info? 166).map (fun i=>(i.zero.map (·.cells.size),i.size))=some (some (vt t).length,(vt t).length):=by
 show _=some (some 2,2)
 kernel_rfl
theorem rp (t:Psp.Req):(Tryz.prog.info? 42).map (fun i=>(i.zero.map (·.cells.size),i.size))=some (some (rq t).length,(rq t).length):=by
 show _=some (some 6,6)
 kernel_rfl
def lenOf:Value→Nat| .slice _ n _=>n|_=>0
theorem votE:Elem Tryz.prog 52 166 2 16:=⟨Tryz.underlying52,by kernel_rfl,by decide⟩
structure TInvV (b:List UInt8) (x:Value) (g:Nat) (o o1:Option Int) (n:Nat) (w w':World) (out:Value) (xs:List Psp.Vote) (o':Option Int):Prop where
 n256:n≤256
 le:xs.length≤n
 own:w'.ownsRow w.heap.size 166 2 out xs.length (xs.flatMap vt)
 many:Psp.Many Psp.dV b n o1 (xs) o'
 rs:Rs 215 w' g x o'
 fp:Fp (fun k=>k=g) w w'
def TJV (b:List UInt8) (x:Value) (g:Nat) (o o1:Option Int) (n:Nat) (w:World) (lab:Nat) (a':Act) (w':World):Prop:=
 (lab=0∧o.bind (Psp.dL Psp.dV b)=none∧Fp (fun k=>k=g) w w'∧(∃o',Rs 215 w' g x o')∧∃u1 u2 u3 u5 u6 u7 u8 u9 u10 u11 u12 u13 u14 u15 u16 u17 u18 u19 u20 u21 u22 u23 u24 u25 u26 u27 u28:Value,a'={tmps:=#[.pointer (some ⟨g,0,none⟩),u1,u2,u3,.slice none 0 0,u5,u6,u7,u8,u9,u10,u11,u12,u13,u14,u15,u16,u17,u18,u19,u20,u21,u22,u23,u24,u25,u26,u27,u28],defers:=[]})∨
 (lab=1∧∃(out:Value) (xs:List Psp.Vote) (o':Option Int),TInvV b x g o o1 n w w' out xs o'∧∃u2 u3 u7 u8 u9 u10 u11 u12 u13 u14 u15 u16 u17 u18 u19 u20 u21 u22 u23 u24 u25 u26 u27 u28:Value,a'={tmps:=#[.pointer (some ⟨g,0,none⟩),.func (.func 120) #[] #[],u2,u3,.slice none 0 0,out,.int .i64 (n:Int),u7,u8,u9,u10,u11,u12,u13,u14,u15,u16,u17,u18,u19,u20,u21,u22,u23,u24,u25,u26,u27,u28],defers:=[]})
theorem TInvV.next {b:List UInt8} {x:Value} {g:Nat} {o o1:Option Int} {n m c5:Nat} {w w' w1 w2:World} {A5:Option Addr} {xs:List Psp.Vote} {a:Int} {t:Psp.Vote} {v':Value} (h:TInvV b x g o o1 n w w' (.slice A5 m c5) xs (some a))
 (hm:xs.length=m) (hlt:m < n) (h3:Psp.Is Psp.dV b (some a) t) (h4:Rs 215 w1 g x (Psp.nxt Psp.dV b (some a))) (h5:Fp (fun k=>k=g) w' w1) (hg:g < w.heap.size) (c:w1.ownsRow w.heap.size 166 2 (.slice A5 m c5) m (xs.flatMap vt))
 (d:w2.ownsRow w.heap.size 166 2 v' (m+1) (xs.flatMap vt++(vt t).toArray.toList)) (e:w1.grownBy w2 (Value.slice A5 m c5).ownBlock) (j:v'.ownBlock=(Value.slice A5 m c5).ownBlock∨v'.ownBlock=some (w1.heap.size+1)):
 TInvV b x g o o1 n w w2 v' (xs++[t]) (Psp.nxt Psp.dV b (some a)):=by
 have hz:=h.fp.size
 have i:=h5.size
 have f:(Value.slice A5 m c5).ownBlock≠some g:=fun he=>by have:=(c.lt g he).1;omega
 refine⟨h.n256,by rw[tH];simp;omega,?_,h.many.step (by omega) h3,h4.keep (e.block g (by omega) (fun he=>f he.symm)),(h.fp.trans h5 fun k hk=>Or.inl hk).grown e fun k hk=>Or.inr (c.lt k hk).1⟩
 rw[tH,List.flatMap_append,hm]
 simpa using d
theorem gw (b:List UInt8) (x:Value) (g:Nat) (o:Option Int) (w:World) (hx:RdP w (fun k=>k≠g) 1 x b.length (b.map bv)) (hR:Rs 215 w g x o):
 Calls Tryz.prog 153 #[.pointer (some ⟨g,0,none⟩),.func (.func 120) #[] #[]] w (gV 215 Psp.dV RdV b x g o w):=by
 have HX:=tt hx
 have HR:=tt hR
 have hg:=hR.lt
 clear hx hR
 go_enter Tryz.func153,Tryz.ntmps153
 go_wp2_with fail
 refine ce (fun q a' w'=>∃n:Nat,Psp.Is dN b o (n:Int)∧TJV b x g o (Psp.nxt dN b o) n w q a' w') (fun q a' _=>if q=0 then 0 else 300 - lenOf (a'.tmps.getD 5 undef)) ?_ ?_
 ·rintro q a' w' ⟨n,hn,⟨rfl,i,hF,⟨o',s⟩,u1,u2,u3,u5,u6,u7,u8,u9,W,V,U,T,S,R,Q,P,O,N,M,L,K,J,I,G,F,E,D,rfl⟩|⟨rfl,out,xs,o',hI,u2,u3,u7,u8,u9,W,V,U,T,S,R,Q,P,O,N,M,L,K,J,I,G,F,E,D,rfl⟩⟩
  ·refine⟨_,rfl,?_⟩
   obtain⟨a,bad,k0,k1,k2,z1,z2,_,_,_⟩:=s.cells
   have Z:=tt s
   have HF:=tt hF
   have aa:=tt i
   clear s hF i hn k0 k1 z1
   go_wp2_with fail
   go_ret
   obtain⟨f1,f2⟩:=Z.out.fail
   obtain⟨q1,q2⟩:=Psp.eC aa.out
   exact⟨_,[],rfl,nil_V _ _,q2 _,by rw[q1];exact f1,HF.out.trans f2 fun k hk=>Or.inl hk⟩
  ·refine⟨_,rfl,?_⟩
   obtain⟨A5,c5,e5,_,_,_⟩:=ao hI.own
   subst e5
   obtain⟨a,bad,k0,k1,k2,z1,z2,_,hs,hnn⟩:=hI.rs.cells
   have y:=hI.le
   have B:=hI.n256
   have HI:=tt hI
   have Hn:=tt hn
   cases o' with
   |none=>
    have j:=hnn rfl
    subst j
    have A:o.bind (Psp.dL Psp.dV b)=none:=by
     rw[Psp.fK Hn.out (by omega),Int.toNat_natCast]
     exact HI.out.many.no rfl
    have ac:=tt A
    clear hI hn hs hnn A k0 k1 z1
    go_wp2_with fail
    go_step3
    exact⟨⟨n,Hn.out,.inl ⟨rfl,ac.out,HI.out.fp,⟨_,HI.out.rs⟩,_,_,_,_,_,_,_,_,_,_,_,_,_,_,_,_,_,_,_,_,_,_,_,_,_,_,_,rfl⟩⟩,by simp[lenOf];omega⟩
   |some p=>
    obtain⟨X,j⟩:=hs p rfl
    subst X j
    clear hI hn hs hnn k0 k1 z1
    by_cases hk:xs.length=n
    ·have hkb:((xs.length:Int)==(n:Int))=true:=by simp;omega
     have hd:=Psp.fb ((Psp.fK (d:=Psp.dV) Hn.out (by omega)).trans (by rw[Int.toNat_natCast];exact HI.out.many.done hk))
     have Hd:=tt hd
     obtain⟨m,hm⟩:∃m,xs.length=m:=⟨_,rfl⟩
     have r:RdV w' (fun k=>w.heap.size≤k) (.slice A5 m c5) (xs):=by rw[←hm];exact (RdP.of_own HI.out.own).mono fun b _ hb=>hb.2
     have C:=tt r
     clear r
     have Hm:=tt hm
     rw[hm] at hkb
     rw[hm]
     clear hd hk hm y
     go_wp2_with fail
     go_ret
     exact⟨_,_,rfl,C.out,Hd.out.2,by rw[Hd.out.1];exact HI.out.rs,HI.out.fp⟩
    ·have hkb:((xs.length:Int)==(n:Int))=false:=by simp;omega
     have hlt:xs.length < n:=by omega
     have hz:=HI.out.fp.size
     obtain⟨m,hm⟩:∃m,xs.length=m:=⟨_,rfl⟩
     have Hm:=tt hm
     rw[hm] at hkb hlt HI
     rw[hm]
     clear hk hm y
     go_wp2_with fail
     refine (qs b x g _ _ (HX.out.fp HI.out.fp (fun k hk=>hk)) HI.out.rs).mono ?_
     rintro e w1 ⟨t,rfl,h3,h4,h5⟩
     have ad:=h5.size
     have f:w1.ownsRow w.heap.size 166 2 (.slice A5 m c5) m (xs.flatMap vt):=by have h:=HI.out.own;rw[Hm.out] at h;exact ar h fun b hb=>h5.block b (HI.out.own.lt b hb).2 (by have:=(HI.out.own.lt b hb).1;omega)
     have l:=tt f
     have H3:=tt h3
     have H4:=tt h4
     have H5:=tt h5
     clear f h3 h4 h5
     go_wp2_with (first|(refine cu rfl 52 (.tmp 23) rfl 166 (vt t) rfl Tryz.underlying52 (rm t) (by simp[vt]) (by simp[vt]) ?_)|(at_builtin;refine aW votE rfl _ _ rfl w.heap.size _ m _ rfl l.out (vt t).toArray rfl rfl (by simp[vt,iv,Value.oneCell']) (by omega) (by decide) (by omega) ?_;intro v' w2 c z hb2 u;have HN:=tt (TInvV.next HI.out Hm.out hlt H3.out H4.out H5.out hg l.out c z u);clear c z hb2 u;obtain⟨A6,c6,e6,_,_,_⟩:=ao HN.out.own;have E6:=tt e6;clear e6))
     go_step3
     refine⟨⟨n,Hn.out,.inr ⟨rfl,_,_,_,HN.out,_,_,_,_,_,_,_,_,_,_,_,_,_,_,_,_,_,_,_,_,_,_,_,_,rfl⟩⟩,?_⟩
     show 300 - lenOf _ < 300 - _
     rw[show lenOf _=m+1 from by rw[E6.out];simp[lenOf,Hm.out]]
     show 300 - (m+1) < 300 - m
     omega
 ·intro H
  have HH:=tt H
  clear H
  go_wp2_with fail
  refine (bH b x g o _ (fun k=>k≠g) HX.out HR.out).mono ?_
  rintro e w1 ⟨n0,rfl,h1,h2,h3,h4,h5⟩
  obtain⟨n,rfl⟩:∃n:Nat,n0=(n:Int):=⟨n0.toNat,by omega⟩
  have H3:=tt h3
  have H4:=tt h4
  have H5:=tt h5
  clear h3 h4 h5
  by_cases B:256 < n
  ·have d1:decide (256 < (n:Int))=true:=by simp;omega
   go_wp2_with fail
   go_step3
   exact⟨n,H3.out,.inl ⟨rfl,Psp.gG H3.out (by omega),H5.out,⟨_,H4.out⟩,_,_,_,_,_,_,_,_,_,_,_,_,_,_,_,_,_,_,_,_,_,_,_,_,_,_,_,rfl⟩⟩
  ·have d1:decide (256 < (n:Int))=false:=by simp;omega
   have v:TInvV b x g o (Psp.nxt dN b o) n w w1 (.slice none 0 0) [] (Psp.nxt dN b o):=⟨by omega,by simp,World.ownsRow_nil _ _ _ _,Psp.Many.start,H4.out,H5.out⟩
   have Y:=tt v
   clear v
   go_wp2_with fail
   go_step3
   simp only[Exit.then]
   rename_i hK
   refine hK _ _ (HH.out 1 _ _ ⟨n,H3.out,.inr ⟨rfl,_,_,_,Y.out,_,_,_,_,_,_,_,_,_,_,_,_,_,_,_,_,_,_,_,_,_,_,_,_,rfl⟩⟩ _ rfl)
structure TInvR (b:List UInt8) (x:Value) (g:Nat) (o o1:Option Int) (n:Nat) (w w':World) (out:Value) (xs:List Psp.Req) (o':Option Int):Prop where
 n256:n≤256
 le:xs.length≤n
 own:w'.ownsRow w.heap.size 42 6 out xs.length (xs.flatMap rq)
 many:Psp.Many Psp.dR b n o1 (xs) o'
 rs:Rs 215 w' g x o'
 fp:Fp (fun k=>k=g) w w'
def TJR (b:List UInt8) (x:Value) (g:Nat) (o o1:Option Int) (n:Nat) (w:World) (lab:Nat) (a':Act) (w':World):Prop:=
 (lab=0∧o.bind (Psp.dL Psp.dR b)=none∧Fp (fun k=>k=g) w w'∧(∃o',Rs 215 w' g x o')∧∃u1 u2 u3 u5 u6 u7 u8 u9 u10 u11 u12 u13 u14 u15 u16 u17 u18 u19 u20 u21 u22 u23 u24 u25 u26 u27 u28:Value,a'={tmps:=#[.pointer (some ⟨g,0,none⟩),u1,u2,u3,.slice none 0 0,u5,u6,u7,u8,u9,u10,u11,u12,u13,u14,u15,u16,u17,u18,u19,u20,u21,u22,u23,u24,u25,u26,u27,u28],defers:=[]})∨
 (lab=1∧∃(out:Value) (xs:List Psp.Req) (o':Option Int),TInvR b x g o o1 n w w' out xs o'∧∃u2 u3 u7 u8 u9 u10 u11 u12 u13 u14 u15 u16 u17 u18 u19 u20 u21 u22 u23 u24 u25 u26 u27 u28:Value,a'={tmps:=#[.pointer (some ⟨g,0,none⟩),.func (.func 118) #[] #[],u2,u3,.slice none 0 0,out,.int .i64 (n:Int),u7,u8,u9,u10,u11,u12,u13,u14,u15,u16,u17,u18,u19,u20,u21,u22,u23,u24,u25,u26,u27,u28],defers:=[]})
theorem TInvR.next {b:List UInt8} {x:Value} {g:Nat} {o o1:Option Int} {n m c5:Nat} {w w' w1 w2:World} {A5:Option Addr} {xs:List Psp.Req} {a:Int} {t:Psp.Req} {v':Value} (h:TInvR b x g o o1 n w w' (.slice A5 m c5) xs (some a))
 (hm:xs.length=m) (hlt:m < n) (h3:Psp.Is Psp.dR b (some a) t) (h4:Rs 215 w1 g x (Psp.nxt Psp.dR b (some a))) (h5:Fp (fun k=>k=g) w' w1) (hg:g < w.heap.size) (c:w1.ownsRow w.heap.size 42 6 (.slice A5 m c5) m (xs.flatMap rq))
 (d:w2.ownsRow w.heap.size 42 6 v' (m+1) (xs.flatMap rq++(rq t).toArray.toList)) (e:w1.grownBy w2 (Value.slice A5 m c5).ownBlock) (j:v'.ownBlock=(Value.slice A5 m c5).ownBlock∨v'.ownBlock=some (w1.heap.size+1)):
 TInvR b x g o o1 n w w2 v' (xs++[t]) (Psp.nxt Psp.dR b (some a)):=by
 have hz:=h.fp.size
 have i:=h5.size
 have f:(Value.slice A5 m c5).ownBlock≠some g:=fun he=>by have:=(c.lt g he).1;omega
 refine⟨h.n256,by rw[tH];simp;omega,?_,h.many.step (by omega) h3,h4.keep (e.block g (by omega) (fun he=>f he.symm)),(h.fp.trans h5 fun k hk=>Or.inl hk).grown e fun k hk=>Or.inr (c.lt k hk).1⟩
 rw[tH,List.flatMap_append,hm]
 simpa using d
theorem jq (b:List UInt8) (x:Value) (g:Nat) (o:Option Int) (w:World) (hx:RdP w (fun k=>k≠g) 1 x b.length (b.map bv)) (hR:Rs 215 w g x o):
 Calls Tryz.prog 150 #[.pointer (some ⟨g,0,none⟩),.func (.func 118) #[] #[]] w (gV 215 Psp.dR RdR b x g o w):=by
 have HX:=tt hx
 have HR:=tt hR
 have hg:=hR.lt
 clear hx hR
 go_enter Tryz.func150,Tryz.ntmps150
 go_wp2_with fail
 refine ce (fun q a' w'=>∃n:Nat,Psp.Is dN b o (n:Int)∧TJR b x g o (Psp.nxt dN b o) n w q a' w') (fun q a' _=>if q=0 then 0 else 300 - lenOf (a'.tmps.getD 5 undef)) ?_ ?_
 ·rintro q a' w' ⟨n,hn,⟨rfl,i,hF,⟨o',s⟩,u1,u2,u3,u5,u6,u7,u8,u9,W,V,U,T,S,R,Q,P,O,N,M,L,K,J,I,G,F,E,D,rfl⟩|⟨rfl,out,xs,o',hI,u2,u3,u7,u8,u9,W,V,U,T,S,R,Q,P,O,N,M,L,K,J,I,G,F,E,D,rfl⟩⟩
  ·refine⟨_,rfl,?_⟩
   obtain⟨a,bad,k0,k1,k2,z1,z2,_,_,_⟩:=s.cells
   have Z:=tt s
   have HF:=tt hF
   have aa:=tt i
   clear s hF i hn k0 k1 z1
   go_wp2_with fail
   go_ret
   obtain⟨f1,f2⟩:=Z.out.fail
   obtain⟨q1,q2⟩:=Psp.eC aa.out
   exact⟨_,[],rfl,nil_R _ _,q2 _,by rw[q1];exact f1,HF.out.trans f2 fun k hk=>Or.inl hk⟩
  ·refine⟨_,rfl,?_⟩
   obtain⟨A5,c5,e5,_,_,_⟩:=ao hI.own
   subst e5
   obtain⟨a,bad,k0,k1,k2,z1,z2,_,hs,hnn⟩:=hI.rs.cells
   have y:=hI.le
   have B:=hI.n256
   have HI:=tt hI
   have Hn:=tt hn
   cases o' with
   |none=>
    have j:=hnn rfl
    subst j
    have A:o.bind (Psp.dL Psp.dR b)=none:=by
     rw[Psp.fK Hn.out (by omega),Int.toNat_natCast]
     exact HI.out.many.no rfl
    have ac:=tt A
    clear hI hn hs hnn A k0 k1 z1
    go_wp2_with fail
    go_step3
    exact⟨⟨n,Hn.out,.inl ⟨rfl,ac.out,HI.out.fp,⟨_,HI.out.rs⟩,_,_,_,_,_,_,_,_,_,_,_,_,_,_,_,_,_,_,_,_,_,_,_,_,_,_,_,rfl⟩⟩,by simp[lenOf];omega⟩
   |some p=>
    obtain⟨X,j⟩:=hs p rfl
    subst X j
    clear hI hn hs hnn k0 k1 z1
    by_cases hk:xs.length=n
    ·have hkb:((xs.length:Int)==(n:Int))=true:=by simp;omega
     have hd:=Psp.fb ((Psp.fK (d:=Psp.dR) Hn.out (by omega)).trans (by rw[Int.toNat_natCast];exact HI.out.many.done hk))
     have Hd:=tt hd
     obtain⟨m,hm⟩:∃m,xs.length=m:=⟨_,rfl⟩
     have r:RdR w' (fun k=>w.heap.size≤k) (.slice A5 m c5) (xs):=by rw[←hm];exact (RdP.of_own HI.out.own).mono fun b _ hb=>hb.2
     have C:=tt r
     clear r
     have Hm:=tt hm
     rw[hm] at hkb
     rw[hm]
     clear hd hk hm y
     go_wp2_with fail
     go_ret
     exact⟨_,_,rfl,C.out,Hd.out.2,by rw[Hd.out.1];exact HI.out.rs,HI.out.fp⟩
    ·have hkb:((xs.length:Int)==(n:Int))=false:=by simp;omega
     have hlt:xs.length < n:=by omega
     have hz:=HI.out.fp.size
     obtain⟨m,hm⟩:∃m,xs.length=m:=⟨_,rfl⟩
     have Hm:=tt hm
     rw[hm] at hkb hlt HI
     rw[hm]
     clear hk hm y
     go_wp2_with fail
     refine (rS b x g _ _ (HX.out.fp HI.out.fp (fun k hk=>hk)) HI.out.rs).mono ?_
     rintro e w1 ⟨t,rfl,h3,h4,h5⟩
     have ad:=h5.size
     have f:w1.ownsRow w.heap.size 42 6 (.slice A5 m c5) m (xs.flatMap rq):=by have h:=HI.out.own;rw[Hm.out] at h;exact ar h fun b hb=>h5.block b (HI.out.own.lt b hb).2 (by have:=(HI.out.own.lt b hb).1;omega)
     have l:=tt f
     have H3:=tt h3
     have H4:=tt h4
     have H5:=tt h5
     clear f h3 h4 h5
     go_wp2_with (first|(refine cu rfl 51 (.tmp 23) rfl 42 (rq t) rfl Tryz.underlying51 (rp t) (by simp[rq]) (by simp[rq]) ?_)|(at_builtin;refine aW mU rfl _ _ rfl w.heap.size _ m _ rfl l.out (rq t).toArray rfl rfl (by simp[rq,iv,Value.oneCell']) (by omega) (by decide) (by omega) ?_;intro v' w2 c z hb2 u;have HN:=tt (TInvR.next HI.out Hm.out hlt H3.out H4.out H5.out hg l.out c z u);clear c z hb2 u;obtain⟨A6,c6,e6,_,_,_⟩:=ao HN.out.own;have E6:=tt e6;clear e6))
     go_step3
     refine⟨⟨n,Hn.out,.inr ⟨rfl,_,_,_,HN.out,_,_,_,_,_,_,_,_,_,_,_,_,_,_,_,_,_,_,_,_,_,_,_,_,rfl⟩⟩,?_⟩
     show 300 - lenOf _ < 300 - _
     rw[show lenOf _=m+1 from by rw[E6.out];simp[lenOf,Hm.out]]
     show 300 - (m+1) < 300 - m
     omega
 ·intro H
  have HH:=tt H
  clear H
  go_wp2_with fail
  refine (bH b x g o _ (fun k=>k≠g) HX.out HR.out).mono ?_
  rintro e w1 ⟨n0,rfl,h1,h2,h3,h4,h5⟩
  obtain⟨n,rfl⟩:∃n:Nat,n0=(n:Int):=⟨n0.toNat,by omega⟩
  have H3:=tt h3
  have H4:=tt h4
  have H5:=tt h5
  clear h3 h4 h5
  by_cases B:256 < n
  ·have d1:decide (256 < (n:Int))=true:=by simp;omega
   go_wp2_with fail
   go_step3
   exact⟨n,H3.out,.inl ⟨rfl,Psp.gG H3.out (by omega),H5.out,⟨_,H4.out⟩,_,_,_,_,_,_,_,_,_,_,_,_,_,_,_,_,_,_,_,_,_,_,_,_,_,_,_,rfl⟩⟩
  ·have d1:decide (256 < (n:Int))=false:=by simp;omega
   have v:TInvR b x g o (Psp.nxt dN b o) n w w1 (.slice none 0 0) [] (Psp.nxt dN b o):=⟨by omega,by simp,World.ownsRow_nil _ _ _ _,Psp.Many.start,H4.out,H5.out⟩
   have Y:=tt v
   clear v
   go_wp2_with fail
   go_step3
   simp only[Exit.then]
   rename_i hK
   refine hK _ _ (HH.out 1 _ _ ⟨n,H3.out,.inr ⟨rfl,_,_,_,Y.out,_,_,_,_,_,_,_,_,_,_,_,_,_,_,_,_,_,_,_,_,_,_,_,_,rfl⟩⟩ _ rfl)
end Go.Proofs.YtipmjleohadoeaaGreat
end
end
