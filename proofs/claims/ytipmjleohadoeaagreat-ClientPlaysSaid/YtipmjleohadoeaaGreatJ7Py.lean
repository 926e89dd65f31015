import Derived.Test.YtipmjleohadoeaaGreatJ6Py
import Derived.Deep.QuietTactic
import Derived.Deep.RegionHeld3
import Derived.Test.YtipmjleohadoeaaGreatJ5Py
set_option maxRecDepth 100000
set_option maxHeartbeats 16000000
set_option linter.unusedVariables false
set_option linter.unusedSimpArgs false
section
namespace Go.Proofs.YtipmjleohadoeaaGreat
open Go.RowKit
theorem pL (c:Psp.Cert) (vb vo:Value) (f cl:Int) (w:World) (P:Nat→Prop) (hx:CertOk w P ⟨c,vb,vo⟩) (hw:∀v∈c.o,ea v):
 Calls Tryz.prog 96 #[.agg #[.int .i64 f,.int .i64 cl],.agg #[.int .i64 c.v,.int .i64 c.i,.int .i64 c.q,vb,vo]] w fun e w'=>e= .returned (.bool (Psp.cT c f cl))∧Below w.heap.size w w':=by
 obtain⟨_,A1,c1,e1,_⟩:=RdP.parts hx.1
 obtain⟨_,A2,c2,e2,_⟩:=RdP.parts hx.2
 dsimp only at e1 e2
 subst e1 e2
 have HX:=tt hx
 have Hw:=tt hw
 obtain⟨W0,hW0⟩:∃W0,(w.alloc (.cells #[.int .i64 f,.int .i64 cl] 153)).alloc (.cells #[.int .i64 c.v,.int .i64 c.i,.int .i64 c.q,.slice A1 c.b.length c1,.slice A2 c.o.length c2] 162)=W0:=⟨_,rfl⟩
 have k:=(Lk.new w f cl).below (ae _ (.cells #[.int .i64 c.v,.int .i64 c.i,.int .i64 c.q,.slice A1 c.b.length c1,.slice A2 c.o.length c2] 162))
 have h:=tL (w.alloc (.cells #[.int .i64 f,.int .i64 cl] 153)) (.cells #[.int .i64 c.v,.int .i64 c.i,.int .i64 c.q,.slice A1 c.b.length c1,.slice A2 c.o.length c2] 162)
 rw[hW0] at k h
 rw[show (w.alloc (.cells #[.int .i64 f,.int .i64 cl] 153)).heap.size=w.heap.size+1 by simp] at h
 have l:=tt k
 have a:=tt h
 clear hx hw k h
 obtain⟨b1,hb1⟩:∃x,Psp.cH c.v c.i c.q f=x:=⟨_,rfl⟩
 obtain⟨b2,hb2⟩:∃x,Psp.bn c.b cl 0 4=x:=⟨_,rfl⟩
 obtain⟨b3,hb3⟩:∃x,Psp.ed c.o f=x:=⟨_,rfl⟩
 have Hr:Hid (Psp.cT c f cl=(b1&&(b2&&b3))):=tt (by unfold Psp.cT;rw[hb1,hb2,hb3])
 go_enter Tryz.func96,Tryz.ntmps96
 have x0:W0.cell? ⟨w.heap.size+1,0,none⟩=some (.int .i64 c.v):=by rw[cell_of_row _ _ 0 _ _ _ a.out];rfl
 have x1:W0.cell? ⟨w.heap.size+1,1,none⟩=some (.int .i64 c.i):=by rw[cell_of_row _ _ 1 _ _ _ a.out];rfl
 have x2:W0.cell? ⟨w.heap.size+1,2,none⟩=some (.int .i64 c.q):=by rw[cell_of_row _ _ 2 _ _ _ a.out];rfl
 obtain⟨k0,k1⟩:=l.out.cells
 go_wp2_with fail
 clear hW0 x0 x1 x2 k0 k1
 refine (fx c.v c.i c.q f cl W0).mono ?_
 rw[hb1]
 rintro e w1 ⟨rfl,hb⟩
 have g:=tt (l.out.below hb)
 have j:=tt ((hb.block _ (tz a.out).1).trans a.out)
 clear hb l a
 cases b1 with
 |false=>
  go_wp2_with fail
  go_ret
  exact⟨by rw[Hr.out];rfl,g.out.be⟩
 |true=>
  have kc:w1.cell? ⟨w.heap.size+1,3,none⟩=some (.slice A1 c.b.length c1):=by rw[cell_of_row _ _ 3 _ _ _ j.out];rfl
  obtain⟨k0,k1⟩:=g.out.cells
  go_wp2_with fail
  refine (fD c.b c.b.length (.slice A1 c.b.length c1) f cl 0 4 w1 _ (HX.out.1.keeps (Keeps.below g.out.be)) rfl).mono ?_
  rw[hb2]
  rintro e w2 ⟨rfl,hb⟩
  have d:=tt (g.out.below hb)
  have m:=tt ((hb.block _ (tz j.out).1).trans j.out)
  clear hb g j kc k0 k1
  cases b2 with
  |false=>
   go_wp2_with fail
   go_ret
   exact⟨by rw[Hr.out];rfl,d.out.be⟩
  |true=>
   have kc:w2.cell? ⟨w.heap.size+1,4,none⟩=some (.slice A2 c.o.length c2):=by rw[cell_of_row _ _ 4 _ _ _ m.out];rfl
   obtain⟨k0,k1⟩:=d.out.cells
   go_wp2_with fail
   refine (lJ c.o c.o.length (.slice A2 c.o.length c2) f cl w2 _ (HX.out.2.keeps (Keeps.below d.out.be)) rfl Hw.out).mono ?_
   rw[hb3]
   rintro e w3 ⟨rfl,hb⟩
   have n:=tt (d.out.below hb)
   clear hb d m kc k0 k1
   go_wp2_with fail
   go_ret
   exact⟨by rw[Hr.out];rfl,n.out.be⟩
theorem eT {view f cl:Int} {l:List Psp.Cert} {k:Nat} {x:Psp.Cert} (hx:l[k]? =some x) (h:(Psp.cT x f cl&&decide (x.v < view))=false):Psp.dG view l f cl=false:=by
 unfold Psp.dG
 rw[Psp.eU (p:=fun c=>Psp.cT c f cl&&decide (c.v < view)) hx h];rfl
theorem eD {view f cl:Int} {l:List Psp.Cert} {k:Nat} {x y:Psp.Cert} (hx:l[k]? =some x) (hy:l[k+1]? =some y) (h:Psp.ltC x y=false):Psp.dG view l f cl=false:=by
 unfold Psp.dG
 have:Psp.upC l=false:=by
  cases hu:Psp.upC l with
  |false=>rfl
  |true=>rw[(Psp.jJ l).1 hu k x y hx hy] at h;cases h
 rw[this,Bool.and_false]
theorem iS {view f cl:Int} {l:List Psp.Cert} (h1:∀(j:Nat) (x:Psp.Cert),l[j]? =some x→(Psp.cT x f cl&&decide (x.v < view))=true) (h2:∀(j:Nat) (x y:Psp.Cert),l[j]? =some x→l[j+1]? =some y→Psp.ltC x y=true):Psp.dG view l f cl=true:=by
 unfold Psp.dG
 rw[Psp.eu (p:=fun c=>Psp.cT c f cl&&decide (c.v < view)) fun k _ x hx=>h1 k x hx,(Psp.jJ l).2 h2];rfl
theorem dQ {α β:Type} {g:α→β} {L:List α} {j:Nat} {y:α} (h:L[j]? =some y):(L.map g)[j]? =some (g y):=by rw[List.getElem?_map,h];rfl
theorem kN (view:Int) (lo:List Psp.Vote) (lc:List Psp.Cert) (vo vc:Value) (f cl:Int) (w:World) (P:Nat→Prop) (hx:RdV w P vo lo) (hc:RdC w P vc lc) (hw:∀v∈lo,ea v) (I:∀c∈lc,ig c):
 Calls Tryz.prog 94 #[.agg #[.int .i64 f,.int .i64 cl],.int .i64 view,vo,vc] w fun e w'=>e= .returned (.bool (Psp.cx view lo lc f cl))∧Below w.heap.size w w':=by
 obtain⟨L,hL,hr,M⟩:=hc
 obtain⟨n,hn⟩:∃n,L.length=n:=⟨_,rfl⟩
 rw[hn] at hr
 obtain⟨_,Ac,cc,rfl,X,W,_⟩:=hr.parts
 obtain⟨_,Ao,co,rfl,_⟩:=RdP.parts (show RdP _ _ 2 vo lo.length (lo.flatMap vt) from hx)
 have HX:=tt hx
 have HR:=tt hr
 have V:=tt M
 have Hn:=tt hn
 have s:=tt hL
 have Hw:=tt hw
 have U:=tt I
 have HL:=tt (Lk.new w f cl)
 obtain⟨b1,hb1⟩:∃x,Psp.win view 1 12=x:=⟨_,rfl⟩
 obtain⟨b2,hb2⟩:∃x,Psp.ed lo f=x:=⟨_,rfl⟩
 have Hr:Hid (Psp.cx view lo lc f cl=(b1&&(b2&&Psp.dG view lc f cl))):=tt (by unfold Psp.cx;rw[hb1,hb2])
 clear hx hr M hn hL hw I
 go_enter Tryz.func94,Tryz.ntmps94
 go_wp2_with fail
 refine (br view 1 12 _).mono ?_
 rw[hb1]
 rintro e w1 ⟨rfl,rfl⟩
 cases b1 with
 |false=>
  go_wp2_with fail
  go_ret
  exact⟨by rw[Hr.out];rfl,HL.out.be⟩
 |true=>
  go_wp2_with fail
  refine (lJ lo lo.length (.slice Ao lo.length co) f cl _ _ (RdP.keeps HX.out (Keeps.below HL.out.be)) rfl Hw.out).mono ?_
  rw[hb2]
  rintro e w2 ⟨rfl,hb⟩
  replace HL:=tt (HL.out.below hb)
  clear hb hb1 hb2
  cases b2 with
  |false=>
   go_wp2_with fail
   go_ret
   exact⟨by rw[Hr.out];rfl,HL.out.be⟩
  |true=>
   go_wp2_with fail
   go_loopw [22] (fun i wr=>∃k:Nat,i= .int .i64 (k:Int)∧k≤n∧Hid (∀(j:Nat) (y:Psp.Cert),j < k→lc[j]? =some y→(Psp.cT y f cl&&decide (y.v < view))=true)∧Hid (∀(j:Nat) (x y:Psp.Cert),j+1 < k→lc[j]? =some x→lc[j+1]? =some y→Psp.ltC x y=true)∧Hid (Lk w wr f cl)) (fun i _=>n - (intOf i).toNat)
   case atStart=>exact⟨0,rfl,Nat.zero_le _,tt fun j y hj=>by omega,tt fun j x y hj=>by omega,HL⟩
   case round=>
    clear HL
    obtain⟨k,rfl,hk,HI,HJ,HL⟩:=hrel
    by_cases hlt:k < n
    ·obtain⟨b0,o0,c0,y,he,hb0,hb1,hy,d⟩:=cw (f:=cv) (k:=5) (fun _=>rfl) (by omega) HR.out Hn.out hlt
     injection he with h _ E
     subst h E
     have r:=V.out y (List.mem_of_getElem? hy)
     obtain⟨cy,yb,yo⟩:=y
     obtain⟨_,A1,c1,e1,_⟩:=RdP.parts r.1
     obtain⟨_,A2,c2,e2,_⟩:=RdP.parts r.2
     dsimp only at e1 e2
     subst e1 e2
     have hq:wr.rangeAt b0 (o0+k * 5) [.int .i64 cy.v,.int .i64 cy.i,.int .i64 cy.q,.slice A1 cy.b.length c1,.slice A2 cy.o.length c2]:=d wr (HL.out.be.block b0 hb1)
     have HQ:=tt hq
     have C:lc[k]? =some cy:=by have:=dQ (g:=CertV.c) hy;rwa [s.out] at this
     have Hy:=tt C
     have R:=tt (show CertOk w P ⟨cy,.slice A1 cy.b.length c1,.slice A2 cy.o.length c2⟩ from r)
     have O:=tt (U.out cy (List.mem_of_getElem? C)).2.2.2.2
     have d1:decide ((k:Int) < (n:Int))=true:=by simp;omega
     clear d C r hq
     go_upto_region 6 with (first|(refine aA rfl 162 (.tmp 25) rfl b0 (o0+k * 5) rfl [.int .i64 cy.v,.int .i64 cy.i,.int .i64 cy.q,.slice A1 cy.b.length c1,.slice A2 cy.o.length c2] _ HQ.out Tryz.underlying162 rfl dI ?_)|(refine bj rfl 162 (.tmp 10) (.tmp 26) rfl _ _ [.int .i64 cy.v,.int .i64 cy.i,.int .i64 cy.q,.slice A1 cy.b.length c1,.slice A2 cy.o.length c2] rfl rfl rfl dI (by simp[Value.oneCell']) ?_;intro w1 N J hs1))
     have u:=tt (HL.out.below N)
     have G:=tt J
     obtain⟨k0,k1⟩:=u.out.cells
     have A:wr.heap.size < w1.heap.size:=by omega
     clear N J HQ hs1
     go_wp2_with (first|(refine aA rfl 162 (.tmp 10) rfl wr.heap.size 0 rfl [.int .i64 cy.v,.int .i64 cy.i,.int .i64 cy.q,.slice A1 cy.b.length c1,.slice A2 cy.o.length c2] _ G.out Tryz.underlying162 rfl dI ?_))
     refine (pL cy _ _ f cl w1 _ (R.out.keeps (Keeps.below u.out.be)) O.out).mono ?_
     obtain⟨sb,hsb⟩:∃sb,Psp.cT cy f cl=sb:=⟨_,rfl⟩
     rw[hsb]
     rintro e w2 ⟨rfl,hb2⟩
     have a:=tt (u.out.below hb2)
     have F:=tt (cM G.out (hb2.block _ A))
     have Q:=tt hsb
     clear hb2 u G k0 k1 A hsb R O
     cases sb with
     |false=>
      have Hf:=tt (eT (view:=view) Hy.out (by rw[Q.out];rfl))
      clear HI HJ
      go_wp2_with fail
      go_ret
      exact⟨by rw[Hr.out,Hf.out];rfl,a.out.be⟩
     |true=>
      have kv:w2.cell? ⟨wr.heap.size,0,none⟩=some (.int .i64 cy.v):=by have:=F.out 0 _ rfl;simpa using this
      by_cases hv:cy.v < view
      case' neg=>
       have dv:decide (cy.v≥view)=true:=by simp;omega
       have Hf:=tt (eT (view:=view) (f:=f) (cl:=cl) Hy.out (by rw[tA hv,Bool.and_false]))
       clear HI HJ hv
       go_wp2_with fail
       go_ret
       exact⟨by rw[Hr.out,Hf.out];rfl,a.out.be⟩
      case' pos=>
       have dv:decide (cy.v≥view)=false:=by simp;omega
       have ki:w2.cell? ⟨wr.heap.size,1,none⟩=some (.int .i64 cy.i):=by have:=F.out 1 _ rfl;simpa using this
       have kq:w2.cell? ⟨wr.heap.size,2,none⟩=some (.int .i64 cy.q):=by have:=F.out 2 _ rfl;simpa using this
       have H:Hid (∀(j:Nat) (z:Psp.Cert),j < k+1→lc[j]? =some z→(Psp.cT z f cl&&decide (z.v < view))=true):=tt fun j z hj hz=>by
        by_cases he:j=k
        ·subst he;have e1:=Hy.out.symm.trans hz;injection e1 with e1;subst e1;rw[Q.out,tB hv];rfl
        ·exact HI.out j z (by omega) hz
       clear HI
       by_cases K:k=0
       ·subst K
        have d2:decide ((0:Int) < ((0:Nat):Int))=false:=by simp
        have m:Hid (∀(j:Nat) (x z:Psp.Cert),j+1 < 0+1→lc[j]? =some x→lc[j+1]? =some z→Psp.ltC x z=true):=tt fun j x z hj=>by omega
        clear HJ
        go_wp2_with fail
        go_quiet (fail)
        go_wp2_with fail
        go_roundw
        case rel=>exact⟨0+1,by go_num,by omega,H,m,(by first|exact a|exact tt (a.out.below (ak (Below.refl _ _) _)))⟩
        case measure=>simp[intOf];omega
       ·obtain⟨p,rfl⟩:∃p,k=p+1:=⟨k - 1,by omega⟩
        obtain⟨b3,o3,c3,z,he,_,_,hz,d⟩:=cw (f:=cv) (k:=5) (fun _=>rfl) (by omega) HR.out Hn.out (show p < n by omega)
        injection he with h _ E
        injection h with h
        injection h with T S
        subst T S E
        have D:=d w2 (a.out.be.block b0 hb1)
        have pi:w2.cell? ⟨b0,o0+p * 5+1,none⟩=some (.int .i64 z.c.i):=D 1 _ rfl
        have pq:w2.cell? ⟨b0,o0+p * 5+2,none⟩=some (.int .i64 z.c.q):=D 2 _ rfl
        have B:lc[p]? =some z.c:=by have:=dQ (g:=CertV.c) hz;rwa [s.out] at this
        obtain⟨cz,hcz⟩:∃cz,z.c=cz:=⟨_,rfl⟩
        rw[hcz] at pi pq B
        have Hz:=tt B
        have d2:decide ((0:Int) < ((p+1:Nat):Int))=true:=by rw[decide_eq_true_eq];omega
        have z1:((p+1:Nat):Int) - 1=(p:Int):=by omega
        clear d D hz B hcz K
        by_cases h1:cz.i > cy.i
        ·have d3:decide (cz.i > cy.i)=true:=tB h1
         have Hf:=tt (eD (view:=view) (f:=f) (cl:=cl) Hz.out Hy.out (by unfold Psp.ltC;rw[decide_eq_false_iff_not];omega))
         clear HJ
         go_wp2_with fail
         go_quiet (fail)
         go_wp2_with fail
         go_ret
         exact⟨by rw[Hr.out,Hf.out];rfl,by first|exact a.out.be|exact ak a.out.be _⟩
        ·have d3:decide (cz.i > cy.i)=false:=tA h1
         by_cases h2:cz.i=cy.i
         ·have d4:(cz.i==cy.i)=true:=beq_iff_eq.2 h2
          by_cases h3:cz.q≥cy.q
          ·have d5:decide (cz.q≥cy.q)=true:=tB h3
           have Hf:=tt (eD (view:=view) (f:=f) (cl:=cl) Hz.out Hy.out (by unfold Psp.ltC;rw[decide_eq_false_iff_not];omega))
           clear HJ
           go_wp2_with fail
           go_quiet (fail)
           go_wp2_with fail
           go_ret
           exact⟨by rw[Hr.out,Hf.out];rfl,by first|exact a.out.be|exact ak a.out.be _⟩
          ·have d5:decide (cz.q≥cy.q)=false:=tA h3
           have l:Hid (Psp.ltC cz cy=true):=tt (by unfold Psp.ltC;rw[decide_eq_true_eq];omega)
           have m:Hid (∀(j:Nat) (x t:Psp.Cert),j+1 < p+1+1→lc[j]? =some x→lc[j+1]? =some t→Psp.ltC x t=true):=tt fun j x t hj hx ht=>by
            by_cases he:j=p
            ·subst he
             have e1:=Hz.out.symm.trans hx
             have e2:=Hy.out.symm.trans ht
             injection e1 with e1
             injection e2 with e2
             subst e1 e2
             exact l.out
            ·exact HJ.out j x t (by omega) hx ht
           clear HJ l
           go_wp2_with fail
           go_quiet (fail)
           go_wp2_with fail
           go_roundw
           case rel=>exact⟨p+1+1,by go_num,by omega,H,m,(by first|exact a|exact tt (a.out.below (ak (Below.refl _ _) _)))⟩
           case measure=>simp[intOf];omega
         ·have d4:(cz.i==cy.i)=false:=beq_eq_false_iff_ne.2 h2
          have l:Hid (Psp.ltC cz cy=true):=tt (by unfold Psp.ltC;rw[decide_eq_true_eq];omega)
          have m:Hid (∀(j:Nat) (x t:Psp.Cert),j+1 < p+1+1→lc[j]? =some x→lc[j+1]? =some t→Psp.ltC x t=true):=tt fun j x t hj hx ht=>by
           by_cases he:j=p
           ·subst he
            have e1:=Hz.out.symm.trans hx
            have e2:=Hy.out.symm.trans ht
            injection e1 with e1
            injection e2 with e2
            subst e1 e2
            exact l.out
           ·exact HJ.out j x t (by omega) hx ht
          clear HJ l
          go_wp2_with fail
          go_quiet (fail)
          go_wp2_with fail
          go_roundw
          case rel=>exact⟨p+1+1,by go_num,by omega,H,m,(by first|exact a|exact tt (a.out.below (ak (Below.refl _ _) _)))⟩
          case measure=>simp[intOf];omega
    ·obtain rfl:k=n:=by omega
     have Hf:Hid (Psp.dG view lc f cl=true):=tt (iS (fun j x hx=>HI.out j x (by have:=(List.getElem?_eq_some_iff.1 hx).1;rw[←s.out,List.length_map,Hn.out] at this;exact this) hx) (fun j x y hx hy=>HJ.out j x y (by have:=(List.getElem?_eq_some_iff.1 hy).1;rw[←s.out,List.length_map,Hn.out] at this;exact this) hx hy))
     clear HI HJ
     go_wp2_with fail
     go_ret
     exact⟨by rw[Hr.out,Hf.out];rfl,HL.out.be⟩
theorem bh:(Tryz.prog.info? 153).map (·.size)=some 2:=by kernel_rfl
theorem Lk.range {w0 W:World} {f cl:Int} (h:Lk w0 W f cl):W.rangeAt w0.heap.size 0 [.int .i64 f,.int .i64 cl]:=fun j v hv=>by
 rw[Nat.zero_add,cell_of_row _ _ j _ _ _ h.box];simpa using hv
theorem bG {view f cl:Int} {l:List Psp.Part} {k:Nat} {x:Psp.Part} (hx:l[k]? =some x) (h:Psp.dJ view x f cl=false):Psp.cN view l f cl=false:=by
 unfold Psp.cN
 rw[Psp.eU (p:=fun c=>Psp.dJ view c f cl) hx h,Bool.false_and,Bool.and_false]
theorem gP {view f cl:Int} {l:List Psp.Part} {k:Nat} {x y:Psp.Part} (hx:l[k]? =some x) (hy:l[k+1]? =some y) (h:¬x.f < y.f):Psp.cN view l f cl=false:=by
 unfold Psp.cN
 have:Psp.upP l=false:=by
  cases hu:Psp.upP l with
  |false=>rfl
  |true=>exact absurd ((Psp.jI l).1 hu k x y hx hy) h
 rw[this,Bool.and_false,Bool.and_false]
theorem iB {view f cl:Int} {l:List Psp.Part} (h0:(l.length:Int)=Psp.bU f) (h1:∀(j:Nat) (x:Psp.Part),l[j]? =some x→Psp.dJ view x f cl=true) (h2:∀(j:Nat) (x y:Psp.Part),l[j]? =some x→l[j+1]? =some y→x.f < y.f):Psp.cN view l f cl=true:=by
 unfold Psp.cN
 rw[tB h0,Psp.eu (p:=fun c=>Psp.dJ view c f cl) fun k _ x hx=>h1 k x hx,(Psp.jI l).2 h2];rfl
theorem qv (view:Int) (l:List Psp.Part) (vp:Value) (f cl:Int) (w:World) (P:Nat→Prop) (hc:RdA w P vp l) (T:∀c∈l,jH c):
 Calls Tryz.prog 95 #[.agg #[.int .i64 f,.int .i64 cl],.int .i64 view,vp] w fun e w'=>e= .returned (.bool (Psp.cN view l f cl))∧Below w.heap.size w w':=by
 obtain⟨L,hL,hr,Z⟩:=hc
 obtain⟨n,hn⟩:∃n,L.length=n:=⟨_,rfl⟩
 rw[hn] at hr
 obtain⟨_,Ac,cc,rfl,a6,a5,_⟩:=hr.parts
 have HR:=tt hr
 have a4:=tt Z
 have Hn:=tt hn
 have ad:=tt hL
 have a2:=tt T
 have HL:=tt (Lk.new w f cl)
 have G:Hid (l.length=n):=tt (by rw[←hL,List.length_map,hn])
 obtain⟨q,hq⟩:∃q,Psp.bU f=q:=⟨_,rfl⟩
 obtain⟨al,af⟩:=Psp.fu f
 rw[hq] at al af
 have hbq:=dT f
 rw[hq] at hbq
 have HB:=tt hbq
 have Hq:=tt hq
 clear hr Z hn hL T hq hbq
 go_enter Tryz.func95,Tryz.ntmps95
 go_wp2_with fail
 refine (HB.out _).mono ?_
 rintro e w1 ⟨rfl,rfl⟩
 by_cases C:(n:Int)=q
 case' neg=>
  have d0:((n:Int) != q)=true:=by rw[bne_iff_ne];exact C
  have Hf:Hid (Psp.cN view l f cl=false):=tt (by unfold Psp.cN;rw[tA (by rw[G.out,Hq.out];exact C)];rfl)
  go_wp2_with fail
  go_ret
  exact⟨by rw[Hf.out];rfl,HL.out.be⟩
 have d0:((n:Int) != q)=false:=by rw[C];simp
 have a3:=tt C
 clear C
 go_wp2_with fail
 clear d0
 go_loopw [17] (fun i wr=>∃k:Nat,i= .int .i64 (k:Int)∧k≤n∧Hid (∀(j:Nat) (y:Psp.Part),j < k→l[j]? =some y→Psp.dJ view y f cl=true)∧Hid (∀(j:Nat) (x y:Psp.Part),j+1 < k→l[j]? =some x→l[j+1]? =some y→x.f < y.f)∧Hid (Lk w wr f cl)) (fun i _=>n - (intOf i).toNat)
 case atStart=>exact⟨0,rfl,Nat.zero_le _,tt fun j y hj=>by omega,tt fun j x y hj=>by omega,HL⟩
 case round=>
  clear HL
  obtain⟨k,rfl,hk,HI,HJ,HL⟩:=hrel
  by_cases hlt:k < n
  ·obtain⟨b0,o0,c0,y,he,hb0,hb1,hy,D⟩:=cw (f:=pv) (k:=4) (fun _=>rfl) (by omega) HR.out Hn.out hlt
   injection he with E _ M
   subst E M
   have F:=a4.out y (List.mem_of_getElem? hy)
   obtain⟨py,yo,yc⟩:=y
   obtain⟨_,A1,c1,e1,_⟩:=RdP.parts F.1
   obtain⟨Lc,X,J,V⟩:=F.2
   obtain⟨_,A2,c2,e2,_⟩:=RdP.parts J
   dsimp only at e1 e2
   subst e1 e2
   have hq:wr.rangeAt b0 (o0+k * 4) [.int .i64 py.f,.slice A1 py.o.length c1,.slice A2 Lc.length c2,.int .i64 py.s]:=D wr (HL.out.be.block b0 hb1)
   have HQ:=tt hq
   have I:l[k]? =some py:=by have:=dQ (g:=PartV.p) hy;rwa [ad.out] at this
   have Hy:=tt I
   have O:=tt (show RdV w P (.slice A1 py.o.length c1) py.o∧RdC w P (.slice A2 Lc.length c2) py.c from⟨F.1,⟨Lc,X,J,V⟩⟩)
   have S:=a2.out py (List.mem_of_getElem? I)
   have N:=tt S
   have d1:decide ((k:Int) < (n:Int))=true:=by simp;omega
   clear D I F hq X J V S
   go_upto_region 6 with (first|(refine aA rfl 168 (.tmp 20) rfl b0 (o0+k * 4) rfl [.int .i64 py.f,.slice A1 py.o.length c1,.slice A2 Lc.length c2,.int .i64 py.s] _ HQ.out Tryz.underlying168 rfl fa ?_)|(refine bj rfl 168 (.tmp 8) (.tmp 21) rfl _ _ [.int .i64 py.f,.slice A1 py.o.length c1,.slice A2 Lc.length c2,.int .i64 py.s] rfl rfl rfl fa (by simp[Value.oneCell']) ?_;intro w1 aa B hs1))
   have u:=tt (HL.out.below aa)
   have k0:=ab u.out.cells.1
   have k1:=ab u.out.cells.2
   have v:Hid (∀w':World,(∃p:Later w1,w'=p.W)→w'.rangeAt w.heap.size 0 [.int .i64 f,.int .i64 cl]):=tt (by rintro w' ⟨p,rfl⟩;exact (u.out.below p.h).range)
   have x0:=ab (show w1.cell? ⟨wr.heap.size,0,none⟩=some (.int .i64 py.f) by have:=B 0 _ rfl;simpa using this)
   have x1:=ab (show w1.cell? ⟨wr.heap.size,1,none⟩=some (.slice A1 py.o.length c1) by have:=B 1 _ rfl;simpa using this)
   have x2:=ab (show w1.cell? ⟨wr.heap.size,2,none⟩=some (.slice A2 Lc.length c2) by have:=B 2 _ rfl;simpa using this)
   have x3:=ab (show w1.cell? ⟨wr.heap.size,3,none⟩=some (.int .i64 py.s) by have:=B 3 _ rfl;simpa using this)
   obtain⟨nb,hnb⟩:∃x,Psp.bB py.f f=x:=⟨_,rfl⟩
   obtain⟨sb,hsb⟩:∃x,Psp.eA py.s=x:=⟨_,rfl⟩
   obtain⟨cb,hcb⟩:∃x,Psp.cx view py.o py.c f cl=x:=⟨_,rfl⟩
   have d:Hid (∀p:Later w1,Calls Tryz.prog 90 #[.agg #[.int .i64 f,.int .i64 cl],.int .i64 py.f] p.W fun e w'=>e= .returned (.bool nb)∧Below p.W.heap.size p.W w'):=tt fun p=>by rw[←hnb];exact cC _ _ _ _
   have b:Hid (∀p:Later w1,Calls Tryz.prog 93 #[.int .i64 py.s,.int .i64 0,.int .i64 1099511627775] p.W fun e w'=>e= .returned (.bool sb)∧p.W=w'):=tt fun p=>by rw[←hsb];exact br _ _ _ _
   have m:Hid (∀p:Later w1,Calls Tryz.prog 94 #[.agg #[.int .i64 f,.int .i64 cl],.int .i64 view,.slice A1 py.o.length c1,.slice A2 Lc.length c2] p.W fun e w'=>e= .returned (.bool cb)∧Below p.W.heap.size p.W w'):=tt fun p=>by
    rw[←hcb]
    have hb:=(u.out.below p.h).be
    exact kN view py.o py.c _ _ f cl p.W P (RdV.keeps' O.out.1 (Keeps.below hb)) (O.out.2.keeps (Keeps.below hb)) N.out.2.1 N.out.2.2.1
   have A:Hid (Psp.dJ view py f cl=(nb&&(sb&&cb))):=tt (by unfold Psp.dJ;rw[hnb,hsb,hcb])
   clear aa B HQ hs1 hnb hsb hcb O N HL
   by_cases Y:k=0
   ·subst Y
    have d2:decide ((0:Int) < ((0:Nat):Int))=false:=by simp
    have Q:Hid (∀(j:Nat) (x y:Psp.Part),j+1 < 0+1→l[j]? =some x→l[j+1]? =some y→x.f < y.f):=tt fun j x z hj=>by omega
    clear HJ
    cases nb with
    |false=>
     have Hf:=tt (bG (view:=view) Hy.out A.out)
     refine ai (by kernel_rfl) (by kernel_rfl) ?_
     repeat (first|go_big_quiet_step (first|(go_at_call 90;exact ag _ (d.out _))|(go_at_call 93;exact ah _ (b.out _))|(go_at_call 94;exact ag _ (m.out _)))|(refine aj (by simp[Region.wanted,yielded]) 153 (.tmp 3) (by rfl) w.heap.size (0) (by rfl) [.int .i64 f,.int .i64 cl] _ v.out Tryz.underlying153 rfl bh ?_;intro K hK;go_simp;refine hK _ ?_;clear hK K)|quiet_step (first|(go_at_call 90;exact ag _ (d.out _))|(go_at_call 93;exact ah _ (b.out _))|(go_at_call 94;exact ag _ (m.out _))))
     refine wpQuiet_nil ?_
     intro w2 a
     obtain⟨⟨wq,hbq⟩,a⟩:=a
     have hb2:Below w1.heap.size w1 w2:=by rw[a];exact hbq
     clear a hbq
     have r:=tt (u.out.below hb2)
     clear hb2
     go_wp2_with fail
     go_ret
     exact⟨by rw[Hf.out];rfl,r.out.be⟩
    |true=>
     cases sb with
     |false=>
      have Hf:=tt (bG (view:=view) Hy.out A.out)
      refine ai (by kernel_rfl) (by kernel_rfl) ?_
      repeat (first|go_big_quiet_step (first|(go_at_call 90;exact ag _ (d.out _))|(go_at_call 93;exact ah _ (b.out _))|(go_at_call 94;exact ag _ (m.out _)))|(refine aj (by simp[Region.wanted,yielded]) 153 (.tmp 3) (by rfl) w.heap.size (0) (by rfl) [.int .i64 f,.int .i64 cl] _ v.out Tryz.underlying153 rfl bh ?_;intro K hK;go_simp;refine hK _ ?_;clear hK K)|quiet_step (first|(go_at_call 90;exact ag _ (d.out _))|(go_at_call 93;exact ah _ (b.out _))|(go_at_call 94;exact ag _ (m.out _))))
      refine wpQuiet_nil ?_
      intro w2 a
      obtain⟨⟨wq,hbq⟩,a⟩:=a
      have hb2:Below w1.heap.size w1 w2:=by rw[a];exact hbq
      clear a hbq
      have r:=tt (u.out.below hb2)
      clear hb2
      go_wp2_with fail
      go_ret
      exact⟨by rw[Hf.out];rfl,r.out.be⟩
     |true=>
      cases cb with
      |false=>
       have Hf:=tt (bG (view:=view) Hy.out A.out)
       refine ai (by kernel_rfl) (by kernel_rfl) ?_
       repeat (first|go_big_quiet_step (first|(go_at_call 90;exact ag _ (d.out _))|(go_at_call 93;exact ah _ (b.out _))|(go_at_call 94;exact ag _ (m.out _)))|(refine aj (by simp[Region.wanted,yielded]) 153 (.tmp 3) (by rfl) w.heap.size (0) (by rfl) [.int .i64 f,.int .i64 cl] _ v.out Tryz.underlying153 rfl bh ?_;intro K hK;go_simp;refine hK _ ?_;clear hK K)|quiet_step (first|(go_at_call 90;exact ag _ (d.out _))|(go_at_call 93;exact ah _ (b.out _))|(go_at_call 94;exact ag _ (m.out _))))
       refine wpQuiet_nil ?_
       intro w2 a
       obtain⟨⟨wq,hbq⟩,a⟩:=a
       have hb2:Below w1.heap.size w1 w2:=by rw[a];exact hbq
       clear a hbq
       have r:=tt (u.out.below hb2)
       clear hb2
       go_wp2_with fail
       go_ret
       exact⟨by rw[Hf.out];rfl,r.out.be⟩
      |true=>
       have R:Hid (∀(j:Nat) (z:Psp.Part),j < 0+1→l[j]? =some z→Psp.dJ view z f cl=true):=tt fun j z hj hz=>by
        by_cases he:j=0
        ·subst he;have e1:=Hy.out.symm.trans hz;injection e1 with e1;subst e1;exact A.out
        ·exact HI.out j z (by omega) hz
       clear HI
       refine ai (by kernel_rfl) (by kernel_rfl) ?_
       repeat (first|go_big_quiet_step (first|(go_at_call 90;exact ag _ (d.out _))|(go_at_call 93;exact ah _ (b.out _))|(go_at_call 94;exact ag _ (m.out _)))|(refine aj (by simp[Region.wanted,yielded]) 153 (.tmp 3) (by rfl) w.heap.size (0) (by rfl) [.int .i64 f,.int .i64 cl] _ v.out Tryz.underlying153 rfl bh ?_;intro K hK;go_simp;refine hK _ ?_;clear hK K)|quiet_step (first|(go_at_call 90;exact ag _ (d.out _))|(go_at_call 93;exact ah _ (b.out _))|(go_at_call 94;exact ag _ (m.out _))))
       refine wpQuiet_nil ?_
       intro w2 a
       obtain⟨⟨wq,hbq⟩,a⟩:=a
       have hb2:Below w1.heap.size w1 w2:=by rw[a];exact hbq
       clear a hbq
       have r:=tt (u.out.below hb2)
       clear hb2
       go_wp2_with fail
       go_roundw
       case rel=>exact⟨0+1,by go_num,by omega,R,Q,r⟩
       case measure=>simp[intOf];omega
   ·obtain⟨p,rfl⟩:∃p,k=p+1:=⟨k - 1,by omega⟩
    obtain⟨b3,o3,c3,z,he,_,_,hz,D⟩:=cw (f:=pv) (k:=4) (fun _=>rfl) (by omega) HR.out Hn.out (show p < n by omega)
    injection he with E _ M
    injection E with E
    injection E with a1 a0
    subst a1 a0 M
    have U:=D w1 (u.out.be.block b0 hb1)
    have pf:=ab (show w1.cell? ⟨b0,o0+p * 4,none⟩=some (.int .i64 z.p.f) from U 0 _ rfl)
    have H:l[p]? =some z.p:=by have:=dQ (g:=PartV.p) hz;rwa [ad.out] at this
    obtain⟨cz,hcz⟩:∃cz,z.p=cz:=⟨_,rfl⟩
    rw[hcz] at pf H
    have Hz:=tt H
    have d2:decide ((0:Int) < ((p+1:Nat):Int))=true:=by rw[decide_eq_true_eq];omega
    have z1:((p+1:Nat):Int) - 1=(p:Int):=by omega
    clear D U hz H hcz Y
    by_cases h1:cz.f≥py.f
    ·have d3:decide (cz.f≥py.f)=true:=tB h1
     have Hf:=tt (gP (view:=view) (f:=f) (cl:=cl) Hz.out Hy.out (by omega))
     clear HJ
     cases nb with
     |false=>
      refine ai (by kernel_rfl) (by kernel_rfl) ?_
      repeat (first|go_big_quiet_step (first|(go_at_call 90;exact ag _ (d.out _))|(go_at_call 93;exact ah _ (b.out _))|(go_at_call 94;exact ag _ (m.out _)))|(refine aj (by simp[Region.wanted,yielded]) 153 (.tmp 3) (by rfl) w.heap.size (0) (by rfl) [.int .i64 f,.int .i64 cl] _ v.out Tryz.underlying153 rfl bh ?_;intro K hK;go_simp;refine hK _ ?_;clear hK K)|quiet_step (first|(go_at_call 90;exact ag _ (d.out _))|(go_at_call 93;exact ah _ (b.out _))|(go_at_call 94;exact ag _ (m.out _))))
      refine wpQuiet_nil ?_
      intro w2 a
      obtain⟨⟨wq,hbq⟩,a⟩:=a
      have hb2:Below w1.heap.size w1 w2:=by rw[a];exact hbq
      clear a hbq
      have r:=tt (u.out.below hb2)
      clear hb2
      go_wp2_with fail
      go_ret
      exact⟨by rw[Hf.out];rfl,r.out.be⟩
     |true=>
      refine ai (by kernel_rfl) (by kernel_rfl) ?_
      repeat (first|go_big_quiet_step (first|(go_at_call 90;exact ag _ (d.out _))|(go_at_call 93;exact ah _ (b.out _))|(go_at_call 94;exact ag _ (m.out _)))|(refine aj (by simp[Region.wanted,yielded]) 153 (.tmp 3) (by rfl) w.heap.size (0) (by rfl) [.int .i64 f,.int .i64 cl] _ v.out Tryz.underlying153 rfl bh ?_;intro K hK;go_simp;refine hK _ ?_;clear hK K)|quiet_step (first|(go_at_call 90;exact ag _ (d.out _))|(go_at_call 93;exact ah _ (b.out _))|(go_at_call 94;exact ag _ (m.out _))))
      refine wpQuiet_nil ?_
      intro w2 a
      obtain⟨⟨wq,hbq⟩,a⟩:=a
      have hb2:Below w1.heap.size w1 w2:=by rw[a];exact hbq
      clear a hbq
      have r:=tt (u.out.below hb2)
      clear hb2
      go_wp2_with fail
      go_ret
      exact⟨by rw[Hf.out];rfl,r.out.be⟩
    ·have d3:decide (cz.f≥py.f)=false:=tA h1
     have ac:Hid (cz.f < py.f):=tt (by omega)
     have Q:Hid (∀(j:Nat) (x t:Psp.Part),j+1 < p+1+1→l[j]? =some x→l[j+1]? =some t→x.f < t.f):=tt fun j x t hj hx ht=>by
      by_cases he:j=p
      ·subst he
       have e1:=Hz.out.symm.trans hx
       have e2:=Hy.out.symm.trans ht
       injection e1 with e1
       injection e2 with e2
       subst e1 e2
       exact ac.out
      ·exact HJ.out j x t (by omega) hx ht
     clear HJ ac
     cases nb with
     |false=>
      have Hf:=tt (bG (view:=view) Hy.out A.out)
      refine ai (by kernel_rfl) (by kernel_rfl) ?_
      repeat (first|go_big_quiet_step (first|(go_at_call 90;exact ag _ (d.out _))|(go_at_call 93;exact ah _ (b.out _))|(go_at_call 94;exact ag _ (m.out _)))|(refine aj (by simp[Region.wanted,yielded]) 153 (.tmp 3) (by rfl) w.heap.size (0) (by rfl) [.int .i64 f,.int .i64 cl] _ v.out Tryz.underlying153 rfl bh ?_;intro K hK;go_simp;refine hK _ ?_;clear hK K)|quiet_step (first|(go_at_call 90;exact ag _ (d.out _))|(go_at_call 93;exact ah _ (b.out _))|(go_at_call 94;exact ag _ (m.out _))))
      refine wpQuiet_nil ?_
      intro w2 a
      obtain⟨⟨wq,hbq⟩,a⟩:=a
      have hb2:Below w1.heap.size w1 w2:=by rw[a];exact hbq
      clear a hbq
      have r:=tt (u.out.below hb2)
      clear hb2
      go_wp2_with fail
      go_ret
      exact⟨by rw[Hf.out];rfl,r.out.be⟩
     |true=>
      cases sb with
      |false=>
       have Hf:=tt (bG (view:=view) Hy.out A.out)
       refine ai (by kernel_rfl) (by kernel_rfl) ?_
       repeat (first|go_big_quiet_step (first|(go_at_call 90;exact ag _ (d.out _))|(go_at_call 93;exact ah _ (b.out _))|(go_at_call 94;exact ag _ (m.out _)))|(refine aj (by simp[Region.wanted,yielded]) 153 (.tmp 3) (by rfl) w.heap.size (0) (by rfl) [.int .i64 f,.int .i64 cl] _ v.out Tryz.underlying153 rfl bh ?_;intro K hK;go_simp;refine hK _ ?_;clear hK K)|quiet_step (first|(go_at_call 90;exact ag _ (d.out _))|(go_at_call 93;exact ah _ (b.out _))|(go_at_call 94;exact ag _ (m.out _))))
       refine wpQuiet_nil ?_
       intro w2 a
       obtain⟨⟨wq,hbq⟩,a⟩:=a
       have hb2:Below w1.heap.size w1 w2:=by rw[a];exact hbq
       clear a hbq
       have r:=tt (u.out.below hb2)
       clear hb2
       go_wp2_with fail
       go_ret
       exact⟨by rw[Hf.out];rfl,r.out.be⟩
      |true=>
       cases cb with
       |false=>
        have Hf:=tt (bG (view:=view) Hy.out A.out)
        refine ai (by kernel_rfl) (by kernel_rfl) ?_
        repeat (first|go_big_quiet_step (first|(go_at_call 90;exact ag _ (d.out _))|(go_at_call 93;exact ah _ (b.out _))|(go_at_call 94;exact ag _ (m.out _)))|(refine aj (by simp[Region.wanted,yielded]) 153 (.tmp 3) (by rfl) w.heap.size (0) (by rfl) [.int .i64 f,.int .i64 cl] _ v.out Tryz.underlying153 rfl bh ?_;intro K hK;go_simp;refine hK _ ?_;clear hK K)|quiet_step (first|(go_at_call 90;exact ag _ (d.out _))|(go_at_call 93;exact ah _ (b.out _))|(go_at_call 94;exact ag _ (m.out _))))
        refine wpQuiet_nil ?_
        intro w2 a
        obtain⟨⟨wq,hbq⟩,a⟩:=a
        have hb2:Below w1.heap.size w1 w2:=by rw[a];exact hbq
        clear a hbq
        have r:=tt (u.out.below hb2)
        clear hb2
        go_wp2_with fail
        go_ret
        exact⟨by rw[Hf.out];rfl,r.out.be⟩
       |true=>
        have R:Hid (∀(j:Nat) (z:Psp.Part),j < (p+1)+1→l[j]? =some z→Psp.dJ view z f cl=true):=tt fun j z hj hz=>by
         by_cases he:j=(p+1)
         ·subst he;have e1:=Hy.out.symm.trans hz;injection e1 with e1;subst e1;exact A.out
         ·exact HI.out j z (by omega) hz
        clear HI
        refine ai (by kernel_rfl) (by kernel_rfl) ?_
        repeat (first|go_big_quiet_step (first|(go_at_call 90;exact ag _ (d.out _))|(go_at_call 93;exact ah _ (b.out _))|(go_at_call 94;exact ag _ (m.out _)))|(refine aj (by simp[Region.wanted,yielded]) 153 (.tmp 3) (by rfl) w.heap.size (0) (by rfl) [.int .i64 f,.int .i64 cl] _ v.out Tryz.underlying153 rfl bh ?_;intro K hK;go_simp;refine hK _ ?_;clear hK K)|quiet_step (first|(go_at_call 90;exact ag _ (d.out _))|(go_at_call 93;exact ah _ (b.out _))|(go_at_call 94;exact ag _ (m.out _))))
        refine wpQuiet_nil ?_
        intro w2 a
        obtain⟨⟨wq,hbq⟩,a⟩:=a
        have hb2:Below w1.heap.size w1 w2:=by rw[a];exact hbq
        clear a hbq
        have r:=tt (u.out.below hb2)
        clear hb2
        go_wp2_with fail
        go_roundw
        case rel=>exact⟨(p+1)+1,by go_num,by omega,R,Q,r⟩
        case measure=>simp[intOf];omega
  ·obtain rfl:k=n:=by omega
   have Hf:Hid (Psp.cN view l f cl=true):=tt (iB (by rw[G.out,Hq.out];exact a3.out) (fun j x hx=>HI.out j x (by have:=(List.getElem?_eq_some_iff.1 hx).1;rwa [G.out] at this) hx) (fun j x y hx hy=>HJ.out j x y (by have:=(List.getElem?_eq_some_iff.1 hy).1;rwa [G.out] at this) hx hy))
   clear HI HJ
   go_wp2_with fail
   go_ret
   exact⟨by rw[Hf.out];rfl,HL.out.be⟩
def cr (m:Psp.Msg):Prop:=aE m.k∧aE m.f∧aE m.v∧aE m.i∧aE m.q∧aE m.r∧(∀r∈m.b,nQ r)∧(∀v∈m.o,ea v)∧(∀c∈m.c,ig c)∧∀p∈m.p,jH p
structure Fb (w0 W:World) (m:Psp.Msg) (vb vo vc vp:Value) (f cl:Int):Prop where
 box:W.heap[w0.heap.size]? =some (.cells #[.int .i64 m.k,.int .i64 m.f,.int .i64 m.v,.int .i64 m.i,.int .i64 m.q,.int .i64 m.r,vb,vo,vc,vp] 56 (0,0))
 lk:W.rangeAt (w0.heap.size+1) 0 [.int .i64 f,.int .i64 cl]
 sz:w0.heap.size+1 < W.heap.size
 be:Below w0.heap.size w0 W
theorem Fb.below {w0 W W':World} {m:Psp.Msg} {vb vo vc vp:Value} {f cl:Int} (h:Fb w0 W m vb vo vc vp f cl) (hb:Below W.heap.size W W'):Fb w0 W' m vb vo vc vp f cl:=by
 have:=h.sz
 exact⟨(hb.block _ (by omega)).trans h.box,cM h.lk (hb.block _ h.sz),Nat.lt_of_lt_of_le h.sz hb.size,h.be.trans (hb.mono (by omega))⟩
theorem Fb.cell {w0 W:World} {m:Psp.Msg} {vb vo vc vp:Value} {f cl:Int} (h:Fb w0 W m vb vo vc vp f cl) {j:Nat} {u:Value} (hj:(#[.int .i64 m.k,.int .i64 m.f,.int .i64 m.v,.int .i64 m.i,.int .i64 m.q,.int .i64 m.r,vb,vo,vc,vp]:Array Value)[j]? =some u):W.cell? ⟨w0.heap.size,j,none⟩=some u:=by
 rw[cell_of_row _ _ j _ _ _ h.box];exact hj
theorem aD {w0 W W':World} {m:Psp.Msg} {vb vo vc vp:Value} {f cl:Int} (h:Hid (Fb w0 W m vb vo vc vp f cl)) (hb:Below W.heap.size W W'):Hid (Fb w0 W' m vb vo vc vp f cl)∧W'.cell? ⟨w0.heap.size,0,none⟩=some (.int .i64 m.k)∧W'.cell? ⟨w0.heap.size,1,none⟩=some (.int .i64 m.f)∧W'.cell? ⟨w0.heap.size,2,none⟩=some (.int .i64 m.v)∧W'.cell? ⟨w0.heap.size,3,none⟩=some (.int .i64 m.i)∧W'.cell? ⟨w0.heap.size,4,none⟩=some (.int .i64 m.q)∧W'.cell? ⟨w0.heap.size,5,none⟩=some (.int .i64 m.r)∧W'.cell? ⟨w0.heap.size,6,none⟩=some (vb)∧W'.cell? ⟨w0.heap.size,7,none⟩=some (vo)∧W'.cell? ⟨w0.heap.size,8,none⟩=some (vc)∧W'.cell? ⟨w0.heap.size,9,none⟩=some (vp)∧W'.cell? ⟨w0.heap.size+1,0,none⟩=some (.int .i64 f)∧W'.cell? ⟨w0.heap.size+1,1,none⟩=some (.int .i64 cl):=by
 have h2:=h.out.below hb
 refine⟨tt h2,h2.cell (j:=0) rfl,h2.cell (j:=1) rfl,h2.cell (j:=2) rfl,h2.cell (j:=3) rfl,h2.cell (j:=4) rfl,h2.cell (j:=5) rfl,h2.cell (j:=6) rfl,h2.cell (j:=7) rfl,h2.cell (j:=8) rfl,h2.cell (j:=9) rfl,?_,?_⟩
 ·have:=h2.lk 0 _ rfl;simpa using this
 ·have:=h2.lk 1 _ rfl;simpa using this
theorem cE (w:World) (m:Psp.Msg) (vb vo vc vp:Value) (f cl:Int):Hid (Fb w ((w.alloc (.cells #[.int .i64 m.k,.int .i64 m.f,.int .i64 m.v,.int .i64 m.i,.int .i64 m.q,.int .i64 m.r,vb,vo,vc,vp] 56)).alloc (.cells #[.int .i64 f,.int .i64 cl] 153)) m vb vo vc vp f cl):=by
 refine tt ⟨?_,?_,by simp,(ae w _).trans ((ae _ _).mono (by simp))⟩
 ·rw[(ae _ _).block _ (by simp)];exact tL w _
 ·have:=mX (w.alloc (.cells #[.int .i64 m.k,.int .i64 m.f,.int .i64 m.v,.int .i64 m.i,.int .i64 m.q,.int .i64 m.r,vb,vo,vc,vp] 56)) #[.int .i64 f,.int .i64 cl] 153
  simpa using this
theorem aG {w:World} {P:Nat→Prop} {m:Psp.Msg} {vb vo vc vp:Value} (h:MsgOk w P ⟨m,vb,vo,vc,vp⟩):∃Ab Ao Ac Ap cb co cc cp,vb= .slice Ab m.b.length cb∧vo= .slice Ao m.o.length co∧vc= .slice Ac m.c.length cc∧vp= .slice Ap m.p.length cp:=by
 obtain⟨h1,h2,h3,h4⟩:=h
 obtain⟨_,Ab,cb,e1,_⟩:=RdP.parts (show RdP _ _ 6 vb m.b.length (m.b.flatMap rq) from h1)
 obtain⟨_,Ao,co,e2,_⟩:=RdP.parts (show RdP _ _ 2 vo m.o.length (m.o.flatMap vt) from h2)
 obtain⟨Lc,d,f,_⟩:=h3
 obtain⟨_,Ac,cc,e3,_⟩:=f.parts
 obtain⟨Lp,a,e,_⟩:=h4
 obtain⟨_,Ap,cp,e4,_⟩:=e.parts
 dsimp only at d a
 refine⟨Ab,Ao,Ac,Ap,cb,co,cc,cp,e1,e2,?_,?_⟩
 ·rw[←d,List.length_map];exact e3
 ·rw[←a,List.length_map];exact e4
theorem st (m:Psp.Msg) (vb vo vc vp:Value) (f cl:Int) (w:World) (P:Nat→Prop) (hx:MsgOk w P ⟨m,vb,vo,vc,vp⟩) (hw:cr m) (hf:Psp.may f=true) (hk:m.k=2):
 Calls Tryz.prog 61 #[.agg #[.int .i64 m.k,.int .i64 m.f,.int .i64 m.v,.int .i64 m.i,.int .i64 m.q,.int .i64 m.r,vb,vo,vc,vp],.int .i64 f,.int .i64 cl] w fun e w'=>e= .returned (.bool (Psp.aF m f cl))∧Below w.heap.size w w':=by
 obtain⟨Ab,Ao,Ac,Ap,cb,co,cc,cp,rfl,rfl,rfl,rfl⟩:=aG hx
 have HX:=tt hx
 have Hw:=tt hw
 obtain⟨q,hq⟩:∃q,Psp.aO f=q:=⟨_,rfl⟩
 have y:(q==0)=false:=by rw[←hq,bl,hf];rfl
 have d:=bg f
 rw[hq] at d
 have t:=tt d
 obtain⟨nb,hnb⟩:∃x,Psp.bB m.f f=x:=⟨_,rfl⟩
 have n:Hid (∀w':World,Calls Tryz.prog 90 #[.agg #[.int .i64 f,.int .i64 cl],.int .i64 m.f] w' fun e w''=>e= .returned (.bool nb)∧Below w'.heap.size w' w''):=tt fun w'=>by rw[←hnb];exact cC _ _ _ w'
 have t1:(m.k==1)=false:=by rw[hk];rfl
 have t2:(m.k==2)=true:=by rw[hk];rfl
 have t3:(m.k==3)=false:=by rw[hk];rfl
 have t4:(m.k==4)=false:=by rw[hk];rfl
 have t5:(m.k==5)=false:=by rw[hk];rfl
 have t6:(m.k==6)=false:=by rw[hk];rfl
 have t7:(m.k==7)=false:=by rw[hk];rfl
 have t8:(m.k==8)=false:=by rw[hk];rfl
 have t9:(m.k==9)=false:=by rw[hk];rfl
 have u:(m.k==10)=false:=by rw[hk];rfl
 obtain⟨b0,hb0⟩:∃x,Psp.noB [m.v,m.i,m.q,m.r]=x:=⟨_,rfl⟩
 have g:Hid (∀(w':World) (b:Nat),Lies w' b 0 ([m.v,m.i,m.q,m.r].map iv)→Calls Tryz.prog 87 #[.slice (some ⟨b,0,none⟩) 4 4] w' fun e w''=>e= .returned (.bool b0)∧w'=w''):=tt fun w' b hl=>by rw[←hb0];exact fz [m.v,m.i,m.q,m.r] b 4 w' rfl hl (by omega)
 obtain⟨b1,hb1⟩:∃x,Psp.bZ m true false false false=x:=⟨_,rfl⟩
 have l:Hid (∀w':World,Calls Tryz.prog 88 #[.agg #[.int .i64 m.k,.int .i64 m.f,.int .i64 m.v,.int .i64 m.i,.int .i64 m.q,.int .i64 m.r,.slice Ab m.b.length cb,.slice Ao m.o.length co,.slice Ac m.c.length cc,.slice Ap m.p.length cp],.bool true,.bool false,.bool false,.bool false] w' fun e w''=>e= .returned (.bool b1)∧Below w'.heap.size w' w''):=tt fun w'=>by rw[←hb1];exact eH _ _ _ _ _ _ _ _ _ _ _ _ _ _ _ _ _ _ _ _ _ _ w'
 obtain⟨b2,hb2⟩:∃x,Psp.bn m.b cl 1 1=x:=⟨_,rfl⟩
 have j:Hid (∀w':World,Hid (Fb w w' m (.slice Ab m.b.length cb) (.slice Ao m.o.length co) (.slice Ac m.c.length cc) (.slice Ap m.p.length cp) f cl)→Calls Tryz.prog 89 #[.agg #[.int .i64 f,.int .i64 cl],.slice Ab m.b.length cb,.int .i64 1,.int .i64 1] w' fun e w''=>e= .returned (.bool b2)∧Below w'.heap.size w' w''):=tt fun w' h=>by rw[←hb2];exact fD m.b m.b.length _ f cl 1 1 w' P (HX.out.1.keeps' (Keeps.below h.out.be)) rfl
 have Hr:Hid (Psp.aF m f cl=(nb&&(b0&&(b1&&(b2))))):=tt (by unfold Psp.aF;rw[hf,hk,hnb];simp only[Int.reduceEq,if_false,if_true,or_false,or_true,Bool.true_and,false_or];rw[hb0,hb1,hb2])
 clear hq d hnb hx hw hb0 hb1 hb2 hk hf
 have s:=cE w m (.slice Ab m.b.length cb) (.slice Ao m.o.length co) (.slice Ac m.c.length cc) (.slice Ap m.p.length cp) f cl
 obtain⟨HF,c0,c1,c2,c3,c4,c5,c6,c7,c8,c9,c10,c11⟩:=aD s (Below.refl _ _)
 go_enter Tryz.func61,Tryz.ntmps61
 go_wp2_with (first|(go_at_call 58;refine (t.out _).mono ?_;rintro e w' ⟨rfl,rfl⟩))
 refine (n.out _).mono ?_
 rintro e w2 ⟨rfl,a⟩
 obtain⟨HF,c0,c1,c2,c3,c4,c5,c6,c7,c8,c9,c10,c11⟩:=aD HF a
 clear a s
 cases nb with
 |false=>
  go_wp2_with fail
  go_ret
  exact⟨by rw[Hr.out];rfl,HF.out.be⟩
 |true=>
  cases b0 with
  |false=>
   go_wp2_with (first|(go_at_call 87;refine (g.out _ _ (aJ _ [.int .i64 m.v,.int .i64 m.i,.int .i64 m.q,.int .i64 m.r] _ _ (by simp))).mono ?_;rintro e w' ⟨rfl,rfl⟩;obtain⟨HF,c0,c1,c2,c3,c4,c5,c6,c7,c8,c9,c10,c11⟩:=aD HF (ae _ (.cells #[.int .i64 m.v,.int .i64 m.i,.int .i64 m.q,.int .i64 m.r] 3)))|(go_at_call 88;refine (l.out _).mono ?_;rintro e w' ⟨rfl,a⟩;obtain⟨HF,c0,c1,c2,c3,c4,c5,c6,c7,c8,c9,c10,c11⟩:=aD HF a;clear a)|(go_at_call 89;refine (j.out _ HF).mono ?_;rintro e w' ⟨rfl,a⟩;obtain⟨HF,c0,c1,c2,c3,c4,c5,c6,c7,c8,c9,c10,c11⟩:=aD HF a;clear a))
   go_ret
   exact⟨by rw[Hr.out];rfl,by first|exact HF.out.be|exact ak HF.out.be _⟩
  |true=>
   cases b1 with
   |false=>
    go_wp2_with (first|(go_at_call 87;refine (g.out _ _ (aJ _ [.int .i64 m.v,.int .i64 m.i,.int .i64 m.q,.int .i64 m.r] _ _ (by simp))).mono ?_;rintro e w' ⟨rfl,rfl⟩;obtain⟨HF,c0,c1,c2,c3,c4,c5,c6,c7,c8,c9,c10,c11⟩:=aD HF (ae _ (.cells #[.int .i64 m.v,.int .i64 m.i,.int .i64 m.q,.int .i64 m.r] 3)))|(go_at_call 88;refine (l.out _).mono ?_;rintro e w' ⟨rfl,a⟩;obtain⟨HF,c0,c1,c2,c3,c4,c5,c6,c7,c8,c9,c10,c11⟩:=aD HF a;clear a)|(go_at_call 89;refine (j.out _ HF).mono ?_;rintro e w' ⟨rfl,a⟩;obtain⟨HF,c0,c1,c2,c3,c4,c5,c6,c7,c8,c9,c10,c11⟩:=aD HF a;clear a))
    go_ret
    exact⟨by rw[Hr.out];rfl,by first|exact HF.out.be|exact ak HF.out.be _⟩
   |true=>
    go_wp2_with (first|(go_at_call 87;refine (g.out _ _ (aJ _ [.int .i64 m.v,.int .i64 m.i,.int .i64 m.q,.int .i64 m.r] _ _ (by simp))).mono ?_;rintro e w' ⟨rfl,rfl⟩;obtain⟨HF,c0,c1,c2,c3,c4,c5,c6,c7,c8,c9,c10,c11⟩:=aD HF (ae _ (.cells #[.int .i64 m.v,.int .i64 m.i,.int .i64 m.q,.int .i64 m.r] 3)))|(go_at_call 88;refine (l.out _).mono ?_;rintro e w' ⟨rfl,a⟩;obtain⟨HF,c0,c1,c2,c3,c4,c5,c6,c7,c8,c9,c10,c11⟩:=aD HF a;clear a)|(go_at_call 89;refine (j.out _ HF).mono ?_;rintro e w' ⟨rfl,a⟩;obtain⟨HF,c0,c1,c2,c3,c4,c5,c6,c7,c8,c9,c10,c11⟩:=aD HF a;clear a))
    go_ret
    exact⟨by rw[Hr.out];rfl,by first|exact HF.out.be|exact ak HF.out.be _⟩
theorem Fb.range {w0 W:World} {m:Psp.Msg} {vb vo vc vp:Value} {f cl:Int} (h:Fb w0 W m vb vo vc vp f cl):W.rangeAt w0.heap.size 0 [.int .i64 m.k,.int .i64 m.f,.int .i64 m.v,.int .i64 m.i,.int .i64 m.q,.int .i64 m.r,vb,vo,vc,vp]:=fun j v hv=>by
 rw[Nat.zero_add,cell_of_row _ _ j _ _ _ h.box];simpa using hv
theorem ss (m:Psp.Msg) (vb vo vc vp:Value) (f cl:Int) (w:World) (P:Nat→Prop) (hx:MsgOk w P ⟨m,vb,vo,vc,vp⟩) (hw:cr m) (hf:Psp.may f=true) (hk:m.k=3):
 Calls Tryz.prog 61 #[.agg #[.int .i64 m.k,.int .i64 m.f,.int .i64 m.v,.int .i64 m.i,.int .i64 m.q,.int .i64 m.r,vb,vo,vc,vp],.int .i64 f,.int .i64 cl] w fun e w'=>e= .returned (.bool (Psp.aF m f cl))∧Below w.heap.size w w':=by
 obtain⟨Ab,Ao,Ac,Ap,cb,co,cc,cp,rfl,rfl,rfl,rfl⟩:=aG hx
 have HX:=tt hx
 have Hw:=tt hw
 obtain⟨q,hq⟩:∃q,Psp.aO f=q:=⟨_,rfl⟩
 have G:(q==0)=false:=by rw[←hq,bl,hf];rfl
 have y:=bg f
 rw[hq] at y
 have C:=tt y
 obtain⟨nb,hnb⟩:∃x,Psp.bB m.f f=x:=⟨_,rfl⟩
 have A:Hid (∀w':World,Calls Tryz.prog 90 #[.agg #[.int .i64 f,.int .i64 cl],.int .i64 m.f] w' fun e w''=>e= .returned (.bool nb)∧Below w'.heap.size w' w''):=tt fun w'=>by rw[←hnb];exact cC _ _ _ w'
 have t1:(m.k==1)=false:=by rw[hk];rfl
 have t2:(m.k==2)=false:=by rw[hk];rfl
 have t3:(m.k==3)=true:=by rw[hk];rfl
 have t4:(m.k==4)=false:=by rw[hk];rfl
 have t5:(m.k==5)=false:=by rw[hk];rfl
 have t6:(m.k==6)=false:=by rw[hk];rfl
 have t7:(m.k==7)=false:=by rw[hk];rfl
 have t8:(m.k==8)=false:=by rw[hk];rfl
 have t9:(m.k==9)=false:=by rw[hk];rfl
 have D:(m.k==10)=false:=by rw[hk];rfl
 obtain⟨pr,hpr⟩:∃x,Psp.aP f m.v m.i=x:=⟨_,rfl⟩
 have g:Hid (∀w':World,Calls Tryz.prog 92 #[.int .i64 f,.int .i64 m.v,.int .i64 m.i] w' fun e w''=>e= .returned (.int .i64 pr)∧w'=w''):=tt fun w'=>by rw[←hpr];exact fL f m.v m.i w' hw.2.2.1.1 hw.2.2.1.2 hw.2.2.2.1.1 hw.2.2.2.1.2
 obtain⟨b0,hb0⟩:∃x,(m.r==0)=x:=⟨_,rfl⟩
 have hz:(m.r==0)=b0:=hb0
 obtain⟨b1,hb1⟩:∃x,Psp.bZ m true false false false=x:=⟨_,rfl⟩
 have n:Hid (∀w':World,Calls Tryz.prog 88 #[.agg #[.int .i64 m.k,.int .i64 m.f,.int .i64 m.v,.int .i64 m.i,.int .i64 m.q,.int .i64 m.r,.slice Ab m.b.length cb,.slice Ao m.o.length co,.slice Ac m.c.length cc,.slice Ap m.p.length cp],.bool true,.bool false,.bool false,.bool false] w' fun e w''=>e= .returned (.bool b1)∧Below w'.heap.size w' w''):=tt fun w'=>by rw[←hb1];exact eH _ _ _ _ _ _ _ _ _ _ _ _ _ _ _ _ _ _ _ _ _ _ w'
 obtain⟨b2,hb2⟩:∃x,Psp.cH m.v m.i m.q f=x:=⟨_,rfl⟩
 have j:Hid (∀w':World,Calls Tryz.prog 91 #[.agg #[.int .i64 f,.int .i64 cl],.int .i64 m.v,.int .i64 m.i,.int .i64 m.q] w' fun e w''=>e= .returned (.bool b2)∧Below w'.heap.size w' w''):=tt fun w'=>by rw[←hb2];exact fx _ _ _ _ _ w'
 obtain⟨b3,hb3⟩:∃x,Psp.bn m.b cl 1 4=x:=⟨_,rfl⟩
 have l:Hid (∀w':World,Hid (Fb w w' m (.slice Ab m.b.length cb) (.slice Ao m.o.length co) (.slice Ac m.c.length cc) (.slice Ap m.p.length cp) f cl)→Calls Tryz.prog 89 #[.agg #[.int .i64 f,.int .i64 cl],.slice Ab m.b.length cb,.int .i64 1,.int .i64 4] w' fun e w''=>e= .returned (.bool b3)∧Below w'.heap.size w' w''):=tt fun w' h=>by rw[←hb3];exact fD m.b m.b.length _ f cl 1 4 w' P (HX.out.1.keeps' (Keeps.below h.out.be)) rfl
 obtain⟨b4,hb4⟩:∃x,decide (m.f=Psp.aP f m.v m.i)=x:=⟨_,rfl⟩
 have hy:(m.f==pr)=b4:=by rw[←hb4,hpr];rfl
 have Hr:Hid (Psp.aF m f cl=(nb&&(b0&&(b1&&(b2&&(b3&&(b4))))))):=tt (by unfold Psp.aF;rw[hf,hk,hnb];simp only[Int.reduceEq,if_false,if_true,or_false,or_true,Bool.true_and,false_or];rw[hb0,hb1,hb2,hb3,hb4])
 clear hq y hnb hx hw hpr hb0 hb1 hb2 hb3 hb4 hk hf
 have B:=cE w m (.slice Ab m.b.length cb) (.slice Ao m.o.length co) (.slice Ac m.c.length cc) (.slice Ap m.p.length cp) f cl
 obtain⟨HF,c0,c1,c2,c3,c4,c5,c6,c7,c8,c9,c10,c11⟩:=aD B (Below.refl _ _)
 go_enter Tryz.func61,Tryz.ntmps61
 go_wp2_with (first|(go_at_call 58;refine (C.out _).mono ?_;rintro e w' ⟨rfl,rfl⟩))
 refine (A.out _).mono ?_
 rintro e w2 ⟨rfl,z⟩
 obtain⟨HF,c0,c1,c2,c3,c4,c5,c6,c7,c8,c9,c10,c11⟩:=aD HF z
 clear z B
 cases nb with
 |false=>
  go_wp2_with fail
  go_ret
  exact⟨by rw[Hr.out];rfl,HF.out.be⟩
 |true=>
  have l0:=ab c0
  have l1:=ab c1
  have l2:=ab c2
  have l3:=ab c3
  have l4:=ab c4
  have l5:=ab c5
  have l6:=ab c6
  have l7:=ab c7
  have l8:=ab c8
  have l9:=ab c9
  have F:=ab c10
  have E:=ab c11
  have u:Hid (∀w':World,(∃p:Later w2,w'=p.W)→w'.rangeAt (w.heap.size+1) 0 [.int .i64 f,.int .i64 cl]):=tt (by rintro w' ⟨p,rfl⟩;exact (HF.out.below p.h).lk)
  have t:Hid (∀w':World,(∃p:Later w2,w'=p.W)→w'.rangeAt w.heap.size 0 [.int .i64 m.k,.int .i64 m.f,.int .i64 m.v,.int .i64 m.i,.int .i64 m.q,.int .i64 m.r,.slice Ab m.b.length cb,.slice Ao m.o.length co,.slice Ac m.c.length cc,.slice Ap m.p.length cp]):=tt (by rintro w' ⟨p,rfl⟩;exact (HF.out.below p.h).range)
  cases b0 with
  |false=>
   go_wp2_with fail
   refine ai (by kernel_rfl) (by kernel_rfl) ?_
   repeat (first|go_big_quiet_step (first|(go_at_call 88;exact ag _ (n.out _))|(go_at_call 91;exact ag _ (j.out _))|(go_at_call 89;exact ag _ (l.out _ (tt (HF.out.below (Later.h _)))))|(go_at_call 92;exact ah _ (g.out _)))|(refine aj (by simp[Region.wanted,yielded]) 153 (.tmp 7) (by rfl) (w.heap.size+1) (0) (by rfl) [.int .i64 f,.int .i64 cl] _ u.out Tryz.underlying153 rfl bh ?_;intro K hK;go_simp;refine hK _ ?_;clear hK K)|(refine aj (by simp[Region.wanted,yielded]) 56 (.tmp 3) (by rfl) w.heap.size (0) (by rfl) [.int .i64 m.k,.int .i64 m.f,.int .i64 m.v,.int .i64 m.i,.int .i64 m.q,.int .i64 m.r,.slice Ab m.b.length cb,.slice Ao m.o.length co,.slice Ac m.c.length cc,.slice Ap m.p.length cp] _ t.out Tryz.underlying56 rfl ax ?_;intro K hK;go_simp;refine hK _ ?_;clear hK K)|quiet_step (first|(go_at_call 88;exact ag _ (n.out _))|(go_at_call 91;exact ag _ (j.out _))|(go_at_call 89;exact ag _ (l.out _ (tt (HF.out.below (Later.h _)))))|(go_at_call 92;exact ah _ (g.out _))))
   refine wpQuiet_nil ?_
   intro w3 a
   obtain⟨⟨wq,hbq⟩,a⟩:=a
   have d:Below w2.heap.size w2 w3:=by rw[a];exact hbq
   clear a hbq
   have s:=tt (HF.out.below d)
   clear d
   go_wp2_with fail
   go_ret
   exact⟨by rw[Hr.out];rfl,s.out.be⟩
  |true=>
   cases b1 with
   |false=>
    go_wp2_with fail
    refine ai (by kernel_rfl) (by kernel_rfl) ?_
    repeat (first|go_big_quiet_step (first|(go_at_call 88;exact ag _ (n.out _))|(go_at_call 91;exact ag _ (j.out _))|(go_at_call 89;exact ag _ (l.out _ (tt (HF.out.below (Later.h _)))))|(go_at_call 92;exact ah _ (g.out _)))|(refine aj (by simp[Region.wanted,yielded]) 153 (.tmp 7) (by rfl) (w.heap.size+1) (0) (by rfl) [.int .i64 f,.int .i64 cl] _ u.out Tryz.underlying153 rfl bh ?_;intro K hK;go_simp;refine hK _ ?_;clear hK K)|(refine aj (by simp[Region.wanted,yielded]) 56 (.tmp 3) (by rfl) w.heap.size (0) (by rfl) [.int .i64 m.k,.int .i64 m.f,.int .i64 m.v,.int .i64 m.i,.int .i64 m.q,.int .i64 m.r,.slice Ab m.b.length cb,.slice Ao m.o.length co,.slice Ac m.c.length cc,.slice Ap m.p.length cp] _ t.out Tryz.underlying56 rfl ax ?_;intro K hK;go_simp;refine hK _ ?_;clear hK K)|quiet_step (first|(go_at_call 88;exact ag _ (n.out _))|(go_at_call 91;exact ag _ (j.out _))|(go_at_call 89;exact ag _ (l.out _ (tt (HF.out.below (Later.h _)))))|(go_at_call 92;exact ah _ (g.out _))))
    refine wpQuiet_nil ?_
    intro w3 a
    obtain⟨⟨wq,hbq⟩,a⟩:=a
    have d:Below w2.heap.size w2 w3:=by rw[a];exact hbq
    clear a hbq
    have s:=tt (HF.out.below d)
    clear d
    go_wp2_with fail
    go_ret
    exact⟨by rw[Hr.out];rfl,s.out.be⟩
   |true=>
    cases b2 with
    |false=>
     go_wp2_with fail
     refine ai (by kernel_rfl) (by kernel_rfl) ?_
     repeat (first|go_big_quiet_step (first|(go_at_call 88;exact ag _ (n.out _))|(go_at_call 91;exact ag _ (j.out _))|(go_at_call 89;exact ag _ (l.out _ (tt (HF.out.below (Later.h _)))))|(go_at_call 92;exact ah _ (g.out _)))|(refine aj (by simp[Region.wanted,yielded]) 153 (.tmp 7) (by rfl) (w.heap.size+1) (0) (by rfl) [.int .i64 f,.int .i64 cl] _ u.out Tryz.underlying153 rfl bh ?_;intro K hK;go_simp;refine hK _ ?_;clear hK K)|(refine aj (by simp[Region.wanted,yielded]) 56 (.tmp 3) (by rfl) w.heap.size (0) (by rfl) [.int .i64 m.k,.int .i64 m.f,.int .i64 m.v,.int .i64 m.i,.int .i64 m.q,.int .i64 m.r,.slice Ab m.b.length cb,.slice Ao m.o.length co,.slice Ac m.c.length cc,.slice Ap m.p.length cp] _ t.out Tryz.underlying56 rfl ax ?_;intro K hK;go_simp;refine hK _ ?_;clear hK K)|quiet_step (first|(go_at_call 88;exact ag _ (n.out _))|(go_at_call 91;exact ag _ (j.out _))|(go_at_call 89;exact ag _ (l.out _ (tt (HF.out.below (Later.h _)))))|(go_at_call 92;exact ah _ (g.out _))))
     refine wpQuiet_nil ?_
     intro w3 a
     obtain⟨⟨wq,hbq⟩,a⟩:=a
     have d:Below w2.heap.size w2 w3:=by rw[a];exact hbq
     clear a hbq
     have s:=tt (HF.out.below d)
     clear d
     go_wp2_with fail
     go_ret
     exact⟨by rw[Hr.out];rfl,s.out.be⟩
    |true=>
     cases b3 with
     |false=>
      go_wp2_with fail
      refine ai (by kernel_rfl) (by kernel_rfl) ?_
      repeat (first|go_big_quiet_step (first|(go_at_call 88;exact ag _ (n.out _))|(go_at_call 91;exact ag _ (j.out _))|(go_at_call 89;exact ag _ (l.out _ (tt (HF.out.below (Later.h _)))))|(go_at_call 92;exact ah _ (g.out _)))|(refine aj (by simp[Region.wanted,yielded]) 153 (.tmp 7) (by rfl) (w.heap.size+1) (0) (by rfl) [.int .i64 f,.int .i64 cl] _ u.out Tryz.underlying153 rfl bh ?_;intro K hK;go_simp;refine hK _ ?_;clear hK K)|(refine aj (by simp[Region.wanted,yielded]) 56 (.tmp 3) (by rfl) w.heap.size (0) (by rfl) [.int .i64 m.k,.int .i64 m.f,.int .i64 m.v,.int .i64 m.i,.int .i64 m.q,.int .i64 m.r,.slice Ab m.b.length cb,.slice Ao m.o.length co,.slice Ac m.c.length cc,.slice Ap m.p.length cp] _ t.out Tryz.underlying56 rfl ax ?_;intro K hK;go_simp;refine hK _ ?_;clear hK K)|quiet_step (first|(go_at_call 88;exact ag _ (n.out _))|(go_at_call 91;exact ag _ (j.out _))|(go_at_call 89;exact ag _ (l.out _ (tt (HF.out.below (Later.h _)))))|(go_at_call 92;exact ah _ (g.out _))))
      refine wpQuiet_nil ?_
      intro w3 a
      obtain⟨⟨wq,hbq⟩,a⟩:=a
      have d:Below w2.heap.size w2 w3:=by rw[a];exact hbq
      clear a hbq
      have s:=tt (HF.out.below d)
      clear d
      go_wp2_with fail
      go_ret
      exact⟨by rw[Hr.out];rfl,s.out.be⟩
     |true=>
      go_wp2_with fail
      refine ai (by kernel_rfl) (by kernel_rfl) ?_
      repeat (first|go_big_quiet_step (first|(go_at_call 88;exact ag _ (n.out _))|(go_at_call 91;exact ag _ (j.out _))|(go_at_call 89;exact ag _ (l.out _ (tt (HF.out.below (Later.h _)))))|(go_at_call 92;exact ah _ (g.out _)))|(refine aj (by simp[Region.wanted,yielded]) 153 (.tmp 7) (by rfl) (w.heap.size+1) (0) (by rfl) [.int .i64 f,.int .i64 cl] _ u.out Tryz.underlying153 rfl bh ?_;intro K hK;go_simp;refine hK _ ?_;clear hK K)|(refine aj (by simp[Region.wanted,yielded]) 56 (.tmp 3) (by rfl) w.heap.size (0) (by rfl) [.int .i64 m.k,.int .i64 m.f,.int .i64 m.v,.int .i64 m.i,.int .i64 m.q,.int .i64 m.r,.slice Ab m.b.length cb,.slice Ao m.o.length co,.slice Ac m.c.length cc,.slice Ap m.p.length cp] _ t.out Tryz.underlying56 rfl ax ?_;intro K hK;go_simp;refine hK _ ?_;clear hK K)|quiet_step (first|(go_at_call 88;exact ag _ (n.out _))|(go_at_call 91;exact ag _ (j.out _))|(go_at_call 89;exact ag _ (l.out _ (tt (HF.out.below (Later.h _)))))|(go_at_call 92;exact ah _ (g.out _))))
      refine wpQuiet_nil ?_
      intro w3 a
      obtain⟨⟨wq,hbq⟩,a⟩:=a
      have d:Below w2.heap.size w2 w3:=by rw[a];exact hbq
      clear a hbq
      have s:=tt (HF.out.below d)
      clear d
      go_wp2_with fail
      go_ret
      exact⟨by rw[Hr.out];rfl,s.out.be⟩
def gH (K:List Key) (k:Key) (s:Int):Bool:=decide (k∈K)&&decide (num K k=s)
def bW (b:List UInt8) (f cl:Int) (K:List Key):Option (Psp.Msg×Int):=
 if b.length≤65536 then (dN b 0).bind fun p=>(Psp.aY (b.drop p.2.toNat)).bind fun m=>if (Psp.aF m f cl&&gH K (m.f,b.drop p.2.toNat) p.1)=true then some (m,p.1) else none else none
def sK (b:List UInt8) (f cl:Int) (K:List Key) (w:World) (e:Ending) (w':World):Prop:=
 (∀m s,bW b f cl K=some (m,s)→∃vb vo vc vp,e= .returned (.tuple #[.agg #[.int .i64 m.k,.int .i64 m.f,.int .i64 m.v,.int .i64 m.i,.int .i64 m.q,.int .i64 m.r,vb,vo,vc,vp],.int .i64 s,.int .i64 0])∧MsgOk w' (fun k=>w.heap.size≤k) ⟨m,vb,vo,vc,vp⟩)∧
 (bW b f cl K=none→e= .returned (.tuple #[.agg zs,.int .i64 0,.int .i64 2]))∧Below w.heap.size w w'
def eV (f cl:Int) (m:Psp.Msg):Prop:=∀(vb vo vc vp:Value) (w:World) (P:Nat→Prop),MsgOk w P ⟨m,vb,vo,vc,vp⟩→cr m→
 Calls Tryz.prog 61 #[.agg #[.int .i64 m.k,.int .i64 m.f,.int .i64 m.v,.int .i64 m.i,.int .i64 m.q,.int .i64 m.r,vb,vo,vc,vp],.int .i64 f,.int .i64 cl] w fun e w'=>e= .returned (.bool (Psp.aF m f cl))∧Below w.heap.size w w'
structure Oc (w0 W:World) (cs:Array Value):Prop where
 rr:W.heap[w0.heap.size]? =some (.cells cs 56 (0,0))
 be:Below w0.heap.size w0 W
theorem Oc.new (w0:World):Oc w0 (w0.alloc (.cells zs 56)) zs:=⟨tL w0 _,ae w0 _⟩
theorem Oc.lt {w0 W:World} {cs:Array Value} (h:Oc w0 W cs):w0.heap.size < W.heap.size:=(tz h.rr).1
theorem Oc.below {w0 W W':World} {cs:Array Value} (h:Oc w0 W cs) (hb:Below W.heap.size W W'):Oc w0 W' cs:=by
 have:=h.lt
 exact⟨(hb.block _ this).trans h.rr,h.be.trans (hb.mono (by omega))⟩
theorem Oc.store {w0 W:World} {cs:Array Value} (h:Oc w0 W cs) (l:List Value) (hl:l.length=cs.size):Oc w0 (W.setCells w0.heap.size 0 l) l.toArray∧Keeps (fun k=>w0.heap.size < k) (fun k=>w0.heap.size < k) W (W.setCells w0.heap.size 0 l):=by
 obtain⟨h1,h2⟩:=aQ h.rr l hl
 exact⟨⟨h1,bY h.be _ (tJ _) l⟩,⟨((Fp.refl (fun _=>True) W).setCells (Or.inl trivial) _).size,fun b hb _=>⟨h2 b (by omega),hb⟩⟩⟩
theorem Oc.cell {w0 W:World} {cs:Array Value} (h:Oc w0 W cs) (i:Nat) {u:Value} (hi:cs[i]? =some u):W.cell? ⟨w0.heap.size,i,none⟩=some u:=by
 rw[cell_of_row _ _ i _ _ _ h.rr];exact hi
theorem Oc.range {w0 W:World} {cs:Array Value} (h:Oc w0 W cs):W.rangeAt w0.heap.size 0 cs.toList:=fun j v hv=>by
 rw[Nat.zero_add,cell_of_row _ _ j _ _ _ h.rr];simpa using hv
theorem lT {w:World} {P:Nat→Prop} {b o n c k:Nat} {l:List UInt8} (h:RdP w P 1 (.slice (some ⟨b,o,none⟩) n c) l.length (l.map bv)) (hk:k≤n):RdP w P 1 (.slice (some ⟨b,o+k,none⟩) (n - k) (c - k)) (l.drop k).length ((l.drop k).map bv):=by
 obtain⟨h1,A,c',e,h2,h3,h4⟩:=h
 injection e with e1 e2 e3
 subst e2 e3
 refine⟨by simp,some ⟨b,o+k,none⟩,c - k,by rw[List.length_drop],by rw[List.length_drop];omega,by unfold maxLen at *;omega,fun hp=>?_⟩
 rw[List.length_drop] at hp
 obtain⟨b',o',e4,h5,h6,h7⟩:=h4 (by omega)
 rw[←e1] at e4
 injection e4 with e4
 injection e4 with e5 e6
 subst e5 e6
 refine⟨b,o+k,rfl,h5,h6,?_⟩
 have:=h7.drop k
 rwa [←List.map_drop] at this
theorem jv {b:List UInt8} {f cl:Int} {K:List Key} (h:¬b.length≤65536):bW b f cl K=none:=if_neg h
theorem fQ {b:List UInt8} {f cl:Int} {K:List Key} (h:b.length≤65536):bW b f cl K=(dN b 0).bind fun p=>(Psp.aY (b.drop p.2.toNat)).bind fun m=>if (Psp.aF m f cl&&gH K (m.f,b.drop p.2.toNat) p.1)=true then some (m,p.1) else none:=if_pos h
theorem fG {n:Int} (h:Psp.okN n=true):aE n:=by have:=(Psp.bM n).1 h;exact⟨by omega,by omega⟩
theorem si {n:Int} (h:Psp.okS n=true):aE n:=by have:=(Psp.dw n).1 h;exact⟨by omega,by omega⟩
theorem nR {r:Psp.Req} (h:Psp.okR r=true):nQ r:=by
 unfold Psp.okR at h;simp only[tI] at h
 exact⟨fG h.1,fG h.2.1,fG h.2.2.1,si h.2.2.2.1,si h.2.2.2.2.1,fG h.2.2.2.2.2⟩
theorem kT {v:Psp.Vote} (h:Psp.okV v=true):ea v:=by
 unfold Psp.okV at h;simp only[tI] at h
 exact⟨fG h.1,fG h.2⟩
theorem eB {α:Type} {ok:α→Bool} {l:List α} (h:Psp.okL ok l=true) {x:α} (hx:x∈l):ok x=true:=by
 unfold Psp.okL at h;rw[tI] at h;exact List.all_eq_true.1 h.2 x hx
theorem nS {c:Psp.Cert} (h:Psp.okC c=true):ig c:=by
 unfold Psp.okC at h;simp only[tI] at h
 exact⟨fG h.1,fG h.2.1,fG h.2.2.1,fun r hr=>nR (eB h.2.2.2.1 hr),fun v hv=>kT (eB h.2.2.2.2 hv)⟩
theorem rL {p:Psp.Part} (h:Psp.okP p=true):jH p:=by
 unfold Psp.okP at h;simp only[tI] at h
 exact⟨fG h.1,fun v hv=>kT (eB h.2.1 hv),fun c hc=>nS (eB h.2.2.1 hc),fG h.2.2.2⟩
theorem kj {m:Psp.Msg} (h:Psp.okB m=true):cr m:=by
 unfold Psp.okB Psp.okM at h;simp only[tI] at h
 obtain⟨⟨h1,h2,h3,h4,h5,h6,h7,h8,h9,a⟩,_⟩:=h
 exact⟨fG h1,fG h2,fG h3,fG h4,fG h5,si h6,fun r hr=>nR (eB h7 hr),fun v hv=>kT (eB h8 hv),fun c hc=>nS (eB h9 hc),fun p hp=>rL (eB a hp)⟩
theorem jT (b:List UInt8) (x:Value) (f cl:Int) (g bm:Nat) (K:List Key) (w:World) (hx:RdP w (fun k=>k < w.heap.size) 1 x b.length (b.map bv)) (hN:Nt w g bm K)
 (hF:∀n a m,dN b 0=some (n,a)→Psp.aY (b.drop a.toNat)=some m→eV f cl m):
 Calls Tryz.prog 38 #[x,.int .i64 f,.int .i64 cl,.pointer (some ⟨g,0,none⟩)] w (sK b f cl K w):=by
 obtain⟨_,A,c,rfl,ad,ac,hA⟩:=hx.parts
 have HA:=tt hA
 have HX:=tt hx
 have HN:=tt hN
 have HF:=tt hF
 have HO:=tt (Oc.new w)
 clear hx hN hF hA
 have za:aE 0:=⟨by omega,by omega⟩
 by_cases G:b.length≤65536
 case' neg=>
  have Hn:=tt (jv (f:=f) (cl:=cl) (K:=K) G)
  have d0:decide ((b.length:Int) > 65536)=true:=by simp;omega
  clear za
  go_enter Tryz.func38,Tryz.ntmps38
  go_upto_region 2 with fail
  have t:=tt (au HO.out.rr)
  obtain⟨⟨t1,t2⟩,_⟩:=HO.out.store zs.toList rfl
  have T1:=tt t1
  have T2:=tt t2
  clear t1 t2
  go_wp2_with (first|(refine wpList_store_mid rfl 56 (.tmp 8) (.tmp 16) rfl w.heap.size 0 zs rfl rfl t.out ax (by simp[Value.oneCell']) ?_))
  refine bodyPost_ret (v:=.tuple #[.agg zs,.int .i64 0,.int .i64 2]) ?_ rfl ?_
  ·exact aL Tryz.results38 _ _ w.heap.size _ _ _ _ rfl T1.out Tryz.underlying56 rfl ax
  ·exact⟨fun m s h=>(by rw[Hn.out] at h;cases h),fun _=>rfl,T2.out⟩
 have Ho:=tt (fQ (f:=f) (cl:=cl) (K:=K) G)
 have d0:decide ((b.length:Int) > 65536)=false:=by simp;omega
 go_enter Tryz.func38,Tryz.ntmps38
 go_wp2_with fail
 refine (mJ b _ 0 _ _ (HX.out.keeps (Keeps.on HO.out.be)) za).mono ?_
 rintro e wa ⟨g1,g2,rfl⟩
 rcases hd:dN b 0 with _|⟨n,a⟩
 ·obtain rfl:=g2 hd
  have Hn:Hid (bW b f cl K=none):=tt (by rw[Ho.out,hd];rfl)
  clear g1 g2 hd Ho HF za
  go_upto_region 5 with fail
  have t:=tt (au HO.out.rr)
  obtain⟨⟨t1,t2⟩,_⟩:=HO.out.store zs.toList rfl
  have T1:=tt t1
  have T2:=tt t2
  clear t1 t2
  go_wp2_with (first|(refine wpList_store_mid rfl 56 (.tmp 8) (.tmp 25) rfl w.heap.size 0 zs rfl rfl t.out ax (by simp[Value.oneCell']) ?_))
  refine bodyPost_ret (v:=.tuple #[.agg zs,.int .i64 0,.int .i64 2]) ?_ rfl ?_
  ·exact aL Tryz.results38 _ _ w.heap.size _ _ _ _ rfl T1.out Tryz.underlying56 rfl ax
  ·exact⟨fun m s h=>(by rw[Hn.out] at h;cases h),fun _=>rfl,T2.out⟩
 obtain rfl:=g1 _ _ hd
 obtain⟨n0,n1,_,a0,a1⟩:=rC hd
 obtain⟨k,rfl⟩:=Int.eq_ofNat_of_zero_le (show 0≤a by omega)
 have T:k≤b.length:=by omega
 obtain⟨b0,o0,rfl,hb0,_,_⟩:=HA.out (by omega)
 have hc:=Ho.out
 rw[hd,Option.bind_some] at hc
 dsimp only at hc
 rw[Int.toNat_natCast] at hc
 obtain⟨r,hr⟩:∃r,b.drop k=r:=⟨_,rfl⟩
 have C:∀m,Psp.aY r=some m→eV f cl m:=fun m hm=>HF.out n (k:Int) m hd (by rw[Int.toNat_natCast,hr];exact hm)
 have H:=lT HX.out T
 rw[hr] at H hc
 have F:=tt H
 have Hc:=tt hc
 have E:=tt C
 have z0:(0:Int)≤(k:Int):=by omega
 have z1:(k:Int)≤(b.length:Int):=by omega
 have z2:(k:Int)≤(c:Int):=by omega
 clear g1 g2 hd hc C H Ho HF za a0 a1
 obtain⟨W0,hW0⟩:∃W0,w.alloc (.cells zs 56)=W0:=⟨_,rfl⟩
 rw[hW0] at HO
 by_cases aa:k < c
 case' neg=>
  have P:k=c:=by omega
  have Z:b.length=k:=by omega
  have S:r=[]:=by rw[←hr];exact List.drop_eq_nil_of_le (by omega)
  have Hn:Hid (bW b f cl K=none):=tt (by rw[Hc.out,S];rfl)
  have e1:b.length - k=0:=by omega
  have d1:¬ (k:Int) < (c:Int):=by omega
  clear F
  go_wp2_with fail
  clear hW0 d1 e1
  refine (ma [] _ W0 ⟨rfl,_,0,rfl,tJ _,Nat.zero_le _,fun h=>absurd h (by simp)⟩).mono ?_
  rintro e w1 ⟨_,g2,g3⟩
  obtain rfl:=g2 rfl
  replace HO:=tt (HO.out.below g3)
  clear g2 g3 Hc E
  have y0:=HO.out.cell 0 (u:=.int .i64 0) rfl
  have q0:=frozen_of_row _ _ 0 _ _ HO.out.rr
  have y1:=HO.out.cell 1 (u:=.int .i64 0) rfl
  have q1:=frozen_of_row _ _ 1 _ _ HO.out.rr
  have y2:=HO.out.cell 2 (u:=.int .i64 0) rfl
  have q2:=frozen_of_row _ _ 2 _ _ HO.out.rr
  have y3:=HO.out.cell 3 (u:=.int .i64 0) rfl
  have q3:=frozen_of_row _ _ 3 _ _ HO.out.rr
  have y4:=HO.out.cell 4 (u:=.int .i64 0) rfl
  have q4:=frozen_of_row _ _ 4 _ _ HO.out.rr
  have y5:=HO.out.cell 5 (u:=.int .i64 0) rfl
  have q5:=frozen_of_row _ _ 5 _ _ HO.out.rr
  have y6:=HO.out.cell 6 (u:=.slice none 0 0) rfl
  have q6:=frozen_of_row _ _ 6 _ _ HO.out.rr
  have y7:=HO.out.cell 7 (u:=.slice none 0 0) rfl
  have q7:=frozen_of_row _ _ 7 _ _ HO.out.rr
  have y8:=HO.out.cell 8 (u:=.slice none 0 0) rfl
  have q8:=frozen_of_row _ _ 8 _ _ HO.out.rr
  have y9:=HO.out.cell 9 (u:=.slice none 0 0) rfl
  have q9:=frozen_of_row _ _ 9 _ _ HO.out.rr
  obtain⟨hs1,_⟩:=HO.out.store zs.toList rfl
  obtain⟨W1,hW1⟩:∃W1,((((((((((w1.setCell ⟨w.heap.size,0,none⟩ (.int .i64 0)).setCell ⟨w.heap.size,1,none⟩ (.int .i64 0)).setCell ⟨w.heap.size,2,none⟩ (.int .i64 0)).setCell ⟨w.heap.size,3,none⟩ (.int .i64 0)).setCell ⟨w.heap.size,4,none⟩ (.int .i64 0)).setCell ⟨w.heap.size,5,none⟩ (.int .i64 0)).setCell ⟨w.heap.size,6,none⟩ (.slice none 0 0)).setCell ⟨w.heap.size,7,none⟩ (.slice none 0 0)).setCell ⟨w.heap.size,8,none⟩ (.slice none 0 0)).setCell ⟨w.heap.size,9,none⟩ (.slice none 0 0))=W1:=⟨_,rfl⟩
  have l:Oc w W1 zs:=by
   have h:=hs1
   simp only[zs,World.setCells,Nat.zero_add,Nat.reduceAdd] at h
   rw[hW1] at h
   exact h
  replace HO:=tt l
  go_upto_region 7 with fail
  clear hs1 l y0 q0 y1 q1 y2 q2 y3 q3 y4 q4 y5 q5 y6 q6 y7 q7 y8 q8 y9 q9
  try clear hW1
  go_quiet (fail)
  replace HO:=tt (HO.out.below (ak (Below.refl _ _) nq))
  go_upto_region 8 with fail
  have t:=tt (au HO.out.rr)
  obtain⟨⟨t1,t2⟩,_⟩:=HO.out.store zs.toList rfl
  have T1:=tt t1
  have T2:=tt t2
  clear t1 t2
  go_wp2_with (first|(refine wpList_store_mid rfl 56 (.tmp 8) (.tmp 53) rfl w.heap.size 0 zs rfl rfl t.out ax (by simp[Value.oneCell']) ?_))
  refine bodyPost_ret (v:=.tuple #[.agg zs,.int .i64 0,.int .i64 2]) ?_ rfl ?_
  ·exact aL Tryz.results38 _ _ w.heap.size _ _ _ _ rfl T1.out Tryz.underlying56 rfl ax
  ·exact⟨fun m s h=>(by rw[Hn.out] at h;cases h),fun _=>rfl,T2.out⟩
 have P:(k:Int) < (c:Int):=by omega
 go_wp2_with fail
 clear hW0
 have R:b.length - k=r.length:=by rw[←hr,List.length_drop]
 rw[R] at F ⊢
 refine (ma r _ W0 (F.out.keeps (Keeps.on HO.out.be))).mono ?_
 rintro e w1 ⟨g1,g2,g3⟩
 have Y:=HO.out.lt
 replace HO:=tt (HO.out.below g3)
 have af:=tt (HN.out.below HO.out.be)
 clear g3
 rcases hd:Psp.aY r with _|m
 ·obtain rfl:=g2 hd
  have Hn:Hid (bW b f cl K=none):=tt (by rw[Hc.out,hd];rfl)
  clear g1 g2 hd Hc E
  have y0:=HO.out.cell 0 (u:=.int .i64 0) rfl
  have q0:=frozen_of_row _ _ 0 _ _ HO.out.rr
  have y1:=HO.out.cell 1 (u:=.int .i64 0) rfl
  have q1:=frozen_of_row _ _ 1 _ _ HO.out.rr
  have y2:=HO.out.cell 2 (u:=.int .i64 0) rfl
  have q2:=frozen_of_row _ _ 2 _ _ HO.out.rr
  have y3:=HO.out.cell 3 (u:=.int .i64 0) rfl
  have q3:=frozen_of_row _ _ 3 _ _ HO.out.rr
  have y4:=HO.out.cell 4 (u:=.int .i64 0) rfl
  have q4:=frozen_of_row _ _ 4 _ _ HO.out.rr
  have y5:=HO.out.cell 5 (u:=.int .i64 0) rfl
  have q5:=frozen_of_row _ _ 5 _ _ HO.out.rr
  have y6:=HO.out.cell 6 (u:=.slice none 0 0) rfl
  have q6:=frozen_of_row _ _ 6 _ _ HO.out.rr
  have y7:=HO.out.cell 7 (u:=.slice none 0 0) rfl
  have q7:=frozen_of_row _ _ 7 _ _ HO.out.rr
  have y8:=HO.out.cell 8 (u:=.slice none 0 0) rfl
  have q8:=frozen_of_row _ _ 8 _ _ HO.out.rr
  have y9:=HO.out.cell 9 (u:=.slice none 0 0) rfl
  have q9:=frozen_of_row _ _ 9 _ _ HO.out.rr
  obtain⟨hs1,_⟩:=HO.out.store zs.toList rfl
  obtain⟨W1,hW1⟩:∃W1,((((((((((w1.setCell ⟨w.heap.size,0,none⟩ (.int .i64 0)).setCell ⟨w.heap.size,1,none⟩ (.int .i64 0)).setCell ⟨w.heap.size,2,none⟩ (.int .i64 0)).setCell ⟨w.heap.size,3,none⟩ (.int .i64 0)).setCell ⟨w.heap.size,4,none⟩ (.int .i64 0)).setCell ⟨w.heap.size,5,none⟩ (.int .i64 0)).setCell ⟨w.heap.size,6,none⟩ (.slice none 0 0)).setCell ⟨w.heap.size,7,none⟩ (.slice none 0 0)).setCell ⟨w.heap.size,8,none⟩ (.slice none 0 0)).setCell ⟨w.heap.size,9,none⟩ (.slice none 0 0))=W1:=⟨_,rfl⟩
  have l:Oc w W1 zs:=by
   have h:=hs1
   simp only[zs,World.setCells,Nat.zero_add,Nat.reduceAdd] at h
   rw[hW1] at h
   exact h
  replace HO:=tt l
  go_upto_region 7 with fail
  clear hs1 l y0 q0 y1 q1 y2 q2 y3 q3 y4 q4 y5 q5 y6 q6 y7 q7 y8 q8 y9 q9
  try clear hW1
  go_quiet (fail)
  replace HO:=tt (HO.out.below (ak (Below.refl _ _) nq))
  go_upto_region 8 with fail
  have t:=tt (au HO.out.rr)
  obtain⟨⟨t1,t2⟩,_⟩:=HO.out.store zs.toList rfl
  have T1:=tt t1
  have T2:=tt t2
  clear t1 t2
  go_wp2_with (first|(refine wpList_store_mid rfl 56 (.tmp 8) (.tmp 53) rfl w.heap.size 0 zs rfl rfl t.out ax (by simp[Value.oneCell']) ?_))
  refine bodyPost_ret (v:=.tuple #[.agg zs,.int .i64 0,.int .i64 2]) ?_ rfl ?_
  ·exact aL Tryz.results38 _ _ w.heap.size _ _ _ _ rfl T1.out Tryz.underlying56 rfl ax
  ·exact⟨fun m s h=>(by rw[Hn.out] at h;cases h),fun _=>rfl,T2.out⟩
 obtain⟨vb,vo,vc,vp,he,hm⟩:=g1 _ hd
 subst he
 obtain⟨Ab,Ao,Ac,Ap,cb,co,cc,cp,rfl,rfl,rfl,rfl⟩:=aG hm
 have D:=(Psp.gB r m).1 hd
 have I:=kj D.1
 have y0:=HO.out.cell 0 (u:=.int .i64 0) rfl
 have q0:=frozen_of_row _ _ 0 _ _ HO.out.rr
 have y1:=HO.out.cell 1 (u:=.int .i64 0) rfl
 have q1:=frozen_of_row _ _ 1 _ _ HO.out.rr
 have y2:=HO.out.cell 2 (u:=.int .i64 0) rfl
 have q2:=frozen_of_row _ _ 2 _ _ HO.out.rr
 have y3:=HO.out.cell 3 (u:=.int .i64 0) rfl
 have q3:=frozen_of_row _ _ 3 _ _ HO.out.rr
 have y4:=HO.out.cell 4 (u:=.int .i64 0) rfl
 have q4:=frozen_of_row _ _ 4 _ _ HO.out.rr
 have y5:=HO.out.cell 5 (u:=.int .i64 0) rfl
 have q5:=frozen_of_row _ _ 5 _ _ HO.out.rr
 have y6:=HO.out.cell 6 (u:=.slice none 0 0) rfl
 have q6:=frozen_of_row _ _ 6 _ _ HO.out.rr
 have y7:=HO.out.cell 7 (u:=.slice none 0 0) rfl
 have q7:=frozen_of_row _ _ 7 _ _ HO.out.rr
 have y8:=HO.out.cell 8 (u:=.slice none 0 0) rfl
 have q8:=frozen_of_row _ _ 8 _ _ HO.out.rr
 have y9:=HO.out.cell 9 (u:=.slice none 0 0) rfl
 have q9:=frozen_of_row _ _ 9 _ _ HO.out.rr
 obtain⟨hs1,hs3⟩:=HO.out.store [.int .i64 m.k,.int .i64 m.f,.int .i64 m.v,.int .i64 m.i,.int .i64 m.q,.int .i64 m.r,.slice Ab m.b.length cb,.slice Ao m.o.length co,.slice Ac m.c.length cc,.slice Ap m.p.length cp] rfl
 have O:=(hm.keeps (Keeps.mono (P':=fun j=>w.heap.size < j) fun j _ hj=>by omega)).keeps hs3
 obtain⟨W1,hW1⟩:∃W1,((((((((((w1.setCell ⟨w.heap.size,0,none⟩ (.int .i64 m.k)).setCell ⟨w.heap.size,1,none⟩ (.int .i64 m.f)).setCell ⟨w.heap.size,2,none⟩ (.int .i64 m.v)).setCell ⟨w.heap.size,3,none⟩ (.int .i64 m.i)).setCell ⟨w.heap.size,4,none⟩ (.int .i64 m.q)).setCell ⟨w.heap.size,5,none⟩ (.int .i64 m.r)).setCell ⟨w.heap.size,6,none⟩ (.slice Ab m.b.length cb)).setCell ⟨w.heap.size,7,none⟩ (.slice Ao m.o.length co)).setCell ⟨w.heap.size,8,none⟩ (.slice Ac m.c.length cc)).setCell ⟨w.heap.size,9,none⟩ (.slice Ap m.p.length cp))=W1:=⟨_,rfl⟩
 have l:Oc w W1 #[.int .i64 m.k,.int .i64 m.f,.int .i64 m.v,.int .i64 m.i,.int .i64 m.q,.int .i64 m.r,.slice Ab m.b.length cb,.slice Ao m.o.length co,.slice Ac m.c.length cc,.slice Ap m.p.length cp]∧MsgOk W1 (fun j=>w.heap.size < j) ⟨m,.slice Ab m.b.length cb,.slice Ao m.o.length co,.slice Ac m.c.length cc,.slice Ap m.p.length cp⟩:=by
  have h:=And.intro hs1 O
  simp only[World.setCells,Nat.zero_add,Nat.reduceAdd] at h
  rw[hW1] at h
  exact h
 have M:Nt W1 g bm K:=HN.out.below l.1.be
 have V:=tt M
 have X:=tt (E.out m hd)
 have U:=tt I
 replace HO:=tt l.1
 have HM:=tt l.2
 have Hd:Hid (bW b f cl K=if (Psp.aF m f cl&&gH K (m.f,r) n)=true then some (m,n) else none):=tt (by rw[Hc.out,hd];rfl)
 have Q:Hid (KOk (m.f,r)):=tt ⟨I.2.1,by rw[D.2];have:=gl D.1;show (Psp.bu m).length≤maxLen;unfold maxLen;omega⟩
 go_upto_region 7 with fail
 clear hs1 l hs3 hm O M D I g1 g2 hd y0 q0 y1 q1 y2 q2 y3 q3 y4 q4 y5 q5 y6 q6 y7 q7 y8 q8 y9 q9 E Hc
 try clear hW1
 have l0:=ab (HO.out.cell 0 (u:=.int .i64 m.k) rfl)
 have l1:=ab (HO.out.cell 1 (u:=.int .i64 m.f) rfl)
 have l2:=ab (HO.out.cell 2 (u:=.int .i64 m.v) rfl)
 have l3:=ab (HO.out.cell 3 (u:=.int .i64 m.i) rfl)
 have l4:=ab (HO.out.cell 4 (u:=.int .i64 m.q) rfl)
 have l5:=ab (HO.out.cell 5 (u:=.int .i64 m.r) rfl)
 have l6:=ab (HO.out.cell 6 (u:=.slice Ab m.b.length cb) rfl)
 have l7:=ab (HO.out.cell 7 (u:=.slice Ao m.o.length co) rfl)
 have l8:=ab (HO.out.cell 8 (u:=.slice Ac m.c.length cc) rfl)
 have l9:=ab (HO.out.cell 9 (u:=.slice Ap m.p.length cp) rfl)
 have J:Hid (∀w':World,(∃p:Later W1,w'=p.W)→w'.rangeAt w.heap.size 0 [.int .i64 m.k,.int .i64 m.f,.int .i64 m.v,.int .i64 m.i,.int .i64 m.q,.int .i64 m.r,.slice Ab m.b.length cb,.slice Ao m.o.length co,.slice Ac m.c.length cc,.slice Ap m.p.length cp]):=tt (by rintro w' ⟨p,rfl⟩;exact (HO.out.below p.h).range)
 obtain⟨b1,hb1⟩:∃y,Psp.aF m f cl=y:=⟨_,rfl⟩
 obtain⟨b2,hb2⟩:∃y,gH K (m.f,r) n=y:=⟨_,rfl⟩
 have B:Hid (∀p:Later W1,Calls Tryz.prog 61 #[.agg #[.int .i64 m.k,.int .i64 m.f,.int .i64 m.v,.int .i64 m.i,.int .i64 m.q,.int .i64 m.r,.slice Ab m.b.length cb,.slice Ao m.o.length co,.slice Ac m.c.length cc,.slice Ap m.p.length cp],.int .i64 f,.int .i64 cl] p.W fun e w'=>e= .returned (.bool b1)∧Below p.W.heap.size p.W w'):=tt fun p=>by rw[←hb1];exact X.out _ _ _ _ p.W _ (HM.out.keeps (Keeps.below p.h)) U.out
 have z:Hid (∀p:Later W1,Calls Tryz.prog 62 #[.pointer (some ⟨g,0,none⟩),.int .i64 m.f,.slice (some ⟨b0,o0+k,none⟩) r.length (c - k),.int .i64 n] p.W fun e w'=>e= .returned (.bool b2)∧Below p.W.heap.size p.W w'):=tt fun p=>by
  refine (oV g bm K m.f r n _ p.W _ (V.out.below p.h) Q.out (F.out.keeps (Keeps.on (HO.out.below p.h).be))).mono ?_
  rintro e w' ⟨rfl,q,rfl⟩
  exact⟨by rw[←hb2];rfl,ak (Below.refl _ _) q⟩
 rw[hb1,hb2] at Hd
 clear hb1 hb2
 cases b1 with
 |false=>
  have Hn:Hid (bW b f cl K=none):=tt (by rw[Hd.out];rfl)
  refine ai (by kernel_rfl) (by kernel_rfl) ?_
  repeat (first|go_big_quiet_step (first|(go_at_call 61;exact ag _ (B.out _))|(go_at_call 62;exact ag _ (z.out _)))|(refine aj (by simp[Region.wanted,yielded]) 56 (.tmp 8) (by rfl) w.heap.size (0) (by rfl) [.int .i64 m.k,.int .i64 m.f,.int .i64 m.v,.int .i64 m.i,.int .i64 m.q,.int .i64 m.r,.slice Ab m.b.length cb,.slice Ao m.o.length co,.slice Ac m.c.length cc,.slice Ap m.p.length cp] _ J.out Tryz.underlying56 rfl ax ?_;intro K hK;go_simp;refine hK _ ?_;clear hK K)|quiet_step (first|(go_at_call 61;exact ag _ (B.out _))|(go_at_call 62;exact ag _ (z.out _))))
  refine wpQuiet_nil ?_
  intro w2 d
  obtain⟨⟨wq,hbq⟩,d⟩:=d
  have hb2:Below W1.heap.size W1 w2:=by rw[d];exact hbq
  clear d hbq
  replace HO:=tt (HO.out.below hb2)
  have L:=tt (HM.out.keeps (Keeps.below hb2))
  clear hb2
  go_upto_region 8 with fail
  have t:=tt (au HO.out.rr)
  obtain⟨⟨t1,t2⟩,_⟩:=HO.out.store zs.toList rfl
  have T1:=tt t1
  have T2:=tt t2
  clear t1 t2
  go_wp2_with (first|(refine wpList_store_mid rfl 56 (.tmp 8) (.tmp 53) rfl w.heap.size 0 zs rfl rfl t.out ax (by simp[Value.oneCell']) ?_))
  refine bodyPost_ret (v:=.tuple #[.agg zs,.int .i64 0,.int .i64 2]) ?_ rfl ?_
  ·exact aL Tryz.results38 _ _ w.heap.size _ _ _ _ rfl T1.out Tryz.underlying56 rfl ax
  ·exact⟨fun m s h=>(by rw[Hn.out] at h;cases h),fun _=>rfl,T2.out⟩
 |true=>
  cases b2 with
  |false=>
   have Hn:Hid (bW b f cl K=none):=tt (by rw[Hd.out];rfl)
   refine ai (by kernel_rfl) (by kernel_rfl) ?_
   repeat (first|go_big_quiet_step (first|(go_at_call 61;exact ag _ (B.out _))|(go_at_call 62;exact ag _ (z.out _)))|(refine aj (by simp[Region.wanted,yielded]) 56 (.tmp 8) (by rfl) w.heap.size (0) (by rfl) [.int .i64 m.k,.int .i64 m.f,.int .i64 m.v,.int .i64 m.i,.int .i64 m.q,.int .i64 m.r,.slice Ab m.b.length cb,.slice Ao m.o.length co,.slice Ac m.c.length cc,.slice Ap m.p.length cp] _ J.out Tryz.underlying56 rfl ax ?_;intro K hK;go_simp;refine hK _ ?_;clear hK K)|quiet_step (first|(go_at_call 61;exact ag _ (B.out _))|(go_at_call 62;exact ag _ (z.out _))))
   refine wpQuiet_nil ?_
   intro w2 d
   obtain⟨⟨wq,hbq⟩,d⟩:=d
   have hb2:Below W1.heap.size W1 w2:=by rw[d];exact hbq
   clear d hbq
   replace HO:=tt (HO.out.below hb2)
   have L:=tt (HM.out.keeps (Keeps.below hb2))
   clear hb2
   go_upto_region 8 with fail
   have t:=tt (au HO.out.rr)
   obtain⟨⟨t1,t2⟩,_⟩:=HO.out.store zs.toList rfl
   have T1:=tt t1
   have T2:=tt t2
   clear t1 t2
   go_wp2_with (first|(refine wpList_store_mid rfl 56 (.tmp 8) (.tmp 53) rfl w.heap.size 0 zs rfl rfl t.out ax (by simp[Value.oneCell']) ?_))
   refine bodyPost_ret (v:=.tuple #[.agg zs,.int .i64 0,.int .i64 2]) ?_ rfl ?_
   ·exact aL Tryz.results38 _ _ w.heap.size _ _ _ _ rfl T1.out Tryz.underlying56 rfl ax
   ·exact⟨fun m s h=>(by rw[Hn.out] at h;cases h),fun _=>rfl,T2.out⟩
  |true=>
   have Hy:Hid (bW b f cl K=some (m,n)):=tt (by rw[Hd.out];rfl)
   refine ai (by kernel_rfl) (by kernel_rfl) ?_
   repeat (first|go_big_quiet_step (first|(go_at_call 61;exact ag _ (B.out _))|(go_at_call 62;exact ag _ (z.out _)))|(refine aj (by simp[Region.wanted,yielded]) 56 (.tmp 8) (by rfl) w.heap.size (0) (by rfl) [.int .i64 m.k,.int .i64 m.f,.int .i64 m.v,.int .i64 m.i,.int .i64 m.q,.int .i64 m.r,.slice Ab m.b.length cb,.slice Ao m.o.length co,.slice Ac m.c.length cc,.slice Ap m.p.length cp] _ J.out Tryz.underlying56 rfl ax ?_;intro K hK;go_simp;refine hK _ ?_;clear hK K)|quiet_step (first|(go_at_call 61;exact ag _ (B.out _))|(go_at_call 62;exact ag _ (z.out _))))
   refine wpQuiet_nil ?_
   intro w2 d
   obtain⟨⟨wq,hbq⟩,d⟩:=d
   have hb2:Below W1.heap.size W1 w2:=by rw[d];exact hbq
   clear d hbq
   replace HO:=tt (HO.out.below hb2)
   have L:=tt (HM.out.keeps (Keeps.below hb2))
   clear hb2
   have y0:=HO.out.cell 0 (u:=.int .i64 m.k) rfl
   have q0:=frozen_of_row _ _ 0 _ _ HO.out.rr
   have y1:=HO.out.cell 1 (u:=.int .i64 m.f) rfl
   have q1:=frozen_of_row _ _ 1 _ _ HO.out.rr
   have y2:=HO.out.cell 2 (u:=.int .i64 m.v) rfl
   have q2:=frozen_of_row _ _ 2 _ _ HO.out.rr
   have y3:=HO.out.cell 3 (u:=.int .i64 m.i) rfl
   have q3:=frozen_of_row _ _ 3 _ _ HO.out.rr
   have y4:=HO.out.cell 4 (u:=.int .i64 m.q) rfl
   have q4:=frozen_of_row _ _ 4 _ _ HO.out.rr
   have y5:=HO.out.cell 5 (u:=.int .i64 m.r) rfl
   have q5:=frozen_of_row _ _ 5 _ _ HO.out.rr
   have y6:=HO.out.cell 6 (u:=.slice Ab m.b.length cb) rfl
   have q6:=frozen_of_row _ _ 6 _ _ HO.out.rr
   have y7:=HO.out.cell 7 (u:=.slice Ao m.o.length co) rfl
   have q7:=frozen_of_row _ _ 7 _ _ HO.out.rr
   have y8:=HO.out.cell 8 (u:=.slice Ac m.c.length cc) rfl
   have q8:=frozen_of_row _ _ 8 _ _ HO.out.rr
   have y9:=HO.out.cell 9 (u:=.slice Ap m.p.length cp) rfl
   have q9:=frozen_of_row _ _ 9 _ _ HO.out.rr
   obtain⟨hs1,hs3⟩:=HO.out.store [.int .i64 m.k,.int .i64 m.f,.int .i64 m.v,.int .i64 m.i,.int .i64 m.q,.int .i64 m.r,.slice Ab m.b.length cb,.slice Ao m.o.length co,.slice Ac m.c.length cc,.slice Ap m.p.length cp] rfl
   have N:=L.out.keeps hs3
   have l:Oc w ((((((((((w2.setCell ⟨w.heap.size,0,none⟩ (.int .i64 m.k)).setCell ⟨w.heap.size,1,none⟩ (.int .i64 m.f)).setCell ⟨w.heap.size,2,none⟩ (.int .i64 m.v)).setCell ⟨w.heap.size,3,none⟩ (.int .i64 m.i)).setCell ⟨w.heap.size,4,none⟩ (.int .i64 m.q)).setCell ⟨w.heap.size,5,none⟩ (.int .i64 m.r)).setCell ⟨w.heap.size,6,none⟩ (.slice Ab m.b.length cb)).setCell ⟨w.heap.size,7,none⟩ (.slice Ao m.o.length co)).setCell ⟨w.heap.size,8,none⟩ (.slice Ac m.c.length cc)).setCell ⟨w.heap.size,9,none⟩ (.slice Ap m.p.length cp)) #[.int .i64 m.k,.int .i64 m.f,.int .i64 m.v,.int .i64 m.i,.int .i64 m.q,.int .i64 m.r,.slice Ab m.b.length cb,.slice Ao m.o.length co,.slice Ac m.c.length cc,.slice Ap m.p.length cp]∧MsgOk ((((((((((w2.setCell ⟨w.heap.size,0,none⟩ (.int .i64 m.k)).setCell ⟨w.heap.size,1,none⟩ (.int .i64 m.f)).setCell ⟨w.heap.size,2,none⟩ (.int .i64 m.v)).setCell ⟨w.heap.size,3,none⟩ (.int .i64 m.i)).setCell ⟨w.heap.size,4,none⟩ (.int .i64 m.q)).setCell ⟨w.heap.size,5,none⟩ (.int .i64 m.r)).setCell ⟨w.heap.size,6,none⟩ (.slice Ab m.b.length cb)).setCell ⟨w.heap.size,7,none⟩ (.slice Ao m.o.length co)).setCell ⟨w.heap.size,8,none⟩ (.slice Ac m.c.length cc)).setCell ⟨w.heap.size,9,none⟩ (.slice Ap m.p.length cp)) (fun j=>w.heap.size < j) ⟨m,.slice Ab m.b.length cb,.slice Ao m.o.length co,.slice Ac m.c.length cc,.slice Ap m.p.length cp⟩:=by
    have h:=And.intro hs1 N
    simp only[World.setCells,Nat.zero_add,Nat.reduceAdd] at h
    exact h
   have HE:=tt l
   clear hs1 hs3 N l
   go_wp2_with fail
   refine bodyPost_ret (v:=.tuple #[.agg #[.int .i64 m.k,.int .i64 m.f,.int .i64 m.v,.int .i64 m.i,.int .i64 m.q,.int .i64 m.r,.slice Ab m.b.length cb,.slice Ao m.o.length co,.slice Ac m.c.length cc,.slice Ap m.p.length cp],.int .i64 n,.int .i64 0]) ?_ rfl ?_
   ·exact aL Tryz.results38 _ _ w.heap.size _ _ _ _ rfl HE.out.1.rr Tryz.underlying56 rfl ax
   ·refine⟨fun m' s h=>?_,fun h=>(by rw[Hy.out] at h;cases h),HE.out.1.be⟩
    rw[Hy.out] at h
    injection h with h
    injection h with h1 h2
    subst h1 h2
    exact⟨_,_,_,_,rfl,HE.out.2.keeps (Keeps.mono fun j _ hj=>by omega)⟩
end Go.Proofs.YtipmjleohadoeaaGreat
end
