import Derived.Test.YtipmjleohadoeaaGreatJ2Py
import Derived.RegionTactic
import Derived.ChangeAlike
import Derived.Test.YtipmjleohadoeaaGreatGaPy
set_option maxRecDepth 100000
set_option maxHeartbeats 16000000
set_option linter.unusedVariables false
set_option linter.unusedSimpArgs false
section
namespace Go.Proofs.YtipmjleohadoeaaGreat
open Go.RowKit
theorem RdR.keeps {w w':World} {P P':Nat→Prop} {v:Value} {l:List Psp.Req} (h:RdR w P v l) (g:Keeps P P' w w'):RdR w' P' v l:=RdP.keeps h g
theorem RdV.keeps {w w':World} {P P':Nat→Prop} {v:Value} {l:List Psp.Vote} (h:RdV w P v l) (g:Keeps P P' w w'):RdV w' P' v l:=RdP.keeps h g
theorem RdR.form {w:World} {P:Nat→Prop} {v:Value} {l:List Psp.Req} (h:RdR w P v l):∃A n c,v= .slice A n c:=by obtain⟨_,A,c,e,_⟩:=h;exact⟨A,_,c,e⟩
theorem RdV.form {w:World} {P:Nat→Prop} {v:Value} {l:List Psp.Vote} (h:RdV w P v l):∃A n c,v= .slice A n c:=by obtain⟨_,A,c,e,_⟩:=h;exact⟨A,_,c,e⟩
theorem RdC.form {w:World} {P:Nat→Prop} {v:Value} {l:List Psp.Cert} (h:RdC w P v l):∃A n c,v= .slice A n c:=by obtain⟨L,_,⟨_,A,c,e,_⟩,_⟩:=h;exact⟨A,_,c,e⟩
theorem Keeps.fpg {w0 W W':World} {g:Nat} (h:Fp (fun k=>k=g) W W') (hg:g < w0.heap.size):Keeps (fun k=>w0.heap.size+2≤k) (fun k=>w0.heap.size+2≤k) W W':=⟨h.size,fun b hb hlt=>⟨h.block b hlt (by omega),hb⟩⟩
theorem Keeps.var (w0 W:World) (i:Nat) (v:Value):Keeps (fun k=>w0.heap.size+2≤k) (fun k=>w0.heap.size+2≤k) W (W.setCell ⟨w0.heap.size+1,i,none⟩ v):=⟨by simp[World.setCell],fun b hb hlt=>⟨Below.heap_setCell W ⟨w0.heap.size+1,i,none⟩ _ b (by simp;omega),hb⟩⟩
theorem Keeps.new2 {w0 W W':World} (hs:w0.heap.size+1 < W.heap.size):Keeps (fun k=>W.heap.size≤k) (fun k=>w0.heap.size+2≤k) W' W':=⟨tJ _,fun b hb hlt=>⟨rfl,by omega⟩⟩
theorem cF (g:Nat):∀(l:List Value) (k:Nat) (W:World),(W.setCells g k l).heap.size=W.heap.size
 | [],_,_=>rfl
 |v :: l,k,W=>(cF g l (k+1) _).trans (by simp[World.setCell])
theorem Keeps.res {w0 W W':World} (hs:W.heap.size≤W'.heap.size) (h:∀b,b≠w0.heap.size→W'.heap[b]? =W.heap[b]?):Keeps (fun k=>w0.heap.size+2≤k) (fun k=>w0.heap.size≤k) W W':=⟨hs,fun b hb hlt=>⟨h b (by omega),by omega⟩⟩
def TookC (RT:TypeId) (b:List UInt8) (x:Value) (g:Nat) (o:Option Int) (w:World) (e:Ending) (w':World):Prop:=
 ∃y:CertV,e= .returned (.agg (cv y).toArray)∧CertOk w' (fun k=>w.heap.size≤k) y∧Psp.Is Psp.dC b o y.c∧Rs RT w' g x (Psp.nxt Psp.dC b o)∧Fp (fun k=>k=g) w w'
def TookA (RT:TypeId) (b:List UInt8) (x:Value) (g:Nat) (o:Option Int) (w:World) (e:Ending) (w':World):Prop:=
 ∃y:PartV,e= .returned (.agg (pv y).toArray)∧PartOk w' (fun k=>w.heap.size≤k) y∧Psp.Is Psp.dP b o y.p∧Rs RT w' g x (Psp.nxt Psp.dP b o)∧Fp (fun k=>k=g) w w'
theorem qu (b:List UInt8) (x:Value) (g:Nat) (o:Option Int) (w:World) (hx:RdP w (fun k=>k≠g) 1 x b.length (b.map bv)) (hR:Rs 215 w g x o):
 Calls Tryz.prog 122 #[.pointer (some ⟨g,0,none⟩)] w (TookC 215 b x g o w):=by
 have hg:=hR.lt
 have t0:=Two.new hR #[.int .i64 0,.int .i64 0,.int .i64 0,.slice none 0 0,.slice none 0 0] 162
 have HX:=tt hx
 have T0:=tt t0
 clear hx hR t0
 go_enter Tryz.func122,Tryz.ntmps122
 go_wp2_with fail
 refine (bH b x g _ _ (fun k=>k≠g) (HX.out.fp T0.out.fp (fun k hk=>hk)) T0.out.rs).mono ?_
 rintro e w1 ⟨v,rfl,h1,h2,h3,h4,h5⟩
 have t1:=T0.out.call h4 h5
 obtain⟨x0,z0⟩:=t1.cell 0 (by simp)
 simp only[List.getElem_toArray,tF] at x0
 have T1:=tt (t1.store 0 (.int .i64 v) (cs':=#[.int .i64 v,.int .i64 0,.int .i64 0,.slice none 0 0,.slice none 0 0]) rfl)
 have E0:=tt h3
 clear h1 h2 h3 h4 h5 t1
 go_wp2_with fail
 refine (bH b x g _ _ (fun k=>k≠g) (HX.out.fp T1.out.fp (fun k hk=>hk)) T1.out.rs).mono ?_
 rintro e w2 ⟨i,rfl,h1,h2,h3,h4,h5⟩
 have t1:=T1.out.call h4 h5
 obtain⟨x1,z1⟩:=t1.cell 1 (by simp)
 simp only[List.getElem_toArray,tF,tG] at x1
 have T2:=tt (t1.store 1 (.int .i64 i) (cs':=#[.int .i64 v,.int .i64 i,.int .i64 0,.slice none 0 0,.slice none 0 0]) rfl)
 have E1:=tt h3
 clear h1 h2 h3 h4 h5 t1 x0 z0
 go_wp2_with fail
 refine (bH b x g _ _ (fun k=>k≠g) (HX.out.fp T2.out.fp (fun k hk=>hk)) T2.out.rs).mono ?_
 rintro e w3 ⟨q,rfl,h1,h2,h3,h4,h5⟩
 have t1:=T2.out.call h4 h5
 obtain⟨x2,z2⟩:=t1.cell 2 (by simp)
 simp only[List.getElem_toArray,tF,tG] at x2
 have T3:=tt (t1.store 2 (.int .i64 q) (cs':=#[.int .i64 v,.int .i64 i,.int .i64 q,.slice none 0 0,.slice none 0 0]) rfl)
 have E2:=tt h3
 clear h1 h2 h3 h4 h5 t1 x1 z1
 go_wp2_with fail
 refine (jq b x g _ _ (HX.out.fp T3.out.fp (fun k hk=>hk)) T3.out.rs).mono ?_
 rintro e w4 ⟨vl,l,rfl,hL,h3,h4,h5⟩
 obtain⟨Al,nl,cl,el⟩:=hL.form
 subst el
 have a:=hL.keeps (Keeps.new2 T3.out.lt1)
 have t1:=T3.out.call h4 h5
 obtain⟨x3,z3⟩:=t1.cell 3 (by simp)
 simp only[List.getElem_toArray,tF,tG] at x3
 have j:=tt (a.keeps (Keeps.var w w4 3 (.slice Al nl cl)))
 have T4:=tt (t1.store 3 (.slice Al nl cl) (cs':=#[.int .i64 v,.int .i64 i,.int .i64 q,.slice Al nl cl,.slice none 0 0]) rfl)
 have E3:=tt h3
 clear hL a h3 h4 h5 t1 x2 z2
 go_wp2_with fail
 refine (gw b x g _ _ (HX.out.fp T4.out.fp (fun k hk=>hk)) T4.out.rs).mono ?_
 rintro e w5 ⟨vm,m,rfl,hL,h3,h4,h5⟩
 obtain⟨Am,nm,cm,em⟩:=hL.form
 subst em
 have a:=hL.keeps (Keeps.new2 T4.out.lt1)
 have t1:=T4.out.call h4 h5
 obtain⟨x4,z4⟩:=t1.cell 4 (by simp)
 simp only[List.getElem_toArray,tF,tG] at x4
 have h:=tt ((j.out.keeps (Keeps.fpg h5 hg)).keeps (Keeps.var w w5 4 (.slice Am nm cm)))
 have f:=tt (a.keeps (Keeps.var w w5 4 (.slice Am nm cm)))
 have T5:=tt (t1.store 4 (.slice Am nm cm) (cs':=#[.int .i64 v,.int .i64 i,.int .i64 q,.slice Al nl cl,.slice Am nm cm]) rfl)
 have E4:=tt h3
 clear hL a h3 h4 h5 t1 x3 z3
 have d:=T5.out.range [.int .i64 v,.int .i64 i,.int .i64 q,.slice Al nl cl,.slice Am nm cm] rfl
 have p:=tt d
 have c:=T5.out.there
 have n:=tt c
 clear d c
 go_wp2_with (first|(refine aA rfl 162 (.tmp 3) rfl (w.heap.size+1) 0 rfl [.int .i64 v,.int .i64 i,.int .i64 q,.slice Al nl cl,.slice Am nm cm] _ ?_ Tryz.underlying162 rfl dI ?_;exact p.out)|(refine wpList_store_mid rfl 162 (.tmp 2) _ rfl w.heap.size 0 #[.int .i64 v,.int .i64 i,.int .i64 q,.slice Al nl cl,.slice Am nm cm] rfl rfl n.out dI (by simp[Value.oneCell']) ?_))
 obtain⟨r1,r2,r3,r4⟩:=T5.out.result [.int .i64 v,.int .i64 i,.int .i64 q,.slice Al nl cl,.slice Am nm cm] rfl
 refine bodyPost_ret (v:=.agg #[.int .i64 v,.int .i64 i,.int .i64 q,.slice Al nl cl,.slice Am nm cm]) ?_ rfl ?_
 ·exact results_cell_row Tryz.results122 _ _ w.heap.size _ _ _ _ rfl r1 Tryz.underlying162 rfl dI
 ·obtain⟨c1,c2⟩:=mC E0.out E1.out E2.out E3.out E4.out
  have Fl:=h.out.keeps (Keeps.res (by rw[cF];exact tJ _) r4)
  have Fm:=f.out.keeps (Keeps.res (by rw[cF];exact tJ _) r4)
  exact⟨⟨⟨v,i,q,l,m⟩,.slice Al nl cl,.slice Am nm cm⟩,rfl,⟨Fl,Fm⟩,c1,by rw[c2];exact r2,r3⟩
theorem rx (t:CertV):(Tryz.prog.info? 162).map (fun i=>(i.zero.map (·.cells.size),i.size))=some (some (cv t).length,(cv t).length):=by
 show _=some (some 5,5)
 kernel_rfl
theorem ru (t:PartV):(Tryz.prog.info? 168).map (fun i=>(i.zero.map (·.cells.size),i.size))=some (some (pv t).length,(pv t).length):=by
 show _=some (some 4,4)
 kernel_rfl
theorem rD:Elem Tryz.prog 53 162 5 72:=⟨Tryz.underlying53,by kernel_rfl,by decide⟩
theorem rA:Elem Tryz.prog 54 168 4 64:=⟨Tryz.underlying54,by kernel_rfl,by decide⟩
theorem pC {w:World} {P:Nat→Prop} {t:CertV} (h:CertOk w P t):∀u∈(cv t).toArray.toList,u.oneCell'=true:=by
 intro u hu
 simp[cv,iv] at hu
 rcases hu with rfl|rfl|rfl|rfl|rfl
 ·rfl
 ·rfl
 ·rfl
 ·exact h.1.one
 ·exact h.2.one
theorem oI {w:World} {P:Nat→Prop} {t:PartV} (h:PartOk w P t):∀u∈(pv t).toArray.toList,u.oneCell'=true:=by
 intro u hu
 simp[pv,iv] at hu
 rcases hu with rfl|rfl|rfl|rfl
 ·rfl
 ·exact h.1.one
 ·exact h.2.one
 ·rfl
structure TInvC (b:List UInt8) (x:Value) (g:Nat) (o o1:Option Int) (n:Nat) (w w':World) (out:Value) (xs:List CertV) (o':Option Int):Prop where
 n256:n≤256
 le:xs.length≤n
 own:w'.ownsRow w.heap.size 162 5 out xs.length (xs.flatMap cv)
 many:Psp.Many Psp.dC b n o1 (xs.map (·.c)) o'
 rs:Rs 215 w' g x o'
 fp:Fp (fun k=>k=g) w w'
 inner:∀y∈xs,CertOk w' (fun k=>w.heap.size≤k∧out.ownBlock≠some k) y
def TJC (b:List UInt8) (x:Value) (g:Nat) (o o1:Option Int) (n:Nat) (w:World) (lab:Nat) (a':Act) (w':World):Prop:=
 (lab=0∧o.bind (Psp.dL Psp.dC b)=none∧Fp (fun k=>k=g) w w'∧(∃o',Rs 215 w' g x o')∧∃u1 u2 u3 u5 u6 u7 u8 u9 u10 u11 u12 u13 u14 u15 u16 u17 u18 u19 u20 u21 u22 u23 u24 u25 u26 u27 u28:Value,a'={tmps:=#[.pointer (some ⟨g,0,none⟩),u1,u2,u3,.slice none 0 0,u5,u6,u7,u8,u9,u10,u11,u12,u13,u14,u15,u16,u17,u18,u19,u20,u21,u22,u23,u24,u25,u26,u27,u28],defers:=[]})∨
 (lab=1∧∃(out:Value) (xs:List CertV) (o':Option Int),TInvC b x g o o1 n w w' out xs o'∧∃u2 u3 u7 u8 u9 u10 u11 u12 u13 u14 u15 u16 u17 u18 u19 u20 u21 u22 u23 u24 u25 u26 u27 u28:Value,a'={tmps:=#[.pointer (some ⟨g,0,none⟩),.func (.func 122) #[] #[],u2,u3,.slice none 0 0,out,.int .i64 (n:Int),u7,u8,u9,u10,u11,u12,u13,u14,u15,u16,u17,u18,u19,u20,u21,u22,u23,u24,u25,u26,u27,u28],defers:=[]})
theorem TInvC.next {b:List UInt8} {x:Value} {g:Nat} {o o1:Option Int} {n m c5:Nat} {w w' w1 w2:World} {A5:Option Addr} {xs:List CertV} {a:Int} {t:CertV} {v':Value} (h:TInvC b x g o o1 n w w' (.slice A5 m c5) xs (some a))
 (hm:xs.length=m) (hlt:m < n) (h0:CertOk w1 (fun k=>w'.heap.size≤k) t) (h3:Psp.Is Psp.dC b (some a) t.c) (h4:Rs 215 w1 g x (Psp.nxt Psp.dC b (some a))) (h5:Fp (fun k=>k=g) w' w1) (hg:g < w.heap.size) (e:w1.ownsRow w.heap.size 162 5 (.slice A5 m c5) m (xs.flatMap cv))
 (f:w2.ownsRow w.heap.size 162 5 v' (m+1) (xs.flatMap cv++(cv t).toArray.toList)) (d:w1.grownBy w2 (Value.slice A5 m c5).ownBlock) (i:v'.ownBlock=(Value.slice A5 m c5).ownBlock∨v'.ownBlock=some (w1.heap.size+1)):
 TInvC b x g o o1 n w w2 v' (xs++[t]) (Psp.nxt Psp.dC b (some a)):=by
 have hz:=h.fp.size
 have j:=h5.size
 have l:(Value.slice A5 m c5).ownBlock≠some g:=fun he=>by have:=(e.lt g he).1;omega
 have k1:Keeps (fun k=>w.heap.size≤k∧(Value.slice A5 m c5).ownBlock≠some k) (fun k=>w.heap.size≤k∧v'.ownBlock≠some k) w' w2:=by
  refine⟨Nat.le_trans j d.size,fun b hb hlt=>⟨(d.block b (by omega) (fun he=>hb.2 he.symm)).trans (h5.block b hlt (by have:=hb.1;omega)),hb.1,fun he=>?_⟩⟩
  rcases i with hv|hv
  ·rw[hv] at he;exact hb.2 he
  ·rw[hv] at he;injection he with he;omega
 have k2:Keeps (fun k=>w'.heap.size≤k) (fun k=>w.heap.size≤k∧v'.ownBlock≠some k) w1 w2:=by
  refine⟨d.size,fun b hb hlt=>⟨d.block b hlt (fun he=>?_),by omega,fun he=>?_⟩⟩
  ·have:=(h.own.lt b (by rw[←he])).2;omega
  ·rcases i with hv|hv
   ·rw[hv] at he;have:=(h.own.lt b he).2;omega
   ·rw[hv] at he;injection he with he;omega
 refine⟨h.n256,by rw[tH];simp;omega,?_,?_,h4.keep (d.block g (by omega) (fun he=>l he.symm)),(h.fp.trans h5 fun k hk=>Or.inl hk).grown d fun k hk=>Or.inr (e.lt k hk).1,fun y hy=>?_⟩
 ·rw[tH,List.flatMap_append,hm]
  simpa using f
 ·rw[List.map_append]
  exact h.many.step (by rw[List.length_map];omega) h3
 ·rcases List.mem_append.1 hy with hy|hy
  ·exact (h.inner y hy).keeps k1
  ·rw[List.mem_singleton.1 hy]
   exact h0.keeps k2
theorem jr (b:List UInt8) (x:Value) (g:Nat) (o:Option Int) (w:World) (hx:RdP w (fun k=>k≠g) 1 x b.length (b.map bv)) (hR:Rs 215 w g x o):
 Calls Tryz.prog 154 #[.pointer (some ⟨g,0,none⟩),.func (.func 122) #[] #[]] w (gV 215 Psp.dC RdC b x g o w):=by
 have HX:=tt hx
 have HR:=tt hR
 have hg:=hR.lt
 clear hx hR
 go_enter Tryz.func154,Tryz.ntmps154
 go_wp2_with fail
 refine ce (fun r a' w'=>∃n:Nat,Psp.Is dN b o (n:Int)∧TJC b x g o (Psp.nxt dN b o) n w r a' w') (fun r a' _=>if r=0 then 0 else 300 - lenOf (a'.tmps.getD 5 undef)) ?_ ?_
 ·rintro r a' w' ⟨n,hn,⟨rfl,j,hF,⟨o',u⟩,u1,u2,u3,u5,u6,u7,u8,u9,Y,X,W,V,U,T,S,R,Q,P,O,N,M,L,K,J,I,G,F,rfl⟩|⟨rfl,out,xs,o',hI,u2,u3,u7,u8,u9,Y,X,W,V,U,T,S,R,Q,P,O,N,M,L,K,J,I,G,F,rfl⟩⟩
  ·refine⟨_,rfl,?_⟩
   obtain⟨a,bad,k0,k1,k2,z1,z2,_,_,_⟩:=u.cells
   have ac:=tt u
   have HF:=tt hF
   have ad:=tt j
   clear u hF j hn k0 k1 z1
   go_wp2_with fail
   go_ret
   obtain⟨f1,f2⟩:=ac.out.fail
   obtain⟨q1,q2⟩:=Psp.eC ad.out
   exact⟨_,[],rfl,nil_C _ _,q2 _,by rw[q1];exact f1,HF.out.trans f2 fun k hk=>Or.inl hk⟩
  ·refine⟨_,rfl,?_⟩
   obtain⟨A5,c5,e5,_,_,_⟩:=ao hI.own
   subst e5
   obtain⟨a,bad,k0,k1,k2,z1,z2,_,hs,hnn⟩:=hI.rs.cells
   have A:=hI.le
   have D:=hI.n256
   have HI:=tt hI
   have Hn:=tt hn
   cases o' with
   |none=>
    have l:=hnn rfl
    subst l
    have C:o.bind (Psp.dL Psp.dC b)=none:=by
     rw[Psp.fK Hn.out (by omega),Int.toNat_natCast]
     exact HI.out.many.no rfl
    have af:=tt C
    clear hI hn hs hnn C k0 k1 z1
    go_wp2_with fail
    go_step3
    exact⟨⟨n,Hn.out,.inl ⟨rfl,af.out,HI.out.fp,⟨_,HI.out.rs⟩,_,_,_,_,_,_,_,_,_,_,_,_,_,_,_,_,_,_,_,_,_,_,_,_,_,_,_,rfl⟩⟩,by simp[lenOf];omega⟩
   |some p=>
    obtain⟨Z,l⟩:=hs p rfl
    subst Z l
    clear hI hn hs hnn k0 k1 z1
    by_cases hk:xs.length=n
    ·have hkb:((xs.length:Int)==(n:Int))=true:=by simp;omega
     have hd:=Psp.fb ((Psp.fK (d:=Psp.dC) Hn.out (by omega)).trans (by rw[Int.toNat_natCast];exact HI.out.many.done (by rw[List.length_map];exact hk)))
     have Hd:=tt hd
     obtain⟨m,hm⟩:∃m,xs.length=m:=⟨_,rfl⟩
     have s:RdC w' (fun k=>w.heap.size≤k) (.slice A5 m c5) (xs.map (·.c)):=by rw[←hm];exact⟨xs,rfl,(RdP.of_own HI.out.own).mono (fun b _ hb=>hb.2),fun y hy=>(HI.out.inner y hy).keeps (Keeps.mono fun b _ hb=>hb.1)⟩
     have E:=tt s
     clear s
     have Hm:=tt hm
     rw[hm] at hkb
     rw[hm]
     clear hd hk hm A
     go_wp2_with fail
     go_ret
     exact⟨_,_,rfl,E.out,Hd.out.2,by rw[Hd.out.1];exact HI.out.rs,HI.out.fp⟩
    ·have hkb:((xs.length:Int)==(n:Int))=false:=by simp;omega
     have hlt:xs.length < n:=by omega
     have hz:=HI.out.fp.size
     obtain⟨m,hm⟩:∃m,xs.length=m:=⟨_,rfl⟩
     have Hm:=tt hm
     rw[hm] at hkb hlt HI
     rw[hm]
     clear hk hm A
     go_wp2_with fail
     refine (qu b x g _ _ (HX.out.fp HI.out.fp (fun k hk=>hk)) HI.out.rs).mono ?_
     rintro e w1 ⟨t,rfl,h0,h3,h4,h5⟩
     have al:=h5.size
     have i:w1.ownsRow w.heap.size 162 5 (.slice A5 m c5) m (xs.flatMap cv):=by have h:=HI.out.own;rw[Hm.out] at h;exact ar h fun b hb=>h5.block b (HI.out.own.lt b hb).2 (by have:=(HI.out.own.lt b hb).1;omega)
     have q:=tt i
     have H0:=tt h0
     have H3:=tt h3
     have H4:=tt h4
     have H5:=tt h5
     clear i h0 h3 h4 h5
     go_wp2_with (first|(refine cu rfl 53 (.tmp 23) rfl 162 (cv t) rfl Tryz.underlying53 (rx t) (by simp[cv]) (by simp[cv]) ?_)|(at_builtin;refine aW rD rfl _ _ rfl w.heap.size _ m _ rfl q.out (cv t).toArray rfl rfl (pC H0.out) (by omega) (by decide) (by omega) ?_;intro v' w2 f B hb2 v;have HN:=tt (TInvC.next HI.out Hm.out hlt H0.out H3.out H4.out H5.out hg q.out f B v);clear f B hb2 v;obtain⟨A6,c6,e6,_,_,_⟩:=ao HN.out.own;have E6:=tt e6;clear e6))
     go_step3
     refine⟨⟨n,Hn.out,.inr ⟨rfl,_,_,_,HN.out,_,_,_,_,_,_,_,_,_,_,_,_,_,_,_,_,_,_,_,_,_,_,_,_,rfl⟩⟩,?_⟩
     show 300 - lenOf _ < 300 - _
     rw[show lenOf _=m+1 from by rw[E6.out];simp[lenOf,Hm.out]]
     show 300 - (m+1) < 300 - m
     omega
 ·intro H
  have HH:=tt H
  clear H
  go_wp2_with fail
  refine (bH b x g o _ (fun k=>k≠g) HX.out HR.out).mono ?_
  rintro e w1 ⟨n0,rfl,h1,h2,h3,h4,h5⟩
  obtain⟨n,rfl⟩:∃n:Nat,n0=(n:Int):=⟨n0.toNat,by omega⟩
  have H3:=tt h3
  have H4:=tt h4
  have H5:=tt h5
  clear h3 h4 h5
  by_cases D:256 < n
  ·have d1:decide (256 < (n:Int))=true:=by simp;omega
   go_wp2_with fail
   go_step3
   exact⟨n,H3.out,.inl ⟨rfl,Psp.gG H3.out (by omega),H5.out,⟨_,H4.out⟩,_,_,_,_,_,_,_,_,_,_,_,_,_,_,_,_,_,_,_,_,_,_,_,_,_,_,_,rfl⟩⟩
  ·have d1:decide (256 < (n:Int))=false:=by simp;omega
   have z:TInvC b x g o (Psp.nxt dN b o) n w w1 (.slice none 0 0) [] (Psp.nxt dN b o):=⟨by omega,by simp,World.ownsRow_nil _ _ _ _,Psp.Many.start,H4.out,H5.out,fun y hy=>by cases hy⟩
   have aa:=tt z
   clear z
   go_wp2_with fail
   go_step3
   simp only[Exit.then]
   rename_i hK
   refine hK _ _ (HH.out 1 _ _ ⟨n,H3.out,.inr ⟨rfl,_,_,_,aa.out,_,_,_,_,_,_,_,_,_,_,_,_,_,_,_,_,_,_,_,_,_,_,_,_,rfl⟩⟩ _ rfl)
theorem qt (b:List UInt8) (x:Value) (g:Nat) (o:Option Int) (w:World) (hx:RdP w (fun k=>k≠g) 1 x b.length (b.map bv)) (hR:Rs 215 w g x o):
 Calls Tryz.prog 124 #[.pointer (some ⟨g,0,none⟩)] w (TookA 215 b x g o w):=by
 have hg:=hR.lt
 have t0:=Two.new hR #[.int .i64 0,.slice none 0 0,.slice none 0 0,.int .i64 0] 168
 have HX:=tt hx
 have T0:=tt t0
 clear hx hR t0
 go_enter Tryz.func124,Tryz.ntmps124
 go_wp2_with fail
 refine (bH b x g _ _ (fun k=>k≠g) (HX.out.fp T0.out.fp (fun k hk=>hk)) T0.out.rs).mono ?_
 rintro e w1 ⟨f,rfl,h1,h2,h3,h4,h5⟩
 have t1:=T0.out.call h4 h5
 obtain⟨x0,z0⟩:=t1.cell 0 (by simp)
 simp only[List.getElem_toArray,tF] at x0
 have T1:=tt (t1.store 0 (.int .i64 f) (cs':=#[.int .i64 f,.slice none 0 0,.slice none 0 0,.int .i64 0]) rfl)
 have E0:=tt h3
 clear h1 h2 h3 h4 h5 t1
 go_wp2_with fail
 refine (gw b x g _ _ (HX.out.fp T1.out.fp (fun k hk=>hk)) T1.out.rs).mono ?_
 rintro e w2 ⟨vm,m,rfl,hL,h3,h4,h5⟩
 obtain⟨Am,nm,cm,em⟩:=hL.form
 subst em
 have a:=hL.keeps (Keeps.new2 T1.out.lt1)
 have t1:=T1.out.call h4 h5
 obtain⟨x1,z1⟩:=t1.cell 1 (by simp)
 simp only[List.getElem_toArray,tF,tG] at x1
 have j:=tt (a.keeps (Keeps.var w w2 1 (.slice Am nm cm)))
 have T2:=tt (t1.store 1 (.slice Am nm cm) (cs':=#[.int .i64 f,.slice Am nm cm,.slice none 0 0,.int .i64 0]) rfl)
 have E1:=tt h3
 clear hL a h3 h4 h5 t1 x0 z0
 go_wp2_with fail
 refine (jr b x g _ _ (HX.out.fp T2.out.fp (fun k hk=>hk)) T2.out.rs).mono ?_
 rintro e w3 ⟨vl,l,rfl,hL,h3,h4,h5⟩
 obtain⟨Al,nl,cl,el⟩:=hL.form
 subst el
 have a:=hL.keeps (Keeps.new2 T2.out.lt1)
 have t1:=T2.out.call h4 h5
 obtain⟨x2,z2⟩:=t1.cell 2 (by simp)
 simp only[List.getElem_toArray,tF,tG] at x2
 have i:=tt ((j.out.keeps (Keeps.fpg h5 hg)).keeps (Keeps.var w w3 2 (.slice Al nl cl)))
 have p:=tt (a.keeps (Keeps.var w w3 2 (.slice Al nl cl)))
 have T3:=tt (t1.store 2 (.slice Al nl cl) (cs':=#[.int .i64 f,.slice Am nm cm,.slice Al nl cl,.int .i64 0]) rfl)
 have E2:=tt h3
 clear hL a h3 h4 h5 t1 x1 z1
 go_wp2_with fail
 refine (bH b x g _ _ (fun k=>k≠g) (HX.out.fp T3.out.fp (fun k hk=>hk)) T3.out.rs).mono ?_
 rintro e w4 ⟨s,rfl,h1,h2,h3,h4,h5⟩
 have t1:=T3.out.call h4 h5
 obtain⟨x3,z3⟩:=t1.cell 3 (by simp)
 simp only[List.getElem_toArray,tF,tG] at x3
 have h:=tt ((i.out.keeps (Keeps.fpg h5 hg)).keeps (Keeps.var w w4 3 (.int .i64 s)))
 have n:=tt ((p.out.keeps (Keeps.fpg h5 hg)).keeps (Keeps.var w w4 3 (.int .i64 s)))
 have T4:=tt (t1.store 3 (.int .i64 s) (cs':=#[.int .i64 f,.slice Am nm cm,.slice Al nl cl,.int .i64 s]) rfl)
 have E3:=tt h3
 clear h1 h2 h3 h4 h5 t1 x2 z2
 have d:=T4.out.range [.int .i64 f,.slice Am nm cm,.slice Al nl cl,.int .i64 s] rfl
 have r:=tt d
 have c:=T4.out.there
 have q:=tt c
 clear d c
 go_wp2_with (first|(refine aA rfl 168 (.tmp 3) rfl (w.heap.size+1) 0 rfl [.int .i64 f,.slice Am nm cm,.slice Al nl cl,.int .i64 s] _ ?_ Tryz.underlying168 rfl fa ?_;exact r.out)|(refine wpList_store_mid rfl 168 (.tmp 2) _ rfl w.heap.size 0 #[.int .i64 f,.slice Am nm cm,.slice Al nl cl,.int .i64 s] rfl rfl q.out fa (by simp[Value.oneCell']) ?_))
 obtain⟨r1,r2,r3,r4⟩:=T4.out.result [.int .i64 f,.slice Am nm cm,.slice Al nl cl,.int .i64 s] rfl
 refine bodyPost_ret (v:=.agg #[.int .i64 f,.slice Am nm cm,.slice Al nl cl,.int .i64 s]) ?_ rfl ?_
 ·exact results_cell_row Tryz.results124 _ _ w.heap.size _ _ _ _ rfl r1 Tryz.underlying168 rfl fa
 ·obtain⟨c1,c2⟩:=mB E0.out E1.out E2.out E3.out
  have Fm:=h.out.keeps (Keeps.res (by rw[cF];exact tJ _) r4)
  have Fl:=n.out.keeps (Keeps.res (by rw[cF];exact tJ _) r4)
  exact⟨⟨⟨f,m,l,s⟩,.slice Am nm cm,.slice Al nl cl⟩,rfl,⟨Fm,Fl⟩,c1,by rw[c2];exact r2,r3⟩
structure TInvP (b:List UInt8) (x:Value) (g:Nat) (o o1:Option Int) (n:Nat) (w w':World) (out:Value) (xs:List PartV) (o':Option Int):Prop where
 n256:n≤256
 le:xs.length≤n
 own:w'.ownsRow w.heap.size 168 4 out xs.length (xs.flatMap pv)
 many:Psp.Many Psp.dP b n o1 (xs.map (·.p)) o'
 rs:Rs 215 w' g x o'
 fp:Fp (fun k=>k=g) w w'
 inner:∀y∈xs,PartOk w' (fun k=>w.heap.size≤k∧out.ownBlock≠some k) y
def TJP (b:List UInt8) (x:Value) (g:Nat) (o o1:Option Int) (n:Nat) (w:World) (lab:Nat) (a':Act) (w':World):Prop:=
 (lab=0∧o.bind (Psp.dL Psp.dP b)=none∧Fp (fun k=>k=g) w w'∧(∃o',Rs 215 w' g x o')∧∃u1 u2 u3 u5 u6 u7 u8 u9 u10 u11 u12 u13 u14 u15 u16 u17 u18 u19 u20 u21 u22 u23 u24 u25 u26 u27 u28:Value,a'={tmps:=#[.pointer (some ⟨g,0,none⟩),u1,u2,u3,.slice none 0 0,u5,u6,u7,u8,u9,u10,u11,u12,u13,u14,u15,u16,u17,u18,u19,u20,u21,u22,u23,u24,u25,u26,u27,u28],defers:=[]})∨
 (lab=1∧∃(out:Value) (xs:List PartV) (o':Option Int),TInvP b x g o o1 n w w' out xs o'∧∃u2 u3 u7 u8 u9 u10 u11 u12 u13 u14 u15 u16 u17 u18 u19 u20 u21 u22 u23 u24 u25 u26 u27 u28:Value,a'={tmps:=#[.pointer (some ⟨g,0,none⟩),.func (.func 124) #[] #[],u2,u3,.slice none 0 0,out,.int .i64 (n:Int),u7,u8,u9,u10,u11,u12,u13,u14,u15,u16,u17,u18,u19,u20,u21,u22,u23,u24,u25,u26,u27,u28],defers:=[]})
theorem TInvP.next {b:List UInt8} {x:Value} {g:Nat} {o o1:Option Int} {n m c5:Nat} {w w' w1 w2:World} {A5:Option Addr} {xs:List PartV} {a:Int} {t:PartV} {v':Value} (h:TInvP b x g o o1 n w w' (.slice A5 m c5) xs (some a))
 (hm:xs.length=m) (hlt:m < n) (h0:PartOk w1 (fun k=>w'.heap.size≤k) t) (h3:Psp.Is Psp.dP b (some a) t.p) (h4:Rs 215 w1 g x (Psp.nxt Psp.dP b (some a))) (h5:Fp (fun k=>k=g) w' w1) (hg:g < w.heap.size) (d:w1.ownsRow w.heap.size 168 4 (.slice A5 m c5) m (xs.flatMap pv))
 (e:w2.ownsRow w.heap.size 168 4 v' (m+1) (xs.flatMap pv++(pv t).toArray.toList)) (c:w1.grownBy w2 (Value.slice A5 m c5).ownBlock) (f:v'.ownBlock=(Value.slice A5 m c5).ownBlock∨v'.ownBlock=some (w1.heap.size+1)):
 TInvP b x g o o1 n w w2 v' (xs++[t]) (Psp.nxt Psp.dP b (some a)):=by
 have hz:=h.fp.size
 have i:=h5.size
 have j:(Value.slice A5 m c5).ownBlock≠some g:=fun he=>by have:=(d.lt g he).1;omega
 have k1:Keeps (fun k=>w.heap.size≤k∧(Value.slice A5 m c5).ownBlock≠some k) (fun k=>w.heap.size≤k∧v'.ownBlock≠some k) w' w2:=by
  refine⟨Nat.le_trans i c.size,fun b hb hlt=>⟨(c.block b (by omega) (fun he=>hb.2 he.symm)).trans (h5.block b hlt (by have:=hb.1;omega)),hb.1,fun he=>?_⟩⟩
  rcases f with hv|hv
  ·rw[hv] at he;exact hb.2 he
  ·rw[hv] at he;injection he with he;omega
 have k2:Keeps (fun k=>w'.heap.size≤k) (fun k=>w.heap.size≤k∧v'.ownBlock≠some k) w1 w2:=by
  refine⟨c.size,fun b hb hlt=>⟨c.block b hlt (fun he=>?_),by omega,fun he=>?_⟩⟩
  ·have:=(h.own.lt b (by rw[←he])).2;omega
  ·rcases f with hv|hv
   ·rw[hv] at he;have:=(h.own.lt b he).2;omega
   ·rw[hv] at he;injection he with he;omega
 refine⟨h.n256,by rw[tH];simp;omega,?_,?_,h4.keep (c.block g (by omega) (fun he=>j he.symm)),(h.fp.trans h5 fun k hk=>Or.inl hk).grown c fun k hk=>Or.inr (d.lt k hk).1,fun y hy=>?_⟩
 ·rw[tH,List.flatMap_append,hm]
  simpa using e
 ·rw[List.map_append]
  exact h.many.step (by rw[List.length_map];omega) h3
 ·rcases List.mem_append.1 hy with hy|hy
  ·exact (h.inner y hy).keeps k1
  ·rw[List.mem_singleton.1 hy]
   exact h0.keeps k2
theorem mV (b:List UInt8) (x:Value) (g:Nat) (o:Option Int) (w:World) (hx:RdP w (fun k=>k≠g) 1 x b.length (b.map bv)) (hR:Rs 215 w g x o):
 Calls Tryz.prog 155 #[.pointer (some ⟨g,0,none⟩),.func (.func 124) #[] #[]] w (gV 215 Psp.dP RdA b x g o w):=by
 have HX:=tt hx
 have HR:=tt hR
 have hg:=hR.lt
 clear hx hR
 go_enter Tryz.func155,Tryz.ntmps155
 go_wp2_with fail
 refine ce (fun q a' w'=>∃n:Nat,Psp.Is dN b o (n:Int)∧TJP b x g o (Psp.nxt dN b o) n w q a' w') (fun q a' _=>if q=0 then 0 else 300 - lenOf (a'.tmps.getD 5 undef)) ?_ ?_
 ·rintro q a' w' ⟨n,hn,⟨rfl,i,hF,⟨o',s⟩,u1,u2,u3,u5,u6,u7,u8,u9,X,W,V,U,T,S,R,Q,P,O,N,M,L,K,J,I,G,F,E,rfl⟩|⟨rfl,out,xs,o',hI,u2,u3,u7,u8,u9,X,W,V,U,T,S,R,Q,P,O,N,M,L,K,J,I,G,F,E,rfl⟩⟩
  ·refine⟨_,rfl,?_⟩
   obtain⟨a,bad,k0,k1,k2,z1,z2,_,_,_⟩:=s.cells
   have aa:=tt s
   have HF:=tt hF
   have ac:=tt i
   clear s hF i hn k0 k1 z1
   go_wp2_with fail
   go_ret
   obtain⟨f1,f2⟩:=aa.out.fail
   obtain⟨q1,q2⟩:=Psp.eC ac.out
   exact⟨_,[],rfl,nil_A _ _,q2 _,by rw[q1];exact f1,HF.out.trans f2 fun k hk=>Or.inl hk⟩
  ·refine⟨_,rfl,?_⟩
   obtain⟨A5,c5,e5,_,_,_⟩:=ao hI.own
   subst e5
   obtain⟨a,bad,k0,k1,k2,z1,z2,_,hs,hnn⟩:=hI.rs.cells
   have z:=hI.le
   have C:=hI.n256
   have HI:=tt hI
   have Hn:=tt hn
   cases o' with
   |none=>
    have j:=hnn rfl
    subst j
    have B:o.bind (Psp.dL Psp.dP b)=none:=by
     rw[Psp.fK Hn.out (by omega),Int.toNat_natCast]
     exact HI.out.many.no rfl
    have ad:=tt B
    clear hI hn hs hnn B k0 k1 z1
    go_wp2_with fail
    go_step3
    exact⟨⟨n,Hn.out,.inl ⟨rfl,ad.out,HI.out.fp,⟨_,HI.out.rs⟩,_,_,_,_,_,_,_,_,_,_,_,_,_,_,_,_,_,_,_,_,_,_,_,_,_,_,_,rfl⟩⟩,by simp[lenOf];omega⟩
   |some p=>
    obtain⟨Y,j⟩:=hs p rfl
    subst Y j
    clear hI hn hs hnn k0 k1 z1
    by_cases hk:xs.length=n
    ·have hkb:((xs.length:Int)==(n:Int))=true:=by simp;omega
     have hd:=Psp.fb ((Psp.fK (d:=Psp.dP) Hn.out (by omega)).trans (by rw[Int.toNat_natCast];exact HI.out.many.done (by rw[List.length_map];exact hk)))
     have Hd:=tt hd
     obtain⟨m,hm⟩:∃m,xs.length=m:=⟨_,rfl⟩
     have r:RdA w' (fun k=>w.heap.size≤k) (.slice A5 m c5) (xs.map (·.p)):=by rw[←hm];exact⟨xs,rfl,(RdP.of_own HI.out.own).mono (fun b _ hb=>hb.2),fun y hy=>(HI.out.inner y hy).keeps (Keeps.mono fun b _ hb=>hb.1)⟩
     have D:=tt r
     clear r
     have Hm:=tt hm
     rw[hm] at hkb
     rw[hm]
     clear hd hk hm z
     go_wp2_with fail
     go_ret
     exact⟨_,_,rfl,D.out,Hd.out.2,by rw[Hd.out.1];exact HI.out.rs,HI.out.fp⟩
    ·have hkb:((xs.length:Int)==(n:Int))=false:=by simp;omega
     have hlt:xs.length < n:=by omega
     have hz:=HI.out.fp.size
     obtain⟨m,hm⟩:∃m,xs.length=m:=⟨_,rfl⟩
     have Hm:=tt hm
     rw[hm] at hkb hlt HI
     rw[hm]
     clear hk hm z
     go_wp2_with fail
     refine (qt b x g _ _ (HX.out.fp HI.out.fp (fun k hk=>hk)) HI.out.rs).mono ?_
     rintro e w1 ⟨t,rfl,h0,h3,h4,h5⟩
     have af:=h5.size
     have f:w1.ownsRow w.heap.size 168 4 (.slice A5 m c5) m (xs.flatMap pv):=by have h:=HI.out.own;rw[Hm.out] at h;exact ar h fun b hb=>h5.block b (HI.out.own.lt b hb).2 (by have:=(HI.out.own.lt b hb).1;omega)
     have l:=tt f
     have H0:=tt h0
     have H3:=tt h3
     have H4:=tt h4
     have H5:=tt h5
     clear f h0 h3 h4 h5
     go_wp2_with (first|(refine cu rfl 54 (.tmp 23) rfl 168 (pv t) rfl Tryz.underlying54 (ru t) (by simp[pv]) (by simp[pv]) ?_)|(at_builtin;refine aW rA rfl _ _ rfl w.heap.size _ m _ rfl l.out (pv t).toArray rfl rfl (oI H0.out) (by omega) (by decide) (by omega) ?_;intro v' w2 c A hb2 u;have HN:=tt (TInvP.next HI.out Hm.out hlt H0.out H3.out H4.out H5.out hg l.out c A u);clear c A hb2 u;obtain⟨A6,c6,e6,_,_,_⟩:=ao HN.out.own;have E6:=tt e6;clear e6))
     go_step3
     refine⟨⟨n,Hn.out,.inr ⟨rfl,_,_,_,HN.out,_,_,_,_,_,_,_,_,_,_,_,_,_,_,_,_,_,_,_,_,_,_,_,_,rfl⟩⟩,?_⟩
     show 300 - lenOf _ < 300 - _
     rw[show lenOf _=m+1 from by rw[E6.out];simp[lenOf,Hm.out]]
     show 300 - (m+1) < 300 - m
     omega
 ·intro H
  have HH:=tt H
  clear H
  go_wp2_with fail
  refine (bH b x g o _ (fun k=>k≠g) HX.out HR.out).mono ?_
  rintro e w1 ⟨n0,rfl,h1,h2,h3,h4,h5⟩
  obtain⟨n,rfl⟩:∃n:Nat,n0=(n:Int):=⟨n0.toNat,by omega⟩
  have H3:=tt h3
  have H4:=tt h4
  have H5:=tt h5
  clear h3 h4 h5
  by_cases C:256 < n
  ·have d1:decide (256 < (n:Int))=true:=by simp;omega
   go_wp2_with fail
   go_step3
   exact⟨n,H3.out,.inl ⟨rfl,Psp.gG H3.out (by omega),H5.out,⟨_,H4.out⟩,_,_,_,_,_,_,_,_,_,_,_,_,_,_,_,_,_,_,_,_,_,_,_,_,_,_,_,rfl⟩⟩
  ·have d1:decide (256 < (n:Int))=false:=by simp;omega
   have v:TInvP b x g o (Psp.nxt dN b o) n w w1 (.slice none 0 0) [] (Psp.nxt dN b o):=⟨by omega,by simp,World.ownsRow_nil _ _ _ _,Psp.Many.start,H4.out,H5.out,fun y hy=>by cases hy⟩
   have Z:=tt v
   clear v
   go_wp2_with fail
   go_step3
   simp only[Exit.then]
   rename_i hK
   refine hK _ _ (HH.out 1 _ _ ⟨n,H3.out,.inr ⟨rfl,_,_,_,Z.out,_,_,_,_,_,_,_,_,_,_,_,_,_,_,_,_,_,_,_,_,_,_,_,_,rfl⟩⟩ _ rfl)
theorem Rs.new {w:World} (T:TypeId) (x:Value) {a:Int} (ha:aE a):Rs T (w.alloc (.cells #[x,.int .i64 a,.bool false] T)) w.heap.size x (some a):=
 ⟨a,false,tL w _,ha,(fun c hc=>⟨by injection hc,rfl⟩),(fun h=>by cases h)⟩
def gW {α:Type} (d:Psp.Dec (List α)) (RD:World→(Nat→Prop)→Value→List α→Prop) (b:List UInt8) (a:Int) (w:World) (e:Ending) (w':World):Prop:=
 (∀l a',d b a=some (l,a')→∃v,e= .returned (.tuple #[v,.int .i64 a',.bool true])∧RD w' (fun k=>w.heap.size≤k) v l)∧
 (d b a=none→e= .returned (.tuple #[.slice none 0 0,.int .i64 0,.bool false]))∧Below w.heap.size w w'
theorem rI (b:List UInt8) (x:Value) (a:Int) (w:World) (hx:RdP w (fun k=>k < w.heap.size) 1 x b.length (b.map bv)) (ha:aE a):
 Calls Tryz.prog 117 #[x,.int .i64 a,.func (.func 118) #[] #[]] w (gW (Psp.dL Psp.dR) RdR b a w):=by
 have hx1:RdP (w.alloc (.cells #[x,.int .i64 a,.bool false] 215)) (fun k=>k≠w.heap.size) 1 x b.length (b.map bv):=hx.keeps (Keeps.newb _ _)
 have m:Rs 215 (w.alloc (.cells #[x,.int .i64 a,.bool false] 215)) w.heap.size x (some a):=Rs.new _ x ha
 obtain⟨_,A,c,rfl,_,_,_⟩:=hx.parts
 have HX:=tt hx1
 have HR:=tt m
 clear hx hx1 m
 go_enter Tryz.func117,Tryz.ntmps117
 go_wp2_with fail
 refine (jq b _ w.heap.size (some a) _ HX.out HR.out).mono ?_
 rintro e w1 ⟨v,l,rfl,hL,h3,h4,h5⟩
 have hz:=h5.size
 have d:Below w.heap.size w w1:=(ae w _).trans (h5.to_below (by simp) fun k _ hk=>by omega)
 have i:RdR w1 (fun k=>w.heap.size≤k) v l:=hL.keeps (Keeps.mono fun k _ hk=>by simp at hk;omega)
 obtain⟨p,bad,k0,k1,k2,z1,z2,_,hs,hn⟩:=h4.cells
 have HL:=tt i
 have g:=tt d
 have H3:=tt h3
 cases hd:Psp.dL Psp.dR b a with
 |none=>
  rw[Psp.bV hd] at hn
  have f:=hn rfl
  subst f
  have Hd:=tt hd
  clear hd hL i h3 h4 h5 d hs hn k0 k1 z1 z2
  go_wp2_with fail
  go_ret3
  exact⟨fun l a' h=>(by rw[Hd.out] at h;cases h),fun _=>rfl,g.out⟩
 |some q=>
  obtain⟨l',a'⟩:=q
  rw[Psp.dd hd] at hs
  obtain⟨o,f⟩:=hs a' rfl
  subst o f
  have r:l=l':=H3.out (l',p) (by simp[hd])
  subst r
  have Hd:=tt hd
  have K1:=ab k1
  clear hd hL i h3 h4 h5 d hs hn k0 z1 z2
  go_wp2_with fail
  refine ai (by kernel_rfl) (by kernel_rfl) ?_
  repeat (go_big_quiet_step (fail))
  refine wpQuiet_nil ?_
  intro w3 j
  have hb3:=ay j
  clear j
  have n:=tt hb3
  clear hb3
  go_wp2_with fail
  go_ret3
  exact⟨fun l a' h=>(by rw[Hd.out] at h;injection h with h;injection h with h1 h2;subst h1 h2;exact⟨v,rfl,HL.out.keeps (Keeps.below n.out)⟩),fun h=>(by rw[Hd.out] at h;cases h),Below.then g.out n.out g.out.size⟩
theorem takeR (b:List UInt8) (x:Value) (a:Int) (w:World) (hx:RdP w (fun k=>k < w.heap.size) 1 x b.length (b.map bv)) (ha:aE a):
 Calls Tryz.prog 83 #[x,.int .i64 a] w (gW (Psp.dL Psp.dR) RdR b a w):=by
 have HX:=tt hx
 have Ha:=tt ha
 clear hx ha
 go_enter Tryz.func83,Tryz.ntmps83
 go_wp2_with fail
 refine (rI b x a w HX.out Ha.out).mono ?_
 intro e w1 h
 obtain⟨h1,h2,h3⟩:=h
 have H1:=tt h1
 have H2:=tt h2
 have H3:=tt h3
 clear h1 h2 h3
 cases hd:Psp.dL Psp.dR b a with
 |none=>
  have he:=H2.out hd
  subst he
  have Hd:=tt hd
  clear hd
  go_wp2_with fail
  go_ret3
  exact⟨fun l a' h=>(by rw[Hd.out] at h;cases h),fun _=>rfl,H3.out⟩
 |some q=>
  obtain⟨l,a'⟩:=q
  obtain⟨v,he,hL⟩:=H1.out l a' hd
  subst he
  have Hd:=tt hd
  have HL:=tt hL
  clear hd hL
  go_wp2_with fail
  go_ret3
  exact⟨fun l2 a2 h=>(by rw[Hd.out] at h;injection h with h;injection h with h1 h2;subst h1 h2;exact⟨v,rfl,HL.out⟩),fun h=>(by rw[Hd.out] at h;cases h),H3.out⟩
theorem rH (b:List UInt8) (x:Value) (a:Int) (w:World) (hx:RdP w (fun k=>k < w.heap.size) 1 x b.length (b.map bv)) (ha:aE a):
 Calls Tryz.prog 119 #[x,.int .i64 a,.func (.func 120) #[] #[]] w (gW (Psp.dL Psp.dV) RdV b a w):=by
 have hx1:RdP (w.alloc (.cells #[x,.int .i64 a,.bool false] 215)) (fun k=>k≠w.heap.size) 1 x b.length (b.map bv):=hx.keeps (Keeps.newb _ _)
 have m:Rs 215 (w.alloc (.cells #[x,.int .i64 a,.bool false] 215)) w.heap.size x (some a):=Rs.new _ x ha
 obtain⟨_,A,c,rfl,_,_,_⟩:=hx.parts
 have HX:=tt hx1
 have HR:=tt m
 clear hx hx1 m
 go_enter Tryz.func119,Tryz.ntmps119
 go_wp2_with fail
 refine (gw b _ w.heap.size (some a) _ HX.out HR.out).mono ?_
 rintro e w1 ⟨v,l,rfl,hL,h3,h4,h5⟩
 have hz:=h5.size
 have d:Below w.heap.size w w1:=(ae w _).trans (h5.to_below (by simp) fun k _ hk=>by omega)
 have i:RdV w1 (fun k=>w.heap.size≤k) v l:=hL.keeps (Keeps.mono fun k _ hk=>by simp at hk;omega)
 obtain⟨p,bad,k0,k1,k2,z1,z2,_,hs,hn⟩:=h4.cells
 have HL:=tt i
 have g:=tt d
 have H3:=tt h3
 cases hd:Psp.dL Psp.dV b a with
 |none=>
  rw[Psp.bV hd] at hn
  have f:=hn rfl
  subst f
  have Hd:=tt hd
  clear hd hL i h3 h4 h5 d hs hn k0 k1 z1 z2
  go_wp2_with fail
  go_ret3
  exact⟨fun l a' h=>(by rw[Hd.out] at h;cases h),fun _=>rfl,g.out⟩
 |some q=>
  obtain⟨l',a'⟩:=q
  rw[Psp.dd hd] at hs
  obtain⟨o,f⟩:=hs a' rfl
  subst o f
  have r:l=l':=H3.out (l',p) (by simp[hd])
  subst r
  have Hd:=tt hd
  have K1:=ab k1
  clear hd hL i h3 h4 h5 d hs hn k0 z1 z2
  go_wp2_with fail
  refine ai (by kernel_rfl) (by kernel_rfl) ?_
  repeat (go_big_quiet_step (fail))
  refine wpQuiet_nil ?_
  intro w3 j
  have hb3:=ay j
  clear j
  have n:=tt hb3
  clear hb3
  go_wp2_with fail
  go_ret3
  exact⟨fun l a' h=>(by rw[Hd.out] at h;injection h with h;injection h with h1 h2;subst h1 h2;exact⟨v,rfl,HL.out.keeps (Keeps.below n.out)⟩),fun h=>(by rw[Hd.out] at h;cases h),Below.then g.out n.out g.out.size⟩
theorem takeV (b:List UInt8) (x:Value) (a:Int) (w:World) (hx:RdP w (fun k=>k < w.heap.size) 1 x b.length (b.map bv)) (ha:aE a):
 Calls Tryz.prog 84 #[x,.int .i64 a] w (gW (Psp.dL Psp.dV) RdV b a w):=by
 have HX:=tt hx
 have Ha:=tt ha
 clear hx ha
 go_enter Tryz.func84,Tryz.ntmps84
 go_wp2_with fail
 refine (rH b x a w HX.out Ha.out).mono ?_
 intro e w1 h
 obtain⟨h1,h2,h3⟩:=h
 have H1:=tt h1
 have H2:=tt h2
 have H3:=tt h3
 clear h1 h2 h3
 cases hd:Psp.dL Psp.dV b a with
 |none=>
  have he:=H2.out hd
  subst he
  have Hd:=tt hd
  clear hd
  go_wp2_with fail
  go_ret3
  exact⟨fun l a' h=>(by rw[Hd.out] at h;cases h),fun _=>rfl,H3.out⟩
 |some q=>
  obtain⟨l,a'⟩:=q
  obtain⟨v,he,hL⟩:=H1.out l a' hd
  subst he
  have Hd:=tt hd
  have HL:=tt hL
  clear hd hL
  go_wp2_with fail
  go_ret3
  exact⟨fun l2 a2 h=>(by rw[Hd.out] at h;injection h with h;injection h with h1 h2;subst h1 h2;exact⟨v,rfl,HL.out⟩),fun h=>(by rw[Hd.out] at h;cases h),H3.out⟩
theorem rK (b:List UInt8) (x:Value) (a:Int) (w:World) (hx:RdP w (fun k=>k < w.heap.size) 1 x b.length (b.map bv)) (ha:aE a):
 Calls Tryz.prog 121 #[x,.int .i64 a,.func (.func 122) #[] #[]] w (gW (Psp.dL Psp.dC) RdC b a w):=by
 have hx1:RdP (w.alloc (.cells #[x,.int .i64 a,.bool false] 215)) (fun k=>k≠w.heap.size) 1 x b.length (b.map bv):=hx.keeps (Keeps.newb _ _)
 have m:Rs 215 (w.alloc (.cells #[x,.int .i64 a,.bool false] 215)) w.heap.size x (some a):=Rs.new _ x ha
 obtain⟨_,A,c,rfl,_,_,_⟩:=hx.parts
 have HX:=tt hx1
 have HR:=tt m
 clear hx hx1 m
 go_enter Tryz.func121,Tryz.ntmps121
 go_wp2_with fail
 refine (jr b _ w.heap.size (some a) _ HX.out HR.out).mono ?_
 rintro e w1 ⟨v,l,rfl,hL,h3,h4,h5⟩
 have hz:=h5.size
 have d:Below w.heap.size w w1:=(ae w _).trans (h5.to_below (by simp) fun k _ hk=>by omega)
 have i:RdC w1 (fun k=>w.heap.size≤k) v l:=hL.keeps (Keeps.mono fun k _ hk=>by simp at hk;omega)
 obtain⟨p,bad,k0,k1,k2,z1,z2,_,hs,hn⟩:=h4.cells
 have HL:=tt i
 have g:=tt d
 have H3:=tt h3
 cases hd:Psp.dL Psp.dC b a with
 |none=>
  rw[Psp.bV hd] at hn
  have f:=hn rfl
  subst f
  have Hd:=tt hd
  clear hd hL i h3 h4 h5 d hs hn k0 k1 z1 z2
  go_wp2_with fail
  go_ret3
  exact⟨fun l a' h=>(by rw[Hd.out] at h;cases h),fun _=>rfl,g.out⟩
 |some q=>
  obtain⟨l',a'⟩:=q
  rw[Psp.dd hd] at hs
  obtain⟨o,f⟩:=hs a' rfl
  subst o f
  have r:l=l':=H3.out (l',p) (by simp[hd])
  subst r
  have Hd:=tt hd
  have K1:=ab k1
  clear hd hL i h3 h4 h5 d hs hn k0 z1 z2
  go_wp2_with fail
  refine ai (by kernel_rfl) (by kernel_rfl) ?_
  repeat (go_big_quiet_step (fail))
  refine wpQuiet_nil ?_
  intro w3 j
  have hb3:=ay j
  clear j
  have n:=tt hb3
  clear hb3
  go_wp2_with fail
  go_ret3
  exact⟨fun l a' h=>(by rw[Hd.out] at h;injection h with h;injection h with h1 h2;subst h1 h2;exact⟨v,rfl,HL.out.keeps (Keeps.below n.out)⟩),fun h=>(by rw[Hd.out] at h;cases h),Below.then g.out n.out g.out.size⟩
theorem takeC (b:List UInt8) (x:Value) (a:Int) (w:World) (hx:RdP w (fun k=>k < w.heap.size) 1 x b.length (b.map bv)) (ha:aE a):
 Calls Tryz.prog 85 #[x,.int .i64 a] w (gW (Psp.dL Psp.dC) RdC b a w):=by
 have HX:=tt hx
 have Ha:=tt ha
 clear hx ha
 go_enter Tryz.func85,Tryz.ntmps85
 go_wp2_with fail
 refine (rK b x a w HX.out Ha.out).mono ?_
 intro e w1 h
 obtain⟨h1,h2,h3⟩:=h
 have H1:=tt h1
 have H2:=tt h2
 have H3:=tt h3
 clear h1 h2 h3
 cases hd:Psp.dL Psp.dC b a with
 |none=>
  have he:=H2.out hd
  subst he
  have Hd:=tt hd
  clear hd
  go_wp2_with fail
  go_ret3
  exact⟨fun l a' h=>(by rw[Hd.out] at h;cases h),fun _=>rfl,H3.out⟩
 |some q=>
  obtain⟨l,a'⟩:=q
  obtain⟨v,he,hL⟩:=H1.out l a' hd
  subst he
  have Hd:=tt hd
  have HL:=tt hL
  clear hd hL
  go_wp2_with fail
  go_ret3
  exact⟨fun l2 a2 h=>(by rw[Hd.out] at h;injection h with h;injection h with h1 h2;subst h1 h2;exact⟨v,rfl,HL.out⟩),fun h=>(by rw[Hd.out] at h;cases h),H3.out⟩
theorem rJ (b:List UInt8) (x:Value) (a:Int) (w:World) (hx:RdP w (fun k=>k < w.heap.size) 1 x b.length (b.map bv)) (ha:aE a):
 Calls Tryz.prog 123 #[x,.int .i64 a,.func (.func 124) #[] #[]] w (gW (Psp.dL Psp.dP) RdA b a w):=by
 have hx1:RdP (w.alloc (.cells #[x,.int .i64 a,.bool false] 215)) (fun k=>k≠w.heap.size) 1 x b.length (b.map bv):=hx.keeps (Keeps.newb _ _)
 have m:Rs 215 (w.alloc (.cells #[x,.int .i64 a,.bool false] 215)) w.heap.size x (some a):=Rs.new _ x ha
 obtain⟨_,A,c,rfl,_,_,_⟩:=hx.parts
 have HX:=tt hx1
 have HR:=tt m
 clear hx hx1 m
 go_enter Tryz.func123,Tryz.ntmps123
 go_wp2_with fail
 refine (mV b _ w.heap.size (some a) _ HX.out HR.out).mono ?_
 rintro e w1 ⟨v,l,rfl,hL,h3,h4,h5⟩
 have hz:=h5.size
 have d:Below w.heap.size w w1:=(ae w _).trans (h5.to_below (by simp) fun k _ hk=>by omega)
 have i:RdA w1 (fun k=>w.heap.size≤k) v l:=hL.keeps (Keeps.mono fun k _ hk=>by simp at hk;omega)
 obtain⟨p,bad,k0,k1,k2,z1,z2,_,hs,hn⟩:=h4.cells
 have HL:=tt i
 have g:=tt d
 have H3:=tt h3
 cases hd:Psp.dL Psp.dP b a with
 |none=>
  rw[Psp.bV hd] at hn
  have f:=hn rfl
  subst f
  have Hd:=tt hd
  clear hd hL i h3 h4 h5 d hs hn k0 k1 z1 z2
  go_wp2_with fail
  go_ret3
  exact⟨fun l a' h=>(by rw[Hd.out] at h;cases h),fun _=>rfl,g.out⟩
 |some q=>
  obtain⟨l',a'⟩:=q
  rw[Psp.dd hd] at hs
  obtain⟨o,f⟩:=hs a' rfl
  subst o f
  have r:l=l':=H3.out (l',p) (by simp[hd])
  subst r
  have Hd:=tt hd
  have K1:=ab k1
  clear hd hL i h3 h4 h5 d hs hn k0 z1 z2
  go_wp2_with fail
  refine ai (by kernel_rfl) (by kernel_rfl) ?_
  repeat (go_big_quiet_step (fail))
  refine wpQuiet_nil ?_
  intro w3 j
  have hb3:=ay j
  clear j
  have n:=tt hb3
  clear hb3
  go_wp2_with fail
  go_ret3
  exact⟨fun l a' h=>(by rw[Hd.out] at h;injection h with h;injection h with h1 h2;subst h1 h2;exact⟨v,rfl,HL.out.keeps (Keeps.below n.out)⟩),fun h=>(by rw[Hd.out] at h;cases h),Below.then g.out n.out g.out.size⟩
theorem takeP (b:List UInt8) (x:Value) (a:Int) (w:World) (hx:RdP w (fun k=>k < w.heap.size) 1 x b.length (b.map bv)) (ha:aE a):
 Calls Tryz.prog 86 #[x,.int .i64 a] w (gW (Psp.dL Psp.dP) RdA b a w):=by
 have HX:=tt hx
 have Ha:=tt ha
 clear hx ha
 go_enter Tryz.func86,Tryz.ntmps86
 go_wp2_with fail
 refine (rJ b x a w HX.out Ha.out).mono ?_
 intro e w1 h
 obtain⟨h1,h2,h3⟩:=h
 have H1:=tt h1
 have H2:=tt h2
 have H3:=tt h3
 clear h1 h2 h3
 cases hd:Psp.dL Psp.dP b a with
 |none=>
  have he:=H2.out hd
  subst he
  have Hd:=tt hd
  clear hd
  go_wp2_with fail
  go_ret3
  exact⟨fun l a' h=>(by rw[Hd.out] at h;cases h),fun _=>rfl,H3.out⟩
 |some q=>
  obtain⟨l,a'⟩:=q
  obtain⟨v,he,hL⟩:=H1.out l a' hd
  subst he
  have Hd:=tt hd
  have HL:=tt hL
  clear hd hL
  go_wp2_with fail
  go_ret3
  exact⟨fun l2 a2 h=>(by rw[Hd.out] at h;injection h with h;injection h with h1 h2;subst h1 h2;exact⟨v,rfl,HL.out⟩),fun h=>(by rw[Hd.out] at h;cases h),H3.out⟩
theorem aQ {W:World} {g:Nat} {zs:Array Value} {T:TypeId} (h:W.heap[g]? =some (.cells zs T (0,0))) (l:List Value) (hl:l.length=zs.size):(W.setCells g 0 l).heap[g]? =some (.cells l.toArray T (0,0))∧∀b,b≠g→(W.setCells g 0 l).heap[b]? =W.heap[b]?:=by
 have c:∀(vs:List Value) (k:Nat) (W:World) (pre:List Value),W.heap[g]? =some (.cells (pre++zs.toList.drop k).toArray T (0,0))→pre.length=k→k+vs.length=zs.size→(W.setCells g k vs).heap[g]? =some (.cells (pre++vs).toArray T (0,0)):=by
  intro vs
  induction vs with
  |nil=>
   intro k W pre h1 h2 h3
   rw[List.drop_eq_nil_of_le (by simp at h3 ⊢;omega)] at h1
   exact h1
  |cons v vs ih=>
   intro k W pre h1 h2 h3
   have h4:(W.setCell ⟨g,k,none⟩ v).heap[g]? =some (.cells ((pre++[v])++zs.toList.drop (k+1)).toArray T (0,0)):=by
    rw[heap_setCell_same W _ k _ _ v h1]
    congr 2
    have hk:k < zs.toList.length:=by simp at h3 ⊢;omega
    rw[List.drop_eq_getElem_cons hk]
    apply Array.ext'
    simp[h2]
   have:=ih (k+1) _ (pre++[v]) h4 (by simp[h2]) (by simp at h3 ⊢;omega)
   simpa [World.setCells] using this
 have a:∀(vs:List Value) (k:Nat) (W:World) (b:Nat),b≠g→(W.setCells g k vs).heap[b]? =W.heap[b]?:=by
  intro vs
  induction vs with
  |nil=>intro k W b _;rfl
  |cons v vs ih=>
   intro k W b hb
   exact (ih (k+1) _ b hb).trans (Below.heap_setCell W ⟨g,k,none⟩ _ b hb)
 exact⟨by simpa using c l 0 W [] (by simpa using h) rfl (by simpa using hl),fun b hb=>a l 0 W b hb⟩
theorem au {W:World} {g:Nat} {zs:Array Value} {T:TypeId} (h:W.heap[g]? =some (.cells zs T (0,0))):W.there g 0 zs.size:=fun j hj=>by
 refine⟨?_,frozen_of_row W _ (0+j) _ _ h⟩
 rw[Nat.zero_add,cell_of_row W _ j _ _ _ h]
 simp[hj]
theorem bY {B:Nat} {a w:World} (h:Below B a w) (g:Nat) (hg:B≤g) (l:List Value):Below B a (w.setCells g 0 l):=by
 have h1:Fp (fun k=>k=g) w (w.setCells g 0 l):=(Fp.refl (fun k=>k=g) w).setCells (Or.inl rfl) l
 have hs:=h1.size
 refine⟨h1.os.trans h.os,h1.tape.trans h.tape,h1.output.trans h.output,by have:=h.size;omega,fun k hk=>?_⟩
 by_cases hlt:k < w.heap.size
 ·exact (h1.block k hlt (by omega)).trans (h.block k hk)
 ·have:=h.block k hk
  rw[Array.getElem?_eq_none (by omega)] at this
  rw[←this,Array.getElem?_eq_none]
  rw[cF];omega
theorem aL {P:Program} {fn:Func} {p u v:Tmp} {ty:TypeId} (h:fn.results=#[.cell p ty,.tmp u,.tmp v]) (tmps:Array Value) (w:World) (g:Nat) (t:TypeId) (cs:Array Value) (fr:Nat×Nat) (d:TypeDesc)
 (hp:tmps.getD p undef= .pointer (some ⟨g,0,none⟩)) (hg:w.heap[g]? =some (.cells cs t fr))
 (hu:P.underlying ty=some d) (hd:(match d with| .struct _| .array _ _=>true|_=>false)=true) (hi:(P.info? ty).map (·.size)=some cs.size):
 (results fn tmps).run P w= .ok (.tuple #[.agg cs,tmps.getD u undef,tmps.getD v undef]) w:=by
 have a:tmps[p]?.getD undef= .pointer (some ⟨g,0,none⟩):=by simpa using hp
 simp[results,h,a,asAddr,run_loadVar_row w g t ty cs fr d hg hu hd hi]
theorem Rs.set2 {T:TypeId} {w:World} {g:Nat} {x:Value} {o o':Option Int} (h:Rs T w g x o) {a':Int} {bad':Bool} (ha:aE a') (h1:∀c,o'=some c→a'=c∧bad'=false) (h2:o'=none→bad'=true):
 Rs T ((w.setCell ⟨g,2,none⟩ (.bool bad')).setCell ⟨g,1,none⟩ (.int .i64 a')) g x o'∧Fp (fun k=>k=g) w ((w.setCell ⟨g,2,none⟩ (.bool bad')).setCell ⟨g,1,none⟩ (.int .i64 a')):=by
 obtain⟨a,bad,q1,q2,q3,q4⟩:=h.ex
 refine⟨⟨a',bad',?_,ha,h1,h2⟩,((Fp.refl (fun k=>k=g) w).setCell (p:=⟨g,2,none⟩) (Or.inl rfl) _).setCell (p:=⟨g,1,none⟩) (Or.inl rfl) _⟩
 have e1:=heap_setCell_same w g 2 _ _ (.bool bad') q1
 rw[heap_setCell_same _ g 1 _ _ _ e1];rfl
def TookM (RT:TypeId) (b:List UInt8) (x:Value) (g:Nat) (o:Option Int) (w:World) (e:Ending) (w':World):Prop:=
 ∃(m:Nat) (o':Option Int),e= .returned (.int .i64 (m:Int))∧m≤256∧(∀{α:Type} (d:Psp.Dec α),o.bind (Psp.dL d b)=o'.bind (Psp.dg d b m))∧Rs RT w' g x o'∧Fp (fun k=>k=g) w w'
theorem bo (b:List UInt8) (x:Value) (g:Nat) (o:Option Int) (w:World) (P:Nat→Prop) (hx:RdP w P 1 x b.length (b.map bv)) (hR:Rs 193 w g x o):
 Calls Tryz.prog 127 #[.pointer (some ⟨g,0,none⟩)] w (TookN 193 b x g o w):=by
 obtain⟨a,bad,k0,k1,k2,z1,z2,ha,hs,hn⟩:=hR.cells
 have HR:=tt hR
 have n:=hx.to_rd
 have r:=tt n
 obtain⟨D,A,c,rfl,hb1,hb2,_⟩:=hx.parts
 obtain⟨u,q⟩:=ha
 cases o with
 |none=>
  have f:=hn rfl
  subst f
  clear hR hs hn hx n
  go_enter Tryz.func127,Tryz.ntmps127
  go_wp2_with fail
  go_ret
  exact⟨0,rfl,by omega,by omega,Psp.fA _ _ _,HR.out,Fp.refl _ _⟩
 |some p=>
  obtain⟨t,f⟩:=hs p rfl
  subst t f
  have K0:=ab k0
  have K1:=ab k1
  have j:∀w3,Below w.heap.size w w3→w3.cell? ⟨g,2,none⟩=some (.bool false)∧w3.frozen? ⟨g,2,none⟩=false∧w3.cell? ⟨g,1,none⟩=some (.int .i64 a)∧w3.frozen? ⟨g,1,none⟩=false:=fun w3 hb3=>by
   obtain⟨a',bad',_,q1,q2,y1,y2,_,q3,_⟩:=(HR.out.below hb3).cells
   obtain⟨rfl,rfl⟩:=q3 a rfl
   exact⟨q2,y2,q1,y1⟩
  have l:=tt j
  clear hR hs hn hx n j
  cases ht:bT b a with
  |none=>
   have HT:Hid (∀p:Later w,Calls Tryz.prog 103 #[.slice A b.length c,.int .i64 a] p.W fun e w'=>e= .returned (.tuple #[.int .i64 0,.int .i64 0,.bool false])∧p.W=w'):=
    tt fun p=>iy _ _ b a p.W (r.out.later (tJ _) p) u q ht
   have Ht:=tt ht
   clear ht
   go_enter Tryz.func127,Tryz.ntmps127
   go_wp2_with fail
   refine ai (by kernel_rfl) (by kernel_rfl) ?_
   repeat (first|go_big_quiet_step ((go_at_call 103;exact ah _ (HT.out _))))
   refine wpQuiet_nil ?_
   intro w3 d
   have hb3:=ay d
   clear d
   obtain⟨q2,y2,q1,y1⟩:=l.out w3 hb3
   have i:=tt hb3
   clear hb3 k0 k1 k2 K0 K1
   go_wp2_with fail
   go_ret
   obtain⟨f1,f2⟩:=(HR.out.below i.out).set2 (a':=0) (bad':=true) (o':=none) ⟨by omega,by omega⟩ (fun c hc=>by cases hc) (fun _=>rfl)
   exact⟨0,rfl,by omega,by omega,Psp.de (eR Ht.out) _,by rw[Psp.bV (eR Ht.out)];exact f1,(Fp.of_below i.out _).trans f2 fun k hk=>Or.inl hk⟩
  |some vm=>
   obtain⟨v,m⟩:=vm
   have s:=dW ht
   have HT:Hid (∀p:Later w,Calls Tryz.prog 103 #[.slice A b.length c,.int .i64 a] p.W fun e w'=>e= .returned (.tuple #[.int .i64 (v:Int),.int .i64 (a+(m:Int)),.bool true])∧p.W=w'):=
    tt fun p=>gL _ _ b a v m p.W (r.out.later (tJ _) p) q ht
   have Ht:=tt ht
   obtain⟨C,B,z,y⟩:=s
   clear ht
   go_enter Tryz.func127,Tryz.ntmps127
   go_wp2_with fail
   refine ai (by kernel_rfl) (by kernel_rfl) ?_
   repeat (first|go_big_quiet_step ((go_at_call 103;exact ah _ (HT.out _))))
   refine wpQuiet_nil ?_
   intro w3 d
   have hb3:=ay d
   clear d
   obtain⟨q2,y2,q1,y1⟩:=l.out w3 hb3
   have i:=tt hb3
   clear hb3 k0 k1 k2 K0 K1
   go_wp2_with fail
   go_ret
   obtain⟨f1,f2⟩:=(HR.out.below i.out).set2 (a':=a+(m:Int)) (bad':=false) (o':=some (a+(m:Int))) ⟨by omega,by omega⟩ (fun c hc=>⟨by injection hc,rfl⟩) (fun h=>by cases h)
   exact⟨(v:Int),rfl,by omega,by omega,Psp.gE (dy Ht.out),by rw[Psp.dd (dy Ht.out)];exact f1,(Fp.of_below i.out _).trans f2 fun k hk=>Or.inl hk⟩
theorem hX (b:List UInt8) (x:Value) (g:Nat) (o:Option Int) (w:World) (P:Nat→Prop) (hx:RdP w P 1 x b.length (b.map bv)) (hR:Rs 193 w g x o):
 Calls Tryz.prog 157 #[.pointer (some ⟨g,0,none⟩)] w (TookM 193 b x g o w):=by
 have HX:=tt hx
 have HR:=tt hR
 clear hx hR
 go_enter Tryz.func157,Tryz.ntmps157
 go_wp2_with fail
 refine (bo b x g o w P HX.out HR.out).mono ?_
 rintro e w1 ⟨n0,rfl,h1,h2,h3,h4,h5⟩
 obtain⟨n,rfl⟩:∃n:Nat,n0=(n:Int):=⟨n0.toNat,by omega⟩
 obtain⟨a,bad,k0,k1,k2,z1,z2,ha,hs,hn⟩:=h4.cells
 have H3:=tt h3
 have H4:=tt h4
 have H5:=tt h5
 have fin:∀c,Psp.nxt dN b o=some c→a=c∧bad=false:=hs
 cases hd:Psp.nxt dN b o with
 |none=>
  have f:=hn hd
  subst f
  have Hd:=tt hd
  obtain⟨f1,f2⟩:=h4.fail
  have F1:=tt f1
  have F2:=tt f2
  clear h3 h4 h5 hs hn fin hd f1 f2 k0 k1 z1
  go_wp2_with fail
  go_ret
  refine⟨0,none,rfl,by omega,fun d=>?_,F1.out,H5.out.trans F2.out fun k hk=>Or.inl hk⟩
  by_cases h:(n:Int)≤256
  ·rw[Psp.fK H3.out h,Hd.out];rfl
  ·rw[Psp.gG H3.out (by omega)];rfl
 |some c=>
  obtain⟨i,f⟩:=hs c hd
  subst i f
  have Hd:=tt hd
  by_cases j:256 < n
  ·have d1:decide (256 < (n:Int))=true:=by simp;omega
   obtain⟨f1,f2⟩:=h4.fail
   have F1:=tt f1
   have F2:=tt f2
   clear h3 h4 h5 hs hn fin hd f1 f2 k0 k1 z1
   go_wp2_with fail
   go_ret
   exact⟨0,none,rfl,by omega,fun d=>by rw[Psp.gG H3.out (by omega)];rfl,F1.out,H5.out.trans F2.out fun k hk=>Or.inl hk⟩
  ·have d1:decide (256 < (n:Int))=false:=by simp;omega
   rw[hd] at h4
   obtain⟨a9,b9,q1,q2,q3,q4⟩:=h4.ex
   obtain⟨e1,e2⟩:=q3 a rfl
   subst e1 e2
   have f1:Rs 193 (w1.setCell ⟨g,2,none⟩ (.bool false)) g x (some a9):=⟨a9,false,by rw[heap_setCell_same w1 g 2 _ _ _ q1];rfl,q2,q3,q4⟩
   have f2:Fp (fun k=>k=g) w1 (w1.setCell ⟨g,2,none⟩ (.bool false)):=(Fp.refl (fun k=>k=g) w1).setCell (p:=⟨g,2,none⟩) (Or.inl rfl) _
   have F1:=tt f1
   have F2:=tt f2
   clear h3 h4 h5 hs hn fin hd f1 f2 k0 k1 z1 q1 q2 q3 q4 H4
   go_wp2_with fail
   go_ret
   exact⟨n,some a9,rfl,by omega,fun d=>by rw[Psp.fK H3.out (by omega),Hd.out,Int.toNat_natCast],F1.out,H5.out.trans F2.out fun k hk=>Or.inl hk⟩
theorem sy (b:List UInt8) (x:Value) (g:Nat) (o:Option Int) (w:World) (hx:RdP w (fun k=>k≠g) 1 x b.length (b.map bv)) (hR:Rs 193 w g x o):
 Calls Tryz.prog 158 #[.pointer (some ⟨g,0,none⟩)] w (pP 193 Psp.dR rq b x g o w):=by
 have t0:=Two.new hR #[.int .i64 0,.int .i64 0,.int .i64 0,.int .i64 0,.int .i64 0,.int .i64 0] 42
 have HX:=tt hx
 have T0:=tt t0
 clear hx hR t0
 go_enter Tryz.func158,Tryz.ntmps158
 go_wp2_with fail
 refine (bo b x g _ _ (fun k=>k≠g) (HX.out.fp T0.out.fp (fun k hk=>hk)) T0.out.rs).mono ?_
 rintro e w1 ⟨c,rfl,h1,h2,h3,h4,h5⟩
 have t1:=T0.out.call h4 h5
 obtain⟨x0,z0⟩:=t1.cell 0 (by simp)
 simp only[List.getElem_toArray,tF] at x0
 have T1:=tt (t1.store 0 (.int .i64 c) (cs':=#[.int .i64 c,.int .i64 0,.int .i64 0,.int .i64 0,.int .i64 0,.int .i64 0]) rfl)
 have E0:=tt h3
 clear h1 h2 h3 h4 h5 t1
 go_wp2_with fail
 refine (bo b x g _ _ (fun k=>k≠g) (HX.out.fp T1.out.fp (fun k hk=>hk)) T1.out.rs).mono ?_
 rintro e w2 ⟨t,rfl,h1,h2,h3,h4,h5⟩
 have t1:=T1.out.call h4 h5
 obtain⟨x1,z1⟩:=t1.cell 1 (by simp)
 simp only[List.getElem_toArray,tF,tG] at x1
 have T2:=tt (t1.store 1 (.int .i64 t) (cs':=#[.int .i64 c,.int .i64 t,.int .i64 0,.int .i64 0,.int .i64 0,.int .i64 0]) rfl)
 have E1:=tt h3
 clear h1 h2 h3 h4 h5 t1 x0 z0
 go_wp2_with fail
 refine (bo b x g _ _ (fun k=>k≠g) (HX.out.fp T2.out.fp (fun k hk=>hk)) T2.out.rs).mono ?_
 rintro e w3 ⟨k,rfl,h1,h2,h3,h4,h5⟩
 have t1:=T2.out.call h4 h5
 obtain⟨x2,z2⟩:=t1.cell 2 (by simp)
 simp only[List.getElem_toArray,tF,tG] at x2
 have T3:=tt (t1.store 2 (.int .i64 k) (cs':=#[.int .i64 c,.int .i64 t,.int .i64 k,.int .i64 0,.int .i64 0,.int .i64 0]) rfl)
 have E2:=tt h3
 clear h1 h2 h3 h4 h5 t1 x1 z1
 go_wp2_with fail
 refine (bo b x g _ _ (fun k=>k≠g) (HX.out.fp T3.out.fp (fun k hk=>hk)) T3.out.rs).mono ?_
 rintro e w4 ⟨y0,rfl,h1,h2,h3,h4,h5⟩
 rw[←mb] at h4
 have t1:=T3.out.call h4 h5
 obtain⟨x3,z3⟩:=t1.cell 3 (by simp)
 simp only[List.getElem_toArray,tF,tG] at x3
 have T4:=tt (t1.store 3 (.int .i64 (Psp.zag y0)) (cs':=#[.int .i64 c,.int .i64 t,.int .i64 k,.int .i64 (Psp.zag y0),.int .i64 0,.int .i64 0]) rfl)
 have E3:=tt (qD h3)
 clear h3 h4 h5 t1 x2 z2
 go_wp2_with (go_at_call 128;refine (gy _ _ (by omega) (by omega)).mono ?_;rintro e w' ⟨rfl,rfl⟩)
 clear h1 h2
 refine (bo b x g _ _ (fun k=>k≠g) (HX.out.fp T4.out.fp (fun k hk=>hk)) T4.out.rs).mono ?_
 rintro e w5 ⟨v0,rfl,h1,h2,h3,h4,h5⟩
 rw[←mb] at h4
 have t1:=T4.out.call h4 h5
 obtain⟨x4,z4⟩:=t1.cell 4 (by simp)
 simp only[List.getElem_toArray,tF,tG] at x4
 have T5:=tt (t1.store 4 (.int .i64 (Psp.zag v0)) (cs':=#[.int .i64 c,.int .i64 t,.int .i64 k,.int .i64 (Psp.zag y0),.int .i64 (Psp.zag v0),.int .i64 0]) rfl)
 have E4:=tt (qD h3)
 clear h3 h4 h5 t1 x3 z3
 go_wp2_with (go_at_call 128;refine (gy _ _ (by omega) (by omega)).mono ?_;rintro e w' ⟨rfl,rfl⟩)
 clear h1 h2
 refine (bo b x g _ _ (fun k=>k≠g) (HX.out.fp T5.out.fp (fun k hk=>hk)) T5.out.rs).mono ?_
 rintro e w6 ⟨s,rfl,h1,h2,h3,h4,h5⟩
 have t1:=T5.out.call h4 h5
 obtain⟨x5,z5⟩:=t1.cell 5 (by simp)
 simp only[List.getElem_toArray,tF,tG] at x5
 have T6:=tt (t1.store 5 (.int .i64 s) (cs':=#[.int .i64 c,.int .i64 t,.int .i64 k,.int .i64 (Psp.zag y0),.int .i64 (Psp.zag v0),.int .i64 s]) rfl)
 have E5:=tt h3
 clear h1 h2 h3 h4 h5 t1 x4 z4
 have d:=T6.out.range [.int .i64 c,.int .i64 t,.int .i64 k,.int .i64 (Psp.zag y0),.int .i64 (Psp.zag v0),.int .i64 s] rfl
 have h:=tt d
 have a:=T6.out.there
 have f:=tt a
 clear d a
 go_wp2_with (first|(refine aA rfl 42 (.tmp 3) rfl (w.heap.size+1) 0 rfl [.int .i64 c,.int .i64 t,.int .i64 k,.int .i64 (Psp.zag y0),.int .i64 (Psp.zag v0),.int .i64 s] _ ?_ Tryz.underlying42 rfl dz ?_;exact h.out)|(refine wpList_store_mid rfl 42 (.tmp 2) _ rfl w.heap.size 0 #[.int .i64 c,.int .i64 t,.int .i64 k,.int .i64 (Psp.zag y0),.int .i64 (Psp.zag v0),.int .i64 s] rfl rfl f.out dz (by simp[Value.oneCell']) ?_))
 obtain⟨r1,r2,r3,_⟩:=T6.out.result [.int .i64 c,.int .i64 t,.int .i64 k,.int .i64 (Psp.zag y0),.int .i64 (Psp.zag v0),.int .i64 s] rfl
 refine bodyPost_ret (v:=.agg #[.int .i64 c,.int .i64 t,.int .i64 k,.int .i64 (Psp.zag y0),.int .i64 (Psp.zag v0),.int .i64 s]) ?_ rfl ?_
 ·exact results_cell_row Tryz.results158 _ _ w.heap.size _ _ _ _ rfl r1 Tryz.underlying42 rfl dz
 ·obtain⟨c1,c2⟩:=mA E0.out E1.out E2.out E3.out E4.out E5.out
  exact⟨⟨c,t,k,(Psp.zag y0),(Psp.zag v0),s⟩,rfl,c1,by rw[c2];exact r2,r3⟩
structure Vr (RT T:TypeId) (w0 W:World) (g:Nat) (cs:Array Value) (x:Value) (o:Option Int):Prop where
 rs:Rs RT W g x o
 vr:W.heap[w0.heap.size]? =some (.cells cs T (0,0))
 fp:Fp (fun k=>k=g) w0 W
 hg:g < w0.heap.size
section
variable {RT T:TypeId} {w0 W W':World} {g:Nat} {cs:Array Value} {x:Value} {o o':Option Int}
theorem Vr.new (h:Rs RT w0 g x o) (zs:Array Value) (T:TypeId):Vr RT T w0 (w0.alloc (.cells zs T)) g zs x o:=⟨h.below (ae _ _),tL w0 _,Fp.of_below (ae _ _) _,h.lt⟩
theorem Vr.lt1 (h:Vr RT T w0 W g cs x o):w0.heap.size < W.heap.size:=(tz h.vr).1
theorem Vr.call (h:Vr RT T w0 W g cs x o) (hr:Rs RT W' g x o') (hf:Fp (fun k=>k=g) W W'):Vr RT T w0 W' g cs x o':=by
 have:=h.hg
 exact⟨hr,(hf.block _ h.lt1 (by omega)).trans h.vr,h.fp.trans hf fun k hk=>Or.inl hk,h.hg⟩
theorem Vr.store (h:Vr RT T w0 W g cs x o) (i:Nat) (v:Value) {cs':Array Value} (hc:cs.setIfInBounds i v=cs'):Vr RT T w0 (W.setCell ⟨w0.heap.size,i,none⟩ v) g cs' x o:=by
 have hg:=h.hg
 subst hc
 exact⟨h.rs.keep (Below.heap_setCell W ⟨w0.heap.size,i,none⟩ _ g (by simp;omega)),heap_setCell_same W _ i _ _ v h.vr,h.fp.setCell (p:=⟨w0.heap.size,i,none⟩) (Or.inr (tJ _)) _,hg⟩
theorem Vr.cell (h:Vr RT T w0 W g cs x o) (i:Nat) (hi:i < cs.size):W.cell? ⟨w0.heap.size,i,none⟩=some cs[i]∧W.frozen? ⟨w0.heap.size,i,none⟩=false:=by
 refine⟨?_,frozen_of_row W _ i _ _ h.vr⟩
 rw[cell_of_row W _ i _ _ _ h.vr,Array.getElem?_eq_getElem hi]
theorem Vr.range (h:Vr RT T w0 W g cs x o) (l:List Value) (hl:l.toArray=cs):W.rangeAt w0.heap.size 0 l:=fun j v hv=>by
 subst hl
 rw[Nat.zero_add,cell_of_row W _ j _ _ _ h.vr]
 simpa using hv
end
theorem Keeps.fpg1 {w0 W W':World} {g:Nat} (h:Fp (fun k=>k=g) W W') (hg:g < w0.heap.size):Keeps (fun k=>w0.heap.size+1≤k) (fun k=>w0.heap.size+1≤k) W W':=⟨h.size,fun b hb hlt=>⟨h.block b hlt (by omega),hb⟩⟩
theorem Keeps.var1 (w0 W:World) (i:Nat) (v:Value):Keeps (fun k=>w0.heap.size+1≤k) (fun k=>w0.heap.size+1≤k) W (W.setCell ⟨w0.heap.size,i,none⟩ v):=⟨by simp[World.setCell],fun b hb hlt=>⟨Below.heap_setCell W ⟨w0.heap.size,i,none⟩ _ b (by simp;omega),hb⟩⟩
theorem Keeps.new1 {w0 W W':World} (hs:w0.heap.size < W.heap.size):Keeps (fun k=>W.heap.size≤k) (fun k=>w0.heap.size+1≤k) W' W':=⟨tJ _,fun b hb hlt=>⟨rfl,by omega⟩⟩
theorem Keeps.end1 (w0 W:World):Keeps (fun k=>w0.heap.size+1≤k) (fun k=>w0.heap.size≤k) W W:=⟨tJ _,fun b hb hlt=>⟨rfl,by omega⟩⟩
structure EInvR (b:List UInt8) (x:Value) (g:Nat) (o o1:Option Int) (n:Nat) (w w':World) (out:Value) (xs:List Psp.Req) (o':Option Int):Prop where
 n256:n≤256
 le:xs.length≤n
 own:w'.ownsRow w.heap.size 42 6 out xs.length (xs.flatMap rq)
 many:Psp.Many Psp.dR b n o1 (xs) o'
 rs:Rs 193 w' g x o'
 fp:Fp (fun k=>k=g) w w'
theorem EInvR.exit {b:List UInt8} {x:Value} {g:Nat} {o o1:Option Int} {n:Nat} {w w':World} {out:Value} {xs:List Psp.Req} {o':Option Int} (h:EInvR b x g o o1 n w w' out xs o')
 (hd:o.bind (Psp.dL Psp.dR b)=o1.bind (Psp.dg Psp.dR b n)) (hk:xs.length=n∨o'=none):Psp.Is (Psp.dL Psp.dR) b o (xs)∧Psp.nxt (Psp.dL Psp.dR) b o=o':=by
 cases o' with
 |none=>
  obtain⟨q1,q2⟩:=Psp.eC (hd.trans (h.many.no rfl))
  exact⟨q2 _,q1⟩
 |some a=>
  have hk:=hk.resolve_right (by simp)
  obtain⟨q1,q2⟩:=Psp.fb (hd.trans (h.many.done (by simpa using hk)))
  exact⟨q2,q1⟩
theorem EInvR.next {b:List UInt8} {x:Value} {g:Nat} {o o1:Option Int} {n m c5:Nat} {w w' w1 w2:World} {A5:Option Addr} {xs:List Psp.Req} {a:Int} {t:Psp.Req} {v':Value} (h:EInvR b x g o o1 n w w' (.slice A5 m c5) xs (some a))
 (hm:xs.length=m) (hlt:m < n) (h3:Psp.Is Psp.dR b (some a) t) (h4:Rs 193 w1 g x (Psp.nxt Psp.dR b (some a))) (h5:Fp (fun k=>k=g) w' w1) (hg:g < w.heap.size) (c:w1.ownsRow w.heap.size 42 6 (.slice A5 m c5) m (xs.flatMap rq))
 (d:w2.ownsRow w.heap.size 42 6 v' (m+1) (xs.flatMap rq++(rq t).toArray.toList)) (e:w1.grownBy w2 (Value.slice A5 m c5).ownBlock) (j:v'.ownBlock=(Value.slice A5 m c5).ownBlock∨v'.ownBlock=some (w1.heap.size+1)):
 EInvR b x g o o1 n w w2 v' (xs++[t]) (Psp.nxt Psp.dR b (some a)):=by
 have hz:=h.fp.size
 have i:=h5.size
 have f:(Value.slice A5 m c5).ownBlock≠some g:=fun he=>by have:=(c.lt g he).1;omega
 refine⟨h.n256,by rw[tH];simp;omega,?_,h.many.step (by omega) h3,h4.keep (e.block g (by omega) (fun he=>f he.symm)),(h.fp.trans h5 fun k hk=>Or.inl hk).grown e fun k hk=>Or.inr (c.lt k hk).1⟩
 rw[tH,List.flatMap_append,hm]
 simpa using d
theorem kG (b:List UInt8) (x:Value) (g:Nat) (o:Option Int) (w:World) (hx:RdP w (fun k=>k≠g) 1 x b.length (b.map bv)) (hR:Rs 193 w g x o):
 Calls Tryz.prog 129 #[.pointer (some ⟨g,0,none⟩)] w (gV 193 Psp.dR RdR b x g o w):=by
 have HX:=tt hx
 have HR:=tt hR
 have hg:=hR.lt
 clear hx hR
 go_enter Tryz.func129,Tryz.ntmps129
 go_wp2_with fail
 refine (hX b x g o w _ HX.out HR.out).mono ?_
 rintro e w0 ⟨m,oL,rfl,hm,hd,A,C⟩
 have D:=hd Psp.dR
 have z:EInvR b x g o oL m w w0 (.slice none 0 0) [] oL:=⟨hm,Nat.zero_le _,World.ownsRow_nil _ _ _ _,Psp.Many.start,A,C⟩
 have H:=tt z
 have Hd:=tt D
 clear hd D z A C
 go_wp2_with fail
 go_loopw [3,4] (fun v i wr=>∃(xs:List Psp.Req) (o':Option Int) (r:Nat),r+xs.length=m∧i= .int .i64 (r:Int)∧EInvR b x g o oL m w wr v xs o') (fun _ i _=>(intOf i).toNat)
 case atStart=>exact⟨[],oL,m,by simp,rfl,H.out⟩
 case round=>
  obtain⟨xs,o',r,hr,rfl,hI⟩:=hrel
  obtain⟨A5,c5,e5,F,L,_⟩:=ao hI.own
  subst e5
  obtain⟨a,bad,k0,k1,k2,z1,z2,_,hs,hnn⟩:=hI.rs.cells
  have c:RdR wr (fun k=>w.heap.size≤k) (.slice A5 xs.length c5) (xs):=(RdP.of_own hI.own).mono fun b _ hb=>hb.2
  obtain⟨q,hq⟩:∃q,xs.length=q:=⟨_,rfl⟩
  rw[hq] at c hI F ⊢
  have K:r+q=m:=by omega
  have Hq:=tt hq
  have HI:=tt hI
  have u:=tt c
  have J:=hI.n256
  have hz:=hI.fp.size
  by_cases E:r=0
  ·have j:=hI.exit Hd.out (Or.inl (by omega))
   have s:=tt j
   obtain rfl:r=0:=E
   clear hI hq c hs hnn hr j k0 k1 z1
   have d1:decide ((0:Int) < ((0:Nat):Int))=false:=by simp
   go_wp2_with fail
   go_ret
   exact⟨_,_,rfl,u.out,s.out.1,by rw[s.out.2];exact HI.out.rs,HI.out.fp⟩
  ·have d1:decide ((0:Int) < (r:Int))=true:=by simp;omega
   cases o' with
   |none=>
    have l:=hnn rfl
    subst l
    have j:=hI.exit Hd.out (Or.inr rfl)
    have s:=tt j
    clear hI hq c hs hnn hr j k0 k1 z1
    go_wp2_with fail
    go_ret
    exact⟨_,_,rfl,u.out,s.out.1,by rw[s.out.2];exact HI.out.rs,HI.out.fp⟩
   |some p=>
    obtain⟨G,l⟩:=hs p rfl
    subst G l
    clear hI hq c hs hnn hr k0 k1 z1
    go_wp2_with fail
    refine (sy b x g _ _ (HX.out.fp HI.out.fp (fun k hk=>hk)) HI.out.rs).mono ?_
    rintro e W ⟨t,rfl,h3,h4,h5⟩
    have HF:=tt h5
    have H3:=tt h3
    have H4:=tt h4
    clear h3 h4 h5
    have f:W.ownsRow w.heap.size 42 6 (.slice A5 q c5) q (xs.flatMap rq):=by
     have h:=HI.out.own
     rw[Hq.out] at h
     exact ar h fun b hb=>HF.out.block b (h.lt b hb).2 (by have:=(h.lt b hb).1;omega)
    have I:=HF.out.size
    have n:=tt f
    clear f
    go_wp2_with (first|(refine cu rfl 51 (.tmp 20) rfl 42 (rq t) rfl Tryz.underlying51 (rp t) (by simp[rq]) (by simp[rq]) ?_)|(at_builtin;refine aW mU rfl _ _ rfl w.heap.size _ q _ rfl n.out (rq t).toArray rfl rfl (by simp[rq,iv,Value.oneCell']) (by omega) (by decide) (by omega) ?_;intro v' w2 d B hb2 y;have HN:=tt (EInvR.next HI.out Hq.out (by omega) H3.out H4.out HF.out hg n.out d B y);clear d B hb2 y))
    go_roundw
    case rel=>exact⟨_,_,r - 1,by rw[tH,Hq.out];simp;omega,(show Value.int .i64 ((r:Int) - 1)= .int .i64 ((r - 1:Nat):Int) by congr 1;omega),HN.out⟩
    case measure=>simp[intOf];omega
structure EInvV (b:List UInt8) (x:Value) (g:Nat) (o o1:Option Int) (n:Nat) (w w':World) (out:Value) (xs:List Psp.Vote) (o':Option Int):Prop where
 n256:n≤256
 le:xs.length≤n
 own:w'.ownsRow w.heap.size 166 2 out xs.length (xs.flatMap vt)
 many:Psp.Many Psp.dV b n o1 (xs) o'
 rs:Rs 193 w' g x o'
 fp:Fp (fun k=>k=g) w w'
theorem EInvV.exit {b:List UInt8} {x:Value} {g:Nat} {o o1:Option Int} {n:Nat} {w w':World} {out:Value} {xs:List Psp.Vote} {o':Option Int} (h:EInvV b x g o o1 n w w' out xs o')
 (hd:o.bind (Psp.dL Psp.dV b)=o1.bind (Psp.dg Psp.dV b n)) (hk:xs.length=n∨o'=none):Psp.Is (Psp.dL Psp.dV) b o (xs)∧Psp.nxt (Psp.dL Psp.dV) b o=o':=by
 cases o' with
 |none=>
  obtain⟨q1,q2⟩:=Psp.eC (hd.trans (h.many.no rfl))
  exact⟨q2 _,q1⟩
 |some a=>
  have hk:=hk.resolve_right (by simp)
  obtain⟨q1,q2⟩:=Psp.fb (hd.trans (h.many.done (by simpa using hk)))
  exact⟨q2,q1⟩
theorem EInvV.next {b:List UInt8} {x:Value} {g:Nat} {o o1:Option Int} {n m c5:Nat} {w w' w1 w2:World} {A5:Option Addr} {xs:List Psp.Vote} {a:Int} {t:Psp.Vote} {v':Value} (h:EInvV b x g o o1 n w w' (.slice A5 m c5) xs (some a))
 (hm:xs.length=m) (hlt:m < n) (h3:Psp.Is Psp.dV b (some a) t) (h4:Rs 193 w1 g x (Psp.nxt Psp.dV b (some a))) (h5:Fp (fun k=>k=g) w' w1) (hg:g < w.heap.size) (c:w1.ownsRow w.heap.size 166 2 (.slice A5 m c5) m (xs.flatMap vt))
 (d:w2.ownsRow w.heap.size 166 2 v' (m+1) (xs.flatMap vt++(vt t).toArray.toList)) (e:w1.grownBy w2 (Value.slice A5 m c5).ownBlock) (j:v'.ownBlock=(Value.slice A5 m c5).ownBlock∨v'.ownBlock=some (w1.heap.size+1)):
 EInvV b x g o o1 n w w2 v' (xs++[t]) (Psp.nxt Psp.dV b (some a)):=by
 have hz:=h.fp.size
 have i:=h5.size
 have f:(Value.slice A5 m c5).ownBlock≠some g:=fun he=>by have:=(c.lt g he).1;omega
 refine⟨h.n256,by rw[tH];simp;omega,?_,h.many.step (by omega) h3,h4.keep (e.block g (by omega) (fun he=>f he.symm)),(h.fp.trans h5 fun k hk=>Or.inl hk).grown e fun k hk=>Or.inr (c.lt k hk).1⟩
 rw[tH,List.flatMap_append,hm]
 simpa using d
theorem iN (b:List UInt8) (x:Value) (g:Nat) (o:Option Int) (w:World) (hx:RdP w (fun k=>k≠g) 1 x b.length (b.map bv)) (hR:Rs 193 w g x o):
 Calls Tryz.prog 130 #[.pointer (some ⟨g,0,none⟩)] w (gV 193 Psp.dV RdV b x g o w):=by
 have HX:=tt hx
 have HR:=tt hR
 have hg:=hR.lt
 clear hx hR
 go_enter Tryz.func130,Tryz.ntmps130
 go_wp2_with fail
 refine (hX b x g o w _ HX.out HR.out).mono ?_
 rintro e w0 ⟨m,oL,rfl,hm,hd,C,F⟩
 have G:=hd Psp.dV
 have B:EInvV b x g o oL m w w0 (.slice none 0 0) [] oL:=⟨hm,Nat.zero_le _,World.ownsRow_nil _ _ _ _,Psp.Many.start,C,F⟩
 have L:=tt B
 have Hd:=tt G
 clear hd G B C F
 go_wp2_with fail
 go_loopw [3,4] (fun v i wr=>∃(xs:List Psp.Vote) (o':Option Int) (r:Nat),r+xs.length=m∧i= .int .i64 (r:Int)∧EInvV b x g o oL m w wr v xs o') (fun _ i _=>(intOf i).toNat)
 case atStart=>exact⟨[],oL,m,by simp,rfl,L.out⟩
 case round=>
  obtain⟨xs,o',r,hr,rfl,hI⟩:=hrel
  obtain⟨A5,c5,e5,J,T,_⟩:=ao hI.own
  subst e5
  obtain⟨a,bad,k0,k1,k2,z1,z2,_,hs,hnn⟩:=hI.rs.cells
  have c:RdV wr (fun k=>w.heap.size≤k) (.slice A5 xs.length c5) (xs):=(RdP.of_own hI.own).mono fun b _ hb=>hb.2
  obtain⟨q,hq⟩:∃q,xs.length=q:=⟨_,rfl⟩
  rw[hq] at c hI J ⊢
  have R:r+q=m:=by omega
  have Hq:=tt hq
  have HI:=tt hI
  have z:=tt c
  have O:=hI.n256
  have hz:=hI.fp.size
  by_cases I:r=0
  ·have j:=hI.exit Hd.out (Or.inl (by omega))
   have y:=tt j
   obtain rfl:r=0:=I
   clear hI hq c hs hnn hr j k0 k1 z1
   have d1:decide ((0:Int) < ((0:Nat):Int))=false:=by simp
   go_wp2_with fail
   go_ret
   exact⟨_,_,rfl,z.out,y.out.1,by rw[y.out.2];exact HI.out.rs,HI.out.fp⟩
  ·have d1:decide ((0:Int) < (r:Int))=true:=by simp;omega
   cases o' with
   |none=>
    have l:=hnn rfl
    subst l
    have j:=hI.exit Hd.out (Or.inr rfl)
    have y:=tt j
    clear hI hq c hs hnn hr j k0 k1 z1
    go_wp2_with fail
    go_ret
    exact⟨_,_,rfl,z.out,y.out.1,by rw[y.out.2];exact HI.out.rs,HI.out.fp⟩
   |some p=>
    obtain⟨K,l⟩:=hs p rfl
    subst K l
    have T0:=tt (Vr.new hI.rs #[.int .i64 0,.int .i64 0] 166)
    have S:g < wr.heap.size:=hI.rs.lt
    clear hI hq c hs hnn hr k0 k1 z1
    go_wp2_with fail
    refine (bo b x g _ _ (fun k=>k≠g) ((HX.out.fp HI.out.fp (fun k hk=>hk)).fp T0.out.fp (fun k hk=>hk)) T0.out.rs).mono ?_
    rintro e P ⟨n,rfl,h1,h2,h3,h4,h5⟩
    have t1:=T0.out.call h4 h5
    obtain⟨x0,y0⟩:=t1.cell 0 (by simp)
    simp only[List.getElem_toArray,tF] at x0
    have T1:=tt (t1.store 0 (.int .i64 n) (cs':=#[.int .i64 n,.int .i64 0]) rfl)
    have E0:=tt h3
    clear h1 h2 h3 h4 h5 t1 k2 z2
    go_wp2_with fail
    refine (bo b x g _ _ (fun k=>k≠g) ((HX.out.fp HI.out.fp (fun k hk=>hk)).fp T1.out.fp (fun k hk=>hk)) T1.out.rs).mono ?_
    rintro e H ⟨s,rfl,h1,h2,h3,h4,h5⟩
    have t1:=T1.out.call h4 h5
    obtain⟨x1,y1⟩:=t1.cell 1 (by simp)
    simp only[List.getElem_toArray,tF,tG] at x1
    have T2:=tt (t1.store 1 (.int .i64 s) (cs':=#[.int .i64 n,.int .i64 s]) rfl)
    have E1:=tt h3
    clear h1 h2 h3 h4 h5 t1 x0 y0
    have D:=T2.out.range [.int .i64 n,.int .i64 s] rfl
    have M:=tt D
    clear D
    obtain⟨t,ht⟩:∃t:Psp.Vote,(⟨n,s⟩:Psp.Vote)=t:=⟨_,rfl⟩
    have hE:=mz E0.out E1.out
    have HE:=tt hE
    have HF:=tt T2.out.fp
    have Q:=HF.out.size
    clear hE ht
    have f:(H.setCell ⟨wr.heap.size,1,none⟩ (.int .i64 s)).ownsRow w.heap.size 166 2 (.slice A5 q c5) q (xs.flatMap vt):=by
     have h:=HI.out.own
     rw[Hq.out] at h
     exact ar h fun b hb=>HF.out.block b (h.lt b hb).2 (by have:=(h.lt b hb).1;omega)
    have N:=HF.out.size
    have u:=tt f
    clear f
    go_wp2_with (first|(refine aA rfl 166 (.tmp 5) rfl wr.heap.size 0 rfl [.int .i64 n,.int .i64 s] _ ?_ Tryz.underlying166 rfl ga ?_;exact M.out)|(refine cu rfl 52 (.tmp 27) rfl 166 (vt (⟨n,s⟩:Psp.Vote)) rfl Tryz.underlying52 (rm (⟨n,s⟩:Psp.Vote)) (by simp[vt]) (by simp[vt]) ?_)|(at_builtin;refine aW votE rfl _ _ rfl w.heap.size _ q _ rfl u.out (vt (⟨n,s⟩:Psp.Vote)).toArray rfl rfl (by simp[vt,iv,Value.oneCell']) (by omega) (by decide) (by omega) ?_;intro v' w2 d E hb2 A;have HN:=tt (EInvV.next HI.out Hq.out (by omega) HE.out.1 (by rw[HE.out.2];exact T2.out.rs) HF.out hg u.out d E A);clear d E hb2 A))
    go_roundw
    case rel=>exact⟨_,_,r - 1,by rw[tH,Hq.out];simp;omega,(show Value.int .i64 ((r:Int) - 1)= .int .i64 ((r - 1:Nat):Int) by congr 1;omega),HN.out⟩
    case measure=>simp[intOf];omega
structure EInvC (b:List UInt8) (x:Value) (g:Nat) (o o1:Option Int) (n:Nat) (w w':World) (out:Value) (xs:List CertV) (o':Option Int):Prop where
 n256:n≤256
 le:xs.length≤n
 own:w'.ownsRow w.heap.size 162 5 out xs.length (xs.flatMap cv)
 many:Psp.Many Psp.dC b n o1 (xs.map (·.c)) o'
 rs:Rs 193 w' g x o'
 fp:Fp (fun k=>k=g) w w'
 inner:∀y∈xs,CertOk w' (fun k=>w.heap.size≤k∧out.ownBlock≠some k) y
theorem EInvC.exit {b:List UInt8} {x:Value} {g:Nat} {o o1:Option Int} {n:Nat} {w w':World} {out:Value} {xs:List CertV} {o':Option Int} (h:EInvC b x g o o1 n w w' out xs o')
 (hd:o.bind (Psp.dL Psp.dC b)=o1.bind (Psp.dg Psp.dC b n)) (hk:xs.length=n∨o'=none):Psp.Is (Psp.dL Psp.dC) b o (xs.map (·.c))∧Psp.nxt (Psp.dL Psp.dC) b o=o':=by
 cases o' with
 |none=>
  obtain⟨q1,q2⟩:=Psp.eC (hd.trans (h.many.no rfl))
  exact⟨q2 _,q1⟩
 |some a=>
  have hk:=hk.resolve_right (by simp)
  obtain⟨q1,q2⟩:=Psp.fb (hd.trans (h.many.done (by simpa using hk)))
  exact⟨q2,q1⟩
theorem EInvC.next {b:List UInt8} {x:Value} {g:Nat} {o o1:Option Int} {n m c5:Nat} {w w' w1 w2:World} {A5:Option Addr} {xs:List CertV} {a:Int} {t:CertV} {v':Value} (h:EInvC b x g o o1 n w w' (.slice A5 m c5) xs (some a))
 (hm:xs.length=m) (hlt:m < n) (h0:CertOk w1 (fun k=>w'.heap.size≤k) t) (h3:Psp.Is Psp.dC b (some a) t.c) (h4:Rs 193 w1 g x (Psp.nxt Psp.dC b (some a))) (h5:Fp (fun k=>k=g) w' w1) (hg:g < w.heap.size) (e:w1.ownsRow w.heap.size 162 5 (.slice A5 m c5) m (xs.flatMap cv))
 (f:w2.ownsRow w.heap.size 162 5 v' (m+1) (xs.flatMap cv++(cv t).toArray.toList)) (d:w1.grownBy w2 (Value.slice A5 m c5).ownBlock) (i:v'.ownBlock=(Value.slice A5 m c5).ownBlock∨v'.ownBlock=some (w1.heap.size+1)):
 EInvC b x g o o1 n w w2 v' (xs++[t]) (Psp.nxt Psp.dC b (some a)):=by
 have hz:=h.fp.size
 have j:=h5.size
 have l:(Value.slice A5 m c5).ownBlock≠some g:=fun he=>by have:=(e.lt g he).1;omega
 have k1:Keeps (fun k=>w.heap.size≤k∧(Value.slice A5 m c5).ownBlock≠some k) (fun k=>w.heap.size≤k∧v'.ownBlock≠some k) w' w2:=by
  refine⟨Nat.le_trans j d.size,fun b hb hlt=>⟨(d.block b (by omega) (fun he=>hb.2 he.symm)).trans (h5.block b hlt (by have:=hb.1;omega)),hb.1,fun he=>?_⟩⟩
  rcases i with hv|hv
  ·rw[hv] at he;exact hb.2 he
  ·rw[hv] at he;injection he with he;omega
 have k2:Keeps (fun k=>w'.heap.size≤k) (fun k=>w.heap.size≤k∧v'.ownBlock≠some k) w1 w2:=by
  refine⟨d.size,fun b hb hlt=>⟨d.block b hlt (fun he=>?_),by omega,fun he=>?_⟩⟩
  ·have:=(h.own.lt b (by rw[←he])).2;omega
  ·rcases i with hv|hv
   ·rw[hv] at he;have:=(h.own.lt b he).2;omega
   ·rw[hv] at he;injection he with he;omega
 refine⟨h.n256,by rw[tH];simp;omega,?_,?_,h4.keep (d.block g (by omega) (fun he=>l he.symm)),(h.fp.trans h5 fun k hk=>Or.inl hk).grown d fun k hk=>Or.inr (e.lt k hk).1,fun y hy=>?_⟩
 ·rw[tH,List.flatMap_append,hm]
  simpa using f
 ·rw[List.map_append]
  exact h.many.step (by rw[List.length_map];omega) h3
 ·rcases List.mem_append.1 hy with hy|hy
  ·exact (h.inner y hy).keeps k1
  ·rw[List.mem_singleton.1 hy]
   exact h0.keeps k2
theorem kH (b:List UInt8) (x:Value) (g:Nat) (o:Option Int) (w:World) (hx:RdP w (fun k=>k≠g) 1 x b.length (b.map bv)) (hR:Rs 193 w g x o):
 Calls Tryz.prog 131 #[.pointer (some ⟨g,0,none⟩)] w (gV 193 Psp.dC RdC b x g o w):=by
 have HX:=tt hx
 have HR:=tt hR
 have hg:=hR.lt
 clear hx hR
 go_enter Tryz.func131,Tryz.ntmps131
 go_wp2_with fail
 refine (hX b x g o w _ HX.out HR.out).mono ?_
 rintro e w0 ⟨m,oL,rfl,hm,hd,N,Q⟩
 have R:=hd Psp.dC
 have M:EInvC b x g o oL m w w0 (.slice none 0 0) [] oL:=⟨hm,Nat.zero_le _,World.ownsRow_nil _ _ _ _,Psp.Many.start,N,Q,fun y hy=>by cases hy⟩
 have ac:=tt M
 have Hd:=tt R
 clear hd R M N Q
 go_wp2_with fail
 go_loopw [3,4] (fun v i wr=>∃(xs:List CertV) (o':Option Int) (r:Nat),r+xs.length=m∧i= .int .i64 (r:Int)∧EInvC b x g o oL m w wr v xs o') (fun _ i _=>(intOf i).toNat)
 case atStart=>exact⟨[],oL,m,by simp,rfl,ac.out⟩
 case round=>
  obtain⟨xs,o',r,hr,rfl,hI⟩:=hrel
  obtain⟨A5,c5,e5,X,a7,_⟩:=ao hI.own
  subst e5
  obtain⟨a,bad,k0,k1,k2,z1,z2,_,hs,hnn⟩:=hI.rs.cells
  have u:RdC wr (fun k=>w.heap.size≤k) (.slice A5 xs.length c5) (xs.map (·.c)):=⟨xs,rfl,(RdP.of_own hI.own).mono (fun b _ hb=>hb.2),fun y hy=>(hI.inner y hy).keeps (Keeps.mono fun b _ hb=>hb.1)⟩
  obtain⟨q,hq⟩:∃q,xs.length=q:=⟨_,rfl⟩
  rw[hq] at u hI X ⊢
  have a6:r+q=m:=by omega
  have Hq:=tt hq
  have HI:=tt hI
  have H:=tt u
  have al:=hI.n256
  have hz:=hI.fp.size
  by_cases V:r=0
  ·have B:=hI.exit Hd.out (Or.inl (by omega))
   have F:=tt B
   obtain rfl:r=0:=V
   clear hI hq u hs hnn hr B k0 k1 z1
   have d1:decide ((0:Int) < ((0:Nat):Int))=false:=by simp
   go_wp2_with fail
   go_ret
   exact⟨_,_,rfl,H.out,F.out.1,by rw[F.out.2];exact HI.out.rs,HI.out.fp⟩
  ·have d1:decide ((0:Int) < (r:Int))=true:=by simp;omega
   cases o' with
   |none=>
    have C:=hnn rfl
    subst C
    have B:=hI.exit Hd.out (Or.inr rfl)
    have F:=tt B
    clear hI hq u hs hnn hr B k0 k1 z1
    go_wp2_with fail
    go_ret
    exact⟨_,_,rfl,H.out,F.out.1,by rw[F.out.2];exact HI.out.rs,HI.out.fp⟩
   |some p=>
    obtain⟨Y,C⟩:=hs p rfl
    subst Y C
    have T0:=tt (Vr.new hI.rs #[.int .i64 0,.int .i64 0,.int .i64 0,.slice none 0 0,.slice none 0 0] 162)
    have W:g < wr.heap.size:=hI.rs.lt
    clear hI hq u hs hnn hr k0 k1 z1
    go_wp2_with fail
    refine (bo b x g _ _ (fun k=>k≠g) ((HX.out.fp HI.out.fp (fun k hk=>hk)).fp T0.out.fp (fun k hk=>hk)) T0.out.rs).mono ?_
    rintro e a2 ⟨fv,rfl,h1,h2,h3,h4,h5⟩
    have t1:=T0.out.call h4 h5
    obtain⟨x0,y0⟩:=t1.cell 0 (by simp)
    simp only[List.getElem_toArray,tF] at x0
    have T1:=tt (t1.store 0 (.int .i64 fv) (cs':=#[.int .i64 fv,.int .i64 0,.int .i64 0,.slice none 0 0,.slice none 0 0]) rfl)
    have E0:=tt h3
    clear h1 h2 h3 h4 h5 t1 k2 z2
    go_wp2_with fail
    refine (bo b x g _ _ (fun k=>k≠g) ((HX.out.fp HI.out.fp (fun k hk=>hk)).fp T1.out.fp (fun k hk=>hk)) T1.out.rs).mono ?_
    rintro e a1 ⟨fi,rfl,h1,h2,h3,h4,h5⟩
    have t1:=T1.out.call h4 h5
    obtain⟨x1,y1⟩:=t1.cell 1 (by simp)
    simp only[List.getElem_toArray,tF,tG] at x1
    have T2:=tt (t1.store 1 (.int .i64 fi) (cs':=#[.int .i64 fv,.int .i64 fi,.int .i64 0,.slice none 0 0,.slice none 0 0]) rfl)
    have E1:=tt h3
    clear h1 h2 h3 h4 h5 t1 x0 y0
    go_wp2_with fail
    refine (bo b x g _ _ (fun k=>k≠g) ((HX.out.fp HI.out.fp (fun k hk=>hk)).fp T2.out.fp (fun k hk=>hk)) T2.out.rs).mono ?_
    rintro e a0 ⟨fq,rfl,h1,h2,h3,h4,h5⟩
    have t1:=T2.out.call h4 h5
    obtain⟨x2,y2⟩:=t1.cell 2 (by simp)
    simp only[List.getElem_toArray,tF,tG] at x2
    have T3:=tt (t1.store 2 (.int .i64 fq) (cs':=#[.int .i64 fv,.int .i64 fi,.int .i64 fq,.slice none 0 0,.slice none 0 0]) rfl)
    have E2:=tt h3
    clear h1 h2 h3 h4 h5 t1 x1 y1
    go_wp2_with fail
    refine (kG b x g _ _ ((HX.out.fp HI.out.fp (fun k hk=>hk)).fp T3.out.fp (fun k hk=>hk)) T3.out.rs).mono ?_
    rintro e U ⟨a4,fl,rfl,hL,h3,h4,h5⟩
    obtain⟨s,l,n,aa⟩:=hL.form
    subst aa
    have D:=hL.keeps (Keeps.new1 T3.out.lt1)
    have t1:=T3.out.call h4 h5
    obtain⟨x3,y3⟩:=t1.cell 3 (by simp)
    simp only[List.getElem_toArray,tF,tG] at x3
    have K:=tt (D.keeps (Keeps.var1 wr U 3 (.slice s l n)))
    have T4:=tt (t1.store 3 (.slice s l n) (cs':=#[.int .i64 fv,.int .i64 fi,.int .i64 fq,.slice s l n,.slice none 0 0]) rfl)
    have E3:=tt h3
    clear hL D h3 h4 h5 t1 x2 y2
    go_wp2_with fail
    refine (iN b x g _ _ ((HX.out.fp HI.out.fp (fun k hk=>hk)).fp T4.out.fp (fun k hk=>hk)) T4.out.rs).mono ?_
    rintro e G ⟨a3,fm,rfl,hL,h3,h4,h5⟩
    obtain⟨j,d,f,Z⟩:=hL.form
    subst Z
    have D:=hL.keeps (Keeps.new1 T4.out.lt1)
    have t1:=T4.out.call h4 h5
    obtain⟨x4,y4⟩:=t1.cell 4 (by simp)
    simp only[List.getElem_toArray,tF,tG] at x4
    have J:=tt ((K.out.keeps (Keeps.fpg1 h5 W)).keeps (Keeps.var1 wr G 4 (.slice j d f)))
    have I:=tt (D.keeps (Keeps.var1 wr G 4 (.slice j d f)))
    have T5:=tt (t1.store 4 (.slice j d f) (cs':=#[.int .i64 fv,.int .i64 fi,.int .i64 fq,.slice s l n,.slice j d f]) rfl)
    have E4:=tt h3
    clear hL D h3 h4 h5 t1 x3 y3
    have O:=T5.out.range [.int .i64 fv,.int .i64 fi,.int .i64 fq,.slice s l n,.slice j d f] rfl
    have ad:=tt O
    clear O
    obtain⟨t,ht⟩:∃t:CertV,(⟨⟨fv,fi,fq,fl,fm⟩,.slice s l n,.slice j d f⟩:CertV)=t:=⟨_,rfl⟩
    have hE:=mC E0.out E1.out E2.out E3.out E4.out
    have HE:=tt hE
    have HF:=tt T5.out.fp
    have a5:=HF.out.size
    have T:=J.out.keeps (Keeps.end1 wr _)
    have S:=I.out.keeps (Keeps.end1 wr _)
    have H0:Hid (CertOk (G.setCell ⟨wr.heap.size,4,none⟩ (.slice j d f)) (fun k=>wr.heap.size≤k) (⟨⟨fv,fi,fq,fl,fm⟩,.slice s l n,.slice j d f⟩:CertV)):=tt ⟨T,S⟩
    clear T S
    clear hE ht
    have A:(G.setCell ⟨wr.heap.size,4,none⟩ (.slice j d f)).ownsRow w.heap.size 162 5 (.slice A5 q c5) q (xs.flatMap cv):=by
     have h:=HI.out.own
     rw[Hq.out] at h
     exact ar h fun b hb=>HF.out.block b (h.lt b hb).2 (by have:=(h.lt b hb).1;omega)
    have af:=HF.out.size
    have E:=tt A
    clear A
    go_wp2_with (first|(refine aA rfl 162 (.tmp 5) rfl wr.heap.size 0 rfl [.int .i64 fv,.int .i64 fi,.int .i64 fq,.slice s l n,.slice j d f] _ ?_ Tryz.underlying162 rfl dI ?_;exact ad.out)|(refine cu rfl 53 (.tmp 36) rfl 162 (cv (⟨⟨fv,fi,fq,fl,fm⟩,.slice s l n,.slice j d f⟩:CertV)) rfl Tryz.underlying53 (rx (⟨⟨fv,fi,fq,fl,fm⟩,.slice s l n,.slice j d f⟩:CertV)) (by simp[cv]) (by simp[cv]) ?_)|(at_builtin;refine aW rD rfl _ _ rfl w.heap.size _ q _ rfl E.out (cv (⟨⟨fv,fi,fq,fl,fm⟩,.slice s l n,.slice j d f⟩:CertV)).toArray rfl rfl (pC H0.out) (by omega) (by decide) (by omega) ?_;intro v' w2 z P hb2 L;have HN:=tt (EInvC.next HI.out Hq.out (by omega) H0.out HE.out.1 (by rw[HE.out.2];exact T5.out.rs) HF.out hg E.out z P L);clear z P hb2 L))
    go_roundw
    case rel=>exact⟨_,_,r - 1,by rw[tH,Hq.out];simp;omega,(show Value.int .i64 ((r:Int) - 1)= .int .i64 ((r - 1:Nat):Int) by congr 1;omega),HN.out⟩
    case measure=>simp[intOf];omega
structure EInvP (b:List UInt8) (x:Value) (g:Nat) (o o1:Option Int) (n:Nat) (w w':World) (out:Value) (xs:List PartV) (o':Option Int):Prop where
 n256:n≤256
 le:xs.length≤n
 own:w'.ownsRow w.heap.size 168 4 out xs.length (xs.flatMap pv)
 many:Psp.Many Psp.dP b n o1 (xs.map (·.p)) o'
 rs:Rs 193 w' g x o'
 fp:Fp (fun k=>k=g) w w'
 inner:∀y∈xs,PartOk w' (fun k=>w.heap.size≤k∧out.ownBlock≠some k) y
theorem EInvP.exit {b:List UInt8} {x:Value} {g:Nat} {o o1:Option Int} {n:Nat} {w w':World} {out:Value} {xs:List PartV} {o':Option Int} (h:EInvP b x g o o1 n w w' out xs o')
 (hd:o.bind (Psp.dL Psp.dP b)=o1.bind (Psp.dg Psp.dP b n)) (hk:xs.length=n∨o'=none):Psp.Is (Psp.dL Psp.dP) b o (xs.map (·.p))∧Psp.nxt (Psp.dL Psp.dP) b o=o':=by
 cases o' with
 |none=>
  obtain⟨q1,q2⟩:=Psp.eC (hd.trans (h.many.no rfl))
  exact⟨q2 _,q1⟩
 |some a=>
  have hk:=hk.resolve_right (by simp)
  obtain⟨q1,q2⟩:=Psp.fb (hd.trans (h.many.done (by simpa using hk)))
  exact⟨q2,q1⟩
theorem EInvP.next {b:List UInt8} {x:Value} {g:Nat} {o o1:Option Int} {n m c5:Nat} {w w' w1 w2:World} {A5:Option Addr} {xs:List PartV} {a:Int} {t:PartV} {v':Value} (h:EInvP b x g o o1 n w w' (.slice A5 m c5) xs (some a))
 (hm:xs.length=m) (hlt:m < n) (h0:PartOk w1 (fun k=>w'.heap.size≤k) t) (h3:Psp.Is Psp.dP b (some a) t.p) (h4:Rs 193 w1 g x (Psp.nxt Psp.dP b (some a))) (h5:Fp (fun k=>k=g) w' w1) (hg:g < w.heap.size) (d:w1.ownsRow w.heap.size 168 4 (.slice A5 m c5) m (xs.flatMap pv))
 (e:w2.ownsRow w.heap.size 168 4 v' (m+1) (xs.flatMap pv++(pv t).toArray.toList)) (c:w1.grownBy w2 (Value.slice A5 m c5).ownBlock) (f:v'.ownBlock=(Value.slice A5 m c5).ownBlock∨v'.ownBlock=some (w1.heap.size+1)):
 EInvP b x g o o1 n w w2 v' (xs++[t]) (Psp.nxt Psp.dP b (some a)):=by
 have hz:=h.fp.size
 have i:=h5.size
 have j:(Value.slice A5 m c5).ownBlock≠some g:=fun he=>by have:=(d.lt g he).1;omega
 have k1:Keeps (fun k=>w.heap.size≤k∧(Value.slice A5 m c5).ownBlock≠some k) (fun k=>w.heap.size≤k∧v'.ownBlock≠some k) w' w2:=by
  refine⟨Nat.le_trans i c.size,fun b hb hlt=>⟨(c.block b (by omega) (fun he=>hb.2 he.symm)).trans (h5.block b hlt (by have:=hb.1;omega)),hb.1,fun he=>?_⟩⟩
  rcases f with hv|hv
  ·rw[hv] at he;exact hb.2 he
  ·rw[hv] at he;injection he with he;omega
 have k2:Keeps (fun k=>w'.heap.size≤k) (fun k=>w.heap.size≤k∧v'.ownBlock≠some k) w1 w2:=by
  refine⟨c.size,fun b hb hlt=>⟨c.block b hlt (fun he=>?_),by omega,fun he=>?_⟩⟩
  ·have:=(h.own.lt b (by rw[←he])).2;omega
  ·rcases f with hv|hv
   ·rw[hv] at he;have:=(h.own.lt b he).2;omega
   ·rw[hv] at he;injection he with he;omega
 refine⟨h.n256,by rw[tH];simp;omega,?_,?_,h4.keep (c.block g (by omega) (fun he=>j he.symm)),(h.fp.trans h5 fun k hk=>Or.inl hk).grown c fun k hk=>Or.inr (d.lt k hk).1,fun y hy=>?_⟩
 ·rw[tH,List.flatMap_append,hm]
  simpa using e
 ·rw[List.map_append]
  exact h.many.step (by rw[List.length_map];omega) h3
 ·rcases List.mem_append.1 hy with hy|hy
  ·exact (h.inner y hy).keeps k1
  ·rw[List.mem_singleton.1 hy]
   exact h0.keeps k2
theorem pt (b:List UInt8) (x:Value) (g:Nat) (o:Option Int) (w:World) (hx:RdP w (fun k=>k≠g) 1 x b.length (b.map bv)) (hR:Rs 193 w g x o):
 Calls Tryz.prog 132 #[.pointer (some ⟨g,0,none⟩)] w (gV 193 Psp.dP RdA b x g o w):=by
 have HX:=tt hx
 have HR:=tt hR
 have hg:=hR.lt
 clear hx hR
 go_enter Tryz.func132,Tryz.ntmps132
 go_wp2_with fail
 refine (hX b x g o w _ HX.out HR.out).mono ?_
 rintro e w0 ⟨m,oL,rfl,hm,hd,Q,T⟩
 have U:=hd Psp.dP
 have P:EInvP b x g o oL m w w0 (.slice none 0 0) [] oL:=⟨hm,Nat.zero_le _,World.ownsRow_nil _ _ _ _,Psp.Many.start,Q,T,fun y hy=>by cases hy⟩
 have af:=tt P
 have Hd:=tt U
 clear hd U P Q T
 go_wp2_with fail
 go_loopw [3,4] (fun v i wr=>∃(xs:List PartV) (o':Option Int) (r:Nat),r+xs.length=m∧i= .int .i64 (r:Int)∧EInvP b x g o oL m w wr v xs o') (fun _ i _=>(intOf i).toNat)
 case atStart=>exact⟨[],oL,m,by simp,rfl,af.out⟩
 case round=>
  obtain⟨xs,o',r,hr,rfl,hI⟩:=hrel
  obtain⟨A5,c5,e5,Z,a7,_⟩:=ao hI.own
  subst e5
  obtain⟨a,bad,k0,k1,k2,z1,z2,_,hs,hnn⟩:=hI.rs.cells
  have s:RdA wr (fun k=>w.heap.size≤k) (.slice A5 xs.length c5) (xs.map (·.p)):=⟨xs,rfl,(RdP.of_own hI.own).mono (fun b _ hb=>hb.2),fun y hy=>(hI.inner y hy).keeps (Keeps.mono fun b _ hb=>hb.1)⟩
  obtain⟨q,hq⟩:∃q,xs.length=q:=⟨_,rfl⟩
  rw[hq] at s hI Z ⊢
  have a6:r+q=m:=by omega
  have Hq:=tt hq
  have HI:=tt hI
  have G:=tt s
  have a1:=hI.n256
  have hz:=hI.fp.size
  by_cases Y:r=0
  ·have A:=hI.exit Hd.out (Or.inl (by omega))
   have E:=tt A
   obtain rfl:r=0:=Y
   clear hI hq s hs hnn hr A k0 k1 z1
   have d1:decide ((0:Int) < ((0:Nat):Int))=false:=by simp
   go_wp2_with fail
   go_ret
   exact⟨_,_,rfl,G.out,E.out.1,by rw[E.out.2];exact HI.out.rs,HI.out.fp⟩
  ·have d1:decide ((0:Int) < (r:Int))=true:=by simp;omega
   cases o' with
   |none=>
    have B:=hnn rfl
    subst B
    have A:=hI.exit Hd.out (Or.inr rfl)
    have E:=tt A
    clear hI hq s hs hnn hr A k0 k1 z1
    go_wp2_with fail
    go_ret
    exact⟨_,_,rfl,G.out,E.out.1,by rw[E.out.2];exact HI.out.rs,HI.out.fp⟩
   |some p=>
    obtain⟨aa,B⟩:=hs p rfl
    subst aa B
    have T0:=tt (Vr.new hI.rs #[.int .i64 0,.slice none 0 0,.slice none 0 0,.int .i64 0] 168)
    have H:g < wr.heap.size:=hI.rs.lt
    clear hI hq s hs hnn hr k0 k1 z1
    go_wp2_with fail
    refine (bo b x g _ _ (fun k=>k≠g) ((HX.out.fp HI.out.fp (fun k hk=>hk)).fp T0.out.fp (fun k hk=>hk)) T0.out.rs).mono ?_
    rintro e a2 ⟨pf,rfl,h1,h2,h3,h4,h5⟩
    have t1:=T0.out.call h4 h5
    obtain⟨x0,y0⟩:=t1.cell 0 (by simp)
    simp only[List.getElem_toArray,tF] at x0
    have T1:=tt (t1.store 0 (.int .i64 pf) (cs':=#[.int .i64 pf,.slice none 0 0,.slice none 0 0,.int .i64 0]) rfl)
    have E0:=tt h3
    clear h1 h2 h3 h4 h5 t1 k2 z2
    go_wp2_with fail
    refine (iN b x g _ _ ((HX.out.fp HI.out.fp (fun k hk=>hk)).fp T1.out.fp (fun k hk=>hk)) T1.out.rs).mono ?_
    rintro e X ⟨a3,pm,rfl,hL,h3,h4,h5⟩
    obtain⟨l,c,f,ac⟩:=hL.form
    subst ac
    have C:=hL.keeps (Keeps.new1 T1.out.lt1)
    have t1:=T1.out.call h4 h5
    obtain⟨x1,y1⟩:=t1.cell 1 (by simp)
    simp only[List.getElem_toArray,tF,tG] at x1
    have K:=tt (C.keeps (Keeps.var1 wr X 1 (.slice l c f)))
    have T2:=tt (t1.store 1 (.slice l c f) (cs':=#[.int .i64 pf,.slice l c f,.slice none 0 0,.int .i64 0]) rfl)
    have E1:=tt h3
    clear hL C h3 h4 h5 t1 x0 y0
    go_wp2_with fail
    refine (kH b x g _ _ ((HX.out.fp HI.out.fp (fun k hk=>hk)).fp T2.out.fp (fun k hk=>hk)) T2.out.rs).mono ?_
    rintro e N ⟨a4,pl,rfl,hL,h3,h4,h5⟩
    obtain⟨n,d,j,ad⟩:=hL.form
    subst ad
    have C:=hL.keeps (Keeps.new1 T2.out.lt1)
    have t1:=T2.out.call h4 h5
    obtain⟨x2,y2⟩:=t1.cell 2 (by simp)
    simp only[List.getElem_toArray,tF,tG] at x2
    have J:=tt ((K.out.keeps (Keeps.fpg1 h5 H)).keeps (Keeps.var1 wr N 2 (.slice n d j)))
    have M:=tt (C.keeps (Keeps.var1 wr N 2 (.slice n d j)))
    have T3:=tt (t1.store 2 (.slice n d j) (cs':=#[.int .i64 pf,.slice l c f,.slice n d j,.int .i64 0]) rfl)
    have E2:=tt h3
    clear hL C h3 h4 h5 t1 x1 y1
    go_wp2_with fail
    refine (bo b x g _ _ (fun k=>k≠g) ((HX.out.fp HI.out.fp (fun k hk=>hk)).fp T3.out.fp (fun k hk=>hk)) T3.out.rs).mono ?_
    rintro e F ⟨ps,rfl,h1,h2,h3,h4,h5⟩
    have t1:=T3.out.call h4 h5
    obtain⟨x3,y3⟩:=t1.cell 3 (by simp)
    simp only[List.getElem_toArray,tF,tG] at x3
    have I:=tt ((J.out.keeps (Keeps.fpg1 h5 H)).keeps (Keeps.var1 wr F 3 (.int .i64 ps)))
    have L:=tt ((M.out.keeps (Keeps.fpg1 h5 H)).keeps (Keeps.var1 wr F 3 (.int .i64 ps)))
    have T4:=tt (t1.store 3 (.int .i64 ps) (cs':=#[.int .i64 pf,.slice l c f,.slice n d j,.int .i64 ps]) rfl)
    have E3:=tt h3
    clear h1 h2 h3 h4 h5 t1 x2 y2
    have R:=T4.out.range [.int .i64 pf,.slice l c f,.slice n d j,.int .i64 ps] rfl
    have al:=tt R
    clear R
    obtain⟨t,ht⟩:∃t:PartV,(⟨⟨pf,pm,pl,ps⟩,.slice l c f,.slice n d j⟩:PartV)=t:=⟨_,rfl⟩
    have hE:=mB E0.out E1.out E2.out E3.out
    have HE:=tt hE
    have HF:=tt T4.out.fp
    have a5:=HF.out.size
    have V:=I.out.keeps (Keeps.end1 wr _)
    have W:=L.out.keeps (Keeps.end1 wr _)
    have H0:Hid (PartOk (F.setCell ⟨wr.heap.size,3,none⟩ (.int .i64 ps)) (fun k=>wr.heap.size≤k) (⟨⟨pf,pm,pl,ps⟩,.slice l c f,.slice n d j⟩:PartV)):=tt ⟨V,W⟩
    clear V W
    clear hE ht
    have z:(F.setCell ⟨wr.heap.size,3,none⟩ (.int .i64 ps)).ownsRow w.heap.size 168 4 (.slice A5 q c5) q (xs.flatMap pv):=by
     have h:=HI.out.own
     rw[Hq.out] at h
     exact ar h fun b hb=>HF.out.block b (h.lt b hb).2 (by have:=(h.lt b hb).1;omega)
    have a0:=HF.out.size
    have D:=tt z
    clear z
    go_wp2_with (first|(refine aA rfl 168 (.tmp 5) rfl wr.heap.size 0 rfl [.int .i64 pf,.slice l c f,.slice n d j,.int .i64 ps] _ ?_ Tryz.underlying168 rfl fa ?_;exact al.out)|(refine cu rfl 54 (.tmp 33) rfl 168 (pv (⟨⟨pf,pm,pl,ps⟩,.slice l c f,.slice n d j⟩:PartV)) rfl Tryz.underlying54 (ru (⟨⟨pf,pm,pl,ps⟩,.slice l c f,.slice n d j⟩:PartV)) (by simp[pv]) (by simp[pv]) ?_)|(at_builtin;refine aW rA rfl _ _ rfl w.heap.size _ q _ rfl D.out (pv (⟨⟨pf,pm,pl,ps⟩,.slice l c f,.slice n d j⟩:PartV)).toArray rfl rfl (oI H0.out) (by omega) (by decide) (by omega) ?_;intro v' w2 u S hb2 O;have HN:=tt (EInvP.next HI.out Hq.out (by omega) H0.out HE.out.1 (by rw[HE.out.2];exact T4.out.rs) HF.out hg D.out u S O);clear u S hb2 O))
    go_roundw
    case rel=>exact⟨_,_,r - 1,by rw[tH,Hq.out];simp;omega,(show Value.int .i64 ((r:Int) - 1)= .int .i64 ((r - 1:Nat):Int) by congr 1;omega),HN.out⟩
    case measure=>simp[intOf];omega
def res (e:List UInt8) (ok:Bool):List UInt8:=if ok then e else []
theorem dt (e:List UInt8):res e true=e:=rfl
theorem jO (e:List UInt8):res e false=[]:=rfl
theorem Bytes.open_ {e:List UInt8} {ok:Bool} {w w':World} {en:Ending} (h:Bytes e ok w en w'):
 ∃A c,en= .returned (.tuple #[.slice A (res e ok).length c,.bool ok])∧w'.ownsRow w.heap.size 5 1 (.slice A (res e ok).length c) (res e ok).length ((res e ok).map bv)∧Below w.heap.size w w':=by
 obtain⟨v,h1,h2,h3⟩:=h
 have a:w'.ownsRow w.heap.size 5 1 v (res e ok).length ((res e ok).map bv):=h2
 obtain⟨A,c,rfl,_⟩:=ao a
 exact⟨A,c,h1,a,h3⟩
theorem Bytes.rd {e b:List UInt8} {ok o:Bool} {w w':World} {en:Ending} (h:Bytes e ok w en w') (hb:res e ok=b) (ho:ok=o):
 ∃A c,en= .returned (.tuple #[.slice A b.length c,.bool o])∧RdP w' (fun k=>k < w'.heap.size) 1 (.slice A b.length c) b.length (b.map bv)∧Below w.heap.size w w':=by
 subst hb ho
 obtain⟨A,c,h1,h2,h3⟩:=h.open_
 exact⟨A,c,h1,(Rd.of_own h2).to_p (tJ _),h3⟩
theorem Keeps.drewN (w:World) (q:Nat):Keeps (fun b=>b < w.heap.size) (fun b=>b < (w.drewN q).heap.size) w (w.drewN q):=Keeps.on (ak (Below.refl _ _) q)
theorem Bytes.rdb {e b:List UInt8} {ok o:Bool} {w w':World} {en:Ending} (h:Bytes e ok w en w') (hb:res e ok=b) (ho:ok=o):
 ∃A c,en= .returned (.tuple #[.slice A b.length c,.bool o])∧RdP w' (fun k=>w.heap.size≤k) 1 (.slice A b.length c) b.length (b.map bv)∧Below w.heap.size w w':=by
 subst hb ho
 obtain⟨A,c,h1,h2,h3⟩:=h.open_
 exact⟨A,c,h1,(RdP.of_own h2).mono fun b _ hb=>hb.2,h3⟩
end Go.Proofs.YtipmjleohadoeaaGreat
end
