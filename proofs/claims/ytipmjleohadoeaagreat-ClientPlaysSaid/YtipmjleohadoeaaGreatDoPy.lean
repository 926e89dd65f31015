import Derived.Test.YtipmjleohadoeaaGreatJ15Py
import Derived.Test.YtipmjleohadoeaaGreatJ10Py
set_option maxRecDepth 100000
set_option maxHeartbeats 16000000
set_option linter.unusedVariables false
set_option linter.unusedSimpArgs false
namespace Go.Proofs.YtipmjleohadoeaaGreat
open Go.RowKit
structure Did (S:Nat→Prop) (g bm h:Nat) (k ct rk:Nat) (c:Cf) (id:Int) (n:Nat) (w w':World):Prop where
 ex:∃(S':Nat→Prop) (K':List Key) (s':CS) (r':RC),Cr w' S' g bm h K' K' k ct rk c id s' r'∧Pl c id K' s' r'∧s'.out=[]∧Sz n K' s'∧(∀b,S' b→S b∨w.heap.size≤b)∧Fp (fun b=>S b∨b=bm) w w'
theorem zf {S T:Nat→Prop} {bm:Nat} {w v u:World} (h:Fp (fun b=>S b∨b=bm) w v) (s:∀b,T b→S b∨w.heap.size≤b) (g:Fp (fun b=>T b∨b=bm) v u):Fp (fun b=>S b∨b=bm) w u:=h.trans g fun b i=>by
 rcases i with i|i
 ·rcases s b i with A|A
  ·exact .inl (.inl A)
  ·exact .inr A
 ·exact .inl (.inr i)
theorem zsQ {S T R:Nat→Prop} {n m:Nat} (o:∀b,T b→S b∨n≤b) (l:∀b,R b→T b∨m≤b) (h:n≤m):∀b,R b→S b∨n≤b:=fun b i=>by
 rcases l b i with i|i
 ·exact o b i
 ·right;omega
theorem pu (K:List Key) (m:Psp.Msg):(res (cX K m) (okS K m)).length≤65536:=by
 cases h:okS K m with
 |false=>rw[jO];simp
 |true=>
  rw[dt]
  have h2:=iE h
  unfold okE at h2
  rw[tI,decide_eq_true_eq] at h2
  unfold cX
  rw[tH]
  exact h2.2
theorem sH {w:World} {S:Nat→Prop} {bm:Nat} {A:Option Addr} {n c m:Nat} {l:List UInt8} (h:Bk w S bm (.slice A n c) l) (hm:m≤l.length):RdP w (Off w S bm) 1 (.slice A m c) (l.take m).length ((l.take m).map bv):=by
 obtain⟨h1,A',c',e,h2,h3,h4⟩:=h.rd
 injection e with e1 e2 e3
 subst e1;subst e3
 have hl:(l.take m).length=m:=by rw[List.length_take];omega
 rw[hl]
 refine⟨by rw[List.length_map,hl,Nat.mul_one],A,c,rfl,by omega,h3,fun hp=>?_⟩
 obtain⟨b,o,g1,g2,g3,g4⟩:=h4 (by omega)
 exact⟨b,o,g1,g2,g3,by rw[List.map_take];exact g4.take m⟩
theorem px (S:Nat→Prop) (g bm h k ct rk:Nat) (K:List Key) (c:Cf) (id:Int) (s:CS) (r:RC) (n:Nat) (a:ActV) (w:World) (H:Cr w S g bm h K K k ct rk c id s r) (hP:Pl c id K s r) (al:Bk w S bm a.v a.b) (g1:ii a) (hf:1≤c.f∧c.f≤4) (hcl:1≤c.cl∧c.cl≤4) (d8:0≤id∧id<4) (eS:1≤c.re∧c.re≤64) (c9:s.out=[])
 (e6:Sz n K s) (hn:n≤1000):
 Calls Tryz.prog 27 #[.pointer (some ⟨k,0,none⟩),.pointer (some ⟨rk,0,none⟩),.agg #[.pointer (some ⟨g,0,none⟩),.pointer (some ⟨h,0,none⟩)],(.agg (gI a).toArray)] w fun e w'=>e= .returned (.bool true)∧Did S g bm h k ct rk c id (n+1) w w':=by
 have HT:=tt H
 have D:=tt hP
 have c5:=tt e6
 obtain⟨_,Av,cv,hv,_⟩:=al.rd
 show Calls Tryz.prog 27 #[.pointer (some ⟨k,0,none⟩),.pointer (some ⟨rk,0,none⟩),.agg #[.pointer (some ⟨g,0,none⟩),.pointer (some ⟨h,0,none⟩)],.agg #[.int .i64 a.d,.int .i64 a.n,.int .i64 a.c,.int .i64 a.t,.int .i64 a.r,.int .i64 a.k,.int .i64 a.y,.int .i64 a.z,a.v]] w fun e w'=>e= .returned (.bool true)∧Did S g bm h k ct rk c id (n+1) w w'
 have cm:=al
 rw[hv] at cm ⊢
 have HX:=tt cm
 obtain⟨b1,b2,b3,b4,b5,b6⟩:=e6
 obtain⟨gc,ex,hQ,hO,hM,gb,f8,f7⟩:=g1
 clear H hP al cm hv
 go_enter Tryz.func27,Tryz.ntmps27
 go_upto_region 1 with fail
 clear gb f8 f7
 have HF:Hid (Fp (fun b=>S b∨b=bm) w w):=tt (Fp.refl _ _)
 have C:Hid (∀b,S b→S b∨w.heap.size≤b):=tt fun b hb=>.inl hb
 have x:=ae w (.cells #[.pointer (some ⟨g,0,none⟩),.pointer (some ⟨h,0,none⟩)] 31)
 have E:Rw (w.alloc (.cells #[.pointer (some ⟨g,0,none⟩),.pointer (some ⟨h,0,none⟩)] 31)) S bm w.heap.size (.cells #[.pointer (some ⟨g,0,none⟩),.pointer (some ⟨h,0,none⟩)] 31 (0,0)):=Rw.new (.cells #[.pointer (some ⟨g,0,none⟩),.pointer (some ⟨h,0,none⟩)] 31) HT.out.lt HT.out.nt.lt.2
 have G:(w.alloc (.cells #[.pointer (some ⟨g,0,none⟩),.pointer (some ⟨h,0,none⟩)] 31)).heap.size=w.heap.size+1:=by simp
 obtain⟨wt,hWa⟩:∃W_,w.alloc (.cells #[.pointer (some ⟨g,0,none⟩),.pointer (some ⟨h,0,none⟩)] 31)=W_:=⟨_,rfl⟩
 rw[hWa] at x E G ⊢
 have cW:=tt G
 have hl:=tt x
 have Ht:=tt E
 clear hWa E G
 replace HX:=tt (HX.out.below x)
 replace HT:=tt (HT.out.below x)
 replace HF:=tt (HF.out.trans (Fp.of_below x (fun b=>S b∨b=bm)) fun b i=>.inl i)
 have gg:w.heap.size≤wt.heap.size:=x.size
 clear x
 have x:=ae wt (.cells #[.int .i64 a.d,.int .i64 a.n,.int .i64 a.c,.int .i64 a.t,.int .i64 a.r,.int .i64 a.k,.int .i64 a.y,.int .i64 a.z,.slice Av a.b.length cv] 82)
 have E:Rw (wt.alloc (.cells #[.int .i64 a.d,.int .i64 a.n,.int .i64 a.c,.int .i64 a.t,.int .i64 a.r,.int .i64 a.k,.int .i64 a.y,.int .i64 a.z,.slice Av a.b.length cv] 82)) S bm wt.heap.size (.cells #[.int .i64 a.d,.int .i64 a.n,.int .i64 a.c,.int .i64 a.t,.int .i64 a.r,.int .i64 a.k,.int .i64 a.y,.int .i64 a.z,.slice Av a.b.length cv] 82 (0,0)):=Rw.new (.cells #[.int .i64 a.d,.int .i64 a.n,.int .i64 a.c,.int .i64 a.t,.int .i64 a.r,.int .i64 a.k,.int .i64 a.y,.int .i64 a.z,.slice Av a.b.length cv] 82) HT.out.lt HT.out.nt.lt.2
 have G:(wt.alloc (.cells #[.int .i64 a.d,.int .i64 a.n,.int .i64 a.c,.int .i64 a.t,.int .i64 a.r,.int .i64 a.k,.int .i64 a.y,.int .i64 a.z,.slice Av a.b.length cv] 82)).heap.size=wt.heap.size+1:=by simp
 obtain⟨wa,hWa⟩:∃W_,wt.alloc (.cells #[.int .i64 a.d,.int .i64 a.n,.int .i64 a.c,.int .i64 a.t,.int .i64 a.r,.int .i64 a.k,.int .i64 a.y,.int .i64 a.z,.slice Av a.b.length cv] 82)=W_:=⟨_,rfl⟩
 rw[hWa] at x E G ⊢
 have en:=tt G
 have hp:=tt x
 rw[cW.out] at E
 have Ha:=tt E
 clear hWa E G
 replace Ht:=tt (Ht.out.below x)
 replace HX:=tt (HX.out.below x)
 replace HT:=tt (HT.out.below x)
 replace HF:=tt (HF.out.trans (Fp.of_below x (fun b=>S b∨b=bm)) fun b i=>.inl i)
 have gp:wt.heap.size≤wa.heap.size:=x.size
 clear x
 go_upto_region 2 with fail
 have fm:wa.cell? ⟨w.heap.size+1,0,none⟩=some (.int .i64 a.d):=Ha.out.cell rfl
 go_upto_block 0 with (go_at_call 8;refine (ie _ _ _ (by first|assumption|exact⟨by omega,by omega⟩) (by exact⟨by omega,by omega⟩)).mono ?_;rintro e w' ⟨rfl,rfl⟩)
 clear fm
 have hc:=Psp.gn a.d 10
 have ha:=Psp.gq a.d 10 (by omega)
 obtain⟨d,hd_⟩:∃d,Psp.bS a.d 10=d:=⟨_,rfl⟩
 rw[hd_] at hc ha ⊢
 clear hd_ gc
 go_cut [9] from 11 to 106 (fun o_ wx=>o_= .bool true∧∃(S2:Nat→Prop) (K2:List Key) (s2:CS) (r2:RC),Hid (Cr wx S2 g bm h K2 K2 k ct rk c id s2 r2)∧Hid (Pl c id K2 s2 r2)∧Hid (Sz (n+1) K2 s2)∧Hid (∀b,S2 b→S b∨w.heap.size≤b)∧Hid (Fp (fun b=>S b∨b=bm) w wx)∧Hid (Rw wx S2 bm w.heap.size (.cells #[.pointer (some ⟨g,0,none⟩),.pointer (some ⟨h,0,none⟩)] 31 (0,0))))
 case first=>
  by_cases e4:d<2
  case pos=>
   have g6:decide (d<2)=true:=tB e4
   have cQ:wa.cell? ⟨w.heap.size+1,5,none⟩=some (.int .i64 a.k):=Ha.out.cell rfl
   have cz:wa.cell? ⟨w.heap.size+1,6,none⟩=some (.int .i64 a.y):=Ha.out.cell rfl
   have cy:wa.cell? ⟨w.heap.size+1,7,none⟩=some (.int .i64 a.z):=Ha.out.cell rfl
   go_upto_region 9 with fail
   go_wp2_with fail
   obtain⟨P_,hP_⟩:∃P_,fS c id K s a.k a.y a.z=P_:=⟨_,rfl⟩
   obtain⟨⟨q,er⟩,s2,K2⟩:=P_
   have HI:=tt hP_
   have J:=tt (nx hf hP_ c5.out)
   clear hP_
   refine (HT.out.op (Q:=fun e _=>e= .returned (.tuple #[.agg #[.int .i64 q.c,.int .i64 q.t,.int .i64 q.k,.int .i64 q.y,.int .i64 q.v,.int .i64 q.s],.int .i64 er])) fun V hV=>pg V g bm k ct K K2 c id s s2 a.k a.y a.z q er wa hV hf hcl.2 d8 (by omega) (by rw[c9];exact Nat.zero_le _) (by omega) HI.out).mono ?_
   rintro e w5 ⟨rfl,S5,B,l,j⟩
   replace Ht:=tt (Ht.out.seal j l)
   replace Ha:=tt (Ha.out.seal j l)
   replace HX:=tt (HX.out.seal j l)
   have F:=HF.out.size
   have o:=C.out
   have Z:wa.heap.size≤w5.heap.size:=(j).size
   replace HF:=tt (zf HF.out o j)
   replace C:=tt (zsQ o l (by omega))
   replace HT:=tt B
   clear B l j F o
   clear cQ cz cy
   go_upto_region 10 with fail
   have x:=ae w5 (.cells #[.int .i64 q.c,.int .i64 q.t,.int .i64 q.k,.int .i64 q.y,.int .i64 q.v,.int .i64 q.s] 42)
   have E:Rw (w5.alloc (.cells #[.int .i64 q.c,.int .i64 q.t,.int .i64 q.k,.int .i64 q.y,.int .i64 q.v,.int .i64 q.s] 42)) S5 bm w5.heap.size (.cells #[.int .i64 q.c,.int .i64 q.t,.int .i64 q.k,.int .i64 q.y,.int .i64 q.v,.int .i64 q.s] 42 (0,0)):=Rw.new (.cells #[.int .i64 q.c,.int .i64 q.t,.int .i64 q.k,.int .i64 q.y,.int .i64 q.v,.int .i64 q.s] 42) HT.out.lt HT.out.nt.lt.2
   have G:(w5.alloc (.cells #[.int .i64 q.c,.int .i64 q.t,.int .i64 q.k,.int .i64 q.y,.int .i64 q.v,.int .i64 q.s] 42)).heap.size=w5.heap.size+1:=by simp
   obtain⟨w6,hWa⟩:∃W_,w5.alloc (.cells #[.int .i64 q.c,.int .i64 q.t,.int .i64 q.k,.int .i64 q.y,.int .i64 q.v,.int .i64 q.s] 42)=W_:=⟨_,rfl⟩
   rw[hWa] at x E G ⊢
   have hk:=tt G
   have hr:=tt x
   have Hp:=tt E
   clear hWa E G
   replace Ht:=tt (Ht.out.below x)
   replace Ha:=tt (Ha.out.below x)
   replace HX:=tt (HX.out.below x)
   replace HT:=tt (HT.out.below x)
   replace HF:=tt (HF.out.trans (Fp.of_below x (fun b=>S b∨b=bm)) fun b i=>.inl i)
   have P:w5.heap.size≤w6.heap.size:=x.size
   clear x
   have cQ:w6.cell? ⟨w.heap.size+1,5,none⟩=some (.int .i64 a.k):=Ha.out.cell rfl
   have cz:w6.cell? ⟨w.heap.size+1,6,none⟩=some (.int .i64 a.y):=Ha.out.cell rfl
   have cy:w6.cell? ⟨w.heap.size+1,7,none⟩=some (.int .i64 a.z):=Ha.out.cell rfl
   go_wp2_with fail
   obtain⟨r2,ac,aa⟩:=HT.out.rops (X:=fun r2=>Pl c id K2 s2 r2) (Q:=fun e _=>e= .returned (.tuple #[.agg #[.int .i64 q.c,.int .i64 q.t,.int .i64 q.k,.int .i64 q.y,.int .i64 q.v,.int .i64 q.s],.int .i64 er])) fun T U hN hR M a0=>mR T U rk h K K2 c id s s2 r a.k a.y a.z q er w6 hR hN M a0 D.out hf hcl.2 d8 b5 (by omega) (by rw[c9];exact Nat.zero_le _) (by omega) HI.out
   have O:=tt ac
   refine aa.mono ?_
   clear aa ac
   rintro e w7 ⟨rfl,S7,B,l,j⟩
   replace Ht:=tt (Ht.out.seal j l)
   replace Ha:=tt (Ha.out.seal j l)
   replace Hp:=tt (Hp.out.seal j l)
   replace HX:=tt (HX.out.seal j l)
   have F:=HF.out.size
   have o:=C.out
   have Y:w6.heap.size≤w7.heap.size:=(j).size
   replace HF:=tt (zf HF.out o j)
   replace C:=tt (zsQ o l (by omega))
   replace HT:=tt B
   clear B l j F o
   clear cQ cz cy
   go_upto_region 11 with fail
   have x:=ae w7 (.cells #[.int .i64 q.c,.int .i64 q.t,.int .i64 q.k,.int .i64 q.y,.int .i64 q.v,.int .i64 q.s] 42)
   have E:Rw (w7.alloc (.cells #[.int .i64 q.c,.int .i64 q.t,.int .i64 q.k,.int .i64 q.y,.int .i64 q.v,.int .i64 q.s] 42)) S7 bm w7.heap.size (.cells #[.int .i64 q.c,.int .i64 q.t,.int .i64 q.k,.int .i64 q.y,.int .i64 q.v,.int .i64 q.s] 42 (0,0)):=Rw.new (.cells #[.int .i64 q.c,.int .i64 q.t,.int .i64 q.k,.int .i64 q.y,.int .i64 q.v,.int .i64 q.s] 42) HT.out.lt HT.out.nt.lt.2
   have G:(w7.alloc (.cells #[.int .i64 q.c,.int .i64 q.t,.int .i64 q.k,.int .i64 q.y,.int .i64 q.v,.int .i64 q.s] 42)).heap.size=w7.heap.size+1:=by simp
   obtain⟨w8,hWa⟩:∃W_,w7.alloc (.cells #[.int .i64 q.c,.int .i64 q.t,.int .i64 q.k,.int .i64 q.y,.int .i64 q.v,.int .i64 q.s] 42)=W_:=⟨_,rfl⟩
   rw[hWa] at x E G ⊢
   have hj:=tt G
   have hq:=tt x
   have Hq:=tt E
   clear hWa E G
   replace Ht:=tt (Ht.out.below x)
   replace Ha:=tt (Ha.out.below x)
   replace Hp:=tt (Hp.out.below x)
   replace HX:=tt (HX.out.below x)
   replace HT:=tt (HT.out.below x)
   replace HF:=tt (HF.out.trans (Fp.of_below x (fun b=>S b∨b=bm)) fun b i=>.inl i)
   have bQ:w7.heap.size≤w8.heap.size:=x.size
   clear x
   have hL:w8.cell? ⟨w5.heap.size,0,none⟩=some (.int .i64 q.c):=Hp.out.cell rfl
   have hJ:w8.cell? ⟨w5.heap.size,1,none⟩=some (.int .i64 q.t):=Hp.out.cell rfl
   have hI:w8.cell? ⟨w5.heap.size,2,none⟩=some (.int .i64 q.k):=Hp.out.cell rfl
   have hG:w8.cell? ⟨w5.heap.size,3,none⟩=some (.int .i64 q.y):=Hp.out.cell rfl
   have hF:w8.cell? ⟨w5.heap.size,4,none⟩=some (.int .i64 q.v):=Hp.out.cell rfl
   have hE:w8.cell? ⟨w5.heap.size,5,none⟩=some (.int .i64 q.s):=Hp.out.cell rfl
   have hD:w8.cell? ⟨w7.heap.size,0,none⟩=some (.int .i64 q.c):=Hq.out.cell rfl
   have hB:w8.cell? ⟨w7.heap.size,1,none⟩=some (.int .i64 q.t):=Hq.out.cell rfl
   have hA:w8.cell? ⟨w7.heap.size,2,none⟩=some (.int .i64 q.k):=Hq.out.cell rfl
   have hz:w8.cell? ⟨w7.heap.size,3,none⟩=some (.int .i64 q.y):=Hq.out.cell rfl
   have hy:w8.cell? ⟨w7.heap.size,4,none⟩=some (.int .i64 q.v):=Hq.out.cell rfl
   have hx:w8.cell? ⟨w7.heap.size,5,none⟩=some (.int .i64 q.s):=Hq.out.cell rfl
   go_wp2_with fail
   go_meet
   exact⟨rfl,S7,K2,s2,r2,HT,O,J,C,HF,Ht⟩
  case neg=>
   have g6:decide (d<2)=false:=tA e4
   by_cases dj:d=2
   case pos=>
    have g5:(d==2)=true:=by rw[dj];rfl
    obtain⟨o1,o2⟩:=D.out.lo
    have g3:=D.out.tick (by omega)
    obtain⟨ch,ds⟩:=g3
    have J:=tt (nV c5.out ch)
    have O:=tt ds
    have fq:=tt ch
    clear ch ds dj
    go_upto_region 13 with fail
    go_wp2_with fail
    refine (HT.out.op (Q:=fun e _=>e= .returned (.tuple #[])) fun V hV=>rN V g bm k ct K c id s wa hV hf ⟨d8.1,by omega⟩ eS ⟨b5,by omega⟩ ⟨o1,o2⟩ (by omega) (by rw[c9];exact Nat.zero_le _) (by omega) (fun h_=>⟨(D.out.sl h_).1,(D.out.sl h_).2.1⟩)).mono ?_
    rintro e w5 ⟨rfl,S5,B,l,j⟩
    rw[fq.out] at B
    replace Ht:=tt (Ht.out.seal j l)
    replace Ha:=tt (Ha.out.seal j l)
    replace HX:=tt (HX.out.seal j l)
    have F:=HF.out.size
    have o:=C.out
    have Z:wa.heap.size≤w5.heap.size:=(j).size
    replace HF:=tt (zf HF.out o j)
    replace C:=tt (zsQ o l (by omega))
    replace HT:=tt B
    clear B l j F o
    go_wp2_with fail
    refine (HT.out.rop (r':=lQ c r) (Q:=fun e _=>e= .returned (.tuple #[])) fun T U hN hR M a0=>(qd U rk h c id r w5 hR hf eS ⟨D.out.tl.1,by have:=D.out.tl.2;omega⟩ (by rw[D.out.out,c9];exact Nat.zero_le _) (lQ c r) rfl).mono fun e w' h_=>⟨h_.1,Rdone.only hN hR.lt M a0 h_.2.choose_spec.1 h_.2.choose_spec.2.1 h_.2.choose_spec.2.2⟩).mono ?_
    rintro e w6 ⟨rfl,S6,B,l,j⟩
    replace Ht:=tt (Ht.out.seal j l)
    replace Ha:=tt (Ha.out.seal j l)
    replace HX:=tt (HX.out.seal j l)
    have F:=HF.out.size
    have o:=C.out
    have P:w5.heap.size≤w6.heap.size:=(j).size
    replace HF:=tt (zf HF.out o j)
    replace C:=tt (zsQ o l (by omega))
    replace HT:=tt B
    clear B l j F o
    go_wp2_with fail
    replace J:Hid (Sz (n+1) K (eY c id K s).1):=tt (by have h_:=J.out;rw[fq.out] at h_;exact h_)
    go_meet
    exact⟨rfl,S6,K,_,_,HT,O,J,C,HF,Ht⟩
   case neg=>
    have g5:(d==2)=false:=by simp[dj]
    have hT:decide (d=2)=false:=tA dj
    by_cases di:d=3
    case pos=>
     have g4:(d==3)=true:=by rw[di];rfl
     clear di
     have e8:wa.cell? ⟨w.heap.size+1,8,none⟩=some (.slice Av a.b.length cv):=Ha.out.cell rfl
     go_upto_region 17 with fail
     obtain⟨mi,hmi⟩:∃mi:Int,(if (300:Int)<(a.b.length:Int) then (300:Int) else (a.b.length:Int))=mi:=⟨_,rfl⟩
     rw[hmi]
     have e1:0≤mi∧mi≤300∧mi≤a.b.length:=by rw[←hmi];split<;>omega
     obtain⟨m,hm_⟩:∃m,mi.toNat=m:=⟨_,rfl⟩
     rw[hm_]
     have e3:m≤a.b.length:=by omega
     have g2:m≤300:=by omega
     clear hmi hm_ e1
     have hbb:=HX.out
     obtain⟨bb,hbb_⟩:∃bb,a.b.take m=bb:=⟨_,rfl⟩
     have dr:bb.length=m:=by rw[←hbb_,List.length_take];omega
     have hY:Bk wa S bm (.slice Av bb.length cv) bb:=⟨by have h_:=sH HX.out e3;rw[hbb_] at h_;rw[dr];rw[dr] at h_;exact h_⟩
     rw[←dr]
     have e2:bb.length≤300:=by omega
     have HY:=tt hY
     clear e3 g2 hbb hbb_ dr hY
     clear e8
     obtain⟨hb,s2,hts⟩:∃hb s2,cL c id K s bb=(hb,s2):=⟨_,_,rfl⟩
     have ad:=tt hts
     clear hts
     go_wp2_with fail
     have a2:=HY.out.rd.to_rd
     refine (fV _ bb.length (bb.map bv) _ a2 (by intro u hu;obtain⟨z,_,rfl⟩:=List.mem_map.1 hu;rfl) (by omega)).mono ?_
     clear a2
     rintro e w5 ⟨fn,rfl,hcb,hbq⟩
     have c4:=tt hcb
     clear hcb
     replace Ht:=tt (Ht.out.below hbq)
     replace Ha:=tt (Ha.out.below hbq)
     replace HX:=tt (HX.out.below hbq)
     replace HY:=tt (HY.out.below hbq)
     replace HT:=tt (HT.out.below hbq)
     replace HF:=tt (HF.out.trans (Fp.of_below hbq (fun b=>S b∨b=bm)) fun b i=>.inl i)
     have Z:wa.heap.size≤w5.heap.size:=hbq.size
     clear hbq
     go_wp2_with fail
     refine (HT.out.op (Q:=fun e _=>e= .returned (.bool hb)) fun V hV=>jL V g bm k ct K c id s s2 bb _ hb w5 hV ((Rd.of_own c4.out).to_p (tJ _)) hf hcl (fun h_=>(D.out.sl h_).1) (by omega) (by omega) (by omega) ad.out).mono ?_
     rintro e w6 ⟨rfl,S6,B,l,j⟩
     replace Ht:=tt (Ht.out.seal j l)
     replace Ha:=tt (Ha.out.seal j l)
     replace HX:=tt (HX.out.seal j l)
     replace HY:=tt (HY.out.seal j l)
     have F:=HF.out.size
     have o:=C.out
     have P:w5.heap.size≤w6.heap.size:=(j).size
     replace HF:=tt (zf HF.out o j)
     replace C:=tt (zsQ o l (by omega))
     replace HT:=tt B
     clear B l j F o
     go_wp2_with fail
     obtain⟨r2,ac,aa⟩:=HT.out.rops (X:=fun r2=>Pl c id K s2 r2) (Q:=fun e _=>e= .returned (.bool hb)) fun T U hN hR M a0=>ir T U rk h K c id s s2 r bb _ hb w6 hR hN HT.out.nd M a0 (HY.out.rd.mono fun b i _=>i) D.out hf (by rw[D.out.acc];omega) ad.out
     have O:=tt ac
     refine aa.mono ?_
     clear aa ac
     rintro e w7 ⟨rfl,S7,B,l,j⟩
     replace Ht:=tt (Ht.out.seal j l)
     replace Ha:=tt (Ha.out.seal j l)
     replace HX:=tt (HX.out.seal j l)
     replace HY:=tt (HY.out.seal j l)
     have F:=HF.out.size
     have o:=C.out
     have Y:w6.heap.size≤w7.heap.size:=(j).size
     replace HF:=tt (zf HF.out o j)
     replace C:=tt (zsQ o l (by omega))
     replace HT:=tt B
     clear B l j F o
     go_wp2_with fail
     have J:=tt (ik ad.out c5.out (by omega))
     go_meet
     exact⟨rfl,S7,K,s2,r2,HT,O,J,C,HF,Ht⟩
    case neg=>
     have g4:(d==3)=false:=by simp[di]
     have hS:decide (d=3)=false:=tA di
     have fl:wa.cell? ⟨w.heap.size+1,1,none⟩=some (.int .i64 a.n):=Ha.out.cell rfl
     have fi:wa.cell? ⟨w.heap.size+1,2,none⟩=some (.int .i64 a.c):=Ha.out.cell rfl
     have dO:wa.cell? ⟨w.heap.size+1,3,none⟩=some (.int .i64 a.t):=Ha.out.cell rfl
     have e9:wa.cell? ⟨w.heap.size+1,4,none⟩=some (.int .i64 a.r):=Ha.out.cell rfl
     go_upto_region 4 with fail
     have fr:Hid (¬g=wa.heap.size∧¬w.heap.size=wa.heap.size):=tt ⟨by have:=HT.out.nt.lt.1;omega,by have:=cW.out;have:=en.out;omega⟩
     have x:=ae wa (.cells #[.int .i64 0,.int .i64 a.n,.int .i64 0,.int .i64 a.c,.int .i64 a.t,.int .i64 a.r,.slice none 0 0,.slice none 0 0,.slice none 0 0,.slice none 0 0] 56)
     have E:Rw (wa.alloc (.cells #[.int .i64 0,.int .i64 a.n,.int .i64 0,.int .i64 a.c,.int .i64 a.t,.int .i64 a.r,.slice none 0 0,.slice none 0 0,.slice none 0 0,.slice none 0 0] 56)) S bm wa.heap.size (.cells #[.int .i64 0,.int .i64 a.n,.int .i64 0,.int .i64 a.c,.int .i64 a.t,.int .i64 a.r,.slice none 0 0,.slice none 0 0,.slice none 0 0,.slice none 0 0] 56 (0,0)):=Rw.new (.cells #[.int .i64 0,.int .i64 a.n,.int .i64 0,.int .i64 a.c,.int .i64 a.t,.int .i64 a.r,.slice none 0 0,.slice none 0 0,.slice none 0 0,.slice none 0 0] 56) HT.out.lt HT.out.nt.lt.2
     have G:(wa.alloc (.cells #[.int .i64 0,.int .i64 a.n,.int .i64 0,.int .i64 a.c,.int .i64 a.t,.int .i64 a.r,.slice none 0 0,.slice none 0 0,.slice none 0 0,.slice none 0 0] 56)).heap.size=wa.heap.size+1:=by simp
     obtain⟨wm,hWa⟩:∃W_,wa.alloc (.cells #[.int .i64 0,.int .i64 a.n,.int .i64 0,.int .i64 a.c,.int .i64 a.t,.int .i64 a.r,.slice none 0 0,.slice none 0 0,.slice none 0 0,.slice none 0 0] 56)=W_:=⟨_,rfl⟩
     rw[hWa] at x E G ⊢
     have hi:=tt G
     have hm:=tt x
     have Hm:=tt E
     clear hWa E G
     replace Ht:=tt (Ht.out.below x)
     replace Ha:=tt (Ha.out.below x)
     replace HX:=tt (HX.out.below x)
     replace HT:=tt (HT.out.below x)
     replace HF:=tt (HF.out.trans (Fp.of_below x (fun b=>S b∨b=bm)) fun b i=>.inl i)
     have go:wa.heap.size≤wm.heap.size:=x.size
     clear x
     clear fl fi dO e9
     have dO:wm.cell? ⟨w.heap.size+1,3,none⟩=some (.int .i64 a.t):=Ha.out.cell rfl
     by_cases cn:a.t=0
     case neg=>
      have dv:(a.t==0)=false:=by simp[cn]
      have hw:decide (a.t=0)=false:=tA cn
      go_upto_region 6 with fail
      obtain⟨bb,hbb⟩:∃bb,res (cX K (aR a.n a.c a.t a.r)) (okS K (aR a.n a.c a.t a.r))=bb:=⟨_,rfl⟩
      obtain⟨K1,hK1⟩:∃K1,sealK K (aR a.n a.c a.t a.r)=K1:=⟨_,rfl⟩
      have d7:=cY K (aR a.n a.c a.t a.r)
      rw[hK1] at d7
      have bN:=D.out.sealK (aR a.n a.c a.t a.r)
      rw[hK1] at bN
      have D:=tt bN
      clear bN
      have cs:wm.cell? ⟨w.heap.size,0,none⟩=some (.pointer (some ⟨g,0,none⟩)):=Ht.out.cell rfl
      have cq:wm.cell? ⟨w.heap.size,1,none⟩=some (.pointer (some ⟨h,0,none⟩)):=Ht.out.cell rfl
      have bp:wm.cell? ⟨wa.heap.size,0,none⟩=some (.int .i64 0):=Hm.out.cell rfl
      have bd:wm.cell? ⟨wa.heap.size,1,none⟩=some (.int .i64 a.n):=Hm.out.cell rfl
      have bc:wm.cell? ⟨wa.heap.size,2,none⟩=some (.int .i64 0):=Hm.out.cell rfl
      have a9:wm.cell? ⟨wa.heap.size,3,none⟩=some (.int .i64 a.c):=Hm.out.cell rfl
      have a8:wm.cell? ⟨wa.heap.size,4,none⟩=some (.int .i64 a.t):=Hm.out.cell rfl
      have a7:wm.cell? ⟨wa.heap.size,5,none⟩=some (.int .i64 a.r):=Hm.out.cell rfl
      have a6:wm.cell? ⟨wa.heap.size,6,none⟩=some (.slice none 0 0):=Hm.out.cell rfl
      have a5:wm.cell? ⟨wa.heap.size,7,none⟩=some (.slice none 0 0):=Hm.out.cell rfl
      have a4:wm.cell? ⟨wa.heap.size,8,none⟩=some (.slice none 0 0):=Hm.out.cell rfl
      have a3:wm.cell? ⟨wa.heap.size,9,none⟩=some (.slice none 0 0):=Hm.out.cell rfl
      go_wp2_with fail
      clear cs cq bp bd bc a9 a8 a7 a6 a5 a4 a3
      refine (kJ S g bm h K K k ct rk c id s r a.n a.c a.t a.r bb wm HT.out ex (by omega) (by omega) hbb).mono ?_
      rintro e w4 ⟨A_,hd,S4,rfl,B,l,j,al⟩
      rw[hK1] at B
      have HY:=tt al
      have ep:=tt hbb
      clear hbb al hK1
      replace Ht:=tt (Ht.out.seal j l)
      replace Ha:=tt (Ha.out.seal j l)
      replace Hm:=tt (Hm.out.seal j l)
      replace HX:=tt (HX.out.seal j l)
      have F:=HF.out.size
      have o:=C.out
      have b0:wm.heap.size≤w4.heap.size:=(j).size
      replace HF:=tt (zf HF.out o j)
      replace C:=tt (zsQ o l (by omega))
      replace HT:=tt B
      clear B l j F o
      have e2:bb.length≤65536:=by rw[←ep.out];exact pu _ _
      obtain⟨hb,s2,hts⟩:∃hb s2,cL c id K1 s bb=(hb,s2):=⟨_,_,rfl⟩
      have ad:=tt hts
      clear hts
      go_wp2_with fail
      have a2:=HY.out.rd.to_rd
      refine (fV _ bb.length (bb.map bv) _ a2 (by intro u hu;obtain⟨z,_,rfl⟩:=List.mem_map.1 hu;rfl) (by omega)).mono ?_
      clear a2
      rintro e w5 ⟨fn,rfl,hcb,hbq⟩
      have c4:=tt hcb
      clear hcb
      replace Ht:=tt (Ht.out.below hbq)
      replace Ha:=tt (Ha.out.below hbq)
      replace Hm:=tt (Hm.out.below hbq)
      replace HX:=tt (HX.out.below hbq)
      replace HY:=tt (HY.out.below hbq)
      replace HT:=tt (HT.out.below hbq)
      replace HF:=tt (HF.out.trans (Fp.of_below hbq (fun b=>S b∨b=bm)) fun b i=>.inl i)
      have Z:w4.heap.size≤w5.heap.size:=hbq.size
      clear hbq
      go_wp2_with fail
      refine (HT.out.op (Q:=fun e _=>e= .returned (.bool hb)) fun V hV=>jL V g bm k ct K1 c id s s2 bb _ hb w5 hV ((Rd.of_own c4.out).to_p (tJ _)) hf hcl (fun h_=>(D.out.sl h_).1) (by omega) (by omega) (by omega) ad.out).mono ?_
      rintro e w6 ⟨rfl,S6,B,l,j⟩
      replace Ht:=tt (Ht.out.seal j l)
      replace Ha:=tt (Ha.out.seal j l)
      replace Hm:=tt (Hm.out.seal j l)
      replace HX:=tt (HX.out.seal j l)
      replace HY:=tt (HY.out.seal j l)
      have F:=HF.out.size
      have o:=C.out
      have P:w5.heap.size≤w6.heap.size:=(j).size
      replace HF:=tt (zf HF.out o j)
      replace C:=tt (zsQ o l (by omega))
      replace HT:=tt B
      clear B l j F o
      go_wp2_with fail
      obtain⟨r2,ac,aa⟩:=HT.out.rops (X:=fun r2=>Pl c id K1 s2 r2) (Q:=fun e _=>e= .returned (.bool hb)) fun T U hN hR M a0=>ir T U rk h K1 c id s s2 r bb _ hb w6 hR hN HT.out.nd M a0 (HY.out.rd.mono fun b i _=>i) D.out hf (by rw[D.out.acc];omega) ad.out
      have O:=tt ac
      refine aa.mono ?_
      clear aa ac
      rintro e w7 ⟨rfl,S7,B,l,j⟩
      replace Ht:=tt (Ht.out.seal j l)
      replace Ha:=tt (Ha.out.seal j l)
      replace Hm:=tt (Hm.out.seal j l)
      replace HX:=tt (HX.out.seal j l)
      replace HY:=tt (HY.out.seal j l)
      have F:=HF.out.size
      have o:=C.out
      have Y:w6.heap.size≤w7.heap.size:=(j).size
      replace HF:=tt (zf HF.out o j)
      replace C:=tt (zsQ o l (by omega))
      replace HT:=tt B
      clear B l j F o
      go_wp2_with fail
      have J:=tt (ik ad.out c5.out (by omega))
      go_meet
      exact⟨rfl,S7,K1,s2,r2,HT,O,J,C,HF,Ht⟩
     case pos=>
      have dv:(a.t==0)=true:=by rw[cn];rfl
      have hs:=tt cn
      clear cn
      have bp:wm.cell? ⟨wa.heap.size,0,none⟩=some (.int .i64 0):=Hm.out.cell rfl
      have bd:wm.cell? ⟨wa.heap.size,1,none⟩=some (.int .i64 a.n):=Hm.out.cell rfl
      have bc:wm.cell? ⟨wa.heap.size,2,none⟩=some (.int .i64 0):=Hm.out.cell rfl
      have a9:wm.cell? ⟨wa.heap.size,3,none⟩=some (.int .i64 a.c):=Hm.out.cell rfl
      have em:wm.frozen? ⟨wa.heap.size,3,none⟩=false:=Hm.out.ice 3
      have a8:wm.cell? ⟨wa.heap.size,4,none⟩=some (.int .i64 a.t):=Hm.out.cell rfl
      have el:wm.frozen? ⟨wa.heap.size,4,none⟩=false:=Hm.out.ice 4
      have a7:wm.cell? ⟨wa.heap.size,5,none⟩=some (.int .i64 a.r):=Hm.out.cell rfl
      have a6:wm.cell? ⟨wa.heap.size,6,none⟩=some (.slice none 0 0):=Hm.out.cell rfl
      have a5:wm.cell? ⟨wa.heap.size,7,none⟩=some (.slice none 0 0):=Hm.out.cell rfl
      have a4:wm.cell? ⟨wa.heap.size,8,none⟩=some (.slice none 0 0):=Hm.out.cell rfl
      have a3:wm.cell? ⟨wa.heap.size,9,none⟩=some (.slice none 0 0):=Hm.out.cell rfl
      obtain⟨Ab,cb,Ai,ci,Ac,cc,Ao,co,Ls,U,ho⟩:=HT.out.row
      have g8:wm.cell? ⟨rk,15,none⟩=some (.int .i64 id):=am ho.row 15 rfl
      have g7:wm.cell? ⟨rk,20,none⟩=some (.int .i64 r.q.t):=am ho.row 20 rfl
      clear ho
      go_upto_region 5 with fail
      go_region
      clear g8 g7
      clear bp bd bc a9 em a8 el a7 a6 a5 a4 a3
      obtain⟨wn,hwn⟩:∃wn,((wm.setCell ⟨wa.heap.size,3,none⟩ (.int .i64 id)).setCell ⟨wa.heap.size,4,none⟩ (.int .i64 r.q.t)).drew=wn:=⟨_,rfl⟩
      have cj:Fp (fun b=>b=wa.heap.size) wm wn:=by rw[←hwn];exact (((Fp.refl (fun b=>b=wa.heap.size) wm).setCell (p:=⟨wa.heap.size,3,none⟩) (Or.inl rfl) _).setCell (p:=⟨wa.heap.size,4,none⟩) (Or.inl rfl) _).drew
      have e0:wn.heap[wa.heap.size]? =some (.cells #[.int .i64 0,.int .i64 a.n,.int .i64 0,.int .i64 id,.int .i64 r.q.t,.int .i64 a.r,.slice none 0 0,.slice none 0 0,.slice none 0 0,.slice none 0 0] 56 (0,0)):=by
       rw[←hwn]
       show ((wm.setCell ⟨wa.heap.size,3,none⟩ (.int .i64 id)).setCell ⟨wa.heap.size,4,none⟩ (.int .i64 r.q.t)).heap[wa.heap.size]? =_
       have h1:=heap_setCell_same wm wa.heap.size 3 _ _ (.int .i64 id) Hm.out.row
       have h2:=heap_setCell_same _ wa.heap.size 4 _ _ (.int .i64 r.q.t) h1
       rw[h2];rfl
      rw[hwn]
      have dc:=Hm.out.off
      replace HT:Hid (Cr wn S g bm h K K k ct rk c id s r):=tt (HT.out.fp cj fr.out.1 (fun h_=>dc.2.2 h_.symm) fun b hb h_=>dc.2.1 (h_▸hb))
      replace Ht:=tt (Ht.out.other cj fr.out.2)
      replace Hm:Hid (Rw wn S bm wa.heap.size (.cells #[.int .i64 0,.int .i64 a.n,.int .i64 0,.int .i64 id,.int .i64 r.q.t,.int .i64 a.r,.slice none 0 0,.slice none 0 0,.slice none 0 0,.slice none 0 0] 56 (0,0))):=tt ⟨e0,dc.seal cj fun b hb=>.inl hb⟩
      replace HF:=tt (HF.out.trans cj fun b i=>.inr (by rw[i];omega))
      clear hwn cj e0 dc HX Ha dv
      go_upto_region 6 with fail
      obtain⟨bb,hbb⟩:∃bb,res (cX K (aR a.n id r.q.t a.r)) (okS K (aR a.n id r.q.t a.r))=bb:=⟨_,rfl⟩
      obtain⟨K1,hK1⟩:∃K1,sealK K (aR a.n id r.q.t a.r)=K1:=⟨_,rfl⟩
      have d7:=cY K (aR a.n id r.q.t a.r)
      rw[hK1] at d7
      have bN:=D.out.sealK (aR a.n id r.q.t a.r)
      rw[hK1] at bN
      have D:=tt bN
      clear bN
      have cs:wn.cell? ⟨w.heap.size,0,none⟩=some (.pointer (some ⟨g,0,none⟩)):=Ht.out.cell rfl
      have cq:wn.cell? ⟨w.heap.size,1,none⟩=some (.pointer (some ⟨h,0,none⟩)):=Ht.out.cell rfl
      have bp:wn.cell? ⟨wa.heap.size,0,none⟩=some (.int .i64 0):=Hm.out.cell rfl
      have bd:wn.cell? ⟨wa.heap.size,1,none⟩=some (.int .i64 a.n):=Hm.out.cell rfl
      have bc:wn.cell? ⟨wa.heap.size,2,none⟩=some (.int .i64 0):=Hm.out.cell rfl
      have a9:wn.cell? ⟨wa.heap.size,3,none⟩=some (.int .i64 id):=Hm.out.cell rfl
      have a8:wn.cell? ⟨wa.heap.size,4,none⟩=some (.int .i64 r.q.t):=Hm.out.cell rfl
      have a7:wn.cell? ⟨wa.heap.size,5,none⟩=some (.int .i64 a.r):=Hm.out.cell rfl
      have a6:wn.cell? ⟨wa.heap.size,6,none⟩=some (.slice none 0 0):=Hm.out.cell rfl
      have a5:wn.cell? ⟨wa.heap.size,7,none⟩=some (.slice none 0 0):=Hm.out.cell rfl
      have a4:wn.cell? ⟨wa.heap.size,8,none⟩=some (.slice none 0 0):=Hm.out.cell rfl
      have a3:wn.cell? ⟨wa.heap.size,9,none⟩=some (.slice none 0 0):=Hm.out.cell rfl
      go_wp2_with fail
      clear cs cq bp bd bc a9 a8 a7 a6 a5 a4 a3
      refine (kJ S g bm h K K k ct rk c id s r a.n id r.q.t a.r bb wn HT.out ex (by omega) (by omega) hbb).mono ?_
      rintro e w4 ⟨A_,hd,S4,rfl,B,l,j,al⟩
      rw[hK1] at B
      have HY:=tt al
      have ep:=tt hbb
      clear hbb al hK1
      replace Ht:=tt (Ht.out.seal j l)
      replace Hm:=tt (Hm.out.seal j l)
      have F:=HF.out.size
      have o:=C.out
      have b0:wn.heap.size≤w4.heap.size:=(j).size
      replace HF:=tt (zf HF.out o j)
      replace C:=tt (zsQ o l (by omega))
      replace HT:=tt B
      clear B l j F o
      have e2:bb.length≤65536:=by rw[←ep.out];exact pu _ _
      obtain⟨hb,s2,hts⟩:∃hb s2,cL c id K1 s bb=(hb,s2):=⟨_,_,rfl⟩
      have ad:=tt hts
      clear hts
      go_wp2_with fail
      have a2:=HY.out.rd.to_rd
      refine (fV _ bb.length (bb.map bv) _ a2 (by intro u hu;obtain⟨z,_,rfl⟩:=List.mem_map.1 hu;rfl) (by omega)).mono ?_
      clear a2
      rintro e w5 ⟨fn,rfl,hcb,hbq⟩
      have c4:=tt hcb
      clear hcb
      replace Ht:=tt (Ht.out.below hbq)
      replace Hm:=tt (Hm.out.below hbq)
      replace HY:=tt (HY.out.below hbq)
      replace HT:=tt (HT.out.below hbq)
      replace HF:=tt (HF.out.trans (Fp.of_below hbq (fun b=>S b∨b=bm)) fun b i=>.inl i)
      have Z:w4.heap.size≤w5.heap.size:=hbq.size
      clear hbq
      go_wp2_with fail
      refine (HT.out.op (Q:=fun e _=>e= .returned (.bool hb)) fun V hV=>jL V g bm k ct K1 c id s s2 bb _ hb w5 hV ((Rd.of_own c4.out).to_p (tJ _)) hf hcl (fun h_=>(D.out.sl h_).1) (by omega) (by omega) (by omega) ad.out).mono ?_
      rintro e w6 ⟨rfl,S6,B,l,j⟩
      replace Ht:=tt (Ht.out.seal j l)
      replace Hm:=tt (Hm.out.seal j l)
      replace HY:=tt (HY.out.seal j l)
      have F:=HF.out.size
      have o:=C.out
      have P:w5.heap.size≤w6.heap.size:=(j).size
      replace HF:=tt (zf HF.out o j)
      replace C:=tt (zsQ o l (by omega))
      replace HT:=tt B
      clear B l j F o
      go_wp2_with fail
      obtain⟨r2,ac,aa⟩:=HT.out.rops (X:=fun r2=>Pl c id K1 s2 r2) (Q:=fun e _=>e= .returned (.bool hb)) fun T U hN hR M a0=>ir T U rk h K1 c id s s2 r bb _ hb w6 hR hN HT.out.nd M a0 (HY.out.rd.mono fun b i _=>i) D.out hf (by rw[D.out.acc];omega) ad.out
      have O:=tt ac
      refine aa.mono ?_
      clear aa ac
      rintro e w7 ⟨rfl,S7,B,l,j⟩
      replace Ht:=tt (Ht.out.seal j l)
      replace Hm:=tt (Hm.out.seal j l)
      replace HY:=tt (HY.out.seal j l)
      have F:=HF.out.size
      have o:=C.out
      have Y:w6.heap.size≤w7.heap.size:=(j).size
      replace HF:=tt (zf HF.out o j)
      replace C:=tt (zsQ o l (by omega))
      replace HT:=tt B
      clear B l j F o
      go_wp2_with fail
      have J:=tt (ik ad.out c5.out (by omega))
      go_meet
      exact⟨(by first|rfl|rw[hs.out]),S7,K1,s2,r2,HT,O,J,C,HF,Ht⟩
 case rest=>
  clear HT D HF C Ht Ha HX
  obtain⟨rfl,S2,K2,s2,r2,HT,D,J,C,HF,Ht⟩:=hcut
  go_upto_region 18 with fail
  refine aU (fun b=>b≠rk) [(true,0),(true,1),(true,2),(true,3),(true,5),(true,6),(true,7),(true,8),(false,4),(false,9),(true,10),(true,11)] (by kernel_rfl) (by kernel_rfl) ?_
  simp only[phS,tu,tx,Option.toList,tC,tD,Nat.reduceAdd,tE,List.drop_zero]
  have I:Below wc.heap.size wc wc.drew:=(Below.refl _ _).drew
  obtain⟨Wd,hWd⟩:∃W_,wc.drew=W_:=⟨_,rfl⟩
  rw[hWd] at I ⊢
  clear hWd
  replace Ht:=tt (Ht.out.below I)
  replace HT:=tt (HT.out.below I)
  replace HF:=tt (HF.out.trans (Fp.of_below I (fun b=>S b∨b=bm)) fun b i=>.inl i)
  have g0:wc.heap.size≤Wd.heap.size:=I.size
  clear I
  obtain⟨Ao,co,Ls,e5,e7,ck⟩:=sC HT.out
  have f4:=tt e7
  have l0:=aT (w:=Wd) (T:=fun b=>b≠rk) e5 (fun hh=>hh rfl)
  clear e7 e5
  repeat (first|((with_reducible refine aq ?_ ?_);(·rfl))|(with_reducible refine wpQuiet_nil ?_)|go_big_quiet_step (fail)|quiet_step (fail))
  clear l0
  go_wp2_with fail
  refine ck.mono ?_
  clear ck
  rintro e w3 ⟨A1,hU,L1,S3,rfl,hL1,B,l,j,eX,hs1,eG⟩
  have f5:=tt hL1
  have es:=tt eX
  have f1:=tt hs1
  have f0:=tt eG
  clear hL1 eX hs1 eG
  replace Ht:=tt (Ht.out.seal j l)
  have F:=HF.out.size
  have o:=C.out
  have gs:Wd.heap.size≤w3.heap.size:=(j).size
  replace HF:=tt (zf HF.out o j)
  replace C:=tt (zsQ o l (by omega))
  replace HT:=tt B
  clear B l j F o
  go_wp2_with fail
  refine And.intro ⟨⟨w3,es.out⟩,rfl⟩ ?_
  go_wp2_with fail
  refine (mQ _ _ L1 Ls w3 f1.out f0.out (by rw[f5.out,f4.out,D.out.out])).mono ?_
  clear f1 f0 f5 f4
  rintro e w4 ⟨rfl,hbq⟩
  have f3:=tt (es.out.below hbq)
  clear es
  replace Ht:=tt (Ht.out.below hbq)
  replace HT:=tt (HT.out.below hbq)
  replace HF:=tt (HF.out.trans (Fp.of_below hbq (fun b=>S b∨b=bm)) fun b i=>.inl i)
  have b0:w3.heap.size≤w4.heap.size:=hbq.size
  clear hbq
  go_wp2_with fail
  refine And.intro ⟨⟨w4,f3.out⟩,rfl⟩ ?_
  repeat (first|((with_reducible refine aq ?_ ?_);(·rfl))|(with_reducible refine wpQuiet_nil ?_)|go_big_quiet_step (fail)|quiet_step (fail))
  clear f3
  obtain⟨B,j,f6,gd,g9⟩:=pG HT.out
  go_upto_region 21 with fail
  clear f6 g9
  obtain⟨w5,hw5⟩:∃w5,w4.setCell ⟨rk,55,none⟩ (.slice none 0 0)=w5:=⟨_,rfl⟩
  rw[hw5] at B j ⊢
  clear hw5 gd
  have eb:=D.out.clear
  have d9:=J.out.out
  have ec:({s2 with out:=[]}:CS).out=[]:=rfl
  obtain⟨s3,hs3⟩:∃s3,({s2 with out:=[]}:CS)=s3:=⟨_,rfl⟩
  obtain⟨r3,hr3⟩:∃r3,({r2 with out:=[]}:RC)=r3:=⟨_,rfl⟩
  rw[hs3,hr3] at B eb
  rw[hs3] at d9 ec
  replace D:=tt eb
  replace J:=tt d9
  have f2:=tt ec
  clear eb d9 ec hs3 hr3
  have l:∀b,S3 b→S3 b∨w4.heap.size≤b:=fun b hb=>.inl hb
  replace Ht:=tt (Ht.out.seal j l)
  have F:=HF.out.size
  have o:=C.out
  have Z:w4.heap.size≤w5.heap.size:=(j).size
  replace HF:=tt (zf HF.out o j)
  replace C:=tt (zsQ o l (by omega))
  replace HT:=tt B
  clear B l j F o
  have hlen1:s3.issued.length≤1000000:=by have:=J.out.2.1;omega
  have hlen2:s3.acc.length≤1000000:=by have:=J.out.2.2.2.1;omega
  by_cases c7:s3.waits=true
  case pos=>
   have bO:=tt c7
   clear c7
   go_wp2_with fail
   refine (Cr.ask HT.out fun V hV=>i9 V k ct g c id s3 w5 hV bO.out (D.out.sl bO.out).1 hlen1).mono ?_
   rintro e w6 ⟨rfl,hbq⟩
   replace Ht:=tt (Ht.out.below hbq)
   replace HT:=tt (HT.out.below hbq)
   replace HF:=tt (HF.out.trans (Fp.of_below hbq (fun b=>S b∨b=bm)) fun b i=>.inl i)
   have P:w5.heap.size≤w6.heap.size:=hbq.size
   clear hbq
   go_upto_region 22 with fail
   have x:=ae w6 (.cells #[.int .i64 s3.last.c,.int .i64 s3.last.t,.int .i64 s3.last.k,.int .i64 s3.last.y,.int .i64 s3.last.v,.int .i64 s3.last.s] 42)
   have E:Rw (w6.alloc (.cells #[.int .i64 s3.last.c,.int .i64 s3.last.t,.int .i64 s3.last.k,.int .i64 s3.last.y,.int .i64 s3.last.v,.int .i64 s3.last.s] 42)) S3 bm w6.heap.size (.cells #[.int .i64 s3.last.c,.int .i64 s3.last.t,.int .i64 s3.last.k,.int .i64 s3.last.y,.int .i64 s3.last.v,.int .i64 s3.last.s] 42 (0,0)):=Rw.new (.cells #[.int .i64 s3.last.c,.int .i64 s3.last.t,.int .i64 s3.last.k,.int .i64 s3.last.y,.int .i64 s3.last.v,.int .i64 s3.last.s] 42) HT.out.lt HT.out.nt.lt.2
   have G:(w6.alloc (.cells #[.int .i64 s3.last.c,.int .i64 s3.last.t,.int .i64 s3.last.k,.int .i64 s3.last.y,.int .i64 s3.last.v,.int .i64 s3.last.s] 42)).heap.size=w6.heap.size+1:=by simp
   obtain⟨w7,hWa⟩:∃W_,w6.alloc (.cells #[.int .i64 s3.last.c,.int .i64 s3.last.t,.int .i64 s3.last.k,.int .i64 s3.last.y,.int .i64 s3.last.v,.int .i64 s3.last.s] 42)=W_:=⟨_,rfl⟩
   rw[hWa] at x E G ⊢
   have eo:=tt G
   have eq:=tt x
   have Hq:=tt E
   clear hWa E G
   replace Ht:=tt (Ht.out.below x)
   replace HT:=tt (HT.out.below x)
   replace HF:=tt (HF.out.trans (Fp.of_below x (fun b=>S b∨b=bm)) fun b i=>.inl i)
   have Y:w6.heap.size≤w7.heap.size:=x.size
   clear x
   refine bX [(true,0),(true,1),(true,2),(true,3),(true,4),(true,5),(true,6),(true,7),(true,8),(true,9),(true,10),(true,11),(true,12),(true,13),(true,14),(true,15),(true,16),(true,17),(true,18),(true,19),(true,20),(true,21),(true,22),(true,23),(true,24),(true,25),(true,26),(true,27),(true,29),(true,30),(true,31),(true,32),(false,28),(false,33),(true,34),(true,35),(true,36),(true,38),(true,39),(true,40),(true,41),(false,37),(false,42),(true,43),(true,44),(true,45),(true,46),(true,48),(true,49),(true,50),(true,51),(true,52),(true,53),(false,47),(true,54),(true,55),(true,56)] (by kernel_rfl) (by kernel_rfl) ?_
   simp only[phW,tu,tx,Option.toList,tC,tD,Nat.reduceAdd,tE,List.drop_zero]
   have I:Below w7.heap.size w7 w7.drew:=(Below.refl _ _).drew
   obtain⟨We,hWe⟩:∃W_,w7.drew=W_:=⟨_,rfl⟩
   rw[hWe] at I ⊢
   clear hWe
   replace Ht:=tt (Ht.out.below I)
   replace Hq:=tt (Hq.out.below I)
   replace HT:=tt (HT.out.below I)
   replace HF:=tt (HF.out.trans (Fp.of_below I (fun b=>S b∨b=bm)) fun b i=>.inl i)
   have d6:w7.heap.size≤We.heap.size:=I.size
   clear I
   obtain⟨Ab,cb,Ai,ci,Ac,cc,ht,he,hg,U,ho⟩:=HT.out.row
   obtain⟨Ap,cp,N⟩:=kK HT.out
   have b9:r3.wt=true:=by rw[D.out.wt];have:=bO.out;revert this;cases s3.waits<;>simp
   have da:r3.q=s3.last:=D.out.q
   have bq:r3.iss=s3.issued:=D.out.iss
   have bs:r3.acc=s3.acc:=D.out.acc
   have d2:=ab (w:=We) (show We.cell? ⟨rk,18,none⟩=some (.bool true) from by have h_:We.cell? ⟨rk,18,none⟩=some (.bool r3.wt):=am ho.row 18 rfl;rw[b9] at h_;exact h_)
   have d1:=ab (w:=We) (show We.cell? ⟨rk,53,none⟩=some (.slice Ai s3.issued.length ci) from by have h_:We.cell? ⟨rk,53,none⟩=some (.slice Ai r3.iss.length ci):=am ho.row 53 rfl;rw[bq] at h_;exact h_)
   have d0:=ab (w:=We) (show We.cell? ⟨rk,54,none⟩=some (.slice Ac s3.acc.length cc) from by have h_:We.cell? ⟨rk,54,none⟩=some (.slice Ac r3.acc.length cc):=am ho.row 54 rfl;rw[bs] at h_;exact h_)
   have t0:=ab (w:=We) (show We.cell? ⟨w.heap.size,0,none⟩=some (.pointer (some ⟨g,0,none⟩)) from Ht.out.cell rfl)
   have t1:=ab (w:=We) (show We.cell? ⟨w.heap.size,1,none⟩=some (.pointer (some ⟨h,0,none⟩)) from Ht.out.cell rfl)
   have lh:=ab (w:=We) N
   have cZ:Hid (∀w':World,(∃p:Later We,w'=p.W)→w'.rangeAt w6.heap.size 0 [.int .i64 s3.last.c,.int .i64 s3.last.t,.int .i64 s3.last.k,.int .i64 s3.last.y,.int .i64 s3.last.v,.int .i64 s3.last.s]):=tt (by rintro w' ⟨p,rfl⟩;exact aB ((p.h.block _ Hq.out.lt).trans Hq.out.row))
   have fv:Hid (∀w':World,(∃p:Later We,w'=p.W)→w'.rangeAt rk 19 [.int .i64 s3.last.c,.int .i64 s3.last.t,.int .i64 s3.last.k,.int .i64 s3.last.y,.int .i64 s3.last.v,.int .i64 s3.last.s]):=tt (by
    rintro w' ⟨p,rfl⟩
    have h1:p.W.heap[rk]? =_:=(p.h.block rk (ho.lt rk ho.uk)).trans ho.row
    have h2:=rT h1
    rw[da] at h2
    exact h2)
   have c3:=tt (show Rd We We.heap.size 6 (.slice Ai s3.issued.length ci) s3.issued.length (s3.issued.flatMap rq) from by have h_:=Rd.of_own ho.oi;rw[bq] at h_;exact h_)
   have c6:=tt (show Rd We We.heap.size 7 (.slice Ac s3.acc.length cc) s3.acc.length (s3.acc.flatMap ev) from by have h_:=Rd.of_own ho.oc;rw[bs] at h_;exact h_)
   clear ho b9 da bq bs N
   repeat (first|((with_reducible refine aq ?_ ?_);(·rfl))|(with_reducible refine wpQuiet_nil ?_)|go_big_quiet_step (fail)|(refine aj (by simp[Region.wanted,yielded]) 42 (.tmp 18) (by rfl) w6.heap.size (0) (by rfl) [.int .i64 s3.last.c,.int .i64 s3.last.t,.int .i64 s3.last.k,.int .i64 s3.last.y,.int .i64 s3.last.v,.int .i64 s3.last.s] _ cZ.out Tryz.underlying42 rfl dz ?_;intro K hK;go_simp;refine hK _ ?_;clear hK K)|(refine aj (by simp[Region.wanted,yielded]) 42 (.tmp 139) (by rfl) rk (19) (by rfl) [.int .i64 s3.last.c,.int .i64 s3.last.t,.int .i64 s3.last.k,.int .i64 s3.last.y,.int .i64 s3.last.v,.int .i64 s3.last.s] _ fv.out Tryz.underlying42 rfl dz ?_;intro K hK;go_simp;refine hK _ ?_;clear hK K)|(refine bt (by simp[Region.wanted,yielded]) _ (fun w' hC=>gT _ _ _ rfl s3.last (by rfl) (by rfl)) ?_;intro K hK;go_simp;refine hK _ ?_;clear hK K)|quiet_step (fail))
   clear d2 d1 cZ fv
   go_wp2_with fail
   refine (Cr.ask HT.out fun V hV=>iJ V k ct g c id s3 We hV hlen1).mono ?_
   rintro e w8 ⟨A8,c8,rfl,L,hbq⟩
   have c1:=tt (Rd.of_own L)
   have R:=tt hbq
   clear L
   replace Ht:=tt (Ht.out.below hbq)
   replace Hq:=tt (Hq.out.below hbq)
   replace HT:=tt (HT.out.below hbq)
   replace HF:=tt (HF.out.trans (Fp.of_below hbq (fun b=>S b∨b=bm)) fun b i=>.inl i)
   have bQ:We.heap.size≤w8.heap.size:=hbq.size
   clear hbq
   go_wp2_with fail
   refine And.intro ⟨⟨w8,R.out⟩,rfl⟩ ?_
   go_wp2_with fail
   refine (og _ _ _ _ s3.issued s3.issued w8 _ _ (c1.out.to_p (tJ _)) ((c3.out.below R.out).to_p R.out.size) rfl rfl).mono ?_
   rintro e w9 ⟨rfl,q9,cf⟩
   rw[tB (rfl:s3.issued=s3.issued)]
   have hbq:Below w8.heap.size w8 w9:=by rw[cf];exact ak (Below.refl _ _) q9
   have a1:=tt (Below.then R.out hbq R.out.size)
   clear c1 R c3 cf
   replace Ht:=tt (Ht.out.below hbq)
   replace Hq:=tt (Hq.out.below hbq)
   replace HT:=tt (HT.out.below hbq)
   replace HF:=tt (HF.out.trans (Fp.of_below hbq (fun b=>S b∨b=bm)) fun b i=>.inl i)
   have d5:w8.heap.size≤w9.heap.size:=hbq.size
   clear hbq
   go_wp2_with fail
   refine And.intro ⟨⟨w9,a1.out⟩,rfl⟩ ?_
   repeat (first|((with_reducible refine aq ?_ ?_);(·rfl))|(with_reducible refine wpQuiet_nil ?_)|go_big_quiet_step (fail)|quiet_step (fail))
   clear d0
   go_wp2_with fail
   refine (Cr.ask HT.out fun V hV=>ew V k ct g c id s3 w9 hV hlen2).mono ?_
   rintro e wA ⟨AA,cA,rfl,L,hbq⟩
   have c0:=tt (Rd.of_own L)
   have af:=tt (Below.then a1.out hbq a1.out.size)
   clear L a1
   replace Ht:=tt (Ht.out.below hbq)
   replace Hq:=tt (Hq.out.below hbq)
   replace HT:=tt (HT.out.below hbq)
   replace HF:=tt (HF.out.trans (Fp.of_below hbq (fun b=>S b∨b=bm)) fun b i=>.inl i)
   have d4:w9.heap.size≤wA.heap.size:=hbq.size
   clear hbq
   go_wp2_with fail
   refine And.intro ⟨⟨wA,af.out⟩,rfl⟩ ?_
   go_wp2_with fail
   refine (ip _ _ s3.acc _ wA _ _ rfl c0.out (c6.out.below af.out)).mono ?_
   rintro e wB ⟨rfl,qB,ca⟩
   have hbq:Below wA.heap.size wA wB:=by rw[ca];exact ak (Below.refl _ _) qB
   have c2:=tt (Below.then af.out hbq af.out.size)
   clear c0 af c6 ca
   replace Ht:=tt (Ht.out.below hbq)
   replace Hq:=tt (Hq.out.below hbq)
   replace HT:=tt (HT.out.below hbq)
   replace HF:=tt (HF.out.trans (Fp.of_below hbq (fun b=>S b∨b=bm)) fun b i=>.inl i)
   have d3:wA.heap.size≤wB.heap.size:=hbq.size
   clear hbq
   go_wp2_with fail
   refine And.intro ⟨⟨wB,c2.out⟩,rfl⟩ ?_
   repeat (first|((with_reducible refine aq ?_ ?_);(·rfl))|(with_reducible refine wpQuiet_nil ?_)|go_big_quiet_step (fail)|quiet_step (fail))
   clear t0 t1 lh
   go_wp2_with fail
   refine (lA g bm K2 wB HT.out.nt).mono ?_
   rintro e w_ ⟨rfl,rfl⟩
   go_wp2_with fail
   refine And.intro ⟨⟨_,c2.out⟩,rfl⟩ ?_
   repeat (first|((with_reducible refine aq ?_ ?_);(·rfl))|(with_reducible refine wpQuiet_nil ?_)|go_big_quiet_step (fail)|quiet_step (fail))
   go_wp2_with fail
   go_ret
   exact⟨rfl,⟨S3,K2,s3,r3,HT.out,D.out,f2.out,J.out,C.out,HF.out⟩⟩
  case neg=>
   have bO:=tt c7
   clear c7
   go_wp2_with fail
   refine (Cr.ask HT.out fun V hV=>nT V k ct g c id s3 w5 hV (by have:=bO.out;revert this;cases s3.waits<;>simp)).mono ?_
   rintro e w6 ⟨rfl,hbq⟩
   replace Ht:=tt (Ht.out.below hbq)
   replace HT:=tt (HT.out.below hbq)
   replace HF:=tt (HF.out.trans (Fp.of_below hbq (fun b=>S b∨b=bm)) fun b i=>.inl i)
   have P:w5.heap.size≤w6.heap.size:=hbq.size
   clear hbq
   go_upto_region 22 with fail
   have x:=ae w6 (.cells #[.int .i64 0,.int .i64 0,.int .i64 0,.int .i64 0,.int .i64 0,.int .i64 0] 42)
   have E:Rw (w6.alloc (.cells #[.int .i64 0,.int .i64 0,.int .i64 0,.int .i64 0,.int .i64 0,.int .i64 0] 42)) S3 bm w6.heap.size (.cells #[.int .i64 0,.int .i64 0,.int .i64 0,.int .i64 0,.int .i64 0,.int .i64 0] 42 (0,0)):=Rw.new (.cells #[.int .i64 0,.int .i64 0,.int .i64 0,.int .i64 0,.int .i64 0,.int .i64 0] 42) HT.out.lt HT.out.nt.lt.2
   have G:(w6.alloc (.cells #[.int .i64 0,.int .i64 0,.int .i64 0,.int .i64 0,.int .i64 0,.int .i64 0] 42)).heap.size=w6.heap.size+1:=by simp
   obtain⟨w7,hWa⟩:∃W_,w6.alloc (.cells #[.int .i64 0,.int .i64 0,.int .i64 0,.int .i64 0,.int .i64 0,.int .i64 0] 42)=W_:=⟨_,rfl⟩
   rw[hWa] at x E G ⊢
   have eo:=tt G
   have eq:=tt x
   have Hq:=tt E
   clear hWa E G
   replace Ht:=tt (Ht.out.below x)
   replace HT:=tt (HT.out.below x)
   replace HF:=tt (HF.out.trans (Fp.of_below x (fun b=>S b∨b=bm)) fun b i=>.inl i)
   have Y:w6.heap.size≤w7.heap.size:=x.size
   clear x
   refine bX [(true,0),(true,1),(true,2),(true,3),(true,4),(true,5),(true,6),(true,7),(true,8),(true,9),(true,10),(true,11),(true,12),(true,13),(true,14),(true,15),(true,16),(true,17),(true,18),(true,19),(true,20),(true,21),(true,22),(true,23),(true,24),(true,25),(true,26),(true,27),(true,29),(true,30),(true,31),(true,32),(false,28),(false,33),(true,34),(true,35),(true,36),(true,38),(true,39),(true,40),(true,41),(false,37),(false,42),(true,43),(true,44),(true,45),(true,46),(true,48),(true,49),(true,50),(true,51),(true,52),(true,53),(false,47),(true,54),(true,55),(true,56)] (by kernel_rfl) (by kernel_rfl) ?_
   simp only[phW,tu,tx,Option.toList,tC,tD,Nat.reduceAdd,tE,List.drop_zero]
   have I:Below w7.heap.size w7 w7.drew:=(Below.refl _ _).drew
   obtain⟨We,hWe⟩:∃W_,w7.drew=W_:=⟨_,rfl⟩
   rw[hWe] at I ⊢
   clear hWe
   replace Ht:=tt (Ht.out.below I)
   replace Hq:=tt (Hq.out.below I)
   replace HT:=tt (HT.out.below I)
   replace HF:=tt (HF.out.trans (Fp.of_below I (fun b=>S b∨b=bm)) fun b i=>.inl i)
   have d6:w7.heap.size≤We.heap.size:=I.size
   clear I
   obtain⟨Ab,cb,Ai,ci,Ac,cc,ht,he,hg,U,ho⟩:=HT.out.row
   obtain⟨Ap,cp,N⟩:=kK HT.out
   have b9:r3.wt=false:=by rw[D.out.wt];have:=bO.out;revert this;cases s3.waits<;>simp
   have da:r3.q=s3.last:=D.out.q
   have bq:r3.iss=s3.issued:=D.out.iss
   have bs:r3.acc=s3.acc:=D.out.acc
   have d2:=ab (w:=We) (show We.cell? ⟨rk,18,none⟩=some (.bool false) from by have h_:We.cell? ⟨rk,18,none⟩=some (.bool r3.wt):=am ho.row 18 rfl;rw[b9] at h_;exact h_)
   have d1:=ab (w:=We) (show We.cell? ⟨rk,53,none⟩=some (.slice Ai s3.issued.length ci) from by have h_:We.cell? ⟨rk,53,none⟩=some (.slice Ai r3.iss.length ci):=am ho.row 53 rfl;rw[bq] at h_;exact h_)
   have d0:=ab (w:=We) (show We.cell? ⟨rk,54,none⟩=some (.slice Ac s3.acc.length cc) from by have h_:We.cell? ⟨rk,54,none⟩=some (.slice Ac r3.acc.length cc):=am ho.row 54 rfl;rw[bs] at h_;exact h_)
   have t0:=ab (w:=We) (show We.cell? ⟨w.heap.size,0,none⟩=some (.pointer (some ⟨g,0,none⟩)) from Ht.out.cell rfl)
   have t1:=ab (w:=We) (show We.cell? ⟨w.heap.size,1,none⟩=some (.pointer (some ⟨h,0,none⟩)) from Ht.out.cell rfl)
   have lh:=ab (w:=We) N
   have cZ:Hid (∀w':World,(∃p:Later We,w'=p.W)→w'.rangeAt w6.heap.size 0 [.int .i64 0,.int .i64 0,.int .i64 0,.int .i64 0,.int .i64 0,.int .i64 0]):=tt (by rintro w' ⟨p,rfl⟩;exact aB ((p.h.block _ Hq.out.lt).trans Hq.out.row))
   have c3:=tt (show Rd We We.heap.size 6 (.slice Ai s3.issued.length ci) s3.issued.length (s3.issued.flatMap rq) from by have h_:=Rd.of_own ho.oi;rw[bq] at h_;exact h_)
   have c6:=tt (show Rd We We.heap.size 7 (.slice Ac s3.acc.length cc) s3.acc.length (s3.acc.flatMap ev) from by have h_:=Rd.of_own ho.oc;rw[bs] at h_;exact h_)
   clear ho b9 da bq bs N
   repeat (first|((with_reducible refine aq ?_ ?_);(·rfl))|(with_reducible refine wpQuiet_nil ?_)|go_big_quiet_step (fail)|(refine aj (by simp[Region.wanted,yielded]) 42 (.tmp 18) (by rfl) w6.heap.size (0) (by rfl) [.int .i64 0,.int .i64 0,.int .i64 0,.int .i64 0,.int .i64 0,.int .i64 0] _ cZ.out Tryz.underlying42 rfl dz ?_;intro K hK;go_simp;refine hK _ ?_;clear hK K)|(refine bt (by simp[Region.wanted,yielded]) _ (fun w' hC=>gT _ _ _ rfl zR0 (by rfl) (by rfl)) ?_;intro K hK;go_simp;refine hK _ ?_;clear hK K)|quiet_step (fail))
   clear d2 d1 cZ
   go_wp2_with fail
   refine (Cr.ask HT.out fun V hV=>iJ V k ct g c id s3 We hV hlen1).mono ?_
   rintro e w8 ⟨A8,c8,rfl,L,hbq⟩
   have c1:=tt (Rd.of_own L)
   have R:=tt hbq
   clear L
   replace Ht:=tt (Ht.out.below hbq)
   replace Hq:=tt (Hq.out.below hbq)
   replace HT:=tt (HT.out.below hbq)
   replace HF:=tt (HF.out.trans (Fp.of_below hbq (fun b=>S b∨b=bm)) fun b i=>.inl i)
   have bQ:We.heap.size≤w8.heap.size:=hbq.size
   clear hbq
   go_wp2_with fail
   refine And.intro ⟨⟨w8,R.out⟩,rfl⟩ ?_
   go_wp2_with fail
   refine (og _ _ _ _ s3.issued s3.issued w8 _ _ (c1.out.to_p (tJ _)) ((c3.out.below R.out).to_p R.out.size) rfl rfl).mono ?_
   rintro e w9 ⟨rfl,q9,cf⟩
   rw[tB (rfl:s3.issued=s3.issued)]
   have hbq:Below w8.heap.size w8 w9:=by rw[cf];exact ak (Below.refl _ _) q9
   have a1:=tt (Below.then R.out hbq R.out.size)
   clear c1 R c3 cf
   replace Ht:=tt (Ht.out.below hbq)
   replace Hq:=tt (Hq.out.below hbq)
   replace HT:=tt (HT.out.below hbq)
   replace HF:=tt (HF.out.trans (Fp.of_below hbq (fun b=>S b∨b=bm)) fun b i=>.inl i)
   have d5:w8.heap.size≤w9.heap.size:=hbq.size
   clear hbq
   go_wp2_with fail
   refine And.intro ⟨⟨w9,a1.out⟩,rfl⟩ ?_
   repeat (first|((with_reducible refine aq ?_ ?_);(·rfl))|(with_reducible refine wpQuiet_nil ?_)|go_big_quiet_step (fail)|quiet_step (fail))
   clear d0
   go_wp2_with fail
   refine (Cr.ask HT.out fun V hV=>ew V k ct g c id s3 w9 hV hlen2).mono ?_
   rintro e wA ⟨AA,cA,rfl,L,hbq⟩
   have c0:=tt (Rd.of_own L)
   have af:=tt (Below.then a1.out hbq a1.out.size)
   clear L a1
   replace Ht:=tt (Ht.out.below hbq)
   replace Hq:=tt (Hq.out.below hbq)
   replace HT:=tt (HT.out.below hbq)
   replace HF:=tt (HF.out.trans (Fp.of_below hbq (fun b=>S b∨b=bm)) fun b i=>.inl i)
   have d4:w9.heap.size≤wA.heap.size:=hbq.size
   clear hbq
   go_wp2_with fail
   refine And.intro ⟨⟨wA,af.out⟩,rfl⟩ ?_
   go_wp2_with fail
   refine (ip _ _ s3.acc _ wA _ _ rfl c0.out (c6.out.below af.out)).mono ?_
   rintro e wB ⟨rfl,qB,ca⟩
   have hbq:Below wA.heap.size wA wB:=by rw[ca];exact ak (Below.refl _ _) qB
   have c2:=tt (Below.then af.out hbq af.out.size)
   clear c0 af c6 ca
   replace Ht:=tt (Ht.out.below hbq)
   replace Hq:=tt (Hq.out.below hbq)
   replace HT:=tt (HT.out.below hbq)
   replace HF:=tt (HF.out.trans (Fp.of_below hbq (fun b=>S b∨b=bm)) fun b i=>.inl i)
   have d3:wA.heap.size≤wB.heap.size:=hbq.size
   clear hbq
   go_wp2_with fail
   refine And.intro ⟨⟨wB,c2.out⟩,rfl⟩ ?_
   repeat (first|((with_reducible refine aq ?_ ?_);(·rfl))|(with_reducible refine wpQuiet_nil ?_)|go_big_quiet_step (fail)|quiet_step (fail))
   clear t0 t1 lh
   go_wp2_with fail
   refine (lA g bm K2 wB HT.out.nt).mono ?_
   rintro e w_ ⟨rfl,rfl⟩
   go_wp2_with fail
   refine And.intro ⟨⟨_,c2.out⟩,rfl⟩ ?_
   repeat (first|((with_reducible refine aq ?_ ?_);(·rfl))|(with_reducible refine wpQuiet_nil ?_)|go_big_quiet_step (fail)|quiet_step (fail))
   go_wp2_with fail
   go_ret
   exact⟨rfl,⟨S3,K2,s3,r3,HT.out,D.out,f2.out,J.out,C.out,HF.out⟩⟩
end Go.Proofs.YtipmjleohadoeaaGreat
