import Derived.Test.YtipmjleohadoeaaGreatJ8Py
import Derived.Test.YtipmjleohadoeaaGreatJ9Py
import Derived.Test.YtipmjleohadoeaaGreatJ14Py
import Derived.Test.YtipmjleohadoeaaGreatJ13Py
import Derived.Test.YtipmjleohadoeaaGreatJ10Py
import Derived.Test.YtipmjleohadoeaaGreatJ12Py
import Derived.Test.YtipmjleohadoeaaGreatJ2Py
import Derived.Test.YtipmjleohadoeaaGreatJ1Py
import Derived.Test.YtipmjleohadoeaaGreatGaPy
set_option maxRecDepth 100000
set_option maxHeartbeats 16000000
set_option linter.unusedVariables false
set_option linter.unusedSimpArgs false
section
namespace Go.Proofs.YtipmjleohadoeaaGreat
open Go.RowKit
theorem lS (T:Nat→Prop) (g bm h:Nat) (K L:List Key) (n i q r:Int) (w:World) (hT:Tv w T g bm h K L) (hn:aE n) (hl:K.length < 1099511627776) (a6:L.length < 1099511627776):
 Calls Tryz.prog 15 #[.agg #[.pointer (some ⟨g,0,none⟩),.pointer (some ⟨h,0,none⟩)],.agg #[.int .i64 0,.int .i64 n,.int .i64 0,.int .i64 i,.int .i64 q,.int .i64 r,.slice none 0 0,.slice none 0 0,.slice none 0 0,.slice none 0 0]] w fun e w'=>∃A cp S',e= .returned (.slice A (res (cX K (aR n i q r)) (okS K (aR n i q r))).length cp)∧Tv w' S' g bm h (sealK K (aR n i q r)) (sealK L (aR n i q r))∧(∀b,S' b→T b∨w.heap.size≤b)∧Fp (fun b=>T b∨b=bm) w w'∧
  RdP w' (fun b=>w.heap.size≤b∧Off w' S' bm b) 1 (.slice A (res (cX K (aR n i q r)) (okS K (aR n i q r))).length cp) (res (cX K (aR n i q r)) (okS K (aR n i q r))).length ((res (cX K (aR n i q r)) (okS K (aR n i q r))).map bv):=by
 have HT:=tt hT
 have HB:=tt (Below.refl w.heap.size w)
 have cc:Hid (∀b,T b→b < w.heap.size):=tt hT.lt
 have cb:=hT.nt.lt
 clear hT
 go_enter Tryz.func15,Tryz.ntmps15
 go_upto_region 1 with fail
 have c:=ae w (.cells #[.pointer (some ⟨g,0,none⟩),.pointer (some ⟨h,0,none⟩)] 31)
 have d:Rw (w.alloc (.cells #[.pointer (some ⟨g,0,none⟩),.pointer (some ⟨h,0,none⟩)] 31)) T bm w.heap.size (.cells #[.pointer (some ⟨g,0,none⟩),.pointer (some ⟨h,0,none⟩)] 31 (0,0)):=Rw.new (.cells #[.pointer (some ⟨g,0,none⟩),.pointer (some ⟨h,0,none⟩)] 31) HT.out.lt HT.out.nt.lt.2
 have f:(w.alloc (.cells #[.pointer (some ⟨g,0,none⟩),.pointer (some ⟨h,0,none⟩)] 31)).heap.size=w.heap.size+1:=by simp
 obtain⟨w1,hWa⟩:∃W_,w.alloc (.cells #[.pointer (some ⟨g,0,none⟩),.pointer (some ⟨h,0,none⟩)] 31)=W_:=⟨_,rfl⟩
 rw[hWa] at c d f ⊢
 have H:=tt f
 have bc:=tt c
 have Ht:=tt d
 clear hWa d f
 replace HT:=tt (HT.out.below c)
 replace HB:=tt (Below.then HB.out c HB.out.size)
 clear c
 have c:=ae w1 (.cells #[.int .i64 0,.int .i64 n,.int .i64 0,.int .i64 i,.int .i64 q,.int .i64 r,.slice none 0 0,.slice none 0 0,.slice none 0 0,.slice none 0 0] 56)
 have d:Rw (w1.alloc (.cells #[.int .i64 0,.int .i64 n,.int .i64 0,.int .i64 i,.int .i64 q,.int .i64 r,.slice none 0 0,.slice none 0 0,.slice none 0 0,.slice none 0 0] 56)) T bm w1.heap.size (.cells #[.int .i64 0,.int .i64 n,.int .i64 0,.int .i64 i,.int .i64 q,.int .i64 r,.slice none 0 0,.slice none 0 0,.slice none 0 0,.slice none 0 0] 56 (0,0)):=Rw.new (.cells #[.int .i64 0,.int .i64 n,.int .i64 0,.int .i64 i,.int .i64 q,.int .i64 r,.slice none 0 0,.slice none 0 0,.slice none 0 0,.slice none 0 0] 56) HT.out.lt HT.out.nt.lt.2
 have f:(w1.alloc (.cells #[.int .i64 0,.int .i64 n,.int .i64 0,.int .i64 i,.int .i64 q,.int .i64 r,.slice none 0 0,.slice none 0 0,.slice none 0 0,.slice none 0 0] 56)).heap.size=w1.heap.size+1:=by simp
 obtain⟨w2,hWa⟩:∃W_,w1.alloc (.cells #[.int .i64 0,.int .i64 n,.int .i64 0,.int .i64 i,.int .i64 q,.int .i64 r,.slice none 0 0,.slice none 0 0,.slice none 0 0,.slice none 0 0] 56)=W_:=⟨_,rfl⟩
 rw[hWa] at c d f ⊢
 have a8:=tt f
 have a9:=tt c
 rw[H.out] at d
 have Hm:=tt d
 clear hWa d f
 replace Ht:=tt (Ht.out.below c)
 replace HT:=tt (HT.out.below c)
 replace HB:=tt (Below.then HB.out c HB.out.size)
 clear c
 have y:w2.cell? ⟨w.heap.size+1,0,none⟩=some (.int .i64 0):=Hm.out.cell rfl
 have G:w2.frozen? ⟨w.heap.size+1,0,none⟩=false:=Hm.out.ice 0
 go_upto_region 2 with fail
 clear y G
 have l:Fp (fun b=>b=w.heap.size+1) w2 (w2.setCell ⟨w.heap.size+1,0,none⟩ (.int .i64 10)):=(Fp.refl (fun b=>b=w.heap.size+1) w2).setCell (p:=⟨w.heap.size+1,0,none⟩) (Or.inl (show w.heap.size+1=w.heap.size+1 from rfl)) _
 have E:(w2.setCell ⟨w.heap.size+1,0,none⟩ (.int .i64 10)).heap[w.heap.size+1]? =some (.cells #[.int .i64 10,.int .i64 n,.int .i64 0,.int .i64 i,.int .i64 q,.int .i64 r,.slice none 0 0,.slice none 0 0,.slice none 0 0,.slice none 0 0] 56 (0,0)):=by rw[heap_setCell_same w2 (w.heap.size+1) 0 _ _ _ Hm.out.row];rfl
 obtain⟨w3,hw3⟩:∃w3,w2.setCell ⟨w.heap.size+1,0,none⟩ (.int .i64 10)=w3:=⟨_,rfl⟩
 rw[hw3] at l E ⊢
 have z:=Hm.out.off
 have J:=HB.out.size
 replace HT:=tt (HT.out.fp l (by omega) (fun he=>z.2.2 he.symm) (fun b hb he=>z.2.1 (he▸hb)))
 replace Ht:=tt (Ht.out.other l (by omega))
 replace HB:=tt (HB.out.trans (l.to_below (B:=w.heap.size) J (fun k _ hk=>by omega)))
 replace Hm:Hid (Rw w3 T bm (w.heap.size+1) (.cells #[.int .i64 10,.int .i64 n,.int .i64 0,.int .i64 i,.int .i64 q,.int .i64 r,.slice none 0 0,.slice none 0 0,.slice none 0 0,.slice none 0 0] 56 (0,0))):=tt ⟨E,z.seal l fun b hb=>.inl hb⟩
 clear hw3 l E z J
 have y:w3.cell? ⟨w.heap.size+1,0,none⟩=some (.int .i64 10):=Hm.out.cell rfl
 have x:w3.cell? ⟨w.heap.size+1,1,none⟩=some (.int .i64 n):=Hm.out.cell rfl
 have a0:w3.cell? ⟨w.heap.size+1,2,none⟩=some (.int .i64 0):=Hm.out.cell rfl
 have al:w3.cell? ⟨w.heap.size+1,3,none⟩=some (.int .i64 i):=Hm.out.cell rfl
 have af:w3.cell? ⟨w.heap.size+1,4,none⟩=some (.int .i64 q):=Hm.out.cell rfl
 have ad:w3.cell? ⟨w.heap.size+1,5,none⟩=some (.int .i64 r):=Hm.out.cell rfl
 have ac:w3.cell? ⟨w.heap.size+1,6,none⟩=some (.slice none 0 0):=Hm.out.cell rfl
 have aa:w3.cell? ⟨w.heap.size+1,7,none⟩=some (.slice none 0 0):=Hm.out.cell rfl
 have Z:w3.cell? ⟨w.heap.size+1,8,none⟩=some (.slice none 0 0):=Hm.out.cell rfl
 have Y:w3.cell? ⟨w.heap.size+1,9,none⟩=some (.slice none 0 0):=Hm.out.cell rfl
 go_wp2_with fail
 clear y x a0 al af ad ac aa Z Y
 refine (lX (aR n i q r) _ _ _ _ w3 ⟨RdP.none_,RdP.none_,RdC.nil,RdA.nil⟩).mono ?_
 intro e w4 j
 cases a:Psp.okB (aR n i q r) with
 |false=>
  obtain⟨A,cp,rfl, -,hbq⟩:=j.rdb (b:=[]) (o:=false) (by rw[a];rfl) a
  have N:sealK K (aR n i q r)=K:=by unfold sealK;rw[a];rfl
  have M:sealK L (aR n i q r)=L:=by unfold sealK;rw[a];rfl
  have v:okS K (aR n i q r)=false:=by unfold okS;rw[a];rfl
  have bN:=tt N
  have bq:=tt M
  have t:=tt v
  clear j a N M v
  have R:=Below.then HB.out hbq HB.out.size
  replace HT:=tt (HT.out.below hbq)
  have b3:=tt R
  clear R
  go_wp2_with fail
  go_ret
  refine⟨none,0,T,?_,?_,fun b hb=>.inl hb,Fp.of_below b3.out _,?_⟩
  ·rw[t.out];rfl
  ·rw[bN.out,bq.out];exact HT.out
  ·rw[t.out];exact RdP.none_
 |true=>
  obtain⟨A,cp,rfl,u,hbq⟩:=j.rdb (b:=Psp.bu (aR n i q r)) (o:=true) (by rw[a];rfl) a
  have HK:Hid (KOk (n,Psp.bu (aR n i q r))):=tt (rB (m:=aR n i q r) hn a)
  have P:sealK K (aR n i q r)=bi K (n,Psp.bu (aR n i q r)):=by unfold sealK;rw[if_pos a];rfl
  have O:sealK L (aR n i q r)=bi L (n,Psp.bu (aR n i q r)):=by unfold sealK;rw[if_pos a];rfl
  have v:okS K (aR n i q r)=okE (aV K (n,Psp.bu (aR n i q r))) (Psp.bu (aR n i q r)):=by unfold okS;rw[a];rfl
  have a5:=gl a
  have HE:Hid (RdP w4 (fun b=>w3.heap.size≤b) 1 (.slice A (Psp.bu (aR n i q r)).length cp) (Psp.bu (aR n i q r)).length ((Psp.bu (aR n i q r)).map bv)):=tt u
  have D:Hid (∀b,T b→b < w3.heap.size):=tt HT.out.lt
  have b9:bm < w3.heap.size:=HT.out.nt.lt.2
  have a3:=tt P
  have a2:=tt O
  have t:=tt v
  clear j a u P O v
  replace Ht:=tt (Ht.out.below hbq)
  replace Hm:=tt (Hm.out.below hbq)
  replace HT:=tt (HT.out.below hbq)
  replace HB:=tt (Below.then HB.out hbq HB.out.size)
  clear hbq
  have X:w4.cell? ⟨w.heap.size,0,none⟩=some (.pointer (some ⟨g,0,none⟩)):=Ht.out.cell rfl
  have W:w4.cell? ⟨w.heap.size,1,none⟩=some (.pointer (some ⟨h,0,none⟩)):=Ht.out.cell rfl
  have x:w4.cell? ⟨w.heap.size+1,1,none⟩=some (.int .i64 n):=Hm.out.cell rfl
  obtain⟨bb,hbb⟩:∃bb,Psp.bu (aR n i q r)=bb:=⟨_,rfl⟩
  have a4:=tt hbb
  rw[hbb] at HE HK a3 a2 t a5 ⊢
  clear hbb
  go_wp2_with fail
  clear X W x
  refine (mI T g bm h K L n bb _ w4 (fun b=>w3.heap.size≤b) HT.out HK.out hl a6 HE.out (fun b (hb:w3.heap.size≤b)=>⟨fun hh=>by have:=D.out b hh;omega,by omega⟩)).mono ?_
  rintro e w5 ⟨rfl,S',F,U,s⟩
  obtain⟨sv,hsv⟩:∃sv,aV K (n,bb)=sv:=⟨_,rfl⟩
  rw[hsv] at t ⊢
  have bp:=tt hsv
  rw[←a3.out,←a2.out] at F
  have b1:Hid (RdP w5 (fun b=>b < w5.heap.size) 1 (.slice A bb.length cp) bb.length (bb.map bv)):=tt (HE.out.keeps ⟨s.size,fun b hb hlt=>⟨s.block b hlt (by rintro (hh|hh);(have:=D.out b hh;have a7:w3.heap.size≤b:=hb;omega);(have a7:w3.heap.size≤b:=hb;omega)),by have:=s.size;omega⟩⟩)
  have I:=tt F
  have bO:=tt U
  have Q:Fp (fun b=>T b∨b=bm) w w5:=(Fp.of_below HB.out _).trans s fun k hk=>.inl hk
  have b0:=tt Q
  have b5:=HB.out.size
  have ca:=s.size
  clear hsv F U s Q HE
  go_wp2_with fail
  refine (kw sv bb _ w5 b1.out (by omega)).mono ?_
  intro e w6 j
  obtain⟨bs,hbs⟩:∃bs,res (Psp.aK sv++bb) (okE sv bb)=bs:=⟨_,rfl⟩
  obtain⟨A6,c6,rfl,u,hbq⟩:=j.rdb hbs rfl
  have bQ:=tt u
  have b2:=tt hbs
  have hb5:Fp (fun b=>T b∨b=bm) w w6:=b0.out.trans (Fp.of_below hbq _) fun k hk=>.inl hk
  have S:=I.out.below hbq
  have b4:=tt hb5
  have bd:=tt S
  have a1:Hid (∀b,S' b→b < w5.heap.size):=tt I.out.lt
  have b6:bm < w5.heap.size:=I.out.nt.lt.2
  clear j u hbs hbq hb5 S
  go_wp2_with fail
  go_ret
  have C:res (cX K (aR n i q r)) (okS K (aR n i q r))=bs:=by
   have h1:cX K (aR n i q r)=Psp.aK sv++bb:=by unfold cX;rw[a4.out,show kM (aR n i q r)=(n,bb) by unfold kM;rw[a4.out];rfl,bp.out]
   rw[h1,t.out,b2.out]
  refine⟨A6,c6,S',?_,bd.out,fun b hb=>?_,b4.out,?_⟩
  ·rw[C];rfl
  ·rcases bO.out b hb with h1|h1
   ·exact .inl h1
   ·right;omega
  ·rw[C]
   exact bQ.out.mono fun b hb hP=>⟨by have V:w5.heap.size≤b:=hP;omega,hb,fun hh=>by have V:w5.heap.size≤b:=hP;have:=a1.out b hh;omega,by have V:w5.heap.size≤b:=hP;omega⟩
theorem pA (S:Nat→Prop) (g bm h:Nat) (K L:List Key) (k ct:Nat) (c:Cf) (id:Int) (s:CS) (n i q r:Int) (bs:List UInt8) (w:World) (H:Cw w S g bm h K L k ct c id s) (hn:aE n) (hl:K.length < 1099511627776) (a:L.length < 1099511627776) (hbs:res (cX K (aR n i q r)) (okS K (aR n i q r))=bs):
 Calls Tryz.prog 15 #[.agg #[.pointer (some ⟨g,0,none⟩),.pointer (some ⟨h,0,none⟩)],.agg #[.int .i64 0,.int .i64 n,.int .i64 0,.int .i64 i,.int .i64 q,.int .i64 r,.slice none 0 0,.slice none 0 0,.slice none 0 0,.slice none 0 0]] w fun e w'=>∃A cp S',e= .returned (.slice A bs.length cp)∧Cw w' S' g bm h (sealK K (aR n i q r)) (sealK L (aR n i q r)) k ct c id s∧(∀b,S' b→S b∨w.heap.size≤b)∧Fp (fun b=>S b∨b=bm) w w'∧Bk w' S' bm (.slice A bs.length cp) bs:=by
 refine (Cw.two (K':=sealK K (aR n i q r)) (L':=sealK L (aR n i q r)) (Q:=fun e w' T'=>∃A cp,e= .returned (.slice A bs.length cp)∧RdP w' (fun b=>w.heap.size≤b∧Off w' T' bm b) 1 (.slice A bs.length cp) bs.length (bs.map bv)) H fun T hT=>(lS T g bm h K L n i q r w hT hn hl a).mono ?_).mono ?_
 ·rintro e w' ⟨A,cp,S',h1,h2,h3,h4,h5⟩
  rw[hbs] at h1 h5
  exact⟨S',⟨A,cp,h1,h5⟩,h2,h3,h4⟩
 ·rintro e w' ⟨T',S',⟨A,cp,h1,h5⟩,h6,h2,h3,h4⟩
  exact⟨A,cp,S',h1,h2,h3,h4,⟨h5.mono fun b hb hP=>⟨hb,fun hh=>by
   rcases h6 b hh with h7|h7
   ·exact hP.2.2.1 h7
   ·have:=hP.1;omega,hP.2.2.2⟩⟩⟩
theorem lL (U:Nat→Prop) (g bm k ct:Nat) (K:List Key) (c:Cf) (id:Int) (s:CS) (b:List UInt8) (v:Value) (w:World) (hb:Bool) (s2:CS) (h:Cn w U g bm K k ct c id s) (hx:RdP w (fun x=>x < w.heap.size) 1 v b.length (b.map bv))
 (hF:∀n a m,dN b 0=some (n,a)→Psp.aY (b.drop a.toNat)=some m→eV c.f c.cl m) (hf:1≤c.f∧c.f≤4) (hl:s.waits=true→s.issued≠[]) (hlen:s.issued.length≤1000000) (d:s.ans.length≤1000000) (hcl:s.acc.length≤1000000) (h2:cL c id K s b=(hb,s2)):
 Calls Tryz.prog 14 #[.pointer (some ⟨k,0,none⟩),v] w fun e w'=>e= .returned (.bool hb)∧∃U',Cn w' U' g bm K k ct c id s2∧(∀b,U' b→U b∨w.heap.size≤b)∧Fp (fun b=>U b∨b=bm) w w':=by
 cases hw:s.waits with
 |false=>
  have h3:cL c id K s b=(false,s):=by unfold cL;rw[hw];rfl
  rw[h3] at h2
  injection h2 with e1 e2
  subst e1 e2
  refine (mN U k ct g c id s v w h.cm hw).mono ?_
  rintro e w' ⟨rfl,rfl⟩
  exact⟨rfl,U,h,fun b hb=>.inl hb,Fp.refl _ _⟩
 |true=>
  cases ho:bW b c.f c.cl K with
  |none=>
   have h3:cL c id K s b=(false,s):=by unfold cL;rw[hw,ho];rfl
   rw[h3] at h2
   injection h2 with e1 e2
   subst e1 e2
   refine (mM U g bm k ct K c id s b v w h hw hx hF ho).mono ?_
   rintro e w' ⟨rfl,hb⟩
   exact⟨rfl,U,h.below hb,fun b hb=>.inl hb,Fp.of_below hb _⟩
  |some p=>
   obtain⟨m,x⟩:=p
   have h3:cL c id K s b=if s.hears id m then (true,s.heard c m) else (false,s):=by unfold cL;rw[hw,ho];rfl
   rw[h3] at h2
   refine take_some U g bm k ct K c id s b v m x w h hw hx hF ho hf (hl hw) hlen d hcl hb s2 ?_ ?_
   ·cases hh:s.hears id m <;> (rw[hh] at h2;injection h2)
   ·cases hh:s.hears id m with
    |false=>rw[hh] at h2;injection h2 with e1 e2;subst e1 e2;rfl
    |true=>rw[hh] at h2;injection h2 with e1 e2;subst e1 e2;rfl
theorem qP (S:Nat→Prop) (g bm h:Nat) (K L:List Key) (k ct:Nat) (c:Cf) (id:Int) (s:CS) (b:List UInt8) (v:Value) (w:World) (hb:Bool) (s2:CS) (H:Cw w S g bm h K L k ct c id s) (hx:RdP w (fun x=>x < w.heap.size) 1 v b.length (b.map bv))
 (hF:∀n a m,dN b 0=some (n,a)→Psp.aY (b.drop a.toNat)=some m→eV c.f c.cl m) (hf:1≤c.f∧c.f≤4) (hl:s.waits=true→s.issued≠[]) (hlen:s.issued.length≤1000000) (d:s.ans.length≤1000000) (hcl:s.acc.length≤1000000) (h2:cL c id K s b=(hb,s2)):
 Calls Tryz.prog 14 #[.pointer (some ⟨k,0,none⟩),v] w fun e w'=>e= .returned (.bool hb)∧∃S',Cw w' S' g bm h K L k ct c id s2∧(∀b,S' b→S b∨w.heap.size≤b)∧Fp (fun b=>S b∨b=bm) w w':=
 Cw.op (Q:=fun e _=>e= .returned (.bool hb)) H fun U hU=>lL U g bm k ct K c id s b v w hb s2 hU hx hF hf hl hlen d hcl h2
theorem qO (S:Nat→Prop) (g bm h:Nat) (K L:List Key) (k ct:Nat) (c:Cf) (id n i q r:Int) (s:CS) (v:Value) (w:World) (hb:Bool) (s2:CS) (bs:List UInt8) (K2:List Key) (hbs:cX K (aR n i q r)=bs) (j:sealK K (aR n i q r)=K2) (H:Cw w S g bm h K2 L k ct c id s) (hx:Bk w S bm v bs)
 (hf:1≤c.f∧c.f≤4) (hn:0≤n∧n≤3 * c.f) (hi:0≤i∧i < c.cl) (a:c.cl≤4) (hq:1≤q∧q≤1048576) (hr: -100000≤r∧r≤100000) (hK:K.length < 1000000) (hl:s.waits=true→s.issued≠[]) (hlen:s.issued.length≤1000000) (d:s.ans.length≤1000000) (hcl:s.acc.length≤1000000) (h2:(s.waits&&s.hears id (aR n i q r))=hb) (h3:s2=if hb=true then s.heard c (aR n i q r) else s):
 Calls Tryz.prog 14 #[.pointer (some ⟨k,0,none⟩),v] w fun e w'=>e= .returned (.bool hb)∧∃S',Cw w' S' g bm h K2 L k ct c id s2∧(∀b,S' b→S b∨w.heap.size≤b)∧Fp (fun b=>S b∨b=bm) w w':=by
 subst hbs j
 obtain⟨o1,o2⟩:=lp (n:=n) (i:=i) (q:=q) (r:=r) ⟨by omega,by omega⟩ ⟨by omega,by omega⟩ ⟨by omega,by omega⟩ hr
 have hE:=iE (ei (K:=K) o1 o2 hK)
 have hN:=hE
 unfold okE at hN
 rw[tI] at hN
 refine qP S g bm h _ L k ct c id s _ v w hb s2 H hx.all ?_ hf hl hlen d hcl ?_
 ·exact nk o1 hN.1 (fun vb vo vc vp w P hx hw=>mq _ vb vo vc vp c.f c.cl w P hx hw (oZ hf) rfl (by omega) (by omega))
 ·rw[told hf a hn hi hq hr hK,h2]
  cases hb <;> (rw[h3];rfl)
theorem pB (S:Nat→Prop) (g bm h:Nat) (K L:List Key) (k ct:Nat) (c:Cf) (id:Int) (s:CS) (kk y v:Int) (r:Psp.Req) (s2:CS) (K2:List Key) (w:World) (H:Cw w S g bm h K L k ct c id s) (hf:1≤c.f∧c.f≤4) (hcl:c.cl≤4) (d:0≤id∧id < 4) (hw:s.waits=false) (hlen:s.issued.length≤100000) (a:s.out.length≤1000000) (hK:K.length < 900000)
 (hv:Psp.aZ (bI id s kk y v) c.cl=true) (hq:r={bI id s kk y v with s:=aV K (kR (bI id s kk y v))}) (h2:dl c id (bi K (kR (bI id s kk y v))) {s with issued:=s.issued++[r],waits:=true,at_:=s.now,ans:=[]} =(s2,K2)):
 Calls Tryz.prog 12 #[.pointer (some ⟨k,0,none⟩),.agg #[.int .i64 kk,.int .i64 y,.int .i64 v]] w fun e w'=>e= .returned (.tuple #[.agg #[.int .i64 r.c,.int .i64 r.t,.int .i64 r.k,.int .i64 r.y,.int .i64 r.v,.int .i64 r.s],.int .i64 0])∧
  ∃S',Cw w' S' g bm h K2 L k ct c id s2∧(∀b,S' b→S b∨w.heap.size≤b)∧Fp (fun b=>S b∨b=bm) w w':=by
 refine Cw.op (Q:=fun e _=>e= .returned (.tuple #[.agg #[.int .i64 r.c,.int .i64 r.t,.int .i64 r.k,.int .i64 r.y,.int .i64 r.v,.int .i64 r.s],.int .i64 0])) H fun U hU=>?_
 have hm:=mp U g bm k ct K c id s kk y v r w hU hf hcl d hw hlen a hK hv hq
 rw[h2] at hm
 exact hm
theorem ph (U:Nat→Prop) (g k ct:Nat) (c:Cf) (id:Int) (s:CS) (kk y v:Int) (w:World) (h:Clm w U k ct g c id s) (hw:s.waits=false) (hlen:s.issued.length≤100000) (hv:Psp.aZ (bI id s kk y v) c.cl=false):
 Calls Tryz.prog 12 #[.pointer (some ⟨k,0,none⟩),.agg #[.int .i64 kk,.int .i64 y,.int .i64 v]] w fun e w'=>e= .returned (.tuple #[.agg #[.int .i64 0,.int .i64 0,.int .i64 0,.int .i64 0,.int .i64 0,.int .i64 0],.int .i64 1])∧Below w.heap.size w w':=by
 have j:=ae w (.cells #[.int .i64 kk,.int .i64 y,.int .i64 v] 40)
 have b:=tL w (.cells #[.int .i64 kk,.int .i64 y,.int .i64 v] 40)
 have hbb:=ae (w.alloc (.cells #[.int .i64 kk,.int .i64 y,.int .i64 v] 40)) (.cells #[.int .i64 0,.int .i64 0,.int .i64 0,.int .i64 0,.int .i64 0,.int .i64 0] 42)
 have hcb:=tL (w.alloc (.cells #[.int .i64 kk,.int .i64 y,.int .i64 v] 40)) (.cells #[.int .i64 0,.int .i64 0,.int .i64 0,.int .i64 0,.int .i64 0,.int .i64 0] 42)
 have E:(w.alloc (.cells #[.int .i64 kk,.int .i64 y,.int .i64 v] 40)).heap.size=w.heap.size+1:=by simp
 have hsb:((w.alloc (.cells #[.int .i64 kk,.int .i64 y,.int .i64 v] 40)).alloc (.cells #[.int .i64 0,.int .i64 0,.int .i64 0,.int .i64 0,.int .i64 0,.int .i64 0] 42)).heap.size=w.heap.size+2:=by simp
 rw[E] at hcb
 have n:=(hbb.block w.heap.size (by omega)).trans b
 have t:=j.trans (hbb.mono (by omega))
 clear j b hbb
 have HN:=tt h
 clear h
 go_enter Tryz.func12,Tryz.ntmps12
 go_upto_region 1 with fail
 obtain⟨W,hW⟩:∃W,(w.alloc (.cells #[.int .i64 kk,.int .i64 y,.int .i64 v] 40)).alloc (.cells #[.int .i64 0,.int .i64 0,.int .i64 0,.int .i64 0,.int .i64 0,.int .i64 0] 42)=W:=⟨_,rfl⟩
 rw[hW] at n t hcb hsb ⊢
 have H:=tt (HN.out.below t)
 obtain⟨Ai,ci,Aa,ca,Ac,cc,Ao,co,L,ho⟩:=H.out.opens
 have HO:=tt ho
 have f:=ho.row
 rw[hw] at f
 have O:W.cell? ⟨k,18,none⟩=some (.bool false):=am f 18 rfl
 have X:w.heap.size+2≤W.heap.size:=by omega
 have J:=tt t
 have Q:=tt hcb
 have R:=tt n
 clear hW n t hcb hsb E ho
 go_upto_region 3 with fail
 clear O
 have C:=ab (w:=W.drew) (show W.drew.cell? ⟨k,16,none⟩=some (.pointer (some ⟨g,0,none⟩)) from am f 16 rfl)
 have l1:=ab (w:=W.drew) (show W.drew.cell? ⟨k,1,none⟩=some (.int .i64 c.cl) from am f 1 rfl)
 have D:=ab (w:=W.drew) (show W.drew.cell? ⟨k,15,none⟩=some (.int .i64 id) from am f 15 rfl)
 have B:=ab (w:=W.drew) (show W.drew.cell? ⟨k,19,none⟩=some (.slice Ai s.issued.length ci) from am f 19 rfl)
 have T:=db HO.out.oi
 have V:IntKind.i64.wrap ((s.issued.length:Int)+1)=(s.issued.length:Int)+1:=IntWalk.i64_in _ (by omega)
 have q:Hid (∀w':World,(∃p:Later W.drew,w'=p.W)→w'.rangeAt w.heap.size 0 [.int .i64 kk,.int .i64 y,.int .i64 v]):=tt (by rintro w' ⟨p,rfl⟩;exact aB ((p.h.block _ (show w.heap.size < W.heap.size by omega)).trans R.out))
 have A:=tt fun W'=>pb g c.cl id ((s.issued.length:Int)+1) kk y v W' hv
 have a:Hid (Below W.drew.heap.size W.drew W.drew):=tt (Below.refl _ _)
 clear f hv
 go_cut [6,7] from 13 (fun rv P wx=>P= .int .i64 1∧Hid (Below W.heap.size W wx))
 case first=>
  refine cJ (fun w'=>∃p:Later W.drew,w'=p.W) [0,1,2,3,4,5,6,7,8,9,10,11,12,13,14,15,16,17,18,19,20,21,22,23,24,25,26] 27 (by kernel_rfl) (by kernel_rfl) ?_
  obtain⟨Wd,hWd⟩:∃Wd,W.drew=Wd:=⟨_,rfl⟩
  have N:Wd.heap.size=W.heap.size:=by rw[←hWd];rfl
  have F:Below W.heap.size W Wd:=by rw[←hWd];exact (Below.refl _ _).drew
  have u:=tt F
  rw[hWd] at C l1 D B q a ⊢
  clear hWd N F
  refine aS [] [0,1,2,3,4,5,6,7,8,9,10,11,12,13,14,15,16,17,18,19] 20 rfl (by kernel_rfl) (fun _ d _ _ _ h=>by cases d <;> exact h) ⟨⟨_,a.out⟩,rfl⟩ ?_
  simp only[phR,tu,tx,Option.toList]
  repeat (first|go_big_quiet_step (fail)|(refine aj (by simp[Region.wanted,yielded]) 40 (.tmp 3) (by rfl) w.heap.size 0 (by rfl) [.int .i64 kk,.int .i64 y,.int .i64 v] _ q.out Tryz.underlying40 rfl cR ?_;intro K hK;go_simp;refine hK _ ?_;clear hK K)|quiet_step (fail)|refine wpQuiet_nil ?_)
  clear C l1 D B q
  refine cK 20 24 (by kernel_rfl) ?_ ?_
  ·skip
   simp only[tu,tx,Option.toList]
   go_wp2_with fail
   refine (A.out Wd).mono ?_
   rintro e w5 ⟨rfl,hbq⟩
   replace a:=tt (Below.then a.out hbq a.out.size)
   have I:=tt hbq
   have M:=hbq.size
   clear hbq
   go_wp2_with fail
   first|refine And.intro (fun _=>⟨⟨_,a.out⟩,rfl⟩) ?_|refine And.intro ⟨⟨_,a.out⟩,rfl⟩ ?_
   refine aS [0,1,2,3,4,5,6,7,8,9,10,11,12,13,14,15,16,17,18,19,20] [21,22,23] 3 rfl (by kernel_rfl) (fun _ d _ _ _ h=>by cases d <;> exact h) ⟨⟨_,a.out⟩,rfl⟩ ?_
   simp only[phR,tu,tx,Option.toList]
   repeat (first|go_big_quiet_step (fail)|(refine aj (by simp[Region.wanted,yielded]) 40 (.tmp 3) (by rfl) w.heap.size 0 (by rfl) [.int .i64 kk,.int .i64 y,.int .i64 v] _ q.out Tryz.underlying40 rfl cR ?_;intro K hK;go_simp;refine hK _ ?_;clear hK K)|quiet_step (fail)|refine wpQuiet_nil ?_)
   refine ap 24 (by kernel_rfl) ?_
   simp only[tu,tx,Option.toList]
   go_wp2_with fail
   have j:=ae w5 (.cells #[.int .i64 0,.int .i64 0,.int .i64 0,.int .i64 0,.int .i64 0,.int .i64 0] 42)
   have b:=tL w5 (.cells #[.int .i64 0,.int .i64 0,.int .i64 0,.int .i64 0,.int .i64 0,.int .i64 0] 42)
   replace a:=tt (Below.then a.out j a.out.size)
   first|refine And.intro (fun _=>⟨⟨_,a.out⟩,rfl⟩) ?_|refine And.intro ⟨⟨_,a.out⟩,rfl⟩ ?_
   obtain⟨w6,hW_⟩:∃W_,(w5).alloc (.cells #[.int .i64 0,.int .i64 0,.int .i64 0,.int .i64 0,.int .i64 0,.int .i64 0] 42)=W_:=⟨_,rfl⟩
   rw[hW_] at j b a ⊢
   have x:=(tz b).1
   have r:=tt b
   clear hW_ j b
   refine ap 25 (by kernel_rfl) ?_
   simp only[tu,tx,Option.toList]
   have l:=au r.out
   have m:Wd.heap.size≤w5.heap.size:=by omega
   have i:Hid (Below Wd.heap.size Wd (w6.setCells (w5.heap.size) 0 [.int .i64 0,.int .i64 0,.int .i64 0,.int .i64 0,.int .i64 0,.int .i64 0])):=tt (((Fp.of_below a.out (fun _=>False)).setCells (Or.inr m) _).to_below (tJ _) fun _ _ h=>h.elim)
   have o:=tt l
   clear l
   go_wp2_with (refine wpList_store_mid rfl 42 (.tmp 6) (.tmp 35) rfl (w5.heap.size) 0 #[.int .i64 0,.int .i64 0,.int .i64 0,.int .i64 0,.int .i64 0,.int .i64 0] rfl rfl o.out az (by simp[Value.oneCell']) ?_)
   first|refine And.intro (fun _=>⟨⟨_,i.out⟩,rfl⟩) ?_|refine And.intro ⟨⟨_,i.out⟩,rfl⟩ ?_
   refine ap 26 (by kernel_rfl) ?_
   simp only[tu,tx,Option.toList]
   go_wp2_with fail
   first|refine And.intro (fun _=>⟨⟨_,i.out⟩,rfl⟩) ?_|refine And.intro ⟨⟨_,i.out⟩,rfl⟩ ?_
   refine And.intro (by kernel_rfl) ?_
   go_wp2_with fail
   go_meet
   exact⟨rfl,tt (Below.then u.out i.out u.out.size)⟩
  ·skip
   simp only[tu,tx,Option.toList]
   go_wp2_with fail
   have j:=ae Wd (.cells #[.int .i64 0,.int .i64 0,.int .i64 0,.int .i64 0,.int .i64 0,.int .i64 0] 42)
   have b:=tL Wd (.cells #[.int .i64 0,.int .i64 0,.int .i64 0,.int .i64 0,.int .i64 0,.int .i64 0] 42)
   replace a:=tt (Below.then a.out j a.out.size)
   first|refine And.intro (fun _=>⟨⟨_,a.out⟩,rfl⟩) ?_|refine And.intro ⟨⟨_,a.out⟩,rfl⟩ ?_
   obtain⟨w5,hW_⟩:∃W_,(Wd).alloc (.cells #[.int .i64 0,.int .i64 0,.int .i64 0,.int .i64 0,.int .i64 0,.int .i64 0] 42)=W_:=⟨_,rfl⟩
   rw[hW_] at j b a ⊢
   have x:=(tz b).1
   have r:=tt b
   clear hW_ j b
   refine ap 20 (by kernel_rfl) ?_
   simp only[tu,tx,Option.toList]
   go_wp2_with fail
   refine (A.out w5).mono ?_
   rintro e w6 ⟨rfl,hbq⟩
   replace a:=tt (Below.then a.out hbq a.out.size)
   have I:=tt hbq
   have M:=hbq.size
   clear hbq
   go_wp2_with fail
   first|refine And.intro (fun _=>⟨⟨_,a.out⟩,rfl⟩) ?_|refine And.intro ⟨⟨_,a.out⟩,rfl⟩ ?_
   refine aS [0,1,2,3,4,5,6,7,8,9,10,11,12,13,14,15,16,17,18,19,24,20] [21,22,23] 3 rfl (by kernel_rfl) (fun _ d _ _ _ h=>by cases d <;> exact h) ⟨⟨_,a.out⟩,rfl⟩ ?_
   simp only[phR,tu,tx,Option.toList]
   repeat (first|go_big_quiet_step (fail)|(refine aj (by simp[Region.wanted,yielded]) 40 (.tmp 3) (by rfl) w.heap.size 0 (by rfl) [.int .i64 kk,.int .i64 y,.int .i64 v] _ q.out Tryz.underlying40 rfl cR ?_;intro K hK;go_simp;refine hK _ ?_;clear hK K)|quiet_step (fail)|refine wpQuiet_nil ?_)
   replace r:=tt ((I.out.block _ x).trans r.out)
   refine ap 25 (by kernel_rfl) ?_
   simp only[tu,tx,Option.toList]
   have l:=au r.out
   have m:Wd.heap.size≤Wd.heap.size:=by omega
   have i:Hid (Below Wd.heap.size Wd (w6.setCells (Wd.heap.size) 0 [.int .i64 0,.int .i64 0,.int .i64 0,.int .i64 0,.int .i64 0,.int .i64 0])):=tt (((Fp.of_below a.out (fun _=>False)).setCells (Or.inr m) _).to_below (tJ _) fun _ _ h=>h.elim)
   have o:=tt l
   clear l
   go_wp2_with (refine wpList_store_mid rfl 42 (.tmp 6) (.tmp 35) rfl (Wd.heap.size) 0 #[.int .i64 0,.int .i64 0,.int .i64 0,.int .i64 0,.int .i64 0,.int .i64 0] rfl rfl o.out az (by simp[Value.oneCell']) ?_)
   first|refine And.intro (fun _=>⟨⟨_,i.out⟩,rfl⟩) ?_|refine And.intro ⟨⟨_,i.out⟩,rfl⟩ ?_
   refine ap 26 (by kernel_rfl) ?_
   simp only[tu,tx,Option.toList]
   go_wp2_with fail
   first|refine And.intro (fun _=>⟨⟨_,i.out⟩,rfl⟩) ?_|refine And.intro ⟨⟨_,i.out⟩,rfl⟩ ?_
   refine And.intro (by kernel_rfl) ?_
   go_wp2_with fail
   go_meet
   exact⟨rfl,tt (Below.then u.out i.out u.out.size)⟩
 case rest=>
  obtain⟨rfl,HB⟩:=hcut
  have hB:=HB.out
  have z:=(hB.block (w.heap.size+1) (by omega)).trans Q.out
  have l:=au z
  obtain⟨s1,s2⟩:=aQ z [.int .i64 0,.int .i64 0,.int .i64 0,.int .i64 0,.int .i64 0,.int .i64 0] rfl
  have o:=tt l
  have S1:=tt s1
  have G:Below w.heap.size w wc:=Below.then J.out hB J.out.size
  have S:=tt G
  clear hB z l s1 s2 G HO HN H A
  go_wp2_with (first|(refine wpList_store_mid rfl 42 (.tmp 4) (.tmp 39) rfl (w.heap.size+1) 0 #[.int .i64 0,.int .i64 0,.int .i64 0,.int .i64 0,.int .i64 0,.int .i64 0] rfl rfl o.out az (by simp[Value.oneCell']) ?_))
  refine bodyPost_ret (v:=.tuple #[.agg #[.int .i64 0,.int .i64 0,.int .i64 0,.int .i64 0,.int .i64 0,.int .i64 0],.int .i64 1]) ?_ rfl ?_
  ·exact aI Tryz.results12 _ _ (w.heap.size+1) _ _ _ _ rfl S1.out Tryz.underlying42 rfl az
  ·exact⟨rfl,((Fp.of_below S.out (fun _=>False)).setCells (Or.inr (by omega)) _).to_below (tJ _) fun _ _ h=>h.elim⟩
theorem Rdone.refl {T U:Nat→Prop} {k h:Nat} {L:List Key} {c:Cf} {id:Int} {r:RC} {w w':World} (H:Rcm w U k h c id r) (hN:Ntr w T h L) (a:∀b,T b→¬U b) (d:∀b,T b→b < w.heap.size) (hb:Below w.heap.size w w'):Rdone T U k h L c id r w w':=
 Rdone.same ⟨T,U,hN,H,a,d,fun b hb=>.inl hb,fun b hb=>.inl hb,Fp.refl _ _⟩ hb
theorem ir (T U:Nat→Prop) (k h:Nat) (K:List Key) (c:Cf) (id:Int) (s s2:CS) (r:RC) (b:List UInt8) (v:Value) (hb:Bool) (w:World) (H:Rcm w U k h c id r) (d:Ntr w T h K) (j:K.Nodup) (a:∀b,T b→¬U b) (g:∀b,T b→b < w.heap.size) (hx:RdP w (fun x=>x < w.heap.size) 1 v b.length (b.map bv)) (hP:Pl c id K s r) (hf:1≤c.f∧c.f≤4) (o:r.acc.length≤1000000) (h2:cL c id K s b=(hb,s2)):
 ∃r2,Pl c id K s2 r2∧Calls Tryz.prog 50 #[.pointer (some ⟨k,0,none⟩),v] w fun e w'=>e= .returned (.bool hb)∧Rdone T U k h K c id r2 w w':=by
 cases hw:s.waits with
 |false=>
  have h3:cL c id K s b=(false,s):=by unfold cL;rw[hw];rfl
  rw[h3] at h2
  injection h2 with e1 e2
  subst e1 e2
  refine⟨r,hP,(ll U k h c id r v w H (by rw[hP.wt,hw])).mono ?_⟩
  rintro e w' ⟨rfl,rfl⟩
  exact⟨rfl,Rdone.refl H d a g (Below.refl _ _)⟩
 |true=>
  have i:r.wt=true:=by rw[hP.wt,hw]
  cases ho:bW b c.f c.cl K with
  |none=>
   have h3:cL c id K s b=(false,s):=by unfold cL;rw[hw,ho];rfl
   rw[h3] at h2
   injection h2 with e1 e2
   subst e1 e2
   refine⟨r,hP,(lj T U k h K c id r b v w H d j i hx ho).mono ?_⟩
   rintro e w' ⟨rfl,hb⟩
   exact⟨rfl,Rdone.refl H d a g hb⟩
  |some p=>
   obtain⟨m,x⟩:=p
   have h3:cL c id K s b=if s.hears id m then (true,s.heard c m) else (false,s):=by unfold cL;rw[hw,ho];rfl
   rw[h3] at h2
   have hm:=fun hk=>ni ho hf hk
   have l:m.k=10→m.f=((m.f.toNat:Nat):Int)∧m.f.toNat < 13:=fun hk=>by have:=hm hk;omega
   have n:=hP.hears hw hm
   refine⟨if hb=true then gv c r m.f.toNat m.r else r,?_,li T U k h K c id r b v m x m.f.toNat w H d j a g i hx ho l hf o hb _ ?_ rfl⟩
   ·cases hh:s.hears id m with
    |false=>
     rw[hh] at h2
     injection h2 with e1 e2
     subst e1 e2
     exact hP
    |true=>
     rw[hh] at h2
     injection h2 with e1 e2
     subst e1 e2
     have hk:m.k=10:=by
      unfold CS.hears at hh
      rw[tI,decide_eq_true_eq] at hh
      exact hh.1
     exact hP.heard hw hf hh (hm hk)
   ·rw[n]
    cases hh:s.hears id m <;> (rw[hh] at h2;injection h2)
theorem jL (V:Nat→Prop) (g bm k ct:Nat) (K:List Key) (c:Cf) (id:Int) (s s2:CS) (b:List UInt8) (v:Value) (hb:Bool) (w:World) (h:Cn w V g bm K k ct c id s) (hx:RdP w (fun x=>x < w.heap.size) 1 v b.length (b.map bv)) (hf:1≤c.f∧c.f≤4) (hcl:1≤c.cl∧c.cl≤4) (hl:s.waits=true→s.issued≠[]) (hlen:s.issued.length≤1000000) (d:s.ans.length≤1000000) (i:s.acc.length≤1000000) (h2:cL c id K s b=(hb,s2)):
 Calls Tryz.prog 14 #[.pointer (some ⟨k,0,none⟩),v] w fun e w'=>e= .returned (.bool hb)∧∃V',Cn w' V' g bm K k ct c id s2∧(∀b,V' b→V b∨w.heap.size≤b)∧Fp (fun b=>V b∨b=bm) w w':=
 lL V g bm k ct K c id s b v w hb s2 h hx (fun n a m _ _=>lF m c.f c.cl fun _=>⟨by omega,by omega⟩) hf hl hlen d i h2
def q6 (q:Psp.Req):Value:=.agg #[.int .i64 q.c,.int .i64 q.t,.int .i64 q.k,.int .i64 q.y,.int .i64 q.v,.int .i64 q.s]
theorem pg (V:Nat→Prop) (g bm k ct:Nat) (K K2:List Key) (c:Cf) (id:Int) (s s2:CS) (kk y v:Int) (q:Psp.Req) (er:Int) (w:World) (h:Cn w V g bm K k ct c id s) (hf:1≤c.f∧c.f≤4) (hcl:c.cl≤4) (d:0≤id∧id < 4) (hlen:s.issued.length≤100000) (a:s.out.length≤1000000) (hK:K.length < 900000) (h2:fS c id K s kk y v=((q,er),s2,K2)):
 Calls Tryz.prog 12 #[.pointer (some ⟨k,0,none⟩),.agg #[.int .i64 kk,.int .i64 y,.int .i64 v]] w fun e w'=>e= .returned (.tuple #[q6 q,.int .i64 er])∧∃V',Cn w' V' g bm K2 k ct c id s2∧(∀b,V' b→V b∨w.heap.size≤b)∧Fp (fun b=>V b∨b=bm) w w':=by
 unfold fS at h2
 cases hw:s.waits with
 |true=>
  rw[hw,if_pos rfl] at h2
  injection h2 with e1 e2
  injection e1 with e1 e3
  injection e2 with e2 e4
  subst e1 e2 e3 e4
  refine (lD V g k ct c id s kk y v w h.cm hw).mono ?_
  rintro e w' ⟨rfl,hb⟩
  exact⟨rfl,V,h.below hb,fun b hb=>.inl hb,Fp.of_below hb _⟩
 |false=>
  rw[hw,if_neg (by decide)] at h2
  cases hv:Psp.aZ (bI id s kk y v) c.cl with
  |false=>
   rw[hv,if_neg (by decide)] at h2
   injection h2 with e1 e2
   injection e1 with e1 e3
   injection e2 with e2 e4
   subst e1 e2 e3 e4
   refine (ph V g k ct c id s kk y v w h.cm hw hlen hv).mono ?_
   rintro e w' ⟨rfl,hb⟩
   exact⟨rfl,V,h.below hb,fun b hb=>.inl hb,Fp.of_below hb _⟩
  |true=>
   rw[hv,if_pos rfl] at h2
   injection h2 with e1 e2
   injection e1 with e1 e3
   have hm:=mp V g bm k ct K c id s kk y v _ w h hf hcl d hw hlen a hK hv rfl
   subst e3
   rw[e2] at hm
   rw[←e1]
   exact hm
theorem mR (T U:Nat→Prop) (k h:Nat) (K K2:List Key) (c:Cf) (id:Int) (s s2:CS) (r:RC) (kk y v:Int) (q:Psp.Req) (er:Int) (w:World) (H:Rcm w U k h c id r) (g:Ntr w T h K) (a:∀b,T b→¬U b) (d:∀b,T b→b < w.heap.size) (hP:Pl c id K s r) (hf:1≤c.f∧c.f≤4) (hcl:c.cl≤4) (m:0≤id∧id < 4) (l:0≤s.now) (hlen:s.issued.length≤100000) (u:s.out.length≤1000000) (hK:K.length < 900000) (h2:fS c id K s kk y v=((q,er),s2,K2)):
 ∃r2,Pl c id K2 s2 r2∧Calls Tryz.prog 47 #[.pointer (some ⟨k,0,none⟩),.agg #[.int .i64 kk,.int .i64 y,.int .i64 v]] w fun e w'=>e= .returned (.tuple #[q6 q,.int .i64 er])∧Rdone T U k h K2 c id r2 w w':=by
 have o:=hP.n
 unfold fS at h2
 cases hw:s.waits with
 |true=>
  rw[hw,if_pos rfl] at h2
  injection h2 with e1 e2
  injection e1 with e1 e3
  injection e2 with e2 e4
  subst e1 e2 e3 e4
  refine⟨r,hP,(ku U k h c id r kk y v w H (by rw[hP.wt,hw])).mono ?_⟩
  rintro e w' ⟨rfl,hb⟩
  exact⟨rfl,Rdone.refl H g a d hb⟩
 |false=>
  rw[hw,if_neg (by decide)] at h2
  have i:r.wt=false:=by rw[hP.wt,hw]
  have hbq:bI id s kk y v=⟨id,r.n+1,kk,y,v,0⟩:=by unfold bI;rw[o]
  cases hv:Psp.aZ (bI id s kk y v) c.cl with
  |false=>
   rw[hv,if_neg (by decide)] at h2
   injection h2 with e1 e2
   injection e1 with e1 e3
   injection e2 with e2 e4
   subst e1 e2 e3 e4
   refine⟨r,hP,(mS U k h c id r kk y v w H i ⟨by omega,by omega⟩ (by rw[←hbq];exact hv)).mono ?_⟩
   rintro e w' ⟨rfl,hb⟩
   exact⟨rfl,Rdone.refl H g a d hb⟩
  |true=>
   rw[hv,if_pos rfl] at h2
   injection h2 with e1 e2
   injection e1 with e1 e3
   subst e3
   have t:=hP.issue hw m hcl l hK hv rfl e2
   obtain⟨j,x,p⟩:=t
   refine⟨_,p,?_⟩
   rw[←e1,←x]
   rw[hbq] at j ⊢
   exact lm T U k h K c id r kk y v _ _ w H g a d hf m i ⟨by omega,by omega⟩ (by rw[hP.iss];omega) (by rw[hP.out];exact u) (by omega) (by rw[←hbq];exact hv) rfl j rfl
section
variable {W W':World} {S:Nat→Prop} {g bm h k ct rk:Nat} {K L:List Key} {c:Cf} {id:Int} {s:CS} {r:RC}
theorem Cr.rops {P:Program} {f:FuncId} {args:Array Value} {L':List Key} {Q:Ending→World→Prop} {X:RC→Prop} (H:Cr W S g bm h K L k ct rk c id s r)
 (hop:∀T U,Ntr W T h L→Rcm W U rk h c id r→(∀b,T b→¬U b)→(∀b,T b→b < W.heap.size)→∃r',X r'∧Calls P f args W fun e W'=>Q e W'∧Rdone T U rk h L' c id r' W W'):
 ∃r',X r'∧Calls P f args W fun e W'=>Q e W'∧∃S',Cr W' S' g bm h K L' k ct rk c id s r'∧(∀b,S' b→S b∨W.heap.size≤b)∧Fp (fun b=>S b∨b=bm) W W':=by
 obtain⟨V,T,U,hS,h1,h2,h3,h4,h5,h6,h7,h8⟩:=H.ex
 obtain⟨r',hx,hc⟩:=hop T U h2 h3 h5 h8
 refine⟨r',hx,hc.mono ?_⟩
 rintro e W' ⟨hq,hr⟩
 obtain⟨T',U',g1,g2,g3,g4,g5,g6,g7⟩:=hr.ex
 have d:=h1.nt.lt
 have hg:¬ (T g∨U g):=by rintro (hh|hh);exact h6.1 hh;exact h7.1 hh
 have a:¬ (T bm∨U bm):=by rintro (hh|hh);exact h6.2 hh;exact h7.2 hh
 have hV:∀b,V b→¬ (T b∨U b):=fun b hb=>by rintro (hh|hh);exact (h4 b hb).1 hh;exact (h4 b hb).2 hh
 refine⟨hq,fun b=>V b∨T' b∨U' b,⟨V,T',U',fun b=>Iff.rfl,h1.fp g7 hV hg a,g1,g2,fun b hb=>⟨fun ht=>?_,fun hu=>?_⟩,g3,⟨fun ht=>?_,fun ht=>?_⟩,⟨fun hu=>?_,fun hu=>?_⟩,g4⟩,fun b hb=>?_,g7.mono fun b _ hb=>?_⟩
 ·rcases g5 b ht with h9|h9
  ·exact (h4 b hb).1 h9
  ·have:=h1.cm.lt b hb;omega
 ·rcases g6 b hu with h9|h9
  ·exact (h4 b hb).2 h9
  ·have:=h1.cm.lt b hb;omega
 ·rcases g5 g ht with h9|h9
  ·exact h6.1 h9
  ·omega
 ·rcases g5 bm ht with h9|h9
  ·exact h6.2 h9
  ·omega
 ·rcases g6 g hu with h9|h9
  ·exact h7.1 h9
  ·omega
 ·rcases g6 bm hu with h9|h9
  ·exact h7.2 h9
  ·omega
 ·rcases hb with hb|hb|hb
  ·exact .inl ((hS b).2 (.inl hb))
  ·rcases g5 b hb with h9|h9
   ·exact .inl ((hS b).2 (.inr (.inl h9)))
   ·exact .inr h9
  ·rcases g6 b hb with h9|h9
   ·exact .inl ((hS b).2 (.inr (.inr h9)))
   ·exact .inr h9
 ·rcases hb with hb|hb
  ·exact .inl ((hS b).2 (.inr (.inl hb)))
  ·exact .inl ((hS b).2 (.inr (.inr hb)))
end
theorem Rdone.only {T U U':Nat→Prop} {k h:Nat} {L:List Key} {c:Cf} {id:Int} {r':RC} {w w':World} (hN:Ntr w T h L) (hU:∀b,U b→b < w.heap.size) (a:∀b,T b→¬U b) (d:∀b,T b→b < w.heap.size) (h1:Rcm w' U' k h c id r') (h2:∀b,U' b→U b∨w.heap.size≤b) (h3:Fp U w w'):Rdone T U k h L c id r' w w':=
 ⟨T,U',hN.fp h3 a,h1,fun b hb hu=>by
  rcases h2 b hu with h4|h4
  ·exact a b hb h4
  ·have:=d b hb;omega,fun b hb=>Nat.lt_of_lt_of_le (d b hb) h3.size,fun b hb=>.inl hb,h2,h3.mono fun b _ hb=>.inr hb⟩
theorem kJ (S:Nat→Prop) (g bm h:Nat) (K L:List Key) (k ct rk:Nat) (c:Cf) (id:Int) (s:CS) (r0:RC) (n i q r:Int) (bs:List UInt8) (w:World) (H:Cr w S g bm h K L k ct rk c id s r0) (hn:aE n) (hl:K.length < 1099511627776) (a:L.length < 1099511627776) (hbs:res (cX K (aR n i q r)) (okS K (aR n i q r))=bs):
 Calls Tryz.prog 15 #[.agg #[.pointer (some ⟨g,0,none⟩),.pointer (some ⟨h,0,none⟩)],.agg #[.int .i64 0,.int .i64 n,.int .i64 0,.int .i64 i,.int .i64 q,.int .i64 r,.slice none 0 0,.slice none 0 0,.slice none 0 0,.slice none 0 0]] w fun e w'=>∃A cp S',e= .returned (.slice A bs.length cp)∧Cr w' S' g bm h (sealK K (aR n i q r)) (sealK L (aR n i q r)) k ct rk c id s r0∧(∀b,S' b→S b∨w.heap.size≤b)∧Fp (fun b=>S b∨b=bm) w w'∧Bk w' S' bm (.slice A bs.length cp) bs:=by
 refine (Cr.two (K':=sealK K (aR n i q r)) (L':=sealK L (aR n i q r)) (Q:=fun e w' T'=>∃A cp,e= .returned (.slice A bs.length cp)∧RdP w' (fun b=>w.heap.size≤b∧Off w' T' bm b) 1 (.slice A bs.length cp) bs.length (bs.map bv)) H fun T hT=>(lS T g bm h K L n i q r w hT hn hl a).mono ?_).mono ?_
 ·rintro e w' ⟨A,cp,S',h1,h2,h3,h4,h5⟩
  rw[hbs] at h1 h5
  exact⟨S',⟨A,cp,h1,h5⟩,h2,h3,h4⟩
 ·rintro e w' ⟨T',S',⟨A,cp,h1,h5⟩,h6,h2,h3,h4⟩
  exact⟨A,cp,S',h1,h2,h3,h4,⟨h5.mono fun b hb hP=>⟨hb,fun hh=>by
   rcases h6 b hh with h7|h7
   ·exact hP.2.2.1 h7
   ·have:=hP.1;omega,hP.2.2.2⟩⟩⟩
def Sz (n:Nat) (K:List Key) (s:CS):Prop:=K.length≤4 * n∧s.issued.length≤n∧s.ans.length≤n∧s.acc.length≤n∧0≤s.now∧s.now≤(n:Int)
theorem nx {c:Cf} {id:Int} {K K2:List Key} {s s2:CS} {kk y v:Int} {q:Psp.Req} {er:Int} {n:Nat} (hf:1≤c.f∧c.f≤4) (h:fS c id K s kk y v=((q,er),s2,K2)) (hs:Sz n K s):Sz (n+1) K2 s2:=by
 obtain⟨h1,h2,h3,h4,h5,h6⟩:=hs
 unfold fS at h
 split at h
 ·injection h with _ e2
  injection e2 with e3 e4
  subst e3;subst e4
  exact⟨by omega,by omega,by omega,by omega,by omega,by omega⟩
 ·split at h
  ·injection h with _ e2
   obtain⟨i1,i2,i3,i4,i5,i6,i7,i8⟩:=gR hf e2
   refine⟨by omega,?_,?_,?_,by omega,by omega⟩
   ·rw[i2,tH,List.length_singleton];omega
   ·rw[i3];exact Nat.zero_le _
   ·rw[i4];omega
  ·injection h with _ e2
   injection e2 with e3 e4
   subst e3;subst e4
   exact⟨by omega,by omega,by omega,by omega,by omega,by omega⟩
theorem ik {c:Cf} {id:Int} {K0 K:List Key} {s s2:CS} {b:List UInt8} {hb:Bool} {n:Nat} (h:cL c id K s b=(hb,s2)) (hs:Sz n K0 s) (hk:K.length≤K0.length+4):Sz (n+1) K s2:=by
 obtain⟨h1,h2,h3,h4,h5,h6⟩:=hs
 have a:Sz (n+1) K s:=⟨by omega,by omega,by omega,by omega,by omega,by omega⟩
 unfold cL at h
 split at h
 ·split at h
  ·rename_i m x _
   split at h
   ·injection h with _ e2
    obtain⟨a1,a2,a3,a4⟩:= @jy s c m
    have a5:(s.heard c m).now=s.now:=by unfold CS.heard;split <;> rfl
    rw[e2] at a1 a2 a3 a5
    exact⟨by omega,by rw[a2];omega,by omega,by omega,by omega,by omega⟩
   ·injection h with _ e2;subst e2;exact a
  ·injection h with _ e2;subst e2;exact a
 ·injection h with _ e2;subst e2;exact a
theorem nV {c:Cf} {id:Int} {K:List Key} {s:CS} {n:Nat} (hs:Sz n K s) (hK:(eY c id K s).2=K):Sz (n+1) (eY c id K s).2 (eY c id K s).1:=by
 obtain⟨h1,h2,h3,h4,h5,h6⟩:=hs
 rw[hK]
 unfold eY dl
 split
 ·split
  ·split
   ·exact⟨by omega,by show s.issued.length≤_;omega,by show s.ans.length≤_;omega,by show s.acc.length≤_;omega,by show 0≤s.now+1;omega,by show s.now+1≤_;omega⟩
   ·exact⟨by omega,by show s.issued.length≤_;omega,by show s.ans.length≤_;omega,by show s.acc.length≤_;omega,by show 0≤s.now+1;omega,by show s.now+1≤_;omega⟩
  ·exact⟨by omega,by show s.issued.length≤_;omega,by show s.ans.length≤_;omega,by show s.acc.length≤_;omega,by show 0≤s.now+1;omega,by show s.now+1≤_;omega⟩
 ·exact⟨by omega,by show s.issued.length≤_;omega,by show s.ans.length≤_;omega,by show s.acc.length≤_;omega,by show 0≤s.now;omega,by show s.now≤_;omega⟩
section
variable {W W':World} {S:Nat→Prop} {g bm h k ct rk:Nat} {K L:List Key} {c:Cf} {id:Int} {s:CS} {r:RC}
theorem sC (H:Cr W S g bm h K L k ct rk c id s r):∃(Ao:Option Addr) (co:Nat) (Ls:List SendV),W.cell? ⟨rk,55,none⟩=some (.slice Ao Ls.length co)∧Ls.map SendV.s=r.out∧
 Calls Tryz.prog 22 #[.pointer (some ⟨k,0,none⟩)] W fun e W'=>∃(A:Option Addr) (cp:Nat) (L1:List SendV) (S':Nat→Prop),e= .returned (.slice A s.out.length cp)∧L1.map SendV.s=s.out∧Cr W' S' g bm h K L k ct rk c id {s with out:=[]} r∧(∀b,S' b→S b∨W.heap.size≤b)∧Fp (fun b=>S b∨b=bm) W W'∧Fp (fun b=>b≠rk) W W'∧RdS W' (.slice A s.out.length cp) L1∧RdS W' (.slice Ao Ls.length co) Ls:=by
 obtain⟨V,T,U,hS,h1,h2,h3,h4,h5,h6,h7,h8⟩:=H.ex
 obtain⟨Ab,cb,Ai,ci,Ac,cc,Ao,co,Ls,ho⟩:=h3.opens
 refine⟨Ao,co,Ls,am ho.row 55 rfl,ho.om,?_⟩
 refine (rW V g bm k ct K c id s W h1).mono ?_
 rintro e W' ⟨A,cp,L1,V',rfl,hL,g1,g2,g3,hF⟩
 have hT:∀b,T b→¬ (V b∨b=bm):=fun b hb=>by
  rintro (hh|hh)
  ·exact (h4 b hh).1 hb
  ·exact h6.2 (hh▸hb)
 have hU:∀b,U b→¬ (V b∨b=bm):=fun b hb=>by
  rintro (hh|hh)
  ·exact (h4 b hh).2 hb
  ·exact h7.2 (hh▸hb)
 refine⟨A,cp,L1,fun b=>V' b∨T b∨U b,rfl,hL,⟨V',T,U,fun b=>Iff.rfl,g1,h2.fp g3 hT,h3.fp g3 hU,fun b hb=>?_,h5,h6,h7,fun b ht=>Nat.lt_of_lt_of_le (h8 b ht) g3.size⟩,fun b hb=>?_,g3.mono fun b _ hb=>?_,g3.mono fun b _ hb=>?_,hF.rds,(ho.fp g3 hU).oo.rds⟩
 ·rcases g2 b hb with h9|h9
  ·exact h4 b h9
  ·exact⟨fun ht=>by have:=h8 b ht;omega,fun hu=>by have:=h3.lt b hu;omega⟩
 ·rcases hb with hb|hb
  ·rcases g2 b hb with h9|h9
   ·exact .inl ((hS b).2 (.inl h9))
   ·exact .inr h9
  ·exact .inl ((hS b).2 (.inr hb))
 ·rcases hb with hb|hb
  ·exact .inl ((hS b).2 (.inl hb))
  ·exact .inr hb
 ·rintro rfl
  exact hU b h3.uk hb
theorem pG (H:Cr W S g bm h K L k ct rk c id s r):Cr (W.setCell ⟨rk,55,none⟩ (.slice none 0 0)) S g bm h K L k ct rk c id s {r with out:=[]}∧Fp (fun b=>S b∨b=bm) W (W.setCell ⟨rk,55,none⟩ (.slice none 0 0))∧W.frozen? ⟨rk,55,none⟩=false∧∃v,W.cell? ⟨rk,55,none⟩=some v:=by
 obtain⟨V,T,U,hS,h1,h2,h3,h4,h5,h6,h7,h8⟩:=H.ex
 obtain⟨Ab,cb,Ai,ci,Ac,cc,Ao,co,Ls,ho⟩:=h3.opens
 have hf:Fp U W (W.setCell ⟨rk,55,none⟩ (.slice none 0 0)):=iu W 55 _ ho.uk
 have hn:Rco (W.setCell ⟨rk,55,none⟩ (.slice none 0 0)) U rk h c id {r with out:=[]} (.slice Ab r.bs.length cb) (.slice Ai r.iss.length ci) (.slice Ac r.acc.length cc) (.slice none 0 0) []:=
  eK ho.row rfl ho.uk ho.lt ho.ob ho.oi ho.oc rfl Outs.nil ho.ub ho.ui ho.uc
 refine⟨⟨V,T,U,hS,h1.fp hf (fun b hb=>(h4 b hb).2) h7.1 h7.2,h2.fp hf h5,hn.m,h4,h5,h6,h7,fun b ht=>Nat.lt_of_lt_of_le (h8 b ht) hf.size⟩,hf.mono fun b _ hb=>.inl ((hS b).2 (.inr (.inr hb))),frozen_of_row _ _ 55 _ _ ho.row,_,am ho.row 55 rfl⟩
theorem kK (H:Cr W S g bm h K L k ct rk c id s r):∃(A:Option Addr) (cp:Nat),W.cell? ⟨h,0,none⟩=some (.slice A L.length cp):=by
 obtain⟨V,T,U,hS,h1,h2,_⟩:=H.ex
 obtain⟨vp,vt,a,hp,_⟩:=h2.ex
 obtain⟨A,cp,rfl,_,_,_⟩:=ao hp
 exact⟨A,cp,am a 0 rfl⟩
theorem rT {k:Nat} {vb vi va vo:Value} (h0:W.heap[k]? =some (.cells (rcA c id h r vb vi va vo) 89 (0,0))):W.rangeAt k 19 [.int .i64 r.q.c,.int .i64 r.q.t,.int .i64 r.q.k,.int .i64 r.q.y,.int .i64 r.q.v,.int .i64 r.q.s]:=by
 intro j v hv
 match j,hv with
 |0,hv=>injection hv with hv;subst hv;exact am h0 19 rfl
 |1,hv=>injection hv with hv;subst hv;exact am h0 20 rfl
 |2,hv=>injection hv with hv;subst hv;exact am h0 21 rfl
 |3,hv=>injection hv with hv;subst hv;exact am h0 22 rfl
 |4,hv=>injection hv with hv;subst hv;exact am h0 23 rfl
 |5,hv=>injection hv with hv;subst hv;exact am h0 24 rfl
end
theorem Sz.out {n:Nat} {K:List Key} {s:CS} (h:Sz n K s):Sz n K {s with out:=[]}:=h
open Go.RowKit Go.ChangeShapes Go.WideShapes
structure ActV where
 d:Int
 n:Int
 c:Int
 t:Int
 r:Int
 k:Int
 y:Int
 z:Int
 b:List UInt8
 v:Value
def gI (a:ActV):List Value:=[iv a.d,iv a.n,iv a.c,iv a.t,iv a.r,iv a.k,iv a.y,iv a.z,a.v]
def ii (a:ActV):Prop:=aE a.d∧aE a.n∧aE a.c∧aE a.t∧aE a.r∧aE a.k∧aE a.y∧aE a.z
def kP (w:World) (P:Nat→Prop) (a:ActV):Prop:=RdP w P 1 a.v a.b.length (a.b.map bv)
theorem qJ (l:List UInt8):(l.flatMap fun n=>[bv n])=l.map bv:=by
 induction l with
 |nil=>rfl
 |cons a l ih=>rw[List.flatMap_cons,List.map_cons,ih];rfl
theorem lx (w:World):OpensAt Tryz.prog 82 9 gI (fun a=>kP w (fun b=>b < w.heap.size) a∧ii a) w:=by
 refine⟨by kernel_rfl,fun _=>rfl,by omega,fun enc fuel cs x h=>?_⟩
 obtain⟨xs,n,_,_,hl,hlen,hf⟩:=DataW.trod_struct Tryz.underlying82 h
 have hc:Tryz.prog.cellsOf 82=9:=by kernel_rfl
 have h1:Tryz.prog.cellsOf 3=1:=by kernel_rfl
 have h2:Tryz.prog.cellsOf 40=3:=by kernel_rfl
 have h3:Tryz.prog.cellsOf 49=1:=by kernel_rfl
 rw[hc] at hl
 match cs,hl with
 | [c0,c1,c2,c3,c4,c5,c6,c7,c8],_=>
   obtain⟨y0,e0⟩:=cS hlen (j:=0) (by simp)
   obtain⟨y1,e1⟩:=cS hlen (j:=1) (by simp)
   obtain⟨y2,e2⟩:=cS hlen (j:=2) (by simp)
   obtain⟨y3,e3⟩:=cS hlen (j:=3) (by simp)
   obtain⟨y4,e4⟩:=cS hlen (j:=4) (by simp)
   obtain⟨y5,e5⟩:=cS hlen (j:=5) (by simp)
   obtain⟨y6,e6⟩:=cS hlen (j:=6) (by simp)
   have g0:=hf 0 _ rfl
   have g1:=hf 1 _ rfl
   have g2:=hf 2 _ rfl
   have g3:=hf 3 _ rfl
   have g4:=hf 4 _ rfl
   have g5:=hf 5 _ rfl
   have g6:=hf 6 _ rfl
   rw[e0] at g0
   rw[e1] at g1
   rw[e2] at g2
   rw[e3] at g3
   rw[e4] at g4
   rw[e5] at g5
   rw[e6] at g6
   simp[h1,h2,h3] at g0 g1 g2 g3 g4 g5 g6
   obtain⟨a0,rfl,w0⟩:=dA g0
   obtain⟨a1,rfl,w1⟩:=dA g1
   obtain⟨a2,rfl,w2⟩:=dA g2
   obtain⟨a3,rfl,w3⟩:=dA g3
   obtain⟨a4,rfl,w4⟩:=dA g4
   obtain⟨k,y,v,e,wk,wy,wv⟩:=oR g5
   injection e with q0 e
   injection e with q1 e
   injection e with q2 _
   subst q0 q1 q2
   obtain⟨vb,l,e',_,r1,wb⟩:=iD Tryz.underlying49 ((lw Tryz.underlying5 (by kernel_rfl)).toAt w) g6
   injection e' with e' _
   subst e'
   refine⟨⟨a0,a1,a2,a3,a4,k,y,v,l,_⟩,rfl,?_,w0,w1,w2,w3,w4,wk,wy,wv⟩
   have h5:=r1.to_p (tJ _)
   rw[qJ] at h5
   exact h5
theorem gQ {w:World} {H:Type} {enc:TypeId×Value→H} {v:Value} {d:DataW H} {ps:List MemPlace} (h:DataW.Trod enc Tryz.prog w 0 (fun _=>true) true 75 v d ps) (hv:∃a len cap,v= .slice a len cap):
 ∃L:List ActV,Rd w w.heap.size 9 v L.length (L.flatMap gI)∧∀a∈L,kP w (fun b=>b < w.heap.size) a∧ii a:=
 ly Tryz.underlying75 (lx w) h hv
theorem fZ (w:World):Calls Tryz.prog 17 #[] w fun e w'=>e= .returned (.bool true)∧Below w.heap.size w w':=by
 have hf1:(1:Int)≤1∧(1:Int)≤4:=⟨by decide,by decide⟩
 go_enter Tryz.func17,Tryz.ntmps17
 go_wp2_with fail
 refine (lz w).mono ?_
 rintro e w1 ⟨g,bm,rfl,hN,hb1,hg1,ck⟩
 have bp:=hb1.size
 have ci:=hN.lt
 go_upto_region 2 with fail
 have a:=ae w1 (.cells #[.slice none 0 0,.slice none 0 0] 29)
 have Y:=tL w1 (.cells #[.slice none 0 0,.slice none 0 0] 29)
 have n:(w1.alloc (.cells #[.slice none 0 0,.slice none 0 0] 29)).heap.size=w1.heap.size+1:=by simp
 obtain⟨h,hh⟩:∃h,w1.heap.size=h:=⟨_,rfl⟩
 have hbb:=ae (w1.alloc (.cells #[.slice none 0 0,.slice none 0 0] 29)) (.cells #[.pointer (some ⟨g,0,none⟩),.pointer (some ⟨w1.heap.size,0,none⟩)] 31)
 have hcb:=tL (w1.alloc (.cells #[.slice none 0 0,.slice none 0 0] 29)) (.cells #[.pointer (some ⟨g,0,none⟩),.pointer (some ⟨w1.heap.size,0,none⟩)] 31)
 rw[n] at hcb
 have hsb:((w1.alloc (.cells #[.slice none 0 0,.slice none 0 0] 29)).alloc (.cells #[.pointer (some ⟨g,0,none⟩),.pointer (some ⟨w1.heap.size,0,none⟩)] 31)).heap.size=w1.heap.size+2:=by simp
 have hnb:=(hbb.block w1.heap.size (by omega)).trans Y
 obtain⟨w2,hw2⟩:∃w2,(w1.alloc (.cells #[.slice none 0 0,.slice none 0 0] 29)).alloc (.cells #[.pointer (some ⟨g,0,none⟩),.pointer (some ⟨w1.heap.size,0,none⟩)] 31)=w2:=⟨_,rfl⟩
 rw[hw2] at hbb hcb hsb hnb ⊢
 rw[hh] at hnb hcb ⊢
 have hb2:Below w1.heap.size w1 w2:=a.trans (hbb.mono (by omega))
 have af:Tv w2 (fun b=>b=h) g bm h [] []:=⟨hN.below hb2,⟨_,_,hnb,⟨rfl,Or.inl ⟨rfl,rfl⟩⟩,⟨rfl,Or.inl ⟨rfl,rfl⟩⟩,rfl,fun b hb=>(by cases hb),fun b hb=>(by cases hb)⟩,⟨by omega,by omega⟩,fun b hb=>by omega,rfl⟩
 have a8:=tt af
 have A:=tt (Below.then hb1 hb2 hb1.size)
 have J:=tt hcb
 have ch:h < w2.heap.size:=by omega
 have bO:h+1 < w2.heap.size:=by omega
 have cb:w.heap.size≤h:=by omega
 have cj:g < h:=by omega
 have cl:bm < h:=by omega
 have f0:w2.cell? ⟨h+1,0,none⟩=some (.pointer (some ⟨g,0,none⟩)):=am hcb 0 rfl
 clear hN hb1 a Y n hbb hcb hsb hnb hw2 hb2 af hh
 go_upto_region 4 with fail
 clear f0
 have l0:=ab (w:=w2.drew) (show w2.drew.cell? ⟨h+1,0,none⟩=some (.pointer (some ⟨g,0,none⟩)) from am J.out 0 rfl)
 refine bX [(true,1),(true,2),(false,0),(false,3),(true,4),(true,5),(true,6),(true,7),(true,8)] (by kernel_rfl) (by kernel_rfl) ?_
 simp only[phW,tu,tx,Option.toList,tC,tD,Nat.reduceAdd,tE,List.drop_zero]
 repeat (first|go_big_quiet_step (fail)|quiet_step (fail)|refine wpQuiet_nil ?_)
 clear l0
 go_wp2_with fail
 refine (lN 1 w2.drew).mono ?_
 rintro e w3 ⟨rfl,hb3⟩
 have z:Below w2.heap.size w2 w3:=(Below.refl _ _).drew.trans hb3
 have q:=tt z
 have C:=tt hb3
 have bd:=z.size
 clear hb3 z
 go_wp2_with fail
 refine And.intro ⟨⟨w3,C.out⟩,rfl⟩ ?_
 go_wp2_with fail
 refine (mn (fF 1) 0 g w3 (rO (by first|assumption|exact⟨by omega,by omega⟩)) ⟨by decide,by show (0:Int) < 2;decide⟩).mono ?_
 rintro e w4 ⟨k,ct,rfl,hcl,hb4,cc,b9⟩
 have bc:=hb4.size
 have HT:Hid (Cw w4 (fun b=>b=h∨(b=k∨b=ct)) g bm h [] [] k ct (fF 1) 0 cs0):=tt (Cw.start ((a8.out.below q.out).below hb4) hcl fun b hb=>by rcases hb with hb|hb <;> (subst hb;exact⟨by omega,by omega,by omega⟩))
 have Ht:Hid (Rw w4 (fun b=>b=h∨(b=k∨b=ct)) bm (h+1) (.cells #[.pointer (some ⟨g,0,none⟩),.pointer (some ⟨h,0,none⟩)] 31 (0,0))):=tt ⟨(hb4.block _ (by omega)).trans ((q.out.block _ bO).trans J.out),by omega,by rintro (hh|hh|hh) <;> omega,by omega⟩
 have HB:Hid (Below w.heap.size w w4):=tt (Below.then (Below.then A.out q.out A.out.size) hb4 (Below.then A.out q.out A.out.size).size)
 have d:Hid (∀b,(b=h∨(b=k∨b=ct))→w.heap.size≤b):=tt fun b hb=>by rcases hb with hb|hb|hb <;> omega
 have a9:=tt (Below.then C.out hb4 C.out.size)
 clear hb4 hcl a8 J
 go_wp2_with fail
 refine And.intro ⟨⟨w4,a9.out⟩,rfl⟩ ?_
 repeat (first|go_big_quiet_step (fail)|quiet_step (fail)|refine wpQuiet_nil ?_)
 clear A q C a9 bd bc bp
 go_wp2_with fail
 obtain⟨r,hr⟩:∃r:Psp.Req,r={bI 0 cs0 5 0 0 with s:=aV [] (kR (bI 0 cs0 5 0 0))}:=⟨_,rfl⟩
 obtain⟨P_,hP_⟩:∃P_,dl (fF 1) 0 (bi [] (kR (bI 0 cs0 5 0 0))) {cs0 with issued:=cs0.issued++[r],waits:=true,at_:=cs0.now,ans:=[]} =P_:=⟨_,rfl⟩
 obtain⟨s1,K1⟩:=P_
 have X:=gR (c:=fF 1) (by first|assumption|exact⟨by decide,by decide⟩) hP_
 refine (pB (fun b=>b=h∨(b=k∨b=ct)) g bm h [] [] k ct (fF 1) 0 cs0 5 0 0 r s1 K1 w4 HT.out (by first|assumption|exact⟨by decide,by decide⟩) (by show (2:Int)≤4;decide) ⟨by decide,by decide⟩ rfl (by decide) (by decide) (by decide) (by decide) hr hP_).mono ?_
 rintro e w5 ⟨rfl,S5,o,f,l⟩
 have bb:=tt X
 have a3:=tt hr
 clear hP_ X hr
 replace Ht:=tt (Ht.out.seal l f)
 have p:=HB.out.size
 replace HB:=tt (HB.out.trans ((l).to_below (B:=w.heap.size) p (fun k hk hh=>by rcases hh with hh|hh;(have:=d.out k hh;omega);omega)))
 replace d:Hid (∀b,(S5) b→w.heap.size≤b):=tt fun b hb=>by rcases f b hb with h1|h1;exact d.out b h1;omega
 clear p
 replace HT:=tt o
 clear o f l
 go_upto_region 8 with fail
 have a:=ae w5 (.cells #[.int .i64 r.c,.int .i64 r.t,.int .i64 r.k,.int .i64 r.y,.int .i64 r.v,.int .i64 r.s] 42)
 have u:Rw (w5.alloc (.cells #[.int .i64 r.c,.int .i64 r.t,.int .i64 r.k,.int .i64 r.y,.int .i64 r.v,.int .i64 r.s] 42)) S5 bm w5.heap.size (.cells #[.int .i64 r.c,.int .i64 r.t,.int .i64 r.k,.int .i64 r.y,.int .i64 r.v,.int .i64 r.s] 42 (0,0)):=Rw.new (.cells #[.int .i64 r.c,.int .i64 r.t,.int .i64 r.k,.int .i64 r.y,.int .i64 r.v,.int .i64 r.s] 42) HT.out.lt HT.out.nt.lt.2
 have n:(w5.alloc (.cells #[.int .i64 r.c,.int .i64 r.t,.int .i64 r.k,.int .i64 r.y,.int .i64 r.v,.int .i64 r.s] 42)).heap.size=w5.heap.size+1:=by simp
 obtain⟨w6,hWa⟩:∃W_,w5.alloc (.cells #[.int .i64 r.c,.int .i64 r.t,.int .i64 r.k,.int .i64 r.y,.int .i64 r.v,.int .i64 r.s] 42)=W_:=⟨_,rfl⟩
 rw[hWa] at a u n ⊢
 have b3:=tt n
 have b5:=tt a
 have Hr:=tt u
 clear hWa u n
 replace Ht:=tt (Ht.out.below a)
 replace HT:=tt (HT.out.below a)
 replace HB:=tt (Below.then HB.out a HB.out.size)
 clear a
 have O:r.t=1:=by rw[a3.out];rfl
 obtain⟨hw1,W,G,Z,ho1,V,_,_⟩:=bb.out
 have a7:Hid (Wk2 s1 [] r [] 1 0 5 0):=tt (Wk2.start hw1 W G Z (by decide))
 have D:s1.ans.length≤0:=by rw[G];exact tJ _
 have T:K1.length≤2:=V
 have a2:=tt O
 clear hw1 W G Z ho1 V bb a3 O
 go_wp2_with fail
 go_loopw [6] (fun i wr=>∃(j:Nat) (S':Nat→Prop) (K L:List Key) (s:CS),i= .int .i64 (j:Int)∧j≤2∧K.length≤2+j∧L.length≤j∧s.ans.length≤j∧Hid (Wk2 s [] r [] 1 0 5 j)∧Hid (Cw wr S' g bm h K L k ct (fF 1) 0 s)∧Hid (∀b,S' b→w.heap.size≤b)∧Hid (Below w.heap.size w wr)∧Hid (Rw wr S' bm (h+1) (.cells #[.pointer (some ⟨g,0,none⟩),.pointer (some ⟨h,0,none⟩)] 31 (0,0)))) (fun i _=>2 - (intOf i).toNat)
 case atStart=>exact⟨0,S5,K1,[],s1,rfl,by omega,by omega,by simp,D,a7,HT,d,HB,Ht⟩
 case round=>
  clear HT d HB Ht a7 D T
  obtain⟨j,S',K,L,s,rfl,hj,co,cn,cm,HW,HT,d,HB,Ht⟩:=hrel
  by_cases hlt:j < 2
  case pos=>
   have bQ:decide ((j:Int) < 2)=true:=by simp;omega
   have F:(j:Int)≤1:=by omega
   have N:s.waits=true:=by rw[HW.out.w];exact tB F
   have P:s.issued≠[]:=by rw[HW.out.is];simp
   have cf:s.issued.length≤1:=by rw[HW.out.is];simp
   have ca:s.acc.length≤1:=by rw[HW.out.ac];split <;> simp
   have b1:=tt N
   have a4:=tt P
   clear N P
   go_wp2_with fail
   refine (Cw.ask HT.out fun U hU=>i9 U k ct g (fF 1) 0 s wr hU b1.out a4.out (by omega)).mono ?_
   rintro e w7 ⟨rfl,hbq⟩
   replace Ht:=tt (Ht.out.below hbq)
   replace HT:=tt (HT.out.below hbq)
   replace HB:=tt (Below.then HB.out hbq HB.out.size)
   clear hbq
   go_upto_region 14 with fail
   have a:=ae w7 (.cells #[.int .i64 s.last.c,.int .i64 s.last.t,.int .i64 s.last.k,.int .i64 s.last.y,.int .i64 s.last.v,.int .i64 s.last.s] 42)
   have u:Rw (w7.alloc (.cells #[.int .i64 s.last.c,.int .i64 s.last.t,.int .i64 s.last.k,.int .i64 s.last.y,.int .i64 s.last.v,.int .i64 s.last.s] 42)) S' bm w7.heap.size (.cells #[.int .i64 s.last.c,.int .i64 s.last.t,.int .i64 s.last.k,.int .i64 s.last.y,.int .i64 s.last.v,.int .i64 s.last.s] 42 (0,0)):=Rw.new (.cells #[.int .i64 s.last.c,.int .i64 s.last.t,.int .i64 s.last.k,.int .i64 s.last.y,.int .i64 s.last.v,.int .i64 s.last.s] 42) HT.out.lt HT.out.nt.lt.2
   have n:(w7.alloc (.cells #[.int .i64 s.last.c,.int .i64 s.last.t,.int .i64 s.last.k,.int .i64 s.last.y,.int .i64 s.last.v,.int .i64 s.last.s] 42)).heap.size=w7.heap.size+1:=by simp
   obtain⟨w8,hWa⟩:∃W_,w7.alloc (.cells #[.int .i64 s.last.c,.int .i64 s.last.t,.int .i64 s.last.k,.int .i64 s.last.y,.int .i64 s.last.v,.int .i64 s.last.s] 42)=W_:=⟨_,rfl⟩
   rw[hWa] at a u n ⊢
   have b2:=tt n
   have b4:=tt a
   have Hx:=tt u
   clear hWa u n
   replace Ht:=tt (Ht.out.below a)
   replace HT:=tt (HT.out.below a)
   replace HB:=tt (Below.then HB.out a HB.out.size)
   clear a
   have a0:w8.cell? ⟨h+1,0,none⟩=some (.pointer (some ⟨g,0,none⟩)):=Ht.out.cell rfl
   have al:w8.cell? ⟨h+1,1,none⟩=some (.pointer (some ⟨h,0,none⟩)):=Ht.out.cell rfl
   go_wp2_with fail
   clear a0 al
   obtain⟨bs,hbs⟩:∃bs,cX K (aR (j:Int) 0 1 5)=bs:=⟨_,rfl⟩
   obtain⟨K9,hK9⟩:∃K2,sealK K (aR (j:Int) 0 1 5)=K2:=⟨_,rfl⟩
   obtain⟨L9,hL9⟩:∃L2,sealK L (aR (j:Int) 0 1 5)=L2:=⟨_,rfl⟩
   have S:=cY K (aR (j:Int) 0 1 5)
   have R:=cY L (aR (j:Int) 0 1 5)
   refine (pA S' g bm h K L k ct (fF 1) 0 s (j:Int) 0 1 5 bs w8 HT.out ⟨by omega,by omega⟩ (by omega) (by omega) (by rw[qL (by first|assumption|exact⟨by omega,by omega⟩) (by exact⟨by omega,by omega⟩) (by exact⟨by omega,by omega⟩) (by exact⟨by omega,by omega⟩) (by omega)];exact hbs)).mono ?_
   rintro e w9 ⟨A_,cp,S9,rfl,o,f,l,aa⟩
   rw[hK9,hL9] at o
   rw[hK9] at S
   rw[hL9] at R
   have a5:=tt aa
   have I:=tt hbs
   have H:=tt hK9
   clear aa hbs hK9 hL9
   replace Ht:=tt (Ht.out.seal l f)
   have p:=HB.out.size
   replace HB:=tt (HB.out.trans ((l).to_below (B:=w.heap.size) p (fun k hk hh=>by rcases hh with hh|hh;(have:=d.out k hh;omega);omega)))
   replace d:Hid (∀b,(S9) b→w.heap.size≤b):=tt fun b hb=>by rcases f b hb with h1|h1;exact d.out b h1;omega
   clear p
   replace HT:=tt o
   clear o f l
   go_wp2_with fail
   refine (qO S9 g bm h K L9 k ct (fF 1) 0 (j:Int) 0 1 5 s _ w9 true (s.heard (fF 1) (aR (j:Int) 0 1 5)) bs K9 I.out H.out HT.out a5.out (by first|assumption|exact⟨by decide,by decide⟩) ⟨by omega,by show (j:Int)≤3 * 1;omega⟩ ⟨by decide,by show _ < (2:Int);decide⟩ (by show (2:Int)≤4;decide) ⟨by omega,by omega⟩ ⟨by omega,by omega⟩ (by omega) (fun _=>a4.out) (by omega) (by omega) (by omega) (by have h_:=HW.out.hears (id:=0) F;rw[Int.zero_add,a2.out] at h_;exact h_) (if_pos rfl).symm).mono ?_
   rintro e wa ⟨rfl,Sa,o,f,l⟩
   clear a5
   replace Ht:=tt (Ht.out.seal l f)
   have p:=HB.out.size
   replace HB:=tt (HB.out.trans ((l).to_below (B:=w.heap.size) p (fun k hk hh=>by rcases hh with hh|hh;(have:=d.out k hh;omega);omega)))
   replace d:Hid (∀b,(Sa) b→w.heap.size≤b):=tt fun b hb=>by rcases f b hb with h1|h1;exact d.out b h1;omega
   clear p
   replace HT:=tt o
   clear o f l
   have E:=HW.out.step (id:=0) (c:=fF 1) ⟨by decide,by decide⟩ rfl F
   rw[Int.zero_add,a2.out] at E
   have a1:=tt E
   have bN:=(jy (s:=s) (c:=fF 1) (m:=aR (j:Int) 0 1 5)).1
   obtain⟨s',hs'⟩:∃s',s.heard (fF 1) (aR (j:Int) 0 1 5)=s':=⟨_,rfl⟩
   rw[hs'] at HT a1 bN
   clear E hs'
   go_wp2_with fail
   refine⟨⟨j+1,Sa,K9,L9,s',by go_num,by omega,by omega,by omega,by omega,a1,HT,d,HB,Ht⟩,?_⟩
   simp[intOf];omega
  have bq:j=2:=by omega
  subst bq
  have bQ:decide (((2:Nat):Int) < 2)=false:=by decide
  have ad:s.acc=[(r,5)]:=by rw[HW.out.ac];rfl
  have a6:=tt ad
  clear ad
  go_wp2_with fail
  refine (Cw.ask HT.out fun U hU=>ew U k ct g (fF 1) 0 s wr hU (by rw[a6.out];simp)).mono ?_
  rintro e w7 ⟨A_,c_,rfl,x,hbq⟩
  rw[a6.out] at x ⊢
  obtain⟨A',c',e_,_,_,M⟩:=ao x
  obtain⟨b0,rfl,_,hb0,Q⟩:=M (by simp)
  injection e_ with e1 _ e3
  subst e1 e3
  have x6:w7.cell? ⟨b0,6,none⟩=some (.int .i64 5):=by have h_:=Q 6 _ rfl;simpa [iv] using h_
  have b6:=tt hbq
  clear x M Q hbq
  simp only[tC,tD,Nat.zero_add]
  go_wp2_with fail
  go_ret
  exact⟨rfl,Below.then HB.out b6.out HB.out.size⟩
theorem n8:(Tryz.prog.info? 61).map (·.size)=some 7:=by kernel_rfl
theorem qA (c t k y v s x:Int) (w:World):(binOp .neq 61 (.agg #[.int .i64 c,.int .i64 t,.int .i64 k,.int .i64 y,.int .i64 v,.int .i64 s,.int .i64 x]) (.agg #[.int .i64 c,.int .i64 t,.int .i64 k,.int .i64 y,.int .i64 v,.int .i64 s,.int .i64 x])).run Tryz.prog w= .ok (.bool false) w:=by
 have h1:Tryz.prog.stoodInHeld 61=false:=by kernel_rfl
 have a:Tryz.prog.stoodInHeld 42=false:=by kernel_rfl
 have b:Tryz.prog.stoodInHeld 40=false:=by kernel_rfl
 rw[run_neq_struct]
 simp[go_sem,h1,a,b]
theorem j9 {act:Act} {o:Oper} {w:World} (x y:Operand) (ty:TypeId) (ho:o.op= .binOp .neq 61 x y ty) (r:Psp.Req×Int) (hx:act.eval x= .agg (ev r).toArray) (hy:act.eval y= .agg (ev r).toArray):
 (execOp act.eval o).run Tryz.prog w= .ok (.value (.bool false)) w:=by
 have hm:Tryz.prog.eqGuardType Tryz.prog.depth 61=false:=by kernel_rfl
 have hn:=qA r.1.c r.1.t r.1.k r.1.y r.1.v r.1.s r.2 w
 unfold execOp
 simp only[ho,hx,hy,Sem.run_bind,Sem.run_pure,run_eqGuard_agg w .neq 61 x y _ _ hm,Result.andThen_ok]
 rw[show (binOp .neq 61 (.agg (ev r).toArray) (.agg (ev r).toArray)).run Tryz.prog w= .ok (.bool false) w from hn]
 rfl
theorem sA (r:Psp.Req) (w:World):(binOp .eql 42 (.agg #[.int .i64 r.c,.int .i64 r.t,.int .i64 r.k,.int .i64 r.y,.int .i64 r.v,.int .i64 r.s]) (.agg #[.int .i64 r.c,.int .i64 r.t,.int .i64 r.k,.int .i64 r.y,.int .i64 r.v,.int .i64 r.s])).run Tryz.prog w= .ok (.bool true) w:=by
 have a:Tryz.prog.stoodInHeld 42=false:=by kernel_rfl
 have b:Tryz.prog.stoodInHeld 40=false:=by kernel_rfl
 rw[run_eql_struct]
 simp[go_sem,a,b]
theorem gT {act:Act} {o:Oper} {w:World} (x y:Operand) (ty:TypeId) (ho:o.op= .binOp .eql 42 x y ty) (r:Psp.Req) (hx:act.eval x= .agg #[.int .i64 r.c,.int .i64 r.t,.int .i64 r.k,.int .i64 r.y,.int .i64 r.v,.int .i64 r.s]) (hy:act.eval y= .agg #[.int .i64 r.c,.int .i64 r.t,.int .i64 r.k,.int .i64 r.y,.int .i64 r.v,.int .i64 r.s]):
 (execOp act.eval o).run Tryz.prog w= .ok (.value (.bool true)) w:=by
 have hm:Tryz.prog.eqGuardType Tryz.prog.depth 42=false:=by kernel_rfl
 unfold execOp
 simp only[ho,hx,hy,Sem.run_bind,Sem.run_pure,run_eqGuard_agg w .eql 42 x y _ _ hm,Result.andThen_ok,sA]
theorem iO {w:World} {b o:Nat} {l:List (Psp.Req×Int)} (h:Lies w b o (l.flatMap ev)) {k:Nat} (hk:k < l.length):w.rangeAt b (o+k * 7) (ev l[k]):=by
 intro j v hv
 have hj:j < 7:=(List.getElem?_eq_some_iff.1 hv).1
 have h1:=cD (f:=ev) (k:=7) (fun _=>rfl) l k j hj
 rw[tK hk] at h1
 rw[Nat.add_assoc]
 exact h _ v (by rw[h1];exact hv)
theorem ip (x y:Value) (l:List (Psp.Req×Int)) (n:Nat) (w:World) (B C:Nat) (hn:l.length=n) (hx:Rd w B 7 x n (l.flatMap ev)) (hy:Rd w C 7 y n (l.flatMap ev)):
 Calls Tryz.prog 32 #[x,y] w fun e w'=>e= .returned (.bool true)∧∃k,w'=w.drewN k:=by
 obtain⟨m,A,c,rfl,hx1,hx2,f⟩:=hx
 obtain⟨h,A2,d,rfl,D,j,b⟩:=hy
 unfold maxLen at hx2 j
 have u:=tt f
 have t:=tt b
 have Hn:=tt hn
 clear m h f b hn
 go_enter Tryz.func32,Tryz.ntmps32
 go_wp2_with fail
 go_loopw [5] (fun i wr=>∃k:Nat,i= .int .i64 (k:Int)∧k≤n∧∃q,wr=w.drewN q) (fun i _=>n - (intOf i).toNat)
 case atStart=>exact⟨0,rfl,Nat.zero_le _,0,rfl⟩
 case round=>
  obtain⟨k,rfl,hk,q,rfl⟩:=hrel
  by_cases hlt:k < n
  ·obtain⟨b1,o1,s,hb1,h1⟩:=u.out (by omega)
   obtain⟨b2,o2,p,hb2,h2⟩:=t.out (by omega)
   subst s p
   have a:k < l.length:=by have:=Hn.out;omega
   have r1:=iO h1 a
   have r2:=iO h2 a
   obtain⟨r,hr⟩:∃r,l[k]=r:=⟨_,rfl⟩
   rw[hr] at r1 r2
   have z:Hid (∀w':World,(∃n,w'=(w.drewN q).drewN n)→w'.rangeAt b1 (o1+k * 7) (ev r)):=tt (by rintro w' ⟨n,rfl⟩;exact r1)
   have v:Hid (∀w':World,(∃n,w'=(w.drewN q).drewN n)→w'.rangeAt b2 (o2+k * 7) (ev r)):=tt (by rintro w' ⟨n,rfl⟩;exact r2)
   clear r1 r2 hr h1 h2 a
   go_wp2_with fail
   refine wp_region_quiet_lit (by kernel_rfl) (by kernel_rfl) ?_
   repeat (first|(refine aj rfl 61 (.tmp 19) rfl b1 (o1+k * 7) rfl (ev r) _ z.out Tryz.underlying61 rfl n8 ?_;intro K hK;go_simp;refine hK _ ?_;clear hK K)|(refine aj rfl 61 (.tmp 23) rfl b2 (o2+k * 7) rfl (ev r) _ v.out Tryz.underlying61 rfl n8 ?_;intro K hK;go_simp;refine hK _ ?_;clear hK K)|(refine bt rfl (.bool false) (fun w hC=>(j9 (.tmp 20) (.tmp 24) _ rfl r rfl rfl)) ?_;intro K hK;go_simp;refine hK _ ?_;clear hK K)|go_big_quiet_step (fail))
   refine wpQuiet_nil ?_
   intro _ o
   obtain⟨nq,g⟩:=o
   subst g
   go_wp2_with fail
   go_roundw
   case rel=>exact⟨k+1,by go_num,by omega,_,rfl⟩
   case measure=>simp[intOf];omega
  ·obtain rfl:k=n:=by omega
   go_wp2_with fail
   go_ret
   exact⟨rfl,_,rfl⟩
theorem ie (v n:Int) (w:World) (hv:aE v) (hn:aE n):
 Calls Tryz.prog 8 #[.int .i64 v,.int .i64 n] w fun e w'=>e= .returned (.int .i64 (Psp.bS v n))∧w=w':=kS v n w hv.1 hv.2 hn.1 hn.2
end Go.Proofs.YtipmjleohadoeaaGreat
end
