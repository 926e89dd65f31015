import Derived.Test.YtipmjleohadoeaaGreatJ17Py
import Derived.Test.YtipmjleohadoeaaGreatJ15Py
import Derived.Test.YtipmjleohadoeaaGreatJ10Py
import Derived.Test.YtipmjleohadoeaaGreatJ12Py
import Derived.Test.YtipmjleohadoeaaGreatJ8Py
import Derived.Deep.CutBlock
set_option maxRecDepth 100000
set_option maxHeartbeats 16000000
set_option linter.unusedVariables false
set_option linter.unusedSimpArgs false
namespace Go.Proofs.YtipmjleohadoeaaGreat.clientPlays
open Go.RowKit
theorem walk (f0:Int) (id:Int) (v0:Value) (l0:List Int) (v1:Value) (l1:List ActV) (v2:Value) (l2:List ActV) (w:World) (i4:aE f0) (kc:aE id) (e3:Rd w w.heap.size 1 v0 l0.length (l0.flatMap fun n=>[iv n])) (g9:∀n∈l0,aE n) (ix:Rd w w.heap.size 9 v1 l1.length (l1.flatMap gI)) (g8:∀a∈l1,kP w (fun b=>b<w.heap.size) a∧ii a) (it:Rd w w.heap.size 9 v2 l2.length (l2.flatMap gI)) (g7:∀a∈l2,kP w (fun b=>b<w.heap.size) a∧ii a):
 Calls Tryz.prog 7 #[.int .i64 f0,.int .i64 id,v0,v1,v2] w fun e w'=>e= .returned (.bool true)∧Below w.heap.size w w':=by
 have g3:=e3
 obtain⟨gs,A0,lr,rfl,ht,hs,di⟩:=g3
 obtain⟨gp,A1,lo,rfl,hr,hq,I⟩:=ix
 obtain⟨go,A2,lk,rfl,hp,hn,H⟩:=it
 obtain⟨len0,hlen0⟩:∃len,l0.length=len:=⟨_,rfl⟩
 obtain⟨z,hlen1⟩:∃len,l1.length=len:=⟨_,rfl⟩
 obtain⟨y,hlen2⟩:∃len,l2.length=len:=⟨_,rfl⟩
 have hI:=tt e3
 rw[hlen0] at ht ⊢
 rw[hlen1] at I hr ⊢
 rw[hlen2] at H hp ⊢
 unfold maxLen at hs hq hn
 have b4:=tt hlen0
 have fm:=tt hlen1
 have fl:=tt hlen2
 have jb:=tt g9
 have i8:=tt g8
 have i7:=tt g7
 have d0:=tt I
 have dO:=tt H
 clear hlen0 hlen1 hlen2 g9 g8 g7 gs gp go di I H e3
 go_enter Tryz.func7,Tryz.ntmps7
 by_cases hx1:(z:Int)>80
 case pos=>
  have a2:decide ((z:Int)>80)=true:=tB hx1
  clear hx1
  go_wp2_with fail
  refine (fZ _).mono ?_
  rintro e w' ⟨rfl,hb⟩
  have HB:=tt hb
  clear hb
  go_wp2_with fail
  go_ret
  exact⟨rfl,HB.out⟩
 have a2:decide ((z:Int)>80)=false:=tA hx1
 by_cases hx2:(y:Int)>40
 case pos=>
  have hj:decide ((y:Int)>40)=true:=tB hx2
  clear hx1 hx2
  go_wp2_with fail
  refine (fZ _).mono ?_
  rintro e w' ⟨rfl,hb⟩
  have HB:=tt hb
  clear hb
  go_wp2_with fail
  go_ret
  exact⟨rfl,HB.out⟩
 have hj:decide ((y:Int)>40)=false:=tA hx2
 by_cases dc:(len0:Int)>40
 case pos=>
  have hi:decide ((len0:Int)>40)=true:=tB dc
  clear hx1 hx2 dc
  go_wp2_with fail
  refine (fZ _).mono ?_
  rintro e w' ⟨rfl,hb⟩
  have HB:=tt hb
  clear hb
  go_wp2_with fail
  go_ret
  exact⟨rfl,HB.out⟩
 have hi:decide ((len0:Int)>40)=false:=tA dc
 go_upto_region 3 with fail
 clear a2 hj hi
 have k7:z≤80:=by omega
 have k6:y≤40:=by omega
 clear hx1 hx2 dc
 go_wp2_with fail
 rw[←b4.out]
 refine (lG f0 l0 _ w i4 jb.out hI.out).mono ?_
 rintro e w0 ⟨c,bq,rfl,hb0⟩
 rw[b4.out]
 obtain⟨hm,eo,el⟩:=nJ bq
 have cs:=tt bq
 have d4:=tt hb0
 clear bq hb0 hI
 go_upto_region 4 with fail
 have a3:=ae w0 (.cells #[.int .i64 c.f,.int .i64 c.cl,.int .i64 c.c2,.int .i64 c.c3,.int .i64 c.c4,.int .i64 c.c5,.int .i64 c.c6,.int .i64 c.c7,.int .i64 c.c8,.int .i64 c.c9,.int .i64 c.c10,.int .i64 c.c11,.int .i64 c.c12,.int .i64 c.c13,.int .i64 c.re] 37)
 have ad:=tL w0 (.cells #[.int .i64 c.f,.int .i64 c.cl,.int .i64 c.c2,.int .i64 c.c3,.int .i64 c.c4,.int .i64 c.c5,.int .i64 c.c6,.int .i64 c.c7,.int .i64 c.c8,.int .i64 c.c9,.int .i64 c.c10,.int .i64 c.c11,.int .i64 c.c12,.int .i64 c.c13,.int .i64 c.re] 37)
 have G:(w0.alloc (.cells #[.int .i64 c.f,.int .i64 c.cl,.int .i64 c.c2,.int .i64 c.c3,.int .i64 c.c4,.int .i64 c.c5,.int .i64 c.c6,.int .i64 c.c7,.int .i64 c.c8,.int .i64 c.c9,.int .i64 c.c10,.int .i64 c.c11,.int .i64 c.c12,.int .i64 c.c13,.int .i64 c.re] 37)).heap.size=w0.heap.size+1:=by simp
 obtain⟨cb,hcb_⟩:∃cb,w0.heap.size=cb:=⟨_,rfl⟩
 obtain⟨wa,hwa_⟩:∃wa,w0.alloc (.cells #[.int .i64 c.f,.int .i64 c.cl,.int .i64 c.c2,.int .i64 c.c3,.int .i64 c.c4,.int .i64 c.c5,.int .i64 c.c6,.int .i64 c.c7,.int .i64 c.c8,.int .i64 c.c9,.int .i64 c.c10,.int .i64 c.c11,.int .i64 c.c12,.int .i64 c.c13,.int .i64 c.re] 37)=wa:=⟨_,rfl⟩
 have k5:w.heap.size≤cb:=by rw[←hcb_];exact d4.out.size
 rw[hwa_] at a3 ad G ⊢
 have f6:=tt (Below.then d4.out a3 d4.out.size)
 rw[hcb_] at ad G ⊢
 have h1:=tt ad
 clear a3 ad hwa_ hcb_ d4
 go_wp2_with fail
 refine (lz wa).mono ?_
 rintro e w1 ⟨g,bm,rfl,hN,hb1,hg1,hg⟩
 have h9:=hb1.size
 have i3:=hN.lt
 go_upto_region 5 with fail
 have a3:=ae w1 (.cells #[.slice none 0 0,.slice none 0 0] 29)
 have ad:=tL w1 (.cells #[.slice none 0 0,.slice none 0 0] 29)
 have d8:(w1.alloc (.cells #[.slice none 0 0,.slice none 0 0] 29)).heap.size=w1.heap.size+1:=by simp
 obtain⟨h,hh⟩:∃h,w1.heap.size=h:=⟨_,rfl⟩
 have hbb:=ae (w1.alloc (.cells #[.slice none 0 0,.slice none 0 0] 29)) (.cells #[.pointer (some ⟨g,0,none⟩),.pointer (some ⟨w1.heap.size,0,none⟩)] 31)
 have hcb:=tL (w1.alloc (.cells #[.slice none 0 0,.slice none 0 0] 29)) (.cells #[.pointer (some ⟨g,0,none⟩),.pointer (some ⟨w1.heap.size,0,none⟩)] 31)
 rw[d8] at hcb
 have hsb:((w1.alloc (.cells #[.slice none 0 0,.slice none 0 0] 29)).alloc (.cells #[.pointer (some ⟨g,0,none⟩),.pointer (some ⟨w1.heap.size,0,none⟩)] 31)).heap.size=w1.heap.size+2:=by simp
 have hnb:=(hbb.block w1.heap.size (by omega)).trans ad
 obtain⟨w2,hw2⟩:∃w2,(w1.alloc (.cells #[.slice none 0 0,.slice none 0 0] 29)).alloc (.cells #[.pointer (some ⟨g,0,none⟩),.pointer (some ⟨w1.heap.size,0,none⟩)] 31)=w2:=⟨_,rfl⟩
 rw[hw2] at hbb hcb hsb hnb ⊢
 rw[hh] at hnb hcb ⊢
 have hb2:Below w1.heap.size w1 w2:=a3.trans (hbb.mono (by omega))
 have hx:Tv w2 (fun b=>b=h) g bm h [] []:=⟨hN.below hb2,⟨_,_,hnb,⟨rfl,Or.inl ⟨rfl,rfl⟩⟩,⟨rfl,Or.inl ⟨rfl,rfl⟩⟩,rfl,fun b hb=>(by cases hb),fun b hb=>(by cases hb)⟩,⟨by omega,by omega⟩,fun b hb=>by omega,rfl⟩
 have hQ:=tt hx
 have bQ:Below wa.heap.size wa w2:=Below.then hb1 hb2 hb1.size
 have c1:=tt (Below.then f6.out bQ f6.out.size)
 have bN:=(bQ.block cb (by omega)).trans h1.out
 have hT:Hid (w2.rangeAt cb 0 [.int .i64 c.f,.int .i64 c.cl,.int .i64 c.c2,.int .i64 c.c3,.int .i64 c.c4,.int .i64 c.c5,.int .i64 c.c6,.int .i64 c.c7,.int .i64 c.c8,.int .i64 c.c9,.int .i64 c.c10,.int .i64 c.c11,.int .i64 c.c12,.int .i64 c.c13,.int .i64 c.re]):=tt (aB bN)
 have cQ:=tt bN
 have f3:=tt hcb
 have k9:h<w2.heap.size:=by omega
 have hc:h+1<w2.heap.size:=by omega
 have k4:w.heap.size≤h:=by omega
 have hch:cb<h:=by omega
 have lc:g<h:=by omega
 have le:bm<h:=by omega
 have ih:w.heap.size≤g∧w.heap.size≤bm:=by omega
 have f0:w2.cell? ⟨h+1,0,none⟩=some (.pointer (some ⟨g,0,none⟩)):=am hcb 0 rfl
 clear hN hb1 a3 ad G d8 hbb hcb hsb hnb hw2 hb2 hx hh bQ bN f6 h1 h9 i3
 go_upto_region 7 with fail
 go_wp2_with (refine aA rfl 37 (.tmp 11) rfl cb 0 rfl [.int .i64 c.f,.int .i64 c.cl,.int .i64 c.c2,.int .i64 c.c3,.int .i64 c.c4,.int .i64 c.c5,.int .i64 c.c6,.int .i64 c.c7,.int .i64 c.c8,.int .i64 c.c9,.int .i64 c.c10,.int .i64 c.c11,.int .i64 c.c12,.int .i64 c.c13,.int .i64 c.re] _ hT.out Tryz.underlying37 rfl eO ?_)
 clear f0 hT
 by_cases bd:0≤id∧id<c.cl
 case neg=>
  have er:=tt bd
  clear bd
  refine (r9 c id g w2 cs.out er.out).mono ?_
  rintro e w4 ⟨rfl,hb4⟩
  have cn:Hid (w4.rangeAt cb 0 [.int .i64 c.f,.int .i64 c.cl,.int .i64 c.c2,.int .i64 c.c3,.int .i64 c.c4,.int .i64 c.c5,.int .i64 c.c6,.int .i64 c.c7,.int .i64 c.c8,.int .i64 c.c9,.int .i64 c.c10,.int .i64 c.c11,.int .i64 c.c12,.int .i64 c.c13,.int .i64 c.re]):=tt (aB ((hb4.block cb (by omega)).trans cQ.out))
  have ch:=tt ((hb4.block (h+1) hc).trans f3.out)
  have a5:=tt (Below.then c1.out hb4 c1.out.size)
  clear hb4
  have f1:w4.cell? ⟨h+1,1,none⟩=some (.pointer (some ⟨h,0,none⟩)):=am ch.out 1 rfl
  go_upto_region 8 with fail
  go_wp2_with (refine aA rfl 37 (.tmp 11) rfl cb 0 rfl [.int .i64 c.f,.int .i64 c.cl,.int .i64 c.c2,.int .i64 c.c3,.int .i64 c.c4,.int .i64 c.c5,.int .i64 c.c6,.int .i64 c.c7,.int .i64 c.c8,.int .i64 c.c9,.int .i64 c.c10,.int .i64 c.c11,.int .i64 c.c12,.int .i64 c.c13,.int .i64 c.re] _ cn.out Tryz.underlying37 rfl eO ?_)
  clear f1 cn
  refine (qf c id h w4 cs.out er.out).mono ?_
  rintro e w5 ⟨rfl,hb5⟩
  have a4:=tt (Below.then a5.out hb5 a5.out.size)
  clear hb5
  go_wp2_with fail
  refine (fZ _).mono ?_
  rintro e w' ⟨rfl,hb⟩
  have HB:=tt (Below.then a4.out hb a4.out.size)
  clear hb
  go_wp2_with fail
  go_ret
  exact⟨rfl,HB.out⟩
 refine (mn c id g w2 cs.out bd).mono ?_
 rintro e w4 ⟨k,ct,rfl,hcl,hb4,i1,hk⟩
 have k3:=hb4.size
 have i0:k<w4.heap.size∧ct<w4.heap.size:=⟨hcl.lt k (.inl rfl),hcl.lt ct (.inr rfl)⟩
 have h0:=tt hcl
 have eG:=tt (hQ.out.below hb4)
 have cn:Hid (w4.rangeAt cb 0 [.int .i64 c.f,.int .i64 c.cl,.int .i64 c.c2,.int .i64 c.c3,.int .i64 c.c4,.int .i64 c.c5,.int .i64 c.c6,.int .i64 c.c7,.int .i64 c.c8,.int .i64 c.c9,.int .i64 c.c10,.int .i64 c.c11,.int .i64 c.c12,.int .i64 c.c13,.int .i64 c.re]):=tt (aB ((hb4.block cb (by omega)).trans cQ.out))
 have ch:=tt ((hb4.block (h+1) hc).trans f3.out)
 have a5:=tt (Below.then c1.out hb4 c1.out.size)
 clear hb4 hcl hQ f3 c1 cQ
 have f1:w4.cell? ⟨h+1,1,none⟩=some (.pointer (some ⟨h,0,none⟩)):=am ch.out 1 rfl
 go_upto_region 8 with fail
 go_wp2_with (refine aA rfl 37 (.tmp 11) rfl cb 0 rfl [.int .i64 c.f,.int .i64 c.cl,.int .i64 c.c2,.int .i64 c.c3,.int .i64 c.c4,.int .i64 c.c5,.int .i64 c.c6,.int .i64 c.c7,.int .i64 c.c8,.int .i64 c.c9,.int .i64 c.c10,.int .i64 c.c11,.int .i64 c.c12,.int .i64 c.c13,.int .i64 c.re] _ cn.out Tryz.underlying37 rfl eO ?_)
 clear f1 cn
 refine (ot c id h w4 cs.out bd).mono ?_
 rintro e w5 ⟨rk,rfl,g1,hb5,g0⟩
 have f4:Hid (Cr w5 (fun b=>(b=k∨b=ct)∨b=h∨b=rk) g bm h [] [] k ct rk c id cs0 rc0):=tt (pD (n:=w2.heap.size) (m:=w4.heap.size) (eG.out.below hb5) (h0.out.below hb5) g1 ⟨by omega,by omega,by omega⟩ ⟨i1,hk⟩ i0 g0)
 obtain⟨S0,hS0⟩:∃S0:Nat→Prop,(fun b=>(b=k∨b=ct)∨b=h∨b=rk)=S0:=⟨_,rfl⟩
 rw[hS0] at f4
 have hS:Hid (∀b,S0 b→w.heap.size≤b):=tt fun b hb=>by rw[←hS0] at hb;rcases hb with (hb|hb)|hb|hb<;>omega
 have hx1:¬S0 (h+1):=fun hb=>by rw[←hS0] at hb;rcases hb with (hb|hb)|hb|hb<;>omega
 have cq:Hid (Pst w5 w5 S0 S0 (h+1) g bm h k ct rk c id 0):=tt ⟨⟨[],cs0,rc0,f4.out,Pl.init c id,rfl,⟨by decide,by decide,by decide,by decide,by decide,by decide⟩⟩,fun b hb=>.inl hb,Fp.refl _ _,⟨(hb5.block _ (by omega)).trans ch.out,by have:=hb5.size;omega,hx1,by omega⟩⟩
 have a4:=tt (Below.then a5.out hb5 a5.out.size)
 have eb:0≤id∧id<4:=⟨bd.1,by omega⟩
 clear g1 hb5 hS0 hx1 f4 eG h0 ch a5 cs
 go_upto_region 14 with fail
 go_loopw [81] (fun i wr=>∃(j:Nat) (S':Nat→Prop),i= .int .i64 (j:Int)∧j≤z∧Hid (Pst w5 wr S0 S' (h+1) g bm h k ct rk c id j)) (fun i _=>z - (intOf i).toNat)
 case atStart=>exact⟨0,S0,rfl,Nat.zero_le _,cq⟩
 case round=>
  clear cq
  obtain⟨j,S',rfl,i2,HP⟩:=hrel
  have HB:=tt (a4.out.trans (HP.out.fp.to_below (B:=w.heap.size) a4.out.size fun b _ hb=>by rcases hb with hb|hb;exact hS.out b hb;omega))
  have hz:∀b,S' b→w.heap.size≤b:=fun b hb=>by rcases HP.out.new b hb with h_|h_;exact hS.out b h_;have:=a4.out.size;omega
  have fr:=tt hz
  clear hz
  by_cases hlt:j<z
  case pos=>
   have a2:decide ((j:Int)<(z:Int))=true:=by simp;omega
   obtain⟨b1,o1,e8,hb1,C⟩:=d0.out (by omega)
   subst e8
   have a9:j<l1.length:=by have:=fm.out;omega
   have ac:=iW C a9
   obtain⟨D,aa⟩:=i8.out l1[j] (List.getElem_mem a9)
   obtain⟨a,ha⟩:∃a,l1[j]=a:=⟨_,rfl⟩
   rw[ha] at ac D aa
   have bO:Bk wr S' bm a.v a.b:=pO D HB.out fr.out ih.2
   have c0:=tt bO
   have fn:=tt aa
   obtain⟨K,s,r,hC,Y,hO,hZ⟩:=HP.out.ex
   have HC:=tt hC
   have L:=tt Y
   have HO:=tt hO
   have HZ:=tt hZ
   have O:¬ (S' b1∨b1=bm):=by rintro (hh|hh);(have:=fr.out b1 hh;omega);omega
   have bc:¬ (S' (h+1)∨h+1=bm):=by rintro (hh|hh);exact HP.out.row.off.2.1 hh;exact HP.out.row.off.2.2 hh
   have R:b1<wr.heap.size:=by have:=HB.out.size;omega
   have cm:Hid (∀w':World,(∃p:LaterF wr.drew (fun b=>S' b∨b=bm),w'=p.W)→w'.rangeAt b1 (o1+j*9) (gI a)):=tt (by rintro w' ⟨p,rfl⟩;exact cM ac ((p.h.block b1 R O).trans (HB.out.block b1 hb1)))
   have ck:Hid (∀w':World,(∃p:LaterF wr.drew (fun b=>S' b∨b=bm),w'=p.W)→w'.rangeAt (h+1) 0 [.pointer (some ⟨g,0,none⟩),.pointer (some ⟨h,0,none⟩)]):=tt (by rintro w' ⟨p,rfl⟩;exact aB ((p.h.block (h+1) HP.out.row.lt bc).trans HP.out.row.row))
   have k0:(0:Int)≤(j:Int):=by omega
   have k1:(j:Int)<(z:Int):=by omega
   clear ac D aa bO hC Y hO hZ O bc R ha C
   go_upto_region 16 with fail
   refine aU (fun b=>S' b∨b=bm) [(true,0),(true,1),(true,2),(true,3),(true,4),(true,5),(true,6),(false,7),(true,8)] (by kernel_rfl) (by kernel_rfl) ?_
   simp only[phS,tu,tx,Option.toList,tC,tD,Nat.reduceAdd,tE,List.drop_zero]
   repeat (first|((with_reducible refine aq ?_ ?_);(·rfl))|(with_reducible refine wpQuiet_nil ?_)|(refine aj (by simp[Region.wanted,yielded]) 31 (.tmp 12) (by rfl) (h+1) (0) (by rfl) [.pointer (some ⟨g,0,none⟩),.pointer (some ⟨h,0,none⟩)] _ ck.out Tryz.underlying31 rfl ge ?_;intro K hK;go_simp;refine hK _ ?_;clear hK K)|(refine aj (by simp[Region.wanted,yielded]) 82 (.tmp 89) (by rfl) b1 (o1+j*9) (by rfl) (gI a) _ cm.out Tryz.underlying82 rfl (lO a) ?_;intro K hK;go_simp;refine hK _ ?_;clear hK K)|go_big_quiet_step (fail)|quiet_step (fail))
   clear cm ck
   go_wp2_with fail
   have t:Below wr.heap.size wr wr.drew:=(Below.refl _ _).drew
   refine (px S' g bm h k ct rk K c id s r j a wr.drew (HC.out.below t) L.out (c0.out.below t) fn.out hm eo eb el HO.out HZ.out (by omega)).mono ?_
   clear t
   rintro e w7 ⟨rfl,Q⟩
   obtain⟨bp,S7,b2⟩:=HP.out.drew.did Q
   have f2:=tt bp
   have cp:=tt b2
   clear Q bp b2 HP HC L c0 HO HZ
   go_wp2_with fail
   refine And.intro ⟨⟨w7,f2.out⟩,rfl⟩ ?_
   repeat (first|((with_reducible refine aq ?_ ?_);(·rfl))|(with_reducible refine wpQuiet_nil ?_)|go_big_quiet_step (fail)|quiet_step (fail))
   go_wp2_with fail
   first
    |(go_roundw
      case rel=>exact⟨j+1,S7,by go_num,by omega,cp⟩
      case measure=>simp[intOf];omega)
    |(refine⟨⟨j+1,S7,by go_num,by omega,cp⟩,?_⟩
      simp[intOf];omega)
  case neg=>
   have a2:decide ((j:Int)<(z:Int))=false:=by simp;omega
   obtain⟨K,s,r,hC,Y,hO,hZ⟩:=HP.out.ex
   have HC:=tt hC
   have L:=tt Y
   have HO:=tt hO
   have HZ:=tt (show Sz 80 K s from by obtain⟨z1,z2,z3,z4,z5,z6⟩:=hZ;exact⟨by omega,by omega,by omega,by omega,by omega,by omega⟩)
   have Ht:=tt HP.out.row
   clear hC Y hO hZ HP
   obtain⟨wq,hwq⟩:∃x,x=wr:=⟨wr,rfl⟩
   subst hwq
   go_upto_region 19 with fail
   obtain⟨U,Ab,ds,Ai,ci,Ac,cc,Ao,co,Ls,ho,e5,ec,V,T,hl,g6,i5⟩:=pE HC.out L.out.acc
   have hJ:=tt ho
   have l3:=tt e5
   have e0:=tt ec
   have hM:=tt hl
   have dv:=tt g6
   have fv:=tt HC.out.nt
   have lb:g<wq.heap.size∧bm<wq.heap.size:=HC.out.nt.lt
   have d7:s.issued.length≤1000000:=by have:=HZ.out.2.1;omega
   have gb:s.ans.length≤1000000:=by have:=HZ.out.2.2.1;omega
   have a8:s.acc.length≤1000000:=by have:=HZ.out.2.2.2.1;omega
   have M:K.length≤1000000:=by have:=HZ.out.1;omega
   have hv:∀b,(Value.slice Ab r.bs.length ds).ownBlock=some b→b<wq.heap.size∧S' b:=fun b hb=>⟨ho.lt b (ho.ub b hb),e5 b (ho.ub b hb)⟩
   have d1:=tt hv
   have gg:h+1<wq.heap.size:=Ht.out.lt
   clear ho e5 ec hl g6 hv i5 HC
   go_cut [18] from 94 to 100 (fun u_ wx=>∃(ub g2 o h2:Nat) (T2:Nat→Prop) (n1:Nat),u_= .pointer (some ⟨ub,0,none⟩)∧Hid (Nt wx g2 o K)∧Hid (Ntr wx T2 h2 K)∧Hid (wx.heap[ub]? =some (.cells #[.pointer (some ⟨g2,0,none⟩),.pointer (some ⟨h2,0,none⟩)] 31 (0,0)))∧Hid (Below wq.heap.size wq wx)∧(wq.heap.size≤g2∧wq.heap.size≤o∧g2<n1∧o<n1)∧Hid (∀b,T2 b→n1≤b∧b<wx.heap.size)∧n1≤wx.heap.size∧wq.heap.size≤ub∧ub<wx.heap.size∧ub≠o∧ub≠g2∧Hid (¬T2 ub))
   case first=>
    obtain⟨W,hWd⟩:∃W,wq.drew=W:=⟨_,rfl⟩
    have hd:Below wq.heap.size wq W:=by rw[←hWd];exact (Below.refl _ _).drew
    have HD:=tt hd
    have HL:Hid (Below W.heap.size W W):=tt (Below.refl _ _)
    have l0:=ab (w:=W) (show W.cell? ⟨h+1,0,none⟩=some (.pointer (some ⟨g,0,none⟩)) from (Ht.out.below hd).cell rfl)
    have h7:=ab (w:=W) (show W.cell? ⟨h+1,1,none⟩=some (.pointer (some ⟨h,0,none⟩)) from (Ht.out.below hd).cell rfl)
    refine cJ (fun w'=>∃p:Later W,w'=p.W) [0,1,2,3,4,5,6,7] 9 (by kernel_rfl) (by kernel_rfl) ?_
    rw[hWd]
    have kq:wq.heap.size≤W.heap.size:=hd.size
    clear hWd hd
    refine aS [] [0,1,3,4] 4 rfl (by kernel_rfl) (fun _ d _ _ _ h=>by cases d<;>exact h) ⟨⟨W,HL.out⟩,rfl⟩ ?_
    simp only[phR,tu,tx,Option.toList]
    repeat (first|((with_reducible refine aq ?_ ?_);(·rfl))|(with_reducible refine wpQuiet_nil ?_)|go_big_quiet_step (fail)|quiet_step (fail))
    clear l0 h7
    refine cK 2 7 (by kernel_rfl) ?_ ?_
    ·simp only[tu,tx,Option.toList]
     go_wp2_with fail
     refine (kC g bm K W (fv.out.below (Below.then HD.out HL.out HD.out.size)) M).mono ?_
     rintro e w1 ⟨g2,o,rfl,al,hbq,hg,hu⟩
     have hf:=al.lt
     have q:=tt al
     have j3:=hbq.size
     have e1:=HL.out.size
     replace HL:=tt (Below.then HL.out hbq HL.out.size)
     clear al hbq
     go_wp2_with fail
     first|refine And.intro (fun _=>⟨⟨_,HL.out⟩,rfl⟩) ?_|refine And.intro ⟨⟨_,HL.out⟩,rfl⟩ ?_
     refine cK 5 7 (by kernel_rfl) ?_ ?_
     ·simp only[tu,tx,Option.toList]
      go_wp2_with fail
      refine (jW T h K w1 (dv.out.below (Below.then HD.out HL.out HD.out.size)) M).mono ?_
      rintro e w2 ⟨h2,T2,rfl,E,X,hbq⟩
      have F:=tt E
      have J:=tt X
      have f8:=hbq.size
      have a7:=HL.out.size
      replace q:=tt (q.out.below hbq)
      replace HL:=tt (Below.then HL.out hbq HL.out.size)
      clear E X hbq
      go_wp2_with fail
      first|refine And.intro (fun _=>⟨⟨_,HL.out⟩,rfl⟩) ?_|refine And.intro ⟨⟨_,HL.out⟩,rfl⟩ ?_
      refine ez [0,1,3,4,2,5] 6 (by kernel_rfl) (fun _ d _ _ _ h=>by cases d<;>exact h) ⟨⟨w2,HL.out⟩,rfl⟩ ?_
      simp only[tu,tx,Option.toList]
      repeat (first|((with_reducible refine aq ?_ ?_);(·rfl))|(with_reducible refine wpQuiet_nil ?_)|go_big_quiet_step (fail)|quiet_step (fail))
      refine ap 7 (by kernel_rfl) ?_
      simp only[tu,tx,Option.toList]
      go_wp2_with fail
      have a6:=HL.out.size
      have hbq:=ae w2 (.cells #[.pointer none,.pointer none] 31)
      have A:=tL w2 (.cells #[.pointer none,.pointer none] 31)
      have G:(w2.alloc (.cells #[.pointer none,.pointer none] 31)).heap.size=w2.heap.size+1:=by simp
      obtain⟨w3,hWa⟩:∃W_,w2.alloc (.cells #[.pointer none,.pointer none] 31)=W_:=⟨_,rfl⟩
      rw[hWa] at hbq A G ⊢
      have u:=tt A
      replace q:=tt (q.out.below hbq)
      replace F:=tt (F.out.below hbq)
      replace HL:=tt (Below.then HL.out hbq HL.out.size)
      clear hWa A hbq
      first|refine And.intro (fun _=>⟨⟨_,HL.out⟩,rfl⟩) ?_|refine And.intro ⟨⟨_,HL.out⟩,rfl⟩ ?_
      refine ap 8 (by kernel_rfl) ?_
      simp only[tu,tx,Option.toList]
      have b3:=tt (au u.out)
      obtain⟨s1,s2⟩:=aQ u.out [.pointer (some ⟨g2,0,none⟩),.pointer (some ⟨h2,0,none⟩)] rfl
      have l:Fp (fun b=>b=w2.heap.size) w3 (w3.setCells (w2.heap.size) 0 [.pointer (some ⟨g2,0,none⟩),.pointer (some ⟨h2,0,none⟩)]):=(Fp.refl (fun b=>b=w2.heap.size) w3).setCells (Or.inl rfl) _
      have Z:=tt s1
      have b5:=tt l
      clear s1 s2 l
      go_wp2_with (first|(refine wpList_store_mid rfl 31 (.tmp 18) (.tmp 100) rfl (w2.heap.size) 0 #[.pointer (some ⟨g2,0,none⟩),.pointer (some ⟨h2,0,none⟩)] rfl rfl b3.out ge (by simp[Value.oneCell']) ?_))
      refine And.intro (by kernel_rfl) ?_
      go_wp2_with fail
      go_meet
      have l:=b5.out
      have s1:=Z.out
      have d5:=HL.out.size
      have S:=J.out
      have hB:=q.out.lt
      obtain⟨wz,hwz⟩:∃wz,w3.setCells (w2.heap.size) 0 [.pointer (some ⟨g2,0,none⟩),.pointer (some ⟨h2,0,none⟩)]=wz:=⟨_,rfl⟩
      rw[hwz] at s1 l ⊢
      have d6:=l.size
      have P:¬T2 (w2.heap.size):=fun hh=>by have:=S _ hh;omega
      exact⟨_,g2,o,h2,T2,w1.heap.size,rfl,tt (q.out.fp l (by omega) (by omega)),tt (F.out.fp l fun b hb he=>P (he▸hb)),tt s1,tt ((Below.then HD.out HL.out HD.out.size).trans (l.to_below (B:=wq.heap.size) (by omega) fun b _ hb=>by omega)),⟨by omega,by omega,by omega,by omega⟩,tt (fun b hb=>by have:=S b hb;omega),by omega,by omega,by omega,by omega,by omega,tt P⟩
     ·simp only[tu,tx,Option.toList]
      go_wp2_with fail
      have a7:=HL.out.size
      have hbq:=ae w1 (.cells #[.pointer none,.pointer none] 31)
      have A:=tL w1 (.cells #[.pointer none,.pointer none] 31)
      have G:(w1.alloc (.cells #[.pointer none,.pointer none] 31)).heap.size=w1.heap.size+1:=by simp
      obtain⟨w2,hWa⟩:∃W_,w1.alloc (.cells #[.pointer none,.pointer none] 31)=W_:=⟨_,rfl⟩
      rw[hWa] at hbq A G ⊢
      have u:=tt A
      replace q:=tt (q.out.below hbq)
      replace HL:=tt (Below.then HL.out hbq HL.out.size)
      clear hWa A hbq
      first|refine And.intro (fun _=>⟨⟨_,HL.out⟩,rfl⟩) ?_|refine And.intro ⟨⟨_,HL.out⟩,rfl⟩ ?_
      refine ap 5 (by kernel_rfl) ?_
      simp only[tu,tx,Option.toList]
      go_wp2_with fail
      refine (jW T h K w2 (dv.out.below (Below.then HD.out HL.out HD.out.size)) M).mono ?_
      rintro e w3 ⟨h2,T2,rfl,E,X,hbq⟩
      have F:=tt E
      have J:=tt X
      have f7:=hbq.size
      have a6:=HL.out.size
      replace q:=tt (q.out.below hbq)
      have N:=u.out;replace u:=tt ((hbq.block _ (by omega)).trans N);clear N
      replace HL:=tt (Below.then HL.out hbq HL.out.size)
      clear E X hbq
      go_wp2_with fail
      first|refine And.intro (fun _=>⟨⟨_,HL.out⟩,rfl⟩) ?_|refine And.intro ⟨⟨_,HL.out⟩,rfl⟩ ?_
      refine ez [0,1,3,4,2,7,5] 6 (by kernel_rfl) (fun _ d _ _ _ h=>by cases d<;>exact h) ⟨⟨w3,HL.out⟩,rfl⟩ ?_
      simp only[tu,tx,Option.toList]
      repeat (first|((with_reducible refine aq ?_ ?_);(·rfl))|(with_reducible refine wpQuiet_nil ?_)|go_big_quiet_step (fail)|quiet_step (fail))
      refine ap 8 (by kernel_rfl) ?_
      simp only[tu,tx,Option.toList]
      have b3:=tt (au u.out)
      obtain⟨s1,s2⟩:=aQ u.out [.pointer (some ⟨g2,0,none⟩),.pointer (some ⟨h2,0,none⟩)] rfl
      have l:Fp (fun b=>b=w1.heap.size) w3 (w3.setCells (w1.heap.size) 0 [.pointer (some ⟨g2,0,none⟩),.pointer (some ⟨h2,0,none⟩)]):=(Fp.refl (fun b=>b=w1.heap.size) w3).setCells (Or.inl rfl) _
      have Z:=tt s1
      have b5:=tt l
      clear s1 s2 l
      go_wp2_with (first|(refine wpList_store_mid rfl 31 (.tmp 18) (.tmp 100) rfl (w1.heap.size) 0 #[.pointer (some ⟨g2,0,none⟩),.pointer (some ⟨h2,0,none⟩)] rfl rfl b3.out ge (by simp[Value.oneCell']) ?_))
      refine And.intro (by kernel_rfl) ?_
      go_wp2_with fail
      go_meet
      have l:=b5.out
      have s1:=Z.out
      have d5:=HL.out.size
      have S:=J.out
      have hB:=q.out.lt
      obtain⟨wz,hwz⟩:∃wz,w3.setCells (w1.heap.size) 0 [.pointer (some ⟨g2,0,none⟩),.pointer (some ⟨h2,0,none⟩)]=wz:=⟨_,rfl⟩
      rw[hwz] at s1 l ⊢
      have d6:=l.size
      have P:¬T2 (w1.heap.size):=fun hh=>by have:=S _ hh;omega
      exact⟨_,g2,o,h2,T2,w2.heap.size,rfl,tt (q.out.fp l (by omega) (by omega)),tt (F.out.fp l fun b hb he=>P (he▸hb)),tt s1,tt ((Below.then HD.out HL.out HD.out.size).trans (l.to_below (B:=wq.heap.size) (by omega) fun b _ hb=>by omega)),⟨by omega,by omega,by omega,by omega⟩,tt (fun b hb=>by have:=S b hb;omega),by omega,by omega,by omega,by omega,by omega,tt P⟩
    ·simp only[tu,tx,Option.toList]
     go_wp2_with fail
     have e1:=HL.out.size
     have hbq:=ae W (.cells #[.pointer none,.pointer none] 31)
     have A:=tL W (.cells #[.pointer none,.pointer none] 31)
     have G:(W.alloc (.cells #[.pointer none,.pointer none] 31)).heap.size=W.heap.size+1:=by simp
     obtain⟨w1,hWa⟩:∃W_,W.alloc (.cells #[.pointer none,.pointer none] 31)=W_:=⟨_,rfl⟩
     rw[hWa] at hbq A G ⊢
     have u:=tt A
     replace HL:=tt (Below.then HL.out hbq HL.out.size)
     clear hWa A hbq
     first|refine And.intro (fun _=>⟨⟨_,HL.out⟩,rfl⟩) ?_|refine And.intro ⟨⟨_,HL.out⟩,rfl⟩ ?_
     refine ap 2 (by kernel_rfl) ?_
     simp only[tu,tx,Option.toList]
     go_wp2_with fail
     refine (kC g bm K w1 (fv.out.below (Below.then HD.out HL.out HD.out.size)) M).mono ?_
     rintro e w2 ⟨g2,o,rfl,al,hbq,hg,hu⟩
     have hf:=al.lt
     have q:=tt al
     have f8:=hbq.size
     have a7:=HL.out.size
     have N:=u.out;replace u:=tt ((hbq.block _ (by omega)).trans N);clear N
     replace HL:=tt (Below.then HL.out hbq HL.out.size)
     clear al hbq
     go_wp2_with fail
     first|refine And.intro (fun _=>⟨⟨_,HL.out⟩,rfl⟩) ?_|refine And.intro ⟨⟨_,HL.out⟩,rfl⟩ ?_
     refine ap 5 (by kernel_rfl) ?_
     simp only[tu,tx,Option.toList]
     go_wp2_with fail
     refine (jW T h K w2 (dv.out.below (Below.then HD.out HL.out HD.out.size)) M).mono ?_
     rintro e w3 ⟨h2,T2,rfl,E,X,hbq⟩
     have F:=tt E
     have J:=tt X
     have f7:=hbq.size
     have a6:=HL.out.size
     replace q:=tt (q.out.below hbq)
     have N:=u.out;replace u:=tt ((hbq.block _ (by omega)).trans N);clear N
     replace HL:=tt (Below.then HL.out hbq HL.out.size)
     clear E X hbq
     go_wp2_with fail
     first|refine And.intro (fun _=>⟨⟨_,HL.out⟩,rfl⟩) ?_|refine And.intro ⟨⟨_,HL.out⟩,rfl⟩ ?_
     refine ez [0,1,3,4,7,2,5] 6 (by kernel_rfl) (fun _ d _ _ _ h=>by cases d<;>exact h) ⟨⟨w3,HL.out⟩,rfl⟩ ?_
     simp only[tu,tx,Option.toList]
     repeat (first|((with_reducible refine aq ?_ ?_);(·rfl))|(with_reducible refine wpQuiet_nil ?_)|go_big_quiet_step (fail)|quiet_step (fail))
     refine ap 8 (by kernel_rfl) ?_
     simp only[tu,tx,Option.toList]
     have b3:=tt (au u.out)
     obtain⟨s1,s2⟩:=aQ u.out [.pointer (some ⟨g2,0,none⟩),.pointer (some ⟨h2,0,none⟩)] rfl
     have l:Fp (fun b=>b=W.heap.size) w3 (w3.setCells (W.heap.size) 0 [.pointer (some ⟨g2,0,none⟩),.pointer (some ⟨h2,0,none⟩)]):=(Fp.refl (fun b=>b=W.heap.size) w3).setCells (Or.inl rfl) _
     have Z:=tt s1
     have b5:=tt l
     clear s1 s2 l
     go_wp2_with (first|(refine wpList_store_mid rfl 31 (.tmp 18) (.tmp 100) rfl (W.heap.size) 0 #[.pointer (some ⟨g2,0,none⟩),.pointer (some ⟨h2,0,none⟩)] rfl rfl b3.out ge (by simp[Value.oneCell']) ?_))
     refine And.intro (by kernel_rfl) ?_
     go_wp2_with fail
     go_meet
     have l:=b5.out
     have s1:=Z.out
     have d5:=HL.out.size
     have S:=J.out
     have hB:=q.out.lt
     obtain⟨wz,hwz⟩:∃wz,w3.setCells (W.heap.size) 0 [.pointer (some ⟨g2,0,none⟩),.pointer (some ⟨h2,0,none⟩)]=wz:=⟨_,rfl⟩
     rw[hwz] at s1 l ⊢
     have d6:=l.size
     have P:¬T2 (W.heap.size):=fun hh=>by have:=S _ hh;omega
     exact⟨_,g2,o,h2,T2,w2.heap.size,rfl,tt (q.out.fp l (by omega) (by omega)),tt (F.out.fp l fun b hb he=>P (he▸hb)),tt s1,tt ((Below.then HD.out HL.out HD.out.size).trans (l.to_below (B:=wq.heap.size) (by omega) fun b _ hb=>by omega)),⟨by omega,by omega,by omega,by omega⟩,tt (fun b hb=>by have:=S b hb;omega),by omega,by omega,by omega,by omega,by omega,tt P⟩
   case rest=>
    obtain⟨ub,g2,o,h2,T2,n1,rfl,q,F,u,d3,hn2,J,k8,j5,gd,gc,j4,j0⟩:=hcut
    have h8:=d3.out.size
    have hF:wc.cell? ⟨ub,0,none⟩=some (.pointer (some ⟨g2,0,none⟩)):=am u.out 0 rfl
    go_upto_region 20 with fail
    go_wp2_with fail
    clear hF
    refine (qR V k ct g g2 c id s wc (hM.out.below d3.out) HO.out d7 gb a8).mono ?_
    rintro e wd ⟨k2,dr,V2,rfl,en,hw,dj⟩
    have b6:=tt en
    have fq:=tt hw
    have d2:=tt dj
    have cj:=tt ((dj.block ub gd).trans u.out)
    have kk:=dj.size
    clear en hw dj u
    have hE:wd.cell? ⟨ub,1,none⟩=some (.pointer (some ⟨h2,0,none⟩)):=am cj.out 1 rfl
    go_upto_region 23 with fail
    go_wp2_with fail
    clear hE
    have eq:Below wq.heap.size wq wd:=Below.then d3.out d2.out h8
    have a1:=tt eq
    clear eq
    refine (oE U rk h h2 c id r _ _ _ _ Ls wd (hJ.out.below a1.out) (by rw[L.out.out];exact HO.out) (by rw[L.out.iss];exact d7) (by rw[L.out.acc];exact a8)).mono ?_
    rintro e we ⟨da,U2,rfl,E,e6,af⟩
    have ki:=af.size
    have e7:=pF (n0:=wq.heap.size) (n1:=n1) (n2:=wc.heap.size) (n3:=wd.heap.size) (((q.out.below d2.out)).below af) ((F.out.below d2.out).below af) (b6.out.below af) E ⟨hn2.1,hn2.2.1,hn2.2.2.1,hn2.2.2.2⟩ J.out (fun b hb=>⟨fq.out b hb,b6.out.lt b hb⟩) (fun b hb=>by
     rcases e6 b hb with h_|h_
     ·exact .inl h_
     ·exact .inr (d1.out b h_).1) ⟨by omega,by omega,by omega,by omega⟩
    have hA:∀b,(V2 b∨T2 b∨U2 b)→(wq.heap.size≤b∨(Value.slice Ab r.bs.length ds).ownBlock=some b)∧b≠ub:=fun b hb=>by
     rcases hb with hb|hb|hb
     ·have:=fq.out b hb;exact⟨.inl (by omega),by omega⟩
     ·have:=J.out b hb;exact⟨.inl (by omega),fun he=>j0.out (he▸hb)⟩
     ·rcases e6 b hb with h_|h_
      ·exact⟨.inl (by omega),by omega⟩
      ·have:=(d1.out b h_).1;exact⟨.inr h_,by omega⟩
    obtain⟨S1,hS1e⟩:∃S1:Nat→Prop,(fun b=>V2 b∨T2 b∨U2 b)=S1:=⟨_,rfl⟩
    have a0:∀b,S1 b→(wq.heap.size≤b∨(Value.slice Ab r.bs.length ds).ownBlock=some b)∧b≠ub:=fun b hb=>hA b (by rw[←hS1e] at hb;exact hb)
    rw[hS1e] at e7
    have Z:=tt a0
    have cq:Hid (Pst we we S1 S1 ub g2 o h2 k2 dr da c id 80):=tt ⟨⟨K,s,r,e7,L.out,HO.out,HZ.out⟩,fun b hb=>.inl hb,Fp.refl _ _,⟨(af.block ub (by omega)).trans cj.out,by omega,fun hb=>(a0 ub hb).2 rfl,gc⟩⟩
    have f5:=tt (Below.then a1.out af a1.out.size)
    have cZ:=tt (Below.then HB.out f5.out HB.out.size)
    have kf:=HB.out.size
    have eS:Hid (∀b,S1 b→w.heap.size≤b):=tt fun b hb=>by
     rcases (a0 b hb).1 with h_|h_
     ·omega
     ·exact fr.out b (d1.out b h_).2
    clear hA a0 hS1e e7 E e6 af q F J b6 fq cj hM dv fv hJ
    go_upto_region 25 with fail
    go_loopw [113] (fun i wr=>∃(j:Nat) (S2:Nat→Prop),i= .int .i64 (j:Int)∧j≤y∧Hid (Pst we wr S1 S2 ub g2 o h2 k2 dr da c id (80+j))) (fun i _=>y - (intOf i).toNat)
    case atStart=>exact⟨0,S1,rfl,Nat.zero_le _,cq⟩
    case round=>
     clear cq
     obtain⟨j,S2,rfl,i2,HP⟩:=hrel
     have cW:=tt (cZ.out.trans (HP.out.fp.to_below (B:=w.heap.size) cZ.out.size fun b _ hb=>by rcases hb with hb|hb;exact eS.out b hb;omega))
     have hy:∀b,S2 b→w.heap.size≤b:=fun b hb=>by rcases HP.out.new b hb with h_|h_;exact eS.out b h_;have:=cZ.out.size;omega
     have hR:=tt hy
     clear hy
     by_cases hlt:j<y
     case pos=>
      have a2:decide ((j:Int)<(y:Int))=true:=by simp;omega
      obtain⟨b1,o1,e8,hb1,C⟩:=dO.out (by omega)
      subst e8
      have a9:j<l2.length:=by have:=fl.out;omega
      have ac:=iW C a9
      obtain⟨D,aa⟩:=i7.out l2[j] (List.getElem_mem a9)
      obtain⟨a,ha⟩:∃a,l2[j]=a:=⟨_,rfl⟩
      rw[ha] at ac D aa
      have bO:Bk wr S2 o a.v a.b:=pO D cW.out hR.out (by omega)
      have c0:=tt bO
      have fn:=tt aa
      obtain⟨K2,s2,r2,hC,Y,hO,hZ⟩:=HP.out.ex
      have h3:=tt hC
      have eX:=tt Y
      have hV:=tt hO
      have hP:=tt hZ
      have O:¬ (S2 b1∨b1=o):=by rintro (hh|hh);(have:=hR.out b1 hh;omega);omega
      have bc:¬ (S2 ub∨ub=o):=by rintro (hh|hh);exact HP.out.row.off.2.1 hh;exact HP.out.row.off.2.2 hh
      have R:b1<wr.heap.size:=by have:=cW.out.size;omega
      have cm:Hid (∀w':World,(∃p:LaterF wr.drew (fun b=>S2 b∨b=o),w'=p.W)→w'.rangeAt b1 (o1+j*9) (gI a)):=tt (by rintro w' ⟨p,rfl⟩;exact cM ac ((p.h.block b1 R O).trans (cW.out.block b1 hb1)))
      have ck:Hid (∀w':World,(∃p:LaterF wr.drew (fun b=>S2 b∨b=o),w'=p.W)→w'.rangeAt ub 0 [.pointer (some ⟨g2,0,none⟩),.pointer (some ⟨h2,0,none⟩)]):=tt (by rintro w' ⟨p,rfl⟩;exact aB ((p.h.block ub HP.out.row.lt bc).trans HP.out.row.row))
      have k0:(0:Int)≤(j:Int):=by omega
      have k1:(j:Int)<(y:Int):=by omega
      clear ac D aa bO hC Y hO hZ O bc R ha C
      go_upto_region 27 with fail
      refine aU (fun b=>S2 b∨b=o) [(true,0),(true,1),(true,2),(true,3),(true,4),(true,5),(true,6),(false,7),(true,8)] (by kernel_rfl) (by kernel_rfl) ?_
      simp only[phS,tu,tx,Option.toList,tC,tD,Nat.reduceAdd,tE,List.drop_zero]
      repeat (first|((with_reducible refine aq ?_ ?_);(·rfl))|(with_reducible refine wpQuiet_nil ?_)|(refine aj (by simp[Region.wanted,yielded]) 31 (.tmp 18) (by rfl) ub (0) (by rfl) [.pointer (some ⟨g2,0,none⟩),.pointer (some ⟨h2,0,none⟩)] _ ck.out Tryz.underlying31 rfl ge ?_;intro K hK;go_simp;refine hK _ ?_;clear hK K)|(refine aj (by simp[Region.wanted,yielded]) 82 (.tmp 121) (by rfl) b1 (o1+j*9) (by rfl) (gI a) _ cm.out Tryz.underlying82 rfl (lO a) ?_;intro K hK;go_simp;refine hK _ ?_;clear hK K)|go_big_quiet_step (fail)|quiet_step (fail))
      clear cm ck
      go_wp2_with fail
      have t:Below wr.heap.size wr wr.drew:=(Below.refl _ _).drew
      refine (px S2 g2 o h2 k2 dr da K2 c id s2 r2 (80+j) a wr.drew (h3.out.below t) eX.out (c0.out.below t) fn.out hm eo eb el hV.out hP.out (by omega)).mono ?_
      clear t
      rintro e w7 ⟨rfl,Q⟩
      obtain⟨bp,S7,b2⟩:=HP.out.drew.did Q
      have f2:=tt bp
      have cp:=tt (show Pst we w7 S1 S7 ub g2 o h2 k2 dr da c id (80+(j+1)) from b2)
      clear Q bp b2 HP h3 eX c0 hV hP
      go_wp2_with fail
      refine And.intro ⟨⟨w7,f2.out⟩,rfl⟩ ?_
      repeat (first|((with_reducible refine aq ?_ ?_);(·rfl))|(with_reducible refine wpQuiet_nil ?_)|go_big_quiet_step (fail)|quiet_step (fail))
      go_wp2_with fail
      first
       |(go_roundw
         case rel=>exact⟨j+1,S7,by go_num,by omega,cp⟩
         case measure=>simp[intOf];omega)
       |(refine⟨⟨j+1,S7,by go_num,by omega,cp⟩,?_⟩
         simp[intOf];omega)
     case neg=>
      have a2:decide ((j:Int)<(y:Int))=false:=by simp;omega
      have e4:Fp (fun b=>S1 b∨b=o) wq wr:=(Fp.of_below f5.out _).trans HP.out.fp fun b hb=>.inl hb
      have bb:∀b,b<wq.heap.size→(S1 b∨b=o)→(Value.slice Ab r.bs.length ds).ownBlock=some b:=fun b kb hb=>by
       rcases hb with hb|hb
       ·rcases (Z.out b hb).1 with h_|h_
        ·omega
        ·exact h_
       ·omega
      obtain⟨V3,h5,hG,j2,i6,em,hD,g5,ep,b0⟩:=e0.out.fp e4 bb
      have ht3:wr.heap[h+1]? =some (.cells #[.pointer (some ⟨g,0,none⟩),.pointer (some ⟨h,0,none⟩)] 31 (0,0)):=(e4.block (h+1) gg fun hh=>Ht.out.off.2.1 (d1.out _ (bb _ gg hh)).2).trans Ht.out.row
      have es:=tt em
      have hW:=tt hD
      have cf:=tt b0
      have fi:=tt g5
      have b9:=tt ep
      have e9:=tt ht3
      clear e4 bb em hD g5 ep b0 ht3 HP e0 Z f5 a1 d3 d2 L HO HZ
      go_upto_region 30 with fail
      refine bX [(true,0),(true,2),(true,3),(true,4),(true,5),(false,1),(false,6),(true,7),(true,8),(true,9),(true,11),(true,12),(true,13),(true,14),(true,15),(true,16),(false,10),(true,17),(true,18),(true,19),(false,20),(true,21),(true,22)] (by kernel_rfl) (by kernel_rfl) ?_
      simp only[phW,tu,tx,Option.toList,tC,tD,Nat.reduceAdd,tE,List.drop_zero]
      have t:Below wr.heap.size wr wr.drew:=(Below.refl _ _).drew
      obtain⟨W,hWd⟩:∃W_,wr.drew=W_:=⟨_,rfl⟩
      rw[hWd] at t ⊢
      clear hWd
      have h6:=ab (w:=W) (show W.cell? ⟨rk,54,none⟩=some (.slice h5 s.acc.length hG) from (t.cell (p:=⟨rk,54,none⟩) (World.block_lt_of_cell? wr ⟨rk,54,none⟩ b9.out)).trans b9.out)
      have lh:=ab (w:=W) (show W.cell? ⟨h,0,none⟩=some (.slice j2 K.length i6) from (t.cell (p:=⟨h,0,none⟩) (World.block_lt_of_cell? wr ⟨h,0,none⟩ fi.out)).trans fi.out)
      have e2:=(t.block (h+1) (tz e9.out).1).trans e9.out
      have t0:=ab (w:=W) (show W.cell? ⟨h+1,0,none⟩=some (.pointer (some ⟨g,0,none⟩)) from am e2 0 rfl)
      have t1:=ab (w:=W) (show W.cell? ⟨h+1,1,none⟩=some (.pointer (some ⟨h,0,none⟩)) from am e2 1 rfl)
      have h4:=tt (Below.then cW.out t cW.out.size)
      have hL:=tt (es.out.below t)
      have j1:=tt (hW.out.below t)
      have ca:=tt (show Rd W W.heap.size 7 (.slice h5 s.acc.length hG) s.acc.length (s.acc.flatMap ev) from (cf.out.below t).more t.size)
      clear e2 t es hW cf fi b9 e9
      repeat (first|((with_reducible refine aq ?_ ?_);(·rfl))|(with_reducible refine wpQuiet_nil ?_)|go_big_quiet_step (fail)|quiet_step (fail))
      clear h6
      go_wp2_with fail
      refine (ew V3 k ct g c id s W hL.out a8).mono ?_
      rintro e wA ⟨AA,cA,rfl,d9,hbq⟩
      have hU:=tt (Rd.of_own d9)
      have cz:=tt hbq
      clear d9 hbq
      go_wp2_with fail
      refine And.intro ⟨⟨wA,cz.out⟩,rfl⟩ ?_
      go_wp2_with fail
      refine (ip _ _ s.acc _ wA _ _ rfl hU.out (ca.out.below cz.out)).mono ?_
      rintro e wB ⟨rfl,qB,g4⟩
      have hbq:Below wA.heap.size wA wB:=by rw[g4];exact ak (Below.refl _ _) qB
      have cy:=tt (Below.then cz.out hbq cz.out.size)
      clear hU cz ca g4 hbq
      go_wp2_with fail
      refine And.intro ⟨⟨wB,cy.out⟩,rfl⟩ ?_
      repeat (first|((with_reducible refine aq ?_ ?_);(·rfl))|(with_reducible refine wpQuiet_nil ?_)|go_big_quiet_step (fail)|quiet_step (fail))
      clear t0 t1 lh
      go_wp2_with fail
      refine (lA g bm K wB (j1.out.below cy.out)).mono ?_
      rintro e w_ ⟨rfl,rfl⟩
      go_wp2_with fail
      refine And.intro ⟨⟨_,cy.out⟩,rfl⟩ ?_
      repeat (first|((with_reducible refine aq ?_ ?_);(·rfl))|(with_reducible refine wpQuiet_nil ?_)|go_big_quiet_step (fail)|quiet_step (fail))
      go_wp2_with fail
      refine (fZ _).mono ?_
      rintro e wC ⟨rfl,hbq⟩
      have hY:=tt (Below.then cy.out hbq cy.out.size)
      clear hbq
      go_wp2_with fail
      refine And.intro ⟨⟨wC,hY.out⟩,rfl⟩ ?_
      repeat (first|((with_reducible refine aq ?_ ?_);(·rfl))|(with_reducible refine wpQuiet_nil ?_)|go_big_quiet_step (fail)|quiet_step (fail))
      go_wp2_with fail
      go_ret
      exact⟨rfl,Below.then h4.out hY.out h4.out.size⟩
end Go.Proofs.YtipmjleohadoeaaGreat.clientPlays
