import Derived.Test.YtipmjleohadoeaaGreatJ8Py
import Derived.Test.YtipmjleohadoeaaGreatJ1Py
import Derived.Test.YtipmjleohadoeaaGreatGgPy
import Derived.Test.YtipmjleohadoeaaGreatJ5Py
set_option maxRecDepth 100000
set_option maxHeartbeats 16000000
set_option linter.unusedVariables false
set_option linter.unusedSimpArgs false
section
namespace Go.Proofs.YtipmjleohadoeaaGreat
open Go.RowKit
def av (a:Int×Int):List Value:=[iv a.1,iv a.2]
def ev (a:Psp.Req×Int):List Value:=[iv a.1.c,iv a.1.t,iv a.1.k,iv a.1.y,iv a.1.v,iv a.1.s,iv a.2]
structure SendV where
 t:Int
 b:List UInt8
 v:Value
def sv (x:SendV):List Value:=[iv x.t,x.v]
def SendV.s (x:SendV):Int×List UInt8:=(x.t,x.b)
theorem bC {W:World} {base base' k k' n n':Nat} {e e':TypeId} {v v':Value} {xs xs':List Value} (h:W.ownsRow base e k v n xs) (h':W.ownsRow base' e' k' v' n' xs') (a:e≠e'):∀b,v.ownBlock=some b→v'.ownBlock≠some b:=fun b hb he=>by
 rcases ng h h' a with h1|h1
 ·rw[h1] at hb;cases hb
 ·exact h1 (hb.trans he.symm)
theorem aC {W:World} {base k n j:Nat} {e T:TypeId} {v:Value} {xs:List Value} {cs:Array Value} {o:Nat×Nat} (h:W.ownsRow base e k v n xs) (h':W.heap[j]? =some (.cells cs T o)) (a:e≠T):∀b,v.ownBlock=some b→b≠j:=fun b hb he=>by
 rcases h.2 with⟨rfl,_⟩|⟨g,cap,c,rfl,_,hg,_⟩
 ·simp[Value.ownBlock] at hb
 ·have e1:g=b:=by simpa [Value.ownBlock] using hb
  subst e1
  rw[he,h'] at hg
  injection hg with hg
  injection hg with _ ht
  exact a ht.symm
theorem ol {W:World} {i j:Nat} {T T':TypeId} {cs cs':Array Value} {o o':Nat×Nat} (h:W.heap[i]? =some (.cells cs T o)) (h':W.heap[j]? =some (.cells cs' T' o')) (a:T≠T'):i≠j:=fun he=>by
 rw[he,h'] at h
 injection h with h
 injection h with _ ht
 exact a ht.symm
structure Outs (W:World) (U:Nat→Prop) (v:Value) (L:List SendV):Prop where
 own:W.ownsRow 0 111 2 v L.length (L.flatMap sv)
 hu:∀b,v.ownBlock=some b→U b
 ok:∀x∈L,W.ownsRow 0 5 1 x.v x.b.length (x.b.map bv)∧∀b,x.v.ownBlock=some b→U b
theorem Outs.nil {W:World} {U:Nat→Prop}:Outs W U (.slice none 0 0) []:=⟨World.ownsRow_nil _ _ _ _,fun b hb=>(by simp[Value.ownBlock] at hb),fun x h=>(by cases h)⟩
theorem Outs.keep {W W':World} {U U':Nat→Prop} {v:Value} {L:List SendV} (h:Outs W U v L) (hk:∀b,U b→b < W.heap.size→(v.ownBlock=some b∨∃x∈L,x.v.ownBlock=some b)→W'.heap[b]? =W.heap[b]?∧U' b):Outs W' U' v L:=
 ⟨ar h.own fun b hb=>(hk b (h.hu b hb) (h.own.lt b hb).2 (.inl hb)).1,fun b hb=>(hk b (h.hu b hb) (h.own.lt b hb).2 (.inl hb)).2,fun x hx=>⟨ar (h.ok x hx).1 fun b hb=>(hk b ((h.ok x hx).2 b hb) ((h.ok x hx).1.lt b hb).2 (.inr ⟨x,hx,hb⟩)).1,fun b hb=>(hk b ((h.ok x hx).2 b hb) ((h.ok x hx).1.lt b hb).2 (.inr ⟨x,hx,hb⟩)).2⟩⟩
structure Clm (W:World) (U:Nat→Prop) (k ct g:Nat) (c:Cf) (id:Int) (s:CS):Prop where
 ex:∃(vi va vc vo:Value) (L:List SendV),W.heap[k]? =some (.cells #[.int .i64 c.f,.int .i64 c.cl,.int .i64 c.c2,.int .i64 c.c3,.int .i64 c.c4,.int .i64 c.c5,.int .i64 c.c6,.int .i64 c.c7,.int .i64 c.c8,.int .i64 c.c9,.int .i64 c.c10,.int .i64 c.c11,.int .i64 c.c12,.int .i64 c.c13,.int .i64 c.re,.int .i64 id,.pointer (some ⟨g,0,none⟩),.pointer (some ⟨ct,0,none⟩),.bool s.waits,vi,.int .i64 s.at_,va,vc,vo] 99 (0,0))∧W.ownsRow 0 42 6 vi s.issued.length (s.issued.flatMap rq)∧W.ownsRow 0 105 2 va s.ans.length (s.ans.flatMap av)∧W.ownsRow 0 61 7 vc s.acc.length (s.acc.flatMap ev)∧L.map SendV.s=s.out∧Outs W U vo L∧
  (∀b,vi.ownBlock=some b→U b)∧(∀b,va.ownBlock=some b→U b)∧∀b,vc.ownBlock=some b→U b
 clk:W.heap[ct]? =some (.cells #[.int .i64 s.now,.slice none 0 0] 119 (0,0))
 uk:U k
 uct:U ct
 lt:∀b,U b→b < W.heap.size
theorem Clm.keep {W W':World} {U U':Nat→Prop} {k ct g:Nat} {c:Cf} {id:Int} {s:CS} (h:Clm W U k ct g c id s) (hk:∀b,U b→W'.heap[b]? =W.heap[b]?∧U' b) (hl:∀b,U' b→b < W'.heap.size):Clm W' U' k ct g c id s:=by
 obtain⟨vi,va,vc,vo,L,e1,e2,e3,e4,e5,e6,e7,e8,e9⟩:=h.ex
 exact⟨⟨vi,va,vc,vo,L,(hk k h.uk).1.trans e1,ar e2 fun b hb=>(hk b (e7 b hb)).1,ar e3 fun b hb=>(hk b (e8 b hb)).1,ar e4 fun b hb=>(hk b (e9 b hb)).1,e5,e6.keep fun b hb _ _=>hk b hb,fun b hb=>(hk b (e7 b hb)).2,fun b hb=>(hk b (e8 b hb)).2,fun b hb=>(hk b (e9 b hb)).2⟩,(hk ct h.uct).1.trans h.clk,(hk k h.uk).2,(hk ct h.uct).2,hl⟩
theorem Clm.fp {W W':World} {U T:Nat→Prop} {k ct g:Nat} {c:Cf} {id:Int} {s:CS} (h:Clm W U k ct g c id s) (hf:Fp T W W') (hT:∀b,U b→¬T b):Clm W' U k ct g c id s:=
 h.keep (fun b hb=>⟨hf.block b (h.lt b hb) (hT b hb),hb⟩) fun b hb=>Nat.lt_of_lt_of_le (h.lt b hb) hf.size
theorem Clm.below {W W':World} {U:Nat→Prop} {k ct g:Nat} {c:Cf} {id:Int} {s:CS} (h:Clm W U k ct g c id s) (hb:Below W.heap.size W W'):Clm W' U k ct g c id s:=
 h.keep (fun b hU=>⟨hb.block b (h.lt b hU),hU⟩) fun b hU=>Nat.lt_of_lt_of_le (h.lt b hU) hb.size
structure Clo (W:World) (U:Nat→Prop) (k ct g:Nat) (c:Cf) (id:Int) (s:CS) (vi va vc vo:Value) (L:List SendV):Prop where
 row:W.heap[k]? =some (.cells #[.int .i64 c.f,.int .i64 c.cl,.int .i64 c.c2,.int .i64 c.c3,.int .i64 c.c4,.int .i64 c.c5,.int .i64 c.c6,.int .i64 c.c7,.int .i64 c.c8,.int .i64 c.c9,.int .i64 c.c10,.int .i64 c.c11,.int .i64 c.c12,.int .i64 c.c13,.int .i64 c.re,.int .i64 id,.pointer (some ⟨g,0,none⟩),.pointer (some ⟨ct,0,none⟩),.bool s.waits,vi,.int .i64 s.at_,va,vc,vo] 99 (0,0))
 oi:W.ownsRow 0 42 6 vi s.issued.length (s.issued.flatMap rq)
 oa:W.ownsRow 0 105 2 va s.ans.length (s.ans.flatMap av)
 oc:W.ownsRow 0 61 7 vc s.acc.length (s.acc.flatMap ev)
 om:L.map SendV.s=s.out
 oo:Outs W U vo L
 ui:∀b,vi.ownBlock=some b→U b
 ua:∀b,va.ownBlock=some b→U b
 uc:∀b,vc.ownBlock=some b→U b
 clk:W.heap[ct]? =some (.cells #[.int .i64 s.now,.slice none 0 0] 119 (0,0))
 uk:U k
 uct:U ct
 lt:∀b,U b→b < W.heap.size
theorem Clo.clm {W:World} {U:Nat→Prop} {k ct g:Nat} {c:Cf} {id:Int} {s:CS} {vi va vc vo:Value} {L:List SendV} (h:Clo W U k ct g c id s vi va vc vo L):Clm W U k ct g c id s:=
 ⟨⟨vi,va,vc,vo,L,h.row,h.oi,h.oa,h.oc,h.om,h.oo,h.ui,h.ua,h.uc⟩,h.clk,h.uk,h.uct,h.lt⟩
theorem Clm.opens {W:World} {U:Nat→Prop} {k ct g:Nat} {c:Cf} {id:Int} {s:CS} (h:Clm W U k ct g c id s):∃(Ai:Option Addr) (ci:Nat) (Aa:Option Addr) (ca:Nat) (Ac:Option Addr) (cc:Nat) (Ao:Option Addr) (co:Nat) (L:List SendV),Clo W U k ct g c id s (.slice Ai s.issued.length ci) (.slice Aa s.ans.length ca) (.slice Ac s.acc.length cc) (.slice Ao L.length co) L:=by
 obtain⟨vi,va,vc,vo,L,e1,e2,e3,e4,e5,e6,e7,e8,e9⟩:=h.ex
 obtain⟨Ai,ci,rfl,_,_,_⟩:=ao e2
 obtain⟨Aa,ca,rfl,_,_,_⟩:=ao e3
 obtain⟨Ac,cc,rfl,_,_,_⟩:=ao e4
 obtain⟨Ao,co,rfl,_,_,_⟩:=ao e6.own
 exact⟨Ai,ci,Aa,ca,Ac,cc,Ao,co,L,e1,e2,e3,e4,e5,e6,e7,e8,e9,h.clk,h.uk,h.uct,h.lt⟩
section
variable {W W1 W2 W':World} {U U' T:Nat→Prop} {k ct g:Nat} {c:Cf} {id:Int} {s:CS} {vi va vc vo v':Value} {L:List SendV} {ob:Option Nat}
theorem Clo.keep (h:Clo W U k ct g c id s vi va vc vo L) (hk:∀b,U b→W'.heap[b]? =W.heap[b]?∧U' b) (hl:∀b,U' b→b < W'.heap.size):Clo W' U' k ct g c id s vi va vc vo L:=
 ⟨(hk k h.uk).1.trans h.row,ar h.oi fun b hb=>(hk b (h.ui b hb)).1,ar h.oa fun b hb=>(hk b (h.ua b hb)).1,ar h.oc fun b hb=>(hk b (h.uc b hb)).1,h.om,h.oo.keep fun b hb _ _=>hk b hb,fun b hb=>(hk b (h.ui b hb)).2,fun b hb=>(hk b (h.ua b hb)).2,fun b hb=>(hk b (h.uc b hb)).2,(hk ct h.uct).1.trans h.clk,(hk k h.uk).2,(hk ct h.uct).2,hl⟩
theorem Clo.below (h:Clo W U k ct g c id s vi va vc vo L) (hb:Below W.heap.size W W'):Clo W' U k ct g c id s vi va vc vo L:=
 h.keep (fun b hU=>⟨hb.block b (h.lt b hU),hU⟩) fun b hU=>Nat.lt_of_lt_of_le (h.lt b hU) hb.size
theorem Clo.fp (h:Clo W U k ct g c id s vi va vc vo L) (hf:Fp T W W') (hT:∀b,U b→¬T b):Clo W' U k ct g c id s vi va vc vo L:=
 h.keep (fun b hU=>⟨hf.block b (h.lt b hU) (hT b hU),hU⟩) fun b hU=>Nat.lt_of_lt_of_le (h.lt b hU) hf.size
theorem Clo.more (h:Clo W U k ct g c id s vi va vc vo L) (hU:∀b,U b→U' b) (hl:∀b,U' b→b < W.heap.size):Clo W U' k ct g c id s vi va vc vo L:=
 h.keep (fun b hb=>⟨rfl,hU b hb⟩) hl
theorem bP {j:Nat} {u:Value}:∀b,b≠k→(W.setCell ⟨k,j,none⟩ u).heap[b]? =W.heap[b]?:=fun b hb=>by
 by_cases hlt:b < W.heap.size
 ·exact ((Fp.refl (fun b=>b=k) W).setCell (p:=⟨k,j,none⟩) (Or.inl (show k=k from rfl)) u).block b hlt hb
 ·have hs:(W.setCell ⟨k,j,none⟩ u).heap.size=W.heap.size:=by simp
  rw[Array.getElem?_eq_none (by omega),Array.getElem?_eq_none (by omega)]
theorem dh {cs:Array Value} {j:Nat} {u:Value} {s':CS} {vi' va' vc' vo':Value} {L':List SendV} (h0:W.heap[k]? =some (.cells cs 99 (0,0))) (a:cs.setIfInBounds j u=#[.int .i64 c.f,.int .i64 c.cl,.int .i64 c.c2,.int .i64 c.c3,.int .i64 c.c4,.int .i64 c.c5,.int .i64 c.c6,.int .i64 c.c7,.int .i64 c.c8,.int .i64 c.c9,.int .i64 c.c10,.int .i64 c.c11,.int .i64 c.c12,.int .i64 c.c13,.int .i64 c.re,.int .i64 id,.pointer (some ⟨g,0,none⟩),.pointer (some ⟨ct,0,none⟩),.bool s'.waits,vi',.int .i64 s'.at_,va',vc',vo'])
 (hc:W.heap[ct]? =some (.cells #[.int .i64 s'.now,.slice none 0 0] 119 (0,0))) (uk:U k) (uct:U ct) (lt:∀b,U b→b < W.heap.size)
 (oi:W.ownsRow 0 42 6 vi' s'.issued.length (s'.issued.flatMap rq)) (oa:W.ownsRow 0 105 2 va' s'.ans.length (s'.ans.flatMap av)) (oc:W.ownsRow 0 61 7 vc' s'.acc.length (s'.acc.flatMap ev)) (om:L'.map SendV.s=s'.out) (oo:Outs W U vo' L')
 (ui:∀b,vi'.ownBlock=some b→U b) (ua:∀b,va'.ownBlock=some b→U b) (uc:∀b,vc'.ownBlock=some b→U b):Clo (W.setCell ⟨k,j,none⟩ u) U k ct g c id s' vi' va' vc' vo' L':=by
 have hs:(W.setCell ⟨k,j,none⟩ u).heap.size=W.heap.size:=by simp
 refine⟨?_,ar oi fun b hb=>bP b (aC oi h0 (by decide) b hb),ar oa fun b hb=>bP b (aC oa h0 (by decide) b hb),ar oc fun b hb=>bP b (aC oc h0 (by decide) b hb),om,oo.keep fun b hb hlt d=>⟨bP b ?_,hb⟩,ui,ua,uc,(bP ct (ol hc h0 (by decide))).trans hc,uk,uct,fun b hb=>by rw[hs];exact lt b hb⟩
 ·rw[heap_setCell_same W k j _ _ _ h0,a]
 ·rcases d with h1|⟨x,hx,h1⟩
  ·exact aC oo.own h0 (by decide) b h1
  ·exact aC (oo.ok x hx).1 h0 (by decide) b h1
end
structure Cn (W:World) (U:Nat→Prop) (g bm:Nat) (K:List Key) (k ct:Nat) (c:Cf) (id:Int) (s:CS):Prop where
 nt:Nt W g bm K
 cm:Clm W U k ct g c id s
 sep:¬U g∧¬U bm
theorem Cn.below {W W':World} {U:Nat→Prop} {g bm k ct:Nat} {K:List Key} {c:Cf} {id:Int} {s:CS} (h:Cn W U g bm K k ct c id s) (hb:Below W.heap.size W W'):Cn W' U g bm K k ct c id s:=⟨h.nt.below hb,h.cm.below hb,h.sep⟩
theorem Cn.fp {W W':World} {U T:Nat→Prop} {g bm k ct:Nat} {K:List Key} {c:Cf} {id:Int} {s:CS} (h:Cn W U g bm K k ct c id s) (hf:Fp T W W') (hT:∀b,U b→¬T b) (h1:¬T g) (h2:¬T bm):Cn W' U g bm K k ct c id s:=⟨h.nt.fp hf h1 h2,h.cm.fp hf hT,h.sep⟩
structure Tv (W:World) (S:Nat→Prop) (g bm h:Nat) (K L:List Key):Prop where
 nt:Nt W g bm K
 nr:Ntr W S h L
 sep:¬S g∧¬S bm
 lt:∀b,S b→b < W.heap.size
 sh:S h
theorem Tv.below {W W':World} {S:Nat→Prop} {g bm h:Nat} {K L:List Key} (t:Tv W S g bm h K L) (hb:Below W.heap.size W W'):Tv W' S g bm h K L:=
 ⟨t.nt.below hb,t.nr.below hb,t.sep,fun b hS=>Nat.lt_of_lt_of_le (t.lt b hS) hb.size,t.sh⟩
theorem Tv.fp {W W':World} {S T:Nat→Prop} {g bm h:Nat} {K L:List Key} (t:Tv W S g bm h K L) (hf:Fp T W W') (h1:¬T g) (h2:¬T bm) (h3:∀b,S b→¬T b):Tv W' S g bm h K L:=
 ⟨t.nt.fp hf h1 h2,t.nr.fp hf h3,t.sep,fun b hS=>Nat.lt_of_lt_of_le (t.lt b hS) hf.size,t.sh⟩
theorem mI (S:Nat→Prop) (g bm h:Nat) (K L:List Key) (p:Int) (bs:List UInt8) (v:Value) (w:World) (P:Nat→Prop) (hT:Tv w S g bm h K L) (hk:KOk (p,bs)) (hl:K.length < 1099511627776) (q:L.length < 1099511627776) (hv:RdP w P 1 v bs.length (bs.map bv)) (hP:∀b,P b→¬S b∧b≠bm):
 Calls Tryz.prog 43 #[.agg #[.pointer (some ⟨g,0,none⟩),.pointer (some ⟨h,0,none⟩)],.int .i64 p,v] w fun e w'=>e= .returned (.int .i64 (aV K (p,bs)))∧
  ∃S',Tv w' S' g bm h (bi K (p,bs)) (bi L (p,bs))∧(∀b,S' b→S b∨w.heap.size≤b)∧Fp (fun b=>S b∨b=bm) w w':=by
 have HT:=tt hT
 have HV:=tt hv
 have HK:=tt hk
 have HP:=tt hP
 have C:=hT.nt.lt
 obtain⟨_,A,c,rfl,_,_,_⟩:=hv.parts
 clear hT hv hk hP
 have hb0:=ae w (.cells #[.pointer (some ⟨g,0,none⟩),.pointer (some ⟨h,0,none⟩)] 31)
 have d:=tL w (.cells #[.pointer (some ⟨g,0,none⟩),.pointer (some ⟨h,0,none⟩)] 31)
 have o:(w.alloc (.cells #[.pointer (some ⟨g,0,none⟩),.pointer (some ⟨h,0,none⟩)] 31)).heap.size=w.heap.size+1:=by simp
 go_enter Tryz.func43,Tryz.ntmps43
 go_wp2_with fail
 obtain⟨W,hW⟩:∃W,w.alloc (.cells #[.pointer (some ⟨g,0,none⟩),.pointer (some ⟨h,0,none⟩)] 31)=W:=⟨_,rfl⟩
 rw[hW] at hb0 d o ⊢
 have i:=tt hb0
 have y:=tt d
 have a:=tt (HT.out.below hb0)
 clear hW hb0 d
 refine (jV S h L p bs _ W P a.out.nr q (HV.out.below i.out) (fun b hb=>(HP.out b hb).1)).mono ?_
 rintro e w1 ⟨rfl,j,hf1⟩
 have B:=hf1.size
 have r:¬S w.heap.size:=fun hS=>by have:=HT.out.lt _ hS;omega
 have x:=tt ((hf1.block w.heap.size (by omega) r).trans y.out)
 have m:=tt (a.out.nt.fp hf1 a.out.sep.1 a.out.sep.2)
 have n:=tt j
 have u:=tt hf1
 have s:=tt ((HV.out.below i.out).fp hf1 (fun b hb=>(HP.out b hb).1))
 have x0:w1.cell? ⟨w.heap.size,0,none⟩=some (.pointer (some ⟨g,0,none⟩)):=by rw[cell_of_row _ _ 0 _ _ _ x.out];rfl
 clear j hf1
 go_wp2_with fail
 refine (jU g bm K p bs _ w1 P m.out HK.out hl s.out).mono ?_
 rintro e w2 ⟨rfl,hn2,l⟩
 have t:=tt hn2
 have f:=tt l
 clear x0 hn2 l
 go_wp2_with fail
 go_ret
 refine⟨rfl,_,⟨t.out,n.out.fp f.out (fun b hb he=>?_),⟨fun hS=>?_,fun hS=>?_⟩,fun b hS=>?_,Or.inl HT.out.sh⟩,fun b hS=>?_,?_⟩
 ·subst he
  rcases hb with hb|hb
  ·exact HT.out.sep.2 hb
  ·omega
 ·rcases hS with hS|hS
  ·exact HT.out.sep.1 hS
  ·omega
 ·rcases hS with hS|hS
  ·exact HT.out.sep.2 hS
  ·omega
 ·have z:=f.out.size
  rcases hS with hS|hS
  ·have:=HT.out.lt b hS;omega
  ·omega
 ·rcases hS with hS|hS
  ·exact .inl hS
  ·right;omega
 ·exact (((Fp.of_below i.out _).trans u.out fun k hk=>.inl (.inl hk))).trans f.out fun k hk=>.inl (.inr hk)
def Off (W:World) (S:Nat→Prop) (bm:Nat) (b:Nat):Prop:=b < W.heap.size∧¬S b∧b≠bm
theorem Off.below {W W':World} {S:Nat→Prop} {bm b:Nat} (h:Off W S bm b) (hb:Below W.heap.size W W'):Off W' S bm b:=⟨Nat.lt_of_lt_of_le h.1 hb.size,h.2⟩
theorem Off.seal {W W':World} {S S' T:Nat→Prop} {bm b:Nat} (h:Off W S bm b) (hf:Fp T W W') (hS:∀b,S' b→S b∨W.heap.size≤b):Off W' S' bm b:=
 ⟨Nat.lt_of_lt_of_le h.1 hf.size,fun hh=>by
  rcases hS b hh with h1|h1
  ·exact h.2.1 h1
  ·have:=h.1;omega,h.2.2⟩
theorem Off.new {w:World} {S:Nat→Prop} {bm:Nat} (o:Obj) (hS:∀b,S b→b < w.heap.size) (a:bm < w.heap.size):Off (w.alloc o) S bm w.heap.size:=⟨by simp,fun hh=>by have:=hS _ hh;omega,by omega⟩
structure Rw (W:World) (S:Nat→Prop) (bm:Nat) (j:Nat) (o:Obj):Prop where
 row:W.heap[j]? =some o
 off:Off W S bm j
theorem Rw.lt {W:World} {S:Nat→Prop} {bm j:Nat} {o:Obj} (h:Rw W S bm j o):j < W.heap.size:=h.off.1
theorem Rw.below {W W':World} {S:Nat→Prop} {bm j:Nat} {o:Obj} (h:Rw W S bm j o) (hb:Below W.heap.size W W'):Rw W' S bm j o:=⟨(hb.block j h.lt).trans h.row,h.off.below hb⟩
theorem Rw.seal {W W':World} {S S':Nat→Prop} {bm j:Nat} {o:Obj} (h:Rw W S bm j o) (hf:Fp (fun b=>S b∨b=bm) W W') (hS:∀b,S' b→S b∨W.heap.size≤b):Rw W' S' bm j o:=
 ⟨(hf.block j h.lt (by rintro (hh|hh);exact h.off.2.1 hh;exact h.off.2.2 hh)).trans h.row,h.off.seal hf hS⟩
theorem Rw.other {W W':World} {S T:Nat→Prop} {bm j:Nat} {o:Obj} (h:Rw W S bm j o) (hf:Fp T W W') (hn:¬T j):Rw W' S bm j o:=
 ⟨(hf.block j h.lt hn).trans h.row,h.off.seal hf fun b hb=>.inl hb⟩
theorem Rw.new {w:World} {S:Nat→Prop} {bm:Nat} (o:Obj) (hS:∀b,S b→b < w.heap.size) (a:bm < w.heap.size):Rw (w.alloc o) S bm w.heap.size o:=⟨tL w o,Off.new o hS a⟩
theorem Rw.cell {W:World} {S:Nat→Prop} {bm j:Nat} {cs:Array Value} {T:TypeId} (h:Rw W S bm j (.cells cs T (0,0))) {k:Nat} {u:Value} (hk:cs[k]? =some u):W.cell? ⟨j,k,none⟩=some u:=by rw[cell_of_row _ _ k _ _ _ h.row];exact hk
theorem Rw.ice {W:World} {S:Nat→Prop} {bm j:Nat} {cs:Array Value} {T:TypeId} (h:Rw W S bm j (.cells cs T (0,0))) (k:Nat):W.frozen? ⟨j,k,none⟩=false:=frozen_of_row _ _ k _ _ h.row
structure Bk (W:World) (S:Nat→Prop) (bm:Nat) (v:Value) (bs:List UInt8):Prop where
 rd:RdP W (Off W S bm) 1 v bs.length (bs.map bv)
theorem Bk.below {W W':World} {S:Nat→Prop} {bm:Nat} {v:Value} {bs:List UInt8} (h:Bk W S bm v bs) (hb:Below W.heap.size W W'):Bk W' S bm v bs:=⟨h.rd.keeps ⟨hb.size,fun b hP hlt=>⟨hb.block b hlt,hP.below hb⟩⟩⟩
theorem Bk.seal {W W':World} {S S':Nat→Prop} {bm:Nat} {v:Value} {bs:List UInt8} (h:Bk W S bm v bs) (hf:Fp (fun b=>S b∨b=bm) W W') (hS:∀b,S' b→S b∨W.heap.size≤b):Bk W' S' bm v bs:=
 ⟨h.rd.keeps ⟨hf.size,fun b hP hlt=>⟨hf.block b hlt (by rintro (hh|hh);exact hP.2.1 hh;exact hP.2.2 hh),hP.seal hf hS⟩⟩⟩
theorem Bk.new {W W':World} {S:Nat→Prop} {bm:Nat} {v:Value} {bs:List UInt8} (h:RdP W' (fun b=>W.heap.size≤b) 1 v bs.length (bs.map bv)) (hS:∀b,S b→b < W.heap.size) (a:bm < W.heap.size):Bk W' S bm v bs:=
 ⟨h.mono fun b hb hP=>⟨hb,fun hh=>by have:=hS b hh;omega,by omega⟩⟩
theorem Bk.all {W:World} {S:Nat→Prop} {bm:Nat} {v:Value} {bs:List UInt8} (h:Bk W S bm v bs):RdP W (fun b=>b < W.heap.size) 1 v bs.length (bs.map bv):=h.rd.mono fun b hb _=>hb
structure Cw (W:World) (S:Nat→Prop) (g bm h:Nat) (K L:List Key) (k ct:Nat) (c:Cf) (id:Int) (s:CS):Prop where
 ex:∃T U:Nat→Prop,(∀b,S b↔(T b∨U b))∧Cn W U g bm K k ct c id s∧Tv W T g bm h K L∧∀b,T b→¬U b
section
variable {W W':World} {S:Nat→Prop} {g bm h k ct:Nat} {K L:List Key} {c:Cf} {id:Int} {s:CS}
theorem Cw.nt (H:Cw W S g bm h K L k ct c id s):Nt W g bm K:=by obtain⟨T,U,_,h1,_⟩:=H.ex;exact h1.nt
theorem Cw.lt (H:Cw W S g bm h K L k ct c id s):∀b,S b→b < W.heap.size:=by
 obtain⟨T,U,hS,h1,h2,_⟩:=H.ex
 intro b hb
 rcases (hS b).1 hb with hb|hb
 ·exact h2.lt b hb
 ·exact h1.cm.lt b hb
theorem Cw.below (H:Cw W S g bm h K L k ct c id s) (hb:Below W.heap.size W W'):Cw W' S g bm h K L k ct c id s:=by
 obtain⟨T,U,hS,h1,h2,h3⟩:=H.ex
 exact⟨T,U,hS,h1.below hb,h2.below hb,h3⟩
theorem Cw.fp {R:Nat→Prop} (H:Cw W S g bm h K L k ct c id s) (hf:Fp R W W') (hg:¬R g) (hb:¬R bm) (hR:∀b,S b→¬R b):Cw W' S g bm h K L k ct c id s:=by
 obtain⟨T,U,hS,h1,h2,h3⟩:=H.ex
 exact⟨T,U,hS,h1.fp hf (fun b hb=>hR b ((hS b).2 (.inr hb))) hg hb,h2.fp hf hg hb (fun b hb=>hR b ((hS b).2 (.inl hb))),h3⟩
theorem Cw.start (h2:Tv W S g bm h K L) {U:Nat→Prop} (h1:Clm W U k ct g c id s) (hU:∀b,U b→¬S b∧b≠g∧b≠bm):Cw W (fun b=>S b∨U b) g bm h K L k ct c id s:=
 ⟨S,U,fun b=>Iff.rfl,⟨h2.nt,h1,fun hh=>(hU g hh).2.1 rfl,fun hh=>(hU bm hh).2.2 rfl⟩,h2,fun b hb hu=>(hU b hu).1 hb⟩
theorem Cw.op {P:Program} {f:FuncId} {args:Array Value} {K':List Key} {s':CS} {Q:Ending→World→Prop} (H:Cw W S g bm h K L k ct c id s)
 (hop:∀U,Cn W U g bm K k ct c id s→Calls P f args W fun e W'=>Q e W'∧∃U',Cn W' U' g bm K' k ct c id s'∧(∀b,U' b→U b∨W.heap.size≤b)∧Fp (fun b=>U b∨b=bm) W W'):
 Calls P f args W fun e W'=>Q e W'∧∃S',Cw W' S' g bm h K' L k ct c id s'∧(∀b,S' b→S b∨W.heap.size≤b)∧Fp (fun b=>S b∨b=bm) W W':=by
 obtain⟨T,U,hS,h1,h2,h3⟩:=H.ex
 refine (hop U h1).mono ?_
 rintro e W' ⟨hq,U',h4,h5,h6⟩
 have a:∀b,T b→¬ (U b∨b=bm):=fun b hb=>by
  rintro (hh|hh)
  ·exact h3 b hb hh
  ·exact h2.sep.2 (hh▸hb)
 refine⟨hq,fun b=>T b∨U' b,⟨T,U',fun b=>Iff.rfl,h4,⟨h4.nt,h2.nr.fp h6 a,h2.sep,fun b hb=>Nat.lt_of_lt_of_le (h2.lt b hb) h6.size,h2.sh⟩,fun b hb hu=>?_⟩,fun b hb=>?_,h6.mono fun b _ hb=>?_⟩
 ·rcases h5 b hu with h7|h7
  ·exact h3 b hb h7
  ·have:=h2.lt b hb;omega
 ·rcases hb with hb|hb
  ·exact .inl ((hS b).2 (.inl hb))
  ·rcases h5 b hb with h7|h7
   ·exact .inl ((hS b).2 (.inr h7))
   ·exact .inr h7
 ·rcases hb with hb|hb
  ·exact .inl ((hS b).2 (.inr hb))
  ·exact .inr hb
theorem Cw.two {P:Program} {f:FuncId} {args:Array Value} {K' L':List Key} {Q:Ending→World→(Nat→Prop)→Prop} (H:Cw W S g bm h K L k ct c id s)
 (hop:∀T,Tv W T g bm h K L→Calls P f args W fun e W'=>∃T',Q e W' T'∧Tv W' T' g bm h K' L'∧(∀b,T' b→T b∨W.heap.size≤b)∧Fp (fun b=>T b∨b=bm) W W'):
 Calls P f args W fun e W'=>∃T' S',Q e W' T'∧(∀b,S' b→T' b∨b < W.heap.size)∧Cw W' S' g bm h K' L' k ct c id s∧(∀b,S' b→S b∨W.heap.size≤b)∧Fp (fun b=>S b∨b=bm) W W':=by
 obtain⟨T,U,hS,h1,h2,h3⟩:=H.ex
 refine (hop T h2).mono ?_
 rintro e W' ⟨T',hq,h4,h5,h6⟩
 have a:∀b,U b→¬ (T b∨b=bm):=fun b hb=>by
  rintro (hh|hh)
  ·exact h3 b hh hb
  ·exact h1.sep.2 (hh▸hb)
 refine⟨T',fun b=>T' b∨U b,hq,fun b hb=>?_,⟨T',U,fun b=>Iff.rfl,⟨h4.nt,h1.cm.fp h6 a,h1.sep⟩,h4,fun b hb hu=>?_⟩,fun b hb=>?_,h6.mono fun b _ hb=>?_⟩
 ·rcases hb with hb|hb
  ·exact .inl hb
  ·exact .inr (h1.cm.lt b hb)
 ·rcases h5 b hb with h7|h7
  ·exact h3 b h7 hu
  ·have:=h1.cm.lt b hu;omega
 ·rcases hb with hb|hb
  ·rcases h5 b hb with h7|h7
   ·exact .inl ((hS b).2 (.inl h7))
   ·exact .inr h7
  ·exact .inl ((hS b).2 (.inr hb))
 ·rcases hb with hb|hb
  ·exact .inl ((hS b).2 (.inl hb))
  ·exact .inr hb
theorem Cw.ask {P:Program} {f:FuncId} {args:Array Value} {Q:Ending→World→Prop} (H:Cw W S g bm h K L k ct c id s) (hop:∀U,Clm W U k ct g c id s→Calls P f args W Q):Calls P f args W Q:=by
 obtain⟨T,U,hS,h1,h2,h3⟩:=H.ex
 exact hop U h1.cm
end
structure RC where
 n:Int
 wt:Bool
 q:Psp.Req
 bs:List UInt8
 tk:Int
 rep:Nat→Int
 has:Nat→Bool
 iss:List Psp.Req
 acc:List (Psp.Req×Int)
 out:List (Int×List UInt8)
def rc0:RC:=⟨0,false,zR0,[],0,fun _=>0,fun _=>false,[],[],[]⟩
def rcA (c:Cf) (id:Int) (h:Nat) (s:RC) (vb vi va vo:Value):Array Value:=#[.int .i64 c.f,.int .i64 c.cl,.int .i64 c.c2,.int .i64 c.c3,.int .i64 c.c4,.int .i64 c.c5,.int .i64 c.c6,.int .i64 c.c7,.int .i64 c.c8,.int .i64 c.c9,.int .i64 c.c10,.int .i64 c.c11,.int .i64 c.c12,.int .i64 c.c13,.int .i64 c.re,.int .i64 id,.pointer (some ⟨h,0,none⟩),.int .i64 s.n,.bool s.wt,.int .i64 s.q.c,.int .i64 s.q.t,.int .i64 s.q.k,.int .i64 s.q.y,.int .i64 s.q.v,.int .i64 s.q.s,vb,.int .i64 s.tk,.int .i64 (s.rep 0),.int .i64 (s.rep 1),.int .i64 (s.rep 2),.int .i64 (s.rep 3),.int .i64 (s.rep 4),.int .i64 (s.rep 5),.int .i64 (s.rep 6),.int .i64 (s.rep 7),.int .i64 (s.rep 8),.int .i64 (s.rep 9),.int .i64 (s.rep 10),.int .i64 (s.rep 11),.int .i64 (s.rep 12),.bool (s.has 0),.bool (s.has 1),.bool (s.has 2),.bool (s.has 3),.bool (s.has 4),.bool (s.has 5),.bool (s.has 6),.bool (s.has 7),.bool (s.has 8),.bool (s.has 9),.bool (s.has 10),.bool (s.has 11),.bool (s.has 12),vi,va,vo]
structure Rco (W:World) (U:Nat→Prop) (k h:Nat) (c:Cf) (id:Int) (s:RC) (vb vi va vo:Value) (L:List SendV):Prop where
 row:W.heap[k]? =some (.cells (rcA c id h s vb vi va vo) 89 (0,0))
 ob:W.ownsRow 0 5 1 vb s.bs.length (s.bs.map bv)
 oi:W.ownsRow 0 42 6 vi s.iss.length (s.iss.flatMap rq)
 oc:W.ownsRow 0 61 7 va s.acc.length (s.acc.flatMap ev)
 om:L.map SendV.s=s.out
 oo:Outs W U vo L
 ub:∀b,vb.ownBlock=some b→U b
 ui:∀b,vi.ownBlock=some b→U b
 uc:∀b,va.ownBlock=some b→U b
 uk:U k
 lt:∀b,U b→b < W.heap.size
structure Rcm (W:World) (U:Nat→Prop) (k h:Nat) (c:Cf) (id:Int) (s:RC):Prop where
 ex:∃(vb vi va vo:Value) (L:List SendV),Rco W U k h c id s vb vi va vo L
section
variable {W W1 W2 W':World} {U U' T:Nat→Prop} {k h:Nat} {c:Cf} {id:Int} {s:RC} {vb vi va vo v':Value} {L:List SendV} {ob:Option Nat}
theorem Rco.m (H:Rco W U k h c id s vb vi va vo L):Rcm W U k h c id s:=⟨⟨_,_,_,_,_,H⟩⟩
theorem Rco.keep (H:Rco W U k h c id s vb vi va vo L) (hk:∀b,U b→W'.heap[b]? =W.heap[b]?∧U' b) (hl:∀b,U' b→b < W'.heap.size):Rco W' U' k h c id s vb vi va vo L:=
 ⟨(hk k H.uk).1.trans H.row,ar H.ob fun b hb=>(hk b (H.ub b hb)).1,ar H.oi fun b hb=>(hk b (H.ui b hb)).1,ar H.oc fun b hb=>(hk b (H.uc b hb)).1,H.om,H.oo.keep fun b hb _ _=>hk b hb,fun b hb=>(hk b (H.ub b hb)).2,fun b hb=>(hk b (H.ui b hb)).2,fun b hb=>(hk b (H.uc b hb)).2,(hk k H.uk).2,hl⟩
theorem Rco.below (H:Rco W U k h c id s vb vi va vo L) (hb:Below W.heap.size W W'):Rco W' U k h c id s vb vi va vo L:=
 H.keep (fun b hU=>⟨hb.block b (H.lt b hU),hU⟩) fun b hU=>Nat.lt_of_lt_of_le (H.lt b hU) hb.size
theorem Rco.fp (H:Rco W U k h c id s vb vi va vo L) (hf:Fp T W W') (hT:∀b,U b→¬T b):Rco W' U k h c id s vb vi va vo L:=
 H.keep (fun b hU=>⟨hf.block b (H.lt b hU) (hT b hU),hU⟩) fun b hU=>Nat.lt_of_lt_of_le (H.lt b hU) hf.size
theorem Rco.more (H:Rco W U k h c id s vb vi va vo L) (hU:∀b,U b→U' b) (hl:∀b,U' b→b < W.heap.size):Rco W U' k h c id s vb vi va vo L:=
 H.keep (fun b hb=>⟨rfl,hU b hb⟩) hl
theorem Rcm.below (H:Rcm W U k h c id s) (hb:Below W.heap.size W W'):Rcm W' U k h c id s:=by obtain⟨_,_,_,_,_,h1⟩:=H.ex;exact (h1.below hb).m
theorem Rcm.fp (H:Rcm W U k h c id s) (hf:Fp T W W') (hT:∀b,U b→¬T b):Rcm W' U k h c id s:=by obtain⟨_,_,_,_,_,h1⟩:=H.ex;exact (h1.fp hf hT).m
theorem Rcm.lt (H:Rcm W U k h c id s):∀b,U b→b < W.heap.size:=by obtain⟨_,_,_,_,_,h1⟩:=H.ex;exact h1.lt
theorem Rcm.uk (H:Rcm W U k h c id s):U k:=by obtain⟨_,_,_,_,_,h1⟩:=H.ex;exact h1.uk
theorem Rcm.opens (H:Rcm W U k h c id s):∃(Ab:Option Addr) (cb:Nat) (Ai:Option Addr) (ci:Nat) (Ac:Option Addr) (cc:Nat) (Ao:Option Addr) (co:Nat) (L:List SendV),Rco W U k h c id s (.slice Ab s.bs.length cb) (.slice Ai s.iss.length ci) (.slice Ac s.acc.length cc) (.slice Ao L.length co) L:=by
 obtain⟨vb,vi,va,vo,L,H⟩:=H.ex
 obtain⟨Ab,cb,rfl,_,_,_⟩:=ao H.ob
 obtain⟨Ai,ci,rfl,_,_,_⟩:=ao H.oi
 obtain⟨Ac,cc,rfl,_,_,_⟩:=ao H.oc
 obtain⟨Ao,co,rfl,_,_,_⟩:=ao H.oo.own
 exact⟨Ab,cb,Ai,ci,Ac,cc,Ao,co,L,H⟩
theorem eK {cs:Array Value} {j:Nat} {u:Value} {s':RC} {vb' vi' va' vo':Value} {L':List SendV} (h0:W.heap[k]? =some (.cells cs 89 (0,0))) (a:cs.setIfInBounds j u=rcA c id h s' vb' vi' va' vo')
 (uk:U k) (lt:∀b,U b→b < W.heap.size) (ob:W.ownsRow 0 5 1 vb' s'.bs.length (s'.bs.map bv))
 (oi:W.ownsRow 0 42 6 vi' s'.iss.length (s'.iss.flatMap rq)) (oc:W.ownsRow 0 61 7 va' s'.acc.length (s'.acc.flatMap ev)) (om:L'.map SendV.s=s'.out) (oo:Outs W U vo' L')
 (ub:∀b,vb'.ownBlock=some b→U b) (ui:∀b,vi'.ownBlock=some b→U b) (uc:∀b,va'.ownBlock=some b→U b):Rco (W.setCell ⟨k,j,none⟩ u) U k h c id s' vb' vi' va' vo' L':=by
 have hs:(W.setCell ⟨k,j,none⟩ u).heap.size=W.heap.size:=by simp
 refine⟨?_,ar ob fun b hb=>bP b (aC ob h0 (by decide) b hb),ar oi fun b hb=>bP b (aC oi h0 (by decide) b hb),ar oc fun b hb=>bP b (aC oc h0 (by decide) b hb),om,oo.keep fun b hb hlt d=>⟨bP b ?_,hb⟩,ub,ui,uc,uk,fun b hb=>by rw[hs];exact lt b hb⟩
 ·rw[heap_setCell_same W k j _ _ _ h0,a]
 ·rcases d with h1|⟨x,hx,h1⟩
  ·exact aC oo.own h0 (by decide) b h1
  ·exact aC (oo.ok x hx).1 h0 (by decide) b h1
theorem Rco.set (H:Rco W U k h c id s vb vi va vo L) {j:Nat} {u:Value} {s':RC} (a:(rcA c id h s vb vi va vo).setIfInBounds j u=rcA c id h s' vb vi va vo) (e1:s'.bs=s.bs) (e2:s'.iss=s.iss) (e3:s'.acc=s.acc) (e4:s'.out=s.out):Rco (W.setCell ⟨k,j,none⟩ u) U k h c id s' vb vi va vo L:=
 eK H.row a H.uk H.lt (by rw[e1];exact H.ob) (by rw[e2];exact H.oi) (by rw[e3];exact H.oc) (by rw[e4];exact H.om) H.oo H.ub H.ui H.uc
theorem iu (W:World) (j:Nat) (u:Value) (hU:U k):Fp U W (W.setCell ⟨k,j,none⟩ u):=(Fp.refl U W).setCell (p:=⟨k,j,none⟩) (Or.inl hU) u
end
theorem pz (n lo hi:Int) (w:World):Calls Tryz.prog 53 #[.int .i64 n,.int .i64 lo,.int .i64 hi] w fun e w'=>e= .returned (.bool (Psp.win n lo hi))∧w=w':=by
 by_cases h1:lo≤n
 ·have d1:decide (n≥lo)=true:=tB h1
  by_cases h2:n≤hi
  ·go_enter Tryz.func53,Tryz.ntmps53
   go_wp2_with fail
   go_ret
   exact⟨by simp[Psp.win,h1,h2],rfl⟩
  ·go_enter Tryz.func53,Tryz.ntmps53
   go_wp2_with fail
   go_ret
   exact⟨by simp[Psp.win,h2],rfl⟩
 ·have d1:decide (n≥lo)=false:=tA h1
  go_enter Tryz.func53,Tryz.ntmps53
  go_wp2_with fail
  go_ret
  exact⟨by rw[(Psp.dm n lo hi).2 (by omega)];rfl,rfl⟩
theorem eO:(Tryz.prog.info? 37).map (·.size)=some 15:=by kernel_rfl
theorem lN (f:Int) (w:World):Calls Tryz.prog 11 #[.int .i64 f] w fun e w'=>e= .returned (.agg #[.int .i64 f,.int .i64 2,.int .i64 2,.int .i64 4,.int .i64 64,.int .i64 8,.int .i64 8,.int .i64 8,.int .i64 1,.int .i64 2,.int .i64 12,.int .i64 8,.int .i64 6,.int .i64 2,.int .i64 6])∧Below w.heap.size w w':=by
 have c:=ae w (.cells #[.int .i64 0,.int .i64 0,.int .i64 0,.int .i64 0,.int .i64 0,.int .i64 0,.int .i64 0,.int .i64 0,.int .i64 0,.int .i64 0,.int .i64 0,.int .i64 0,.int .i64 0,.int .i64 0,.int .i64 0] 37)
 have a:=tL w (.cells #[.int .i64 0,.int .i64 0,.int .i64 0,.int .i64 0,.int .i64 0,.int .i64 0,.int .i64 0,.int .i64 0,.int .i64 0,.int .i64 0,.int .i64 0,.int .i64 0,.int .i64 0,.int .i64 0,.int .i64 0] 37)
 have b:=au a
 obtain⟨s1,s2⟩:=aQ a [.int .i64 f,.int .i64 2,.int .i64 2,.int .i64 4,.int .i64 64,.int .i64 8,.int .i64 8,.int .i64 8,.int .i64 1,.int .i64 2,.int .i64 12,.int .i64 8,.int .i64 6,.int .i64 2,.int .i64 6] rfl
 have g:=tt c
 have d:=tt b
 have S1:=tt s1
 clear c a b s1 s2
 go_enter Tryz.func11,Tryz.ntmps11
 go_wp2_with (refine wpList_store_mid rfl 37 (.tmp 2) (.tmp 4) rfl w.heap.size 0 #[.int .i64 f,.int .i64 2,.int .i64 2,.int .i64 4,.int .i64 64,.int .i64 8,.int .i64 8,.int .i64 8,.int .i64 1,.int .i64 2,.int .i64 12,.int .i64 8,.int .i64 6,.int .i64 2,.int .i64 6] rfl rfl d.out eO (by simp[Value.oneCell']) ?_)
 refine bodyPost_ret (v:=.agg #[.int .i64 f,.int .i64 2,.int .i64 2,.int .i64 4,.int .i64 64,.int .i64 8,.int .i64 8,.int .i64 8,.int .i64 1,.int .i64 2,.int .i64 12,.int .i64 8,.int .i64 6,.int .i64 2,.int .i64 6]) ?_ rfl ?_
 ·exact results_cell_row Tryz.results11 _ _ w.heap.size _ _ _ _ rfl S1.out Tryz.underlying37 rfl eO
 ·exact⟨rfl,((Fp.of_below g.out (fun _=>False)).setCells (Or.inr (tJ _)) _).to_below (tJ _) fun _ _ h=>h.elim⟩
theorem pK (c:Cf) (w:World) (hc:c.ok=true):Calls Tryz.prog 33 #[.agg #[.int .i64 c.f,.int .i64 c.cl,.int .i64 c.c2,.int .i64 c.c3,.int .i64 c.c4,.int .i64 c.c5,.int .i64 c.c6,.int .i64 c.c7,.int .i64 c.c8,.int .i64 c.c9,.int .i64 c.c10,.int .i64 c.c11,.int .i64 c.c12,.int .i64 c.c13,.int .i64 c.re]] w fun e w'=>e= .returned (.bool true)∧Below w.heap.size w w':=by
 unfold Cf.ok at hc
 simp only[tI] at hc
 obtain⟨h0,h1,h2,h3,h4,h5,h6,h7,h8,h9,h,g,d,b,a⟩:=hc
 have Hb:=tt (ae w (.cells #[.int .i64 c.f,.int .i64 c.cl,.int .i64 c.c2,.int .i64 c.c3,.int .i64 c.c4,.int .i64 c.c5,.int .i64 c.c6,.int .i64 c.c7,.int .i64 c.c8,.int .i64 c.c9,.int .i64 c.c10,.int .i64 c.c11,.int .i64 c.c12,.int .i64 c.c13,.int .i64 c.re] 37))
 go_enter Tryz.func33,Tryz.ntmps33
 go_wp2_with (first|(go_at_call 53;refine (pz _ _ _ _).mono ?_;rintro e w' ⟨rfl,rfl⟩))
 go_ret
 exact⟨rfl,Hb.out⟩
theorem sD (w:World):Calls Tryz.prog 34 #[] w fun e w'=>e= .returned (.pointer (some ⟨w.heap.size,0,none⟩))∧w'=w.alloc (.cells #[.int .i64 0,.slice none 0 0] 119):=by
 go_enter Tryz.func34,Tryz.ntmps34
 go_wp2_with fail
 go_ret
 exact⟨rfl,rfl⟩
theorem pH (ct:Nat) (n:Int) (v:Value) (w:World) (h:w.heap[ct]? =some (.cells #[.int .i64 n,v] 119 (0,0))):Calls Tryz.prog 36 #[.pointer (some ⟨ct,0,none⟩)] w fun e w'=>e= .returned (.int .i64 n)∧w=w':=by
 have x0:w.cell? ⟨ct,0,none⟩=some (.int .i64 n):=by rw[cell_of_row _ _ 0 _ _ _ h];rfl
 go_enter Tryz.func36,Tryz.ntmps36
 go_wp2_with fail
 go_ret
 exact⟨rfl,rfl⟩
theorem qS (ct:Nat) (n:Int) (v:Value) (w:World) (h:w.heap[ct]? =some (.cells #[.int .i64 n,v] 119 (0,0))) (hn:0≤n∧n < 1048576):Calls Tryz.prog 44 #[.pointer (some ⟨ct,0,none⟩)] w fun e w'=>e= .returned (.bool true)∧w'=w.setCell ⟨ct,0,none⟩ (.int .i64 (n+1)):=by
 have x0:w.cell? ⟨ct,0,none⟩=some (.int .i64 n):=by rw[cell_of_row _ _ 0 _ _ _ h];rfl
 have z0:w.frozen? ⟨ct,0,none⟩=false:=frozen_of_row _ _ 0 _ _ h
 have d1:decide (n≥1048576)=false:=tA (by omega)
 have hw:IntKind.i64.wrap (n+1)=n+1:=IntWalk.i64_in _ (by omega)
 go_enter Tryz.func44,Tryz.ntmps44
 go_wp2_with fail
 go_ret
 exact⟨rfl,rfl⟩
theorem db {W:World} {base k n m:Nat} {e:TypeId} {A:Option Addr} {c:Nat} {xs:List Value} (h:W.ownsRow base e k (.slice A n c) m xs):m≤c∧c≤9223372036854775807:=by
 obtain⟨A',c',e1,h1,h2,_⟩:=ao h
 injection e1 with _ _ e3
 exact⟨by omega,by omega⟩
theorem am {W:World} {b:Nat} {cs:Array Value} {T:TypeId} (h:W.heap[b]? =some (.cells cs T (0,0))) (j:Nat) {v:Value} (hv:cs[j]? =some v):W.cell? ⟨b,j,none⟩=some v:=by rw[cell_of_row _ _ j _ _ _ h];exact hv
theorem qC {W:World} {Ai:Option Addr} {ci:Nat} {l:List Psp.Req} (h:W.ownsRow 0 42 6 (.slice Ai l.length ci) l.length (l.flatMap rq)) (hl:l≠[]):∃b,Ai=some ⟨b,0,none⟩∧b < W.heap.size∧W.rangeAt b ((l.length - 1) * 6) (rq (l.getD (l.length - 1) zR0)):=by
 obtain⟨A',c',e,_,_,hx⟩:=ao h
 have hn:0 < l.length:=List.length_pos_iff.2 hl
 obtain⟨b,rfl,_,hb,a⟩:=hx hn
 injection e with e
 refine⟨b,e,hb,?_⟩
 have:=bF (f:=rq) (k:=6) (fun _=>rfl) a (show l.length - 1 < l.length by omega)
 rw[Nat.zero_add] at this
 rw[List.getD_eq_getElem?_getD,tK (by omega)]
 exact this
theorem j6 (U:Nat→Prop) (k ct g:Nat) (c:Cf) (id:Int) (s:CS) (w:World) (h:Clm w U k ct g c id s) (hl:s.issued≠[]) (hlen:s.issued.length≤1000000):
 Calls Tryz.prog 39 #[.pointer (some ⟨k,0,none⟩)] w fun e w'=>e= .returned (.agg #[.int .i64 s.last.c,.int .i64 s.last.t,.int .i64 s.last.k,.int .i64 s.last.y,.int .i64 s.last.v,.int .i64 s.last.s])∧Below w.heap.size w w':=by
 obtain⟨Ai,ci,Aa,ca,Ac,cc,Ao,co,L,ho⟩:=h.opens
 have e1:=ho.row
 have e2:=ho.oi
 obtain⟨m,u⟩:=db e2
 obtain⟨b,rfl,hb,hr⟩:=qC e2 hl
 have hn:0 < s.issued.length:=List.length_pos_iff.2 hl
 obtain⟨n,hn2⟩:∃n,s.issued.length=n+1:=⟨s.issued.length - 1,by omega⟩
 have l:s.issued.getD (s.issued.length - 1) zR0=s.last:=rfl
 rw[l] at hr
 obtain⟨t,ht⟩:∃t,s.last=t:=⟨_,rfl⟩
 rw[ht] at hr ⊢
 rw[hn2] at e1 hr m hlen
 rw[show n+1 - 1=n by omega] at hr
 clear hn hn2 l ht hl e2 ho
 have hk:=(tz e1).1
 have a:=ae w (.cells #[.int .i64 0,.int .i64 0,.int .i64 0,.int .i64 0,.int .i64 0,.int .i64 0] 42)
 have d:=tL w (.cells #[.int .i64 0,.int .i64 0,.int .i64 0,.int .i64 0,.int .i64 0,.int .i64 0] 42)
 have i:=(a.block k hk).trans e1
 have f:(w.alloc (.cells #[.int .i64 0,.int .i64 0,.int .i64 0,.int .i64 0,.int .i64 0,.int .i64 0] 42)).rangeAt b (n * 6) (rq t):=cM hr (a.block b hb)
 go_enter Tryz.func39,Tryz.ntmps39
 go_upto_region 1 with fail
 obtain⟨W,hW⟩:∃W,w.alloc (.cells #[.int .i64 0,.int .i64 0,.int .i64 0,.int .i64 0,.int .i64 0,.int .i64 0] 42)=W:=⟨_,rfl⟩
 rw[hW] at i f a d ⊢
 have o:W.drew.cell? ⟨k,19,none⟩=some _:=am (W:=W.drew) i 19 rfl
 have x:=a.size
 have r:Hid (W.drew.rangeAt b (n * 6) [.int .i64 t.c,.int .i64 t.t,.int .i64 t.k,.int .i64 t.y,.int .i64 t.v,.int .i64 t.s]):=tt f
 have j:=au (W:=W.drew) d
 obtain⟨s1,s2⟩:=aQ (W:=W.drew) d [.int .i64 t.c,.int .i64 t.t,.int .i64 t.k,.int .i64 t.y,.int .i64 t.v,.int .i64 t.s] rfl
 have q:=tt a
 have p:=tt j
 have S1:=tt s1
 have hw1:IntKind.i64.wrap (n:Int)=(n:Int):=IntWalk.i64_in _ (by omega)
 have n0:(0:Int)≤(n:Int):=by omega
 have n1:(n:Int) < (n:Int)+1:=by omega
 clear hW i f hr e1 a d j s1 s2
 refine bz 11 (by kernel_rfl) (by kernel_rfl) ?_
 simp only[List.take_succ_cons,List.take_zero,tE,List.drop_zero]
 repeat still_step
 refine wpStill_nil ?_
 clear o
 go_wp2_with (first|(refine aA rfl 42 (.tmp 13) rfl b (n * 6) rfl [.int .i64 t.c,.int .i64 t.t,.int .i64 t.k,.int .i64 t.y,.int .i64 t.v,.int .i64 t.s] _ r.out Tryz.underlying42 rfl az ?_)|(refine wpList_store_mid rfl 42 (.tmp 2) (.tmp 14) rfl w.heap.size 0 #[.int .i64 t.c,.int .i64 t.t,.int .i64 t.k,.int .i64 t.y,.int .i64 t.v,.int .i64 t.s] rfl rfl p.out az (by simp[Value.oneCell']) ?_))
 refine bodyPost_ret (v:=.agg #[.int .i64 t.c,.int .i64 t.t,.int .i64 t.k,.int .i64 t.y,.int .i64 t.v,.int .i64 t.s]) ?_ rfl ?_
 ·exact results_cell_row Tryz.results39 _ _ w.heap.size _ _ _ _ rfl S1.out Tryz.underlying42 rfl az
 ·exact⟨rfl,((Fp.of_below q.out (fun _=>False)).drew.setCells (Or.inr (tJ _)) _).to_below (tJ _) fun _ _ h=>h.elim⟩
theorem out_m (U:Nat→Prop) (k ct g:Nat) (c:Cf) (id:Int) (s:CS) (w:World) (h:Clm w U k ct g c id s):
 Calls Tryz.prog 22 #[.pointer (some ⟨k,0,none⟩)] w fun e w'=>∃(v:Value) (L:List SendV),e= .returned v∧L.map SendV.s=s.out∧
  Outs w' (fun b=>U b∧(v.ownBlock=some b∨∃x∈L,x.v.ownBlock=some b)) v L∧
  Clm w' (fun b=>U b∧¬ (v.ownBlock=some b∨∃x∈L,x.v.ownBlock=some b)) k ct g c id {s with out:=[]}∧Fp (fun b=>b=k) w w':=by
 obtain⟨Ai,ci,Aa,ca,Ac,cc,Ao,co,L,ho⟩:=h.opens
 have HO:=tt ho
 have l:w.cell? ⟨k,23,none⟩=some (.slice Ao L.length co):=am ho.row 23 rfl
 have i:=frozen_of_row _ _ 23 _ _ ho.row
 clear ho
 go_enter Tryz.func22,Tryz.ntmps22
 go_wp2_with fail
 go_ret
 have ho:=HO.out
 have f:∀b,(Value.slice Ao L.length co).ownBlock=some b∨(∃x∈L,x.v.ownBlock=some b)→b≠k:=fun b hb=>by
  rcases hb with h1|⟨x,hx,h1⟩
  ·exact aC ho.oo.own ho.row (by decide) b h1
  ·exact aC (ho.oo.ok x hx).1 ho.row (by decide) b h1
 have hnc:∀b,(Value.slice Ao L.length co).ownBlock=some b∨(∃x∈L,x.v.ownBlock=some b)→b≠ct:=fun b hb=>by
  rcases hb with h1|⟨x,hx,h1⟩
  ·exact aC ho.oo.own ho.clk (by decide) b h1
  ·exact aC (ho.oo.ok x hx).1 ho.clk (by decide) b h1
 have d:∀{e:TypeId} {m n:Nat} {v:Value} {xs:List Value},w.ownsRow 0 e m v n xs→e≠111→e≠5→∀b,v.ownBlock=some b→¬ ((Value.slice Ao L.length co).ownBlock=some b∨∃x∈L,x.v.ownBlock=some b):=fun hw h1 h2 b hb a=>by
  rcases a with h3|⟨x,hx,h3⟩
  ·exact bC hw ho.oo.own h1 b hb h3
  ·exact bC hw (ho.oo.ok x hx).1 h2 b hb h3
 have hc:=(dh (W:=w) (U:=fun b=>U b∧¬ ((Value.slice Ao L.length co).ownBlock=some b∨∃x∈L,x.v.ownBlock=some b)) (k:=k) (ct:=ct) (g:=g) (c:=c) (id:=id) (j:=23) (u:=.slice none 0 0) (s':={s with out:=[]}) (vo':=.slice none 0 0) (L':=[]) ho.row rfl ho.clk ⟨ho.uk,fun hh=>f k hh rfl⟩ ⟨ho.uct,fun hh=>hnc ct hh rfl⟩ (fun b hb=>ho.lt b hb.1) ho.oi ho.oa ho.oc rfl Outs.nil
  (fun b hb=>⟨ho.ui b hb,d ho.oi (by decide) (by decide) b hb⟩) (fun b hb=>⟨ho.ua b hb,d ho.oa (by decide) (by decide) b hb⟩) (fun b hb=>⟨ho.uc b hb,d ho.oc (by decide) (by decide) b hb⟩)).clm
 exact⟨_,L,rfl,ho.om,ho.oo.keep fun b hb hlt a=>⟨bP b (f b a),hb,a⟩,hc,(Fp.refl (fun b=>b=k) w).setCell (p:=⟨k,23,none⟩) (Or.inl (show k=k from rfl)) _⟩
theorem nT (U:Nat→Prop) (k ct g:Nat) (c:Cf) (id:Int) (s:CS) (w:World) (h:Clm w U k ct g c id s) (hs:s.waits=false):
 Calls Tryz.prog 18 #[.pointer (some ⟨k,0,none⟩)] w fun e w'=>e= .returned (.tuple #[.agg #[.int .i64 0,.int .i64 0,.int .i64 0,.int .i64 0,.int .i64 0,.int .i64 0],.bool false])∧Below w.heap.size w w':=by
 obtain⟨Ai,ci,Aa,ca,Ac,cc,Ao,co,L,ho⟩:=h.opens
 have HO:=tt ho
 have hr:=ho.row
 rw[hs] at hr
 have hk:=(tz hr).1
 have b:=ae w (.cells #[.int .i64 0,.int .i64 0,.int .i64 0,.int .i64 0,.int .i64 0,.int .i64 0] 42)
 have a:=tL w (.cells #[.int .i64 0,.int .i64 0,.int .i64 0,.int .i64 0,.int .i64 0,.int .i64 0] 42)
 have j:=am ((b.block k hk).trans hr) 18 rfl
 have i:=tt b
 have d:=fs a
 obtain⟨s1,s2⟩:=ft a [.int .i64 0,.int .i64 0,.int .i64 0,.int .i64 0,.int .i64 0,.int .i64 0] rfl
 have f:=tt d
 have S1:=tt s1
 clear ho hr b a d s1 s2
 go_enter Tryz.func18,Tryz.ntmps18
 go_wp2_with (refine wpList_store_mid rfl 42 (.tmp 2) (.tmp 9) rfl w.heap.size 0 #[.int .i64 0,.int .i64 0,.int .i64 0,.int .i64 0,.int .i64 0,.int .i64 0] rfl rfl f.out az (by simp[Value.oneCell']) ?_)
 refine bodyPost_ret (v:=.tuple #[.agg #[.int .i64 0,.int .i64 0,.int .i64 0,.int .i64 0,.int .i64 0,.int .i64 0],.bool false]) ?_ rfl ?_
 ·exact aI Tryz.results18 _ _ w.heap.size _ _ _ _ rfl S1.out Tryz.underlying42 rfl az
 ·exact⟨rfl,((Fp.of_below i.out (fun _=>False)).setCells (Or.inr (tJ _)) _).to_below (tJ _) fun _ _ h=>h.elim⟩
theorem i9 (U:Nat→Prop) (k ct g:Nat) (c:Cf) (id:Int) (s:CS) (w:World) (h:Clm w U k ct g c id s) (hs:s.waits=true) (hl:s.issued≠[]) (hlen:s.issued.length≤1000000):
 Calls Tryz.prog 18 #[.pointer (some ⟨k,0,none⟩)] w fun e w'=>e= .returned (.tuple #[.agg #[.int .i64 s.last.c,.int .i64 s.last.t,.int .i64 s.last.k,.int .i64 s.last.y,.int .i64 s.last.v,.int .i64 s.last.s],.bool true])∧Below w.heap.size w w':=by
 obtain⟨Ai,ci,Aa,ca,Ac,cc,Ao,co,L,ho⟩:=h.opens
 have HO:=tt ho
 have hr:=ho.row
 rw[hs] at hr
 have hk:=(tz hr).1
 have a:=ae w (.cells #[.int .i64 0,.int .i64 0,.int .i64 0,.int .i64 0,.int .i64 0,.int .i64 0] 42)
 have b:=tL w (.cells #[.int .i64 0,.int .i64 0,.int .i64 0,.int .i64 0,.int .i64 0,.int .i64 0] 42)
 have l:=am ((a.block k hk).trans hr) 18 rfl
 have hcl:=h.below a
 go_enter Tryz.func18,Tryz.ntmps18
 go_upto_region 1 with fail
 obtain⟨W,hW⟩:∃W,w.alloc (.cells #[.int .i64 0,.int .i64 0,.int .i64 0,.int .i64 0,.int .i64 0,.int .i64 0] 42)=W:=⟨_,rfl⟩
 rw[hW] at l hcl a b ⊢
 have j:=tt a
 have i:=tt b
 clear ho hr a b hW
 go_wp2_with fail
 refine (j6 U k ct g c id s W hcl hl hlen).mono ?_
 rintro e w1 ⟨rfl,hb1⟩
 have hlt:=(tz i.out).1
 have d:=(hb1.block _ hlt).trans i.out
 have n:=tt (Below.then j.out hb1 j.out.size)
 have f:=fs d
 obtain⟨s1,s2⟩:=ft d [.int .i64 s.last.c,.int .i64 s.last.t,.int .i64 s.last.k,.int .i64 s.last.y,.int .i64 s.last.v,.int .i64 s.last.s] rfl
 have m:=tt f
 have S1:=tt s1
 clear f s1 s2 hb1 d
 go_wp2_with (refine wpList_store_mid rfl 42 (.tmp 2) (.tmp 11) rfl w.heap.size 0 #[.int .i64 s.last.c,.int .i64 s.last.t,.int .i64 s.last.k,.int .i64 s.last.y,.int .i64 s.last.v,.int .i64 s.last.s] rfl rfl m.out az (by simp[Value.oneCell']) ?_)
 refine bodyPost_ret (v:=.tuple #[.agg #[.int .i64 s.last.c,.int .i64 s.last.t,.int .i64 s.last.k,.int .i64 s.last.y,.int .i64 s.last.v,.int .i64 s.last.s],.bool true]) ?_ rfl ?_
 ·exact aI Tryz.results18 _ _ w.heap.size _ _ _ _ rfl S1.out Tryz.underlying42 rfl az
 ·exact⟨rfl,((Fp.of_below n.out (fun _=>False)).setCells (Or.inr (tJ _)) _).to_below (tJ _) fun _ _ h=>h.elim⟩
theorem qN:Elem Tryz.prog 57 61 7 56:=⟨Tryz.underlying57,by kernel_rfl,by decide⟩
theorem ansE:Elem Tryz.prog 97 105 2 16:=⟨Tryz.underlying97,by kernel_rfl,by decide⟩
theorem pY:Elem Tryz.prog 70 111 2 32:=⟨Tryz.underlying70,by kernel_rfl,by decide⟩
theorem lR (l:List Psp.Req):∀u∈l.flatMap rq,u.oneCell'=true:=by
 intro u hu
 obtain⟨x,_,hx⟩:=List.mem_flatMap.1 hu
 simp[rq,iv] at hx
 rcases hx with rfl|rfl|rfl|rfl|rfl|rfl <;> rfl
theorem kI (l:List (Psp.Req×Int)):∀u∈l.flatMap ev,u.oneCell'=true:=by
 intro u hu
 obtain⟨x,_,hx⟩:=List.mem_flatMap.1 hu
 simp[ev,iv] at hx
 rcases hx with rfl|rfl|rfl|rfl|rfl|rfl|rfl <;> rfl
theorem iJ (U:Nat→Prop) (k ct g:Nat) (c:Cf) (id:Int) (s:CS) (w:World) (h:Clm w U k ct g c id s) (hlen:s.issued.length≤1000000):
 Calls Tryz.prog 20 #[.pointer (some ⟨k,0,none⟩)] w fun e w'=>∃A c',e= .returned (.slice A s.issued.length c')∧w'.ownsRow w.heap.size 42 6 (.slice A s.issued.length c') s.issued.length (s.issued.flatMap rq)∧Below w.heap.size w w':=by
 obtain⟨Ai,ci,Aa,ca,Ac,cc,Ao,co,L,ho⟩:=h.opens
 have HO:=tt ho
 have f0:w.cell? ⟨k,19,none⟩=some (.slice Ai s.issued.length ci):=am ho.row 19 rfl
 obtain⟨i,f⟩:=db ho.oi
 have Hr:=tt (Rd.of_own ho.oi)
 have d:=tt (lR s.issued)
 clear ho
 go_enter Tryz.func20,Tryz.ntmps20
 go_wp2_with (at_builtin;refine bk mU rfl _ _ rfl w.heap.size _ 0 [] rfl (World.ownsRow_nil _ _ _ _) w.heap.size _ _ _ rfl Hr.out d.out (by unfold maxLen;omega) (by omega) (tJ _) ?_;intro v' w1 a hg1 _;have b:Below w.heap.size w w1:=(Below.refl _ _).grown hg1 (tJ _) (fun k hk=>by simp[Act.eval,Value.ownBlock] at hk);clear hg1;rw[Nat.zero_add,List.nil_append] at a;obtain⟨A',c',rfl,_,_,_⟩:=ao a)
 go_ret
 exact⟨A',c',rfl,a,b⟩
theorem ew (U:Nat→Prop) (k ct g:Nat) (c:Cf) (id:Int) (s:CS) (w:World) (h:Clm w U k ct g c id s) (hlen:s.acc.length≤1000000):
 Calls Tryz.prog 16 #[.pointer (some ⟨k,0,none⟩)] w fun e w'=>∃A c',e= .returned (.slice A s.acc.length c')∧w'.ownsRow w.heap.size 61 7 (.slice A s.acc.length c') s.acc.length (s.acc.flatMap ev)∧Below w.heap.size w w':=by
 obtain⟨Ai,ci,Aa,ca,Ac,cc,Ao,co,L,ho⟩:=h.opens
 have HO:=tt ho
 have f0:w.cell? ⟨k,22,none⟩=some (.slice Ac s.acc.length cc):=am ho.row 22 rfl
 obtain⟨i,f⟩:=db ho.oc
 have Hr:=tt (Rd.of_own ho.oc)
 have d:=tt (kI s.acc)
 clear ho
 go_enter Tryz.func16,Tryz.ntmps16
 go_wp2_with (at_builtin;refine bk qN rfl _ _ rfl w.heap.size _ 0 [] rfl (World.ownsRow_nil _ _ _ _) w.heap.size _ _ _ rfl Hr.out d.out (by unfold maxLen;omega) (by omega) (tJ _) ?_;intro v' w1 a hg1 _;have b:Below w.heap.size w w1:=(Below.refl _ _).grown hg1 (tJ _) (fun k hk=>by simp[Act.eval,Value.ownBlock] at hk);clear hg1;rw[Nat.zero_add,List.nil_append] at a;obtain⟨A',c',rfl,_,_,_⟩:=ao a)
 go_ret
 exact⟨A',c',rfl,a,b⟩
theorem mn (c:Cf) (id:Int) (g:Nat) (w:World) (hc:c.ok=true) (y:0≤id∧id < c.cl):
 Calls Tryz.prog 10 #[.agg #[.int .i64 c.f,.int .i64 c.cl,.int .i64 c.c2,.int .i64 c.c3,.int .i64 c.c4,.int .i64 c.c5,.int .i64 c.c6,.int .i64 c.c7,.int .i64 c.c8,.int .i64 c.c9,.int .i64 c.c10,.int .i64 c.c11,.int .i64 c.c12,.int .i64 c.c13,.int .i64 c.re],.int .i64 id,.pointer (some ⟨g,0,none⟩)] w fun e w'=>∃k ct,e= .returned (.tuple #[.pointer (some ⟨k,0,none⟩),.int .i64 0])∧Clm w' (fun b=>b=k∨b=ct) k ct g c id cs0∧Below w.heap.size w w'∧w.heap.size≤k∧w.heap.size≤ct:=by
 have i:=ae w (.cells #[.int .i64 c.f,.int .i64 c.cl,.int .i64 c.c2,.int .i64 c.c3,.int .i64 c.c4,.int .i64 c.c5,.int .i64 c.c6,.int .i64 c.c7,.int .i64 c.c8,.int .i64 c.c9,.int .i64 c.c10,.int .i64 c.c11,.int .i64 c.c12,.int .i64 c.c13,.int .i64 c.re] 37)
 have a:=tL w (.cells #[.int .i64 c.f,.int .i64 c.cl,.int .i64 c.c2,.int .i64 c.c3,.int .i64 c.c4,.int .i64 c.c5,.int .i64 c.c6,.int .i64 c.c7,.int .i64 c.c8,.int .i64 c.c9,.int .i64 c.c10,.int .i64 c.c11,.int .i64 c.c12,.int .i64 c.c13,.int .i64 c.re] 37)
 have d1:decide (id < 0)=false:=tA (by omega)
 have d2:decide (id≥c.cl)=false:=tA (by omega)
 go_enter Tryz.func10,Tryz.ntmps10
 go_upto_region 1 with fail
 obtain⟨W,hW⟩:∃W,w.alloc (.cells #[.int .i64 c.f,.int .i64 c.cl,.int .i64 c.c2,.int .i64 c.c3,.int .i64 c.c4,.int .i64 c.c5,.int .i64 c.c6,.int .i64 c.c7,.int .i64 c.c8,.int .i64 c.c9,.int .i64 c.c10,.int .i64 c.c11,.int .i64 c.c12,.int .i64 c.c13,.int .i64 c.re] 37)=W:=⟨_,rfl⟩
 rw[hW] at i a ⊢
 clear hW
 have hlt:=(tz a).1
 have j:=tt i
 have t:=tt a
 have q0:=am a 0 rfl
 have q1:=am a 1 rfl
 have q2:=am a 2 rfl
 have q3:=am a 3 rfl
 have q4:=am a 4 rfl
 have q5:=am a 5 rfl
 have q6:=am a 6 rfl
 have q7:=am a 7 rfl
 have q8:=am a 8 rfl
 have q9:=am a 9 rfl
 have s:=am a 10 rfl
 have r:=am a 11 rfl
 have q:=am a 12 rfl
 have o:=am a 13 rfl
 have n:=am a 14 rfl
 clear i a
 go_wp2_with fail
 clear q0 q1 q2 q3 q4 q5 q6 q7 q8 q9 s r q o n
 refine (pK c W hc).mono ?_
 rintro e w1 ⟨rfl,hb1⟩
 have d:=(hb1.block _ hlt).trans t.out
 have l:=tt (Below.then j.out hb1 j.out.size)
 have x:=hb1.size
 have f1:=am d 1 rfl
 have u:=tt d
 clear hb1 d
 go_upto_region 3 with fail
 clear f1
 have v:Hid (∀w':World,(∃p:Later w1.drew,w'=p.W)→w'.rangeAt w.heap.size 0 [.int .i64 c.f,.int .i64 c.cl,.int .i64 c.c2,.int .i64 c.c3,.int .i64 c.c4,.int .i64 c.c5,.int .i64 c.c6,.int .i64 c.c7,.int .i64 c.c8,.int .i64 c.c9,.int .i64 c.c10,.int .i64 c.c11,.int .i64 c.c12,.int .i64 c.c13,.int .i64 c.re]):=tt (by rintro w' ⟨p,rfl⟩;exact aB ((p.h.block _ (show w.heap.size < w1.heap.size by omega)).trans u.out))
 refine bX [(true,0),(true,1),(true,2),(false,3)] (by kernel_rfl) (by kernel_rfl) ?_
 simp only[phW,tu,tx,Option.toList,tC,tD,Nat.reduceAdd,tE,List.drop_zero]
 repeat (first|(refine aj (by simp[Region.wanted,yielded]) 37 (.tmp 3) (by rfl) w.heap.size 0 (by rfl) [.int .i64 c.f,.int .i64 c.cl,.int .i64 c.c2,.int .i64 c.c3,.int .i64 c.c4,.int .i64 c.c5,.int .i64 c.c6,.int .i64 c.c7,.int .i64 c.c8,.int .i64 c.c9,.int .i64 c.c10,.int .i64 c.c11,.int .i64 c.c12,.int .i64 c.c13,.int .i64 c.re] _ v.out Tryz.underlying37 rfl eO ?_;intro K hK;go_simp;refine hK _ ?_;clear hK K)|go_big_quiet_step (fail)|quiet_step (fail)|refine wpQuiet_nil ?_)
 go_wp2_with fail
 refine (sD w1.drew).mono ?_
 rintro e w2 ⟨rfl,rfl⟩
 go_wp2_with fail
 refine And.intro ⟨⟨_,(Below.refl _ _).alloc (tJ _) _⟩,rfl⟩ ?_
 go_wp2_with fail
 go_ret2
 have a1:=ae w1 (.cells #[.int .i64 0,.slice none 0 0] 119)
 have a2:=ae (w1.alloc (.cells #[.int .i64 0,.slice none 0 0] 119)) (.cells #[.int .i64 c.f,.int .i64 c.cl,.int .i64 c.c2,.int .i64 c.c3,.int .i64 c.c4,.int .i64 c.c5,.int .i64 c.c6,.int .i64 c.c7,.int .i64 c.c8,.int .i64 c.c9,.int .i64 c.c10,.int .i64 c.c11,.int .i64 c.c12,.int .i64 c.c13,.int .i64 c.re,.int .i64 id,.pointer (some ⟨g,0,none⟩),.pointer (some ⟨w1.heap.size,0,none⟩),.bool false,.slice none 0 0,.int .i64 0,.slice none 0 0,.slice none 0 0,.slice none 0 0] 99)
 have r1:=tL w1 (.cells #[.int .i64 0,.slice none 0 0] 119)
 have r2:=tL (w1.alloc (.cells #[.int .i64 0,.slice none 0 0] 119)) (.cells #[.int .i64 c.f,.int .i64 c.cl,.int .i64 c.c2,.int .i64 c.c3,.int .i64 c.c4,.int .i64 c.c5,.int .i64 c.c6,.int .i64 c.c7,.int .i64 c.c8,.int .i64 c.c9,.int .i64 c.c10,.int .i64 c.c11,.int .i64 c.c12,.int .i64 c.c13,.int .i64 c.re,.int .i64 id,.pointer (some ⟨g,0,none⟩),.pointer (some ⟨w1.heap.size,0,none⟩),.bool false,.slice none 0 0,.int .i64 0,.slice none 0 0,.slice none 0 0,.slice none 0 0] 99)
 have s1:(w1.alloc (.cells #[.int .i64 0,.slice none 0 0] 119)).heap.size=w1.heap.size+1:=by simp
 have s2:((w1.alloc (.cells #[.int .i64 0,.slice none 0 0] 119)).alloc (.cells #[.int .i64 c.f,.int .i64 c.cl,.int .i64 c.c2,.int .i64 c.c3,.int .i64 c.c4,.int .i64 c.c5,.int .i64 c.c6,.int .i64 c.c7,.int .i64 c.c8,.int .i64 c.c9,.int .i64 c.c10,.int .i64 c.c11,.int .i64 c.c12,.int .i64 c.c13,.int .i64 c.re,.int .i64 id,.pointer (some ⟨g,0,none⟩),.pointer (some ⟨w1.heap.size,0,none⟩),.bool false,.slice none 0 0,.int .i64 0,.slice none 0 0,.slice none 0 0,.slice none 0 0] 99)).heap.size=w1.heap.size+2:=by simp
 have m:=(a2.block w1.heap.size (by omega)).trans r1
 rw[s1] at r2
 have hz:=l.out.size
 refine⟨w1.heap.size+1,w1.heap.size,rfl,⟨⟨_,_,_,_,[],r2,World.ownsRow_nil _ _ _ _,World.ownsRow_nil _ _ _ _,World.ownsRow_nil _ _ _ _,rfl,Outs.nil,fun b hb=>(by simp[Value.ownBlock] at hb),fun b hb=>(by simp[Value.ownBlock] at hb),fun b hb=>(by simp[Value.ownBlock] at hb)⟩,m,.inl rfl,.inr rfl,fun b hb=>?_⟩,?_,by omega,by omega⟩
 ·show b < ((w1.alloc _).alloc _).heap.size
  rw[s2]
  rcases hb with hb|hb <;> omega
 ·exact ((l.out.trans (a1.mono hz)).trans (a2.mono (by omega))).drew
theorem io (n:Nat) (b:List UInt8):bK (n+1) b=bK n b++[((n:Int),b)]:=by unfold bK;rw[List.range_succ,List.map_append];rfl
theorem ji (n:Nat) (b:List UInt8):(bK n b).length=n:=by unfold bK;simp
theorem od (U:Nat→Prop) (g bm k ct:Nat) (K:List Key) (c:Cf) (id:Int) (s:CS) (w:World) (h:Cn w U g bm K k ct c id s) (hf:1≤c.f∧c.f≤4) (cQ:0≤id∧id < 100) (hl:s.issued≠[]) (hlen:s.issued.length≤1000000) (cz:s.out.length≤1000000) (S:okS K (b7 id s.last)=true) (hK:K.length < 1000000):
 Calls Tryz.prog 37 #[.pointer (some ⟨k,0,none⟩)] w fun e w'=>e= .returned (.tuple #[])∧∃U',Cn w' U' g bm (dl c id K s).2 k ct c id (dl c id K s).1∧(∀b,U' b→U b∨w.heap.size≤b)∧Fp (fun b=>U b∨b=bm) w w':=by
 have bq:=h.nt.lt
 obtain⟨Ai,ci,Aa,ca,Ac,cc,Ao,co,L,ho⟩:=h.cm.opens
 have HN:=tt h
 have cA:=ho.lt k ho.uk
 have N:k≠bm:=fun he=>h.sep.2 (he▸ho.uk)
 have bc:=aT (w:=w.drew) (T:=fun b=>b=bm) (show w.drew.cell? ⟨k,15,none⟩=some (.int .i64 id) from am ho.row 15 rfl) N
 have bb:=aT (w:=w.drew) (T:=fun b=>b=bm) (show w.drew.cell? ⟨k,16,none⟩=some (.pointer (some ⟨g,0,none⟩)) from am ho.row 16 rfl) N
 have cs:IntKind.i64.wrap (100+id)=100+id:=IntWalk.i64_in _ (by omega)
 have hM:dl c id K s=({s with out:=s.out++bK (Psp.aO c.f).toNat (cX K (b7 id s.last))},sealK K (b7 id s.last)):=by unfold dl;rw[if_pos S]
 have HM:=tt hM
 have HO:=tt S
 clear ho h hM S
 go_enter Tryz.func37,Tryz.ntmps37
 go_wp2_with fail
 refine aU (fun b=>b=bm) [(true,0),(true,1),(true,2),(true,3),(true,4),(true,5),(true,9),(true,10),(true,11),(true,12),(false,6),(false,7),(true,8),(false,13),(true,14),(true,15),(true,16),(true,17),(true,18)] (by kernel_rfl) (by kernel_rfl) ?_
 simp only[phS,tu,tx,Option.toList,tC,tD,Nat.reduceAdd,tE,List.drop_zero]
 repeat (first|go_big_quiet_step (fail)|quiet_step (fail)|refine wpQuiet_nil ?_)
 clear bc bb
 go_wp2_with fail
 have a1:Below w.heap.size w w.drew:=(Below.refl _ _).drew
 refine (j6 U k ct g c id s w.drew (HN.out.cm.below a1) hl hlen).mono ?_
 rintro e w1 ⟨rfl,hb1⟩
 have r:Below w.heap.size w w1:=a1.trans hb1
 have F1:=tt (Fp.of_below hb1 (fun b=>b=bm))
 have a8:=tt (HN.out.below r)
 have cq:=r.size
 have c0:=tt r
 clear hb1 r
 go_wp2_with fail
 refine And.intro ⟨⟨w1,F1.out⟩,rfl⟩ ?_
 go_wp2_with fail
 refine And.intro ⟨⟨_,F1.out.alloc _⟩,rfl⟩ ?_
 repeat (first|go_big_quiet_step (fail)|quiet_step (fail)|refine wpQuiet_nil ?_)
 have F:=ae w1 (.cells #[.int .i64 s.last.c,.int .i64 s.last.t,.int .i64 s.last.k,.int .i64 s.last.y,.int .i64 s.last.v,.int .i64 s.last.s] 42)
 have E:=tL w1 (.cells #[.int .i64 s.last.c,.int .i64 s.last.t,.int .i64 s.last.k,.int .i64 s.last.y,.int .i64 s.last.v,.int .i64 s.last.s] 42)
 go_wp2_with fail
 obtain⟨w2,hw2⟩:∃W,w1.alloc (.cells #[.int .i64 s.last.c,.int .i64 s.last.t,.int .i64 s.last.k,.int .i64 s.last.y,.int .i64 s.last.v,.int .i64 s.last.s] 42)=W:=⟨_,rfl⟩
 have X:Fp (fun b=>b=bm) w.drew (w1.alloc (.cells #[.int .i64 s.last.c,.int .i64 s.last.t,.int .i64 s.last.k,.int .i64 s.last.y,.int .i64 s.last.v,.int .i64 s.last.s] 42)):=F1.out.alloc _
 rw[hw2] at F E X ⊢
 have M:=(tz E).1
 have ad:RdP w2 (fun b=>b < w2.heap.size) 6 (.slice (some ⟨w1.heap.size,0,none⟩) 1 1) 1 ([s.last].flatMap rq):=⟨rfl,some ⟨w1.heap.size,0,none⟩,1,rfl,tJ _,by unfold maxLen;omega,fun _=>⟨w1.heap.size,0,rfl,M,M,fun j u hj=>by
  rw[Nat.zero_add]
  rw[cell_of_row _ _ j _ _ _ E,List.getElem?_toArray]
  simpa [rq,iv] using hj⟩⟩
 have H:=tt (a8.out.below F)
 have F2:=tt X
 have a6:=tt ad
 have cp:=F.size
 clear hw2 F E X ad
 refine (rP (b7 id s.last) _ _ _ _ g bm K w2 ⟨a6.out,RdP.none_,RdC.nil,RdA.nil⟩ ⟨by show _≤100+id;omega,by show 100+id≤_;omega⟩ H.out.nt (by omega)).mono ?_
 rintro e w3 ⟨v,rfl,hv,a4,G⟩
 rw[HO.out] at hv ⊢
 rw[dt] at hv
 obtain⟨bs,hbs⟩:∃bs,cX K (b7 id s.last)=bs:=⟨_,rfl⟩
 have B:Psp.aK (aV K (kM (b7 id s.last)))++Psp.bu (b7 id s.last)=bs:=hbs
 rw[B] at hv
 obtain⟨Av,a5,rfl,_,_,_⟩:=ao hv
 rw[hbs] at HM
 have HV:=tt hv
 have a3:∀b,U b→¬b=bm:=fun b hb he=>H.out.sep.2 (he▸hb)
 have b6:=tt (H.out.cm.fp G a3)
 have b5:=tt a4
 have P:=F2.out.trans G fun k hk=>.inl hk
 have F3:=tt P
 have cn:=G.size
 have cW:bs.length≤65536+6:=by
  have h1:=HO.out
  unfold okS okE at h1
  rw[tI,tI,decide_eq_true_eq] at h1
  rw[←B,tH]
  omega
 clear hv hbs B a4 G a3 P H a6 a8
 go_wp2_with fail
 refine And.intro ⟨⟨w3,F3.out⟩,rfl⟩ ?_
 repeat (first|go_big_quiet_step (fail)|quiet_step (fail)|refine wpQuiet_nil ?_)
 go_wp2_with fail
 clear F1 F2
 have F3:Hid (Fp (fun b=>b=bm) w w3):=tt ⟨F3.out.os,F3.out.tape,F3.out.output,F3.out.size,F3.out.block⟩
 have hnn:=fd hf
 obtain⟨n,hn⟩:∃n,(Psp.aO c.f).toNat=n:=⟨_,rfl⟩
 have hnb:(n:Int)=Psp.aO c.f:=by omega
 have a7:=tt hnb
 have cf:n≤13:=by omega
 rw[hn] at HM
 have HS:Hid (∀b,U b→b < w.heap.size):=tt HN.out.cm.lt
 have z:=tt HN.out.sep
 have O:∀b,(Value.slice Av bs.length a5).ownBlock=some b→w2.heap.size≤b:=fun b hb=>(HV.out.lt b hb).1
 have cj:=tt O
 have cy:sealK K (b7 id s.last)=(dl c id K s).2:=by rw[HM.out]
 have b9:w.heap.size≤w2.heap.size:=by omega
 have ch:bm < w.heap.size:=bq.2
 clear hn hnn hnb O
 go_loopw [4] (fun i wr=>∃(j:Nat) (U':Nat→Prop),i= .int .i64 (j:Int)∧j≤n∧Hid (Clm wr U' k ct g c id {s with out:=s.out++bK j bs})∧Hid (∀b,U' b→U b∨w3.heap.size≤b)∧Hid (Fp (fun b=>U b) w3 wr)) (fun i _=>n - (intOf i).toNat)
 case atStart=>exact⟨0,U,rfl,Nat.zero_le _,tt (by show Clm w3 U k ct g c id {s with out:=s.out++[]};rw[List.append_nil];exact b6.out),tt fun b hb=>.inl hb,tt (Fp.refl _ _)⟩
 case round=>
  obtain⟨j,U',rfl,hj,HC,HU,HF⟩:=hrel
  obtain⟨Bi,di,Ba,da,Bc,dc,Bo,dO,L',ho⟩:=HC.out.opens
  have d:=tt ho
  have R:=ho.row
  have f0:wr.cell? ⟨k,0,none⟩=some (.int .i64 c.f):=am R 0 rfl
  have Z:=aT (w:=wr.drew) (T:=fun b=>b≠k) (show wr.drew.cell? ⟨k,23,none⟩=some (.slice Bo L'.length dO) from am R 23 rfl) (fun hh=>hh rfl)
  clear R ho
  by_cases hlt:j < n
  ·have bN:decide ((j:Int) < Psp.aO c.f)=true:=by rw[←a7.out];simp;omega
   go_upto_region 5 with (go_at_call 58;refine (bg _ _).mono ?_;rintro e w' ⟨rfl,rfl⟩)
   have b1:Hid (wr.drew.ownsRow w2.heap.size 5 1 (.slice Av bs.length a5) bs.length (bs.map bv)):=tt (ar (w':=wr.drew) HV.out fun b hb=>HF.out.block b (HV.out.lt b hb).2 (fun hu=>by have:=HS.out b hu;have:=(HV.out.lt b hb).1;omega))
   have b2:=tt (Rd.of_own b1.out)
   have bO:L'.length=s.out.length+j:=by
    have h1:=congrArg List.length d.out.om
    rw[List.length_map] at h1
    rw[h1]
    show (s.out++bK j bs).length=_
    rw[tH,ji]
   have cZ:L'.length≤2000000:=by omega
   clear bO
   have bd:k < wr.heap.size:=d.out.lt k d.out.uk
   have cb:w3.heap.size≤wr.heap.size:=HF.out.size
   refine aU (fun b=>b≠k) [(true,0),(true,1),(true,2),(true,3),(true,4),(true,5),(true,6),(false,7),(true,8),(false,9),(false,10)] (by kernel_rfl) (by kernel_rfl) ?_
   simp only[phS,tu,tx,Option.toList,tC,tD,Nat.reduceAdd,tE,List.drop_zero]
   repeat (first|go_big_quiet_step (fail)|quiet_step (fail)|refine wpQuiet_nil ?_)
   clear Z f0
   go_wp2_with (at_builtin;refine bk et rfl _ _ rfl wr.drew.heap.size _ 0 [] rfl (World.ownsRow_nil _ _ _ _) wr.drew.heap.size _ bs.length _ rfl b2.out (by simp[bv,Value.oneCell']) (by unfold maxLen;omega) (by omega) (tJ _) ?_;intro v4 w4 m al _;rw[Nat.zero_add,List.nil_append] at m;have hb4:Below wr.heap.size wr w4:=(Below.refl _ _).drew.grown al (tJ _) (fun k hk=>by simp[Act.eval,Value.ownBlock] at hk);have D:=tt m;have l:=tt hb4;clear al m hb4;obtain⟨A4,c4,rfl,_,_,_⟩:=ao D.out)
   have Y:Hid (Fp (fun b=>b≠k) wr.drew w4):=tt (Fp.of_below (show Below wr.drew.heap.size wr.drew w4 from⟨l.out.os,l.out.tape,l.out.output,l.out.size,l.out.block⟩) _)
   have cl:wr.heap.size≤w4.heap.size:=l.out.size
   refine And.intro ⟨⟨w4,Y.out⟩,rfl⟩ ?_
   repeat (first|go_big_quiet_step (fail)|quiet_step (fail)|refine wpQuiet_nil ?_)
   go_wp2_with fail
   refine And.intro ⟨⟨_,Y.out.alloc _⟩,rfl⟩ ?_
   have b4:=tt (bE d.out.oo.own l.out)
   have J:∀b,(Value.slice Bo L'.length dO).ownBlock=some b→b≠k:=aC d.out.oo.own d.out.row (by decide)
   have Q:=tt J
   clear J
   go_wp2_with (at_builtin;refine aW pY rfl _ _ rfl 0 (.slice Bo L'.length dO) L'.length (L'.flatMap sv) rfl b4.out _ rfl rfl (by simp[Value.oneCell']) (by omega) (by decide) (Nat.zero_le _) ?_;intro v5 w5 A af _ aa;have C:=tt A;have I:=tt af;have b0:=tt aa;clear A af aa;obtain⟨A5,c5,rfl,_,_,_⟩:=ao C.out)
   refine And.intro ⟨⟨w5,Y.out.grown I.out (fun b hb=>Or.inl (Q.out b hb))⟩,rfl⟩ ?_
   have q:Hid (Fp (fun b=>(Value.slice Bo L'.length dO).ownBlock=some b) wr w5):=tt ((Fp.of_below l.out _).grown I.out (fun b hb=>Or.inl hb))
   have a:=(q.out.block k bd (fun hh=>Q.out k hh rfl)).trans d.out.row
   have b3:=tt a
   have bQ:w5.cell? ⟨k,23,none⟩=some (.slice Bo L'.length dO):=am a 23 rfl
   have a9:=frozen_of_row _ _ 23 _ _ a
   have ck:w4.heap.size≤w5.heap.size:=I.out.size
   clear a
   go_wp2_with fail
   clear bQ a9
   have ho:=d.out
   have o:∀b,(Value.slice A4 bs.length c4).ownBlock=some b→wr.heap.size≤b∧b < w4.heap.size:=fun b hb=>D.out.lt b hb
   have a2:=(q.out.block ct (ho.lt ct ho.uct) (fun hh=>aC ho.oo.own ho.clk (by decide) ct hh rfl)).trans ho.clk
   have V:∀x∈L',w5.ownsRow 0 5 1 x.v x.b.length (x.b.map bv):=fun x hx=>ar (ho.oo.ok x hx).1 fun b hb=>q.out.block b ((ho.oo.ok x hx).1.lt b hb).2 (bC (ho.oo.ok x hx).1 ho.oo.own (by decide) b hb)
   have hnb:w5.ownsRow 0 5 1 (.slice A4 bs.length c4) bs.length (bs.map bv):=bA (ar D.out fun b hb=>I.out.block b (o b hb).2 (fun he=>by have:=(ho.oo.own.lt b he.symm).2;have:=(o b hb).1;omega)) (Nat.zero_le _)
   have ac:Outs w5 (fun b=>U' b∨(wr.heap.size≤b∧b < w5.heap.size)) (.slice A5 (L'.length+1) c5) (L'++[⟨(j:Int),bs,.slice A4 bs.length c4⟩]):=⟨by rw[tH,List.flatMap_append];simpa [sv,iv] using C.out,fun b hb=>by
    rcases b0.out with h1|h1
    ·rw[h1] at hb;exact .inl (ho.oo.hu b hb)
    ·have h2:=(C.out.lt b hb).2
     rw[h1] at hb;injection hb with hb
     right;omega,fun x hx=>by
    rcases List.mem_append.1 hx with hx|hx
    ·exact⟨V x hx,fun b hb=>.inl ((ho.oo.ok x hx).2 b hb)⟩
    ·rw[List.mem_singleton.1 hx]
     exact⟨hnb,fun b hb=>by have:=o b hb;right;omega⟩⟩
   have a0:=(dh (W:=w5) (U:=fun b=>U' b∨(wr.heap.size≤b∧b < w5.heap.size)) (k:=k) (ct:=ct) (g:=g) (c:=c) (id:=id) (j:=23) (u:=(.slice A5 (L'.length+1) c5)) (s':={s with out:=s.out++bK (j+1) bs}) (vo':=(.slice A5 (L'.length+1) c5)) b3.out rfl a2 (.inl ho.uk) (.inl ho.uct) (fun b hb=>by rcases hb with hb|hb;(have:=ho.lt b hb;omega);exact hb.2)
    (ar ho.oi fun b hb=>q.out.block b (ho.oi.lt b hb).2 (bC ho.oi ho.oo.own (by decide) b hb)) (ar ho.oa fun b hb=>q.out.block b (ho.oa.lt b hb).2 (bC ho.oa ho.oo.own (by decide) b hb)) (ar ho.oc fun b hb=>q.out.block b (ho.oc.lt b hb).2 (bC ho.oc ho.oo.own (by decide) b hb))
    (by rw[List.map_append,ho.om,io];show (s.out++bK j bs)++[((j:Int),bs)]=_;rw[List.append_assoc]) ac (fun b hb=>.inl (ho.ui b hb)) (fun b hb=>.inl (ho.ua b hb)) (fun b hb=>.inl (ho.uc b hb))).clm
   refine⟨⟨j+1,_,by go_num,by omega,tt a0,tt fun b hb=>?_,tt ?_⟩,?_⟩
   ·rcases hb with hb|hb
    ·exact HU.out b hb
    ·right;omega
   ·have h1:Fp (fun b=>U' b) wr (w5.setCell ⟨k,23,none⟩ (.slice A5 (L'.length+1) c5)):=(q.out.mono fun b _ hb=>ho.oo.hu b hb).setCell (p:=⟨k,23,none⟩) (Or.inl ho.uk) _
    exact HF.out.trans h1 fun b hb=>HU.out b hb
   ·simp[intOf];omega
  ·have bp:j=n:=by omega
   subst bp
   have bN:decide ((j:Int) < Psp.aO c.f)=false:=by rw[←a7.out];simp
   clear Z
   go_wp2_with (go_at_call 58;refine (bg _ _).mono ?_;rintro e w' ⟨rfl,rfl⟩)
   go_end0
   refine⟨rfl,U',?_,fun b hb=>?_,?_⟩
   ·rw[HM.out]
    refine⟨b5.out.fp HF.out (fun hu=>z.out.1 hu) (fun hu=>z.out.2 hu),HC.out,fun hu=>?_,fun hu=>?_⟩
    ·rcases HU.out g hu with h1|h1
     ·exact z.out.1 h1
     ·omega
    ·rcases HU.out bm hu with h1|h1
     ·exact z.out.2 h1
     ·omega
   ·rcases HU.out b hb with h1|h1
    ·exact .inl h1
    ·right;omega
   ·exact (F3.out.mono fun b _ hb=>.inr hb).trans HF.out fun b hb=>.inl (.inl hb)
end Go.Proofs.YtipmjleohadoeaaGreat
end
