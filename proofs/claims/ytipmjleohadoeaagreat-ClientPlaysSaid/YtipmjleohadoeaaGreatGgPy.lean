import Derived.Test.YtipmjleohadoeaaGreatGfPy
import Derived.Test.YtipmjleohadoeaaGreatJ1Py
import Derived.Maps.OwnSet
import Derived.Maps.OwnOps
import Derived.DeepKeys4
import Derived.Laws.IdiomStrings
import Derived.Deep.CutBlock
import Derived.Laws.StructEq
import Derived.Deep.AppendLies
import Derived.Deep.RegionHeld3
import Derived.Deep.RegionLaw
import Derived.OwnWalk
import Derived.Test.YtipmjleohadoeaaGreatGaPy
set_option maxRecDepth 100000
set_option maxHeartbeats 16000000
set_option linter.unusedVariables false
set_option linter.unusedSimpArgs false
section
namespace Go.Proofs.YtipmjleohadoeaaGreat
open Go.RowKit Go.Maps
abbrev Key:=Int×List UInt8
def KOk (k:Key):Prop:=aE k.1∧k.2.length≤maxLen
def aX (l:List UInt8):ByteArray:=⟨l.toArray⟩
theorem kZ (l:List UInt8):(aX l).size=l.length:=by simp[aX,ByteArray.size]
theorem fN (l:List UInt8):(aX l).data.toList=l:=by simp[aX]
def kv (k:Key):Value:=.agg #[.int .i64 k.1,.string (aX k.2)]
def kl (k:Key):Lit:=.string (keyBytes [.int .i64 k.1,.string k.2])
theorem lB:laidOutB Tryz.prog=true:=by kernel_rfl
theorem oU:(116:TypeId) < Tryz.prog.types.size:=of_decide_eq_true (by kernel_rfl)
theorem qx:(match Tryz.prog.underlying 116 with|some (.array _ _)|some (.struct _)=>true|_=>false)=true:=by kernel_rfl
theorem nt_law:Keyed Tryz.prog 116:=Keyed.of_law (deep_law_laid lB (m:=2) (by omega) oU (by kernel_rfl) qx)
theorem lC:Tryz.prog.keyType 116=true:=by kernel_rfl
theorem gj:Tryz.prog.cellsOf 116=2:=by kernel_rfl
theorem dZ:Tryz.prog.cellsOf 3=1:=by kernel_rfl
theorem dY:Tryz.prog.cellsOf 9=1:=by kernel_rfl
theorem mj:∃m,Tryz.prog.types.size=m+1:=⟨Tryz.prog.types.size - 1,by have h:0 < Tryz.prog.types.size:=Nat.lt_of_le_of_lt (Nat.zero_le _) oU;omega⟩
theorem zeroI (w:World):(zeroValue 3).run Tryz.prog w= .ok (.int .i64 0) w:=by kernel_rfl
theorem j7 (k:Key) (h:KOk k):keyOf Tryz.prog 116 (kv k)=some (kl k):=by
 obtain⟨m,hm⟩:=mj
 have hw:(Lit.int .i64 k.1).wf=true:=by obtain⟨⟨h1,h2⟩,_⟩:=h;exact WalkArith.wf_i64 ⟨h1,h2⟩
 have hs:(aX k.2).size≤maxLen:=by rw[kZ];exact h.2
 unfold keyOf kv
 simp only[Tryz.underlying116]
 rw[if_pos (by simp[lC,Value.formed,Tryz.underlying116,gj]),hm]
 unfold Program.keyLits
 simp only[Tryz.underlying116,Value.cells]
 rw[if_pos ⟨by rw[gj];rfl,by simp⟩,List.mapM_cons,List.mapM_cons,List.mapM_nil]
 simp[dZ,dY,Program.keyLits,Tryz.underlying3,Tryz.underlying9,hw,hs,kl,fN]
theorem gu {a b:List UInt8} (h:aX a=aX b):a=b:=by
 have:=congrArg (fun s=>s.data.toList) h
 simpa [fN] using this
theorem se {a b:Key} (h:kv a=kv b):a=b:=by
 unfold kv at h
 injection h with h
 simp only[Array.mk.injEq,List.cons.injEq,Value.int.injEq,Value.string.injEq,and_true,true_and] at h
 exact Prod.ext h.1 (gu h.2)
theorem sf {a b:Key} (ha:KOk a) (hb:KOk b) (h:kl a=kl b):a=b:=by
 refine se (nt_law.inj (j7 a ha) ?_)
 rw[h];exact j7 b hb
theorem pe (k:Key):WideAt.IsKeyLit (kl k):=by
 unfold kl;trivial
theorem lP {P:Nat→Prop} (w:World) (v:Value) (l:List UInt8) (h:RdP w P 1 v l.length (l.map bv)):(convert 49 9 v).run Tryz.prog w= .ok (.string (aX l)) w:=by
 obtain⟨_,A,c,rfl,_,_,hc⟩:=h
 cases l with
 |nil=>
  rw[run_convert_bytes_string w _ _ _ A _ c Tryz.underlying49 Tryz.underlying5 Tryz.underlying9]
  cases A <;> simp[Conv.bytesToString,aX,loadCells] <;> rfl
 |cons x l=>
  obtain⟨b,o,rfl,_,_,hl⟩:=hc (by simp)
  refine run_convert_bytes_back w _ _ _ ⟨b,o,none⟩ c (x :: l) Tryz.underlying49 Tryz.underlying5 Tryz.underlying9 fun j hj=>?_
  have h1:=hl j (.int .u8 ((x :: l)[j].toNat:Int)) (by rw[List.getElem?_map,tK hj];rfl)
  have ha:((⟨b,o,none⟩:Addr).add j)=⟨b,o+j,none⟩:=by
   unfold Addr.add;by_cases h0:j=0
   ·subst h0;rfl
   ·simp[h0]
  rw[ha];exact h1
structure Nt (w:World) (g bm:Nat) (l:List Key):Prop where
 cell:w.heap[g]? =some (.cells #[.map (some bm)] 93 (0,0))
 own:∃D:DataW Unit,w.ownsMap Tryz.prog 116 (plainElem Tryz.prog 3) bm l.length D∧Maps.size D=l.length∧
  ∀k,KOk k→Maps.has D (kl k)=decide (k∈l)∧D.atKey (kl k) (.lit (.int .i64 0))= .lit (.int .i64 (if k∈l then (l.idxOf k:Int)+1 else 0))
 nd:l.Nodup
 ok:∀k∈l,KOk k
def num (l:List Key) (k:Key):Int:=if k∈l then (l.idxOf k:Int)+1 else 0
def aV (l:List Key) (k:Key):Int:=if k∈l then (l.idxOf k:Int)+1 else (l.length:Int)+1
def bi (l:List Key) (k:Key):List Key:=if k∈l then l else l++[k]
theorem Nt.lt {w:World} {g bm:Nat} {l:List Key} (h:Nt w g bm l):g < w.heap.size∧bm < w.heap.size:=by
 obtain⟨D,hD,_⟩:=h.own
 exact⟨(tz h.cell).1,hD.lt⟩
theorem Nt.keep {w w':World} {g bm:Nat} {l:List Key} (h:Nt w g bm l) (h1:w'.heap[g]? =w.heap[g]?) (h2:w'.heap[bm]? =w.heap[bm]?):Nt w' g bm l:=by
 obtain⟨D,⟨es,ck,q1,q2⟩,hD⟩:=h.own
 exact⟨h1.trans h.cell,⟨D,⟨es,ck,h2.trans q1,q2⟩,hD⟩,h.nd,h.ok⟩
theorem Nt.below {w w':World} {g bm:Nat} {l:List Key} (h:Nt w g bm l) (hb:Below w.heap.size w w'):Nt w' g bm l:=h.keep (hb.block _ h.lt.1) (hb.block _ h.lt.2)
theorem Nt.fp {w w':World} {S:Nat→Prop} {g bm:Nat} {l:List Key} (h:Nt w g bm l) (hf:Fp S w w') (h1:¬S g) (h2:¬S bm):Nt w' g bm l:=h.keep (hf.block _ h.lt.1 h1) (hf.block _ h.lt.2 h2)
theorem Nt.ne {w:World} {g bm:Nat} {l:List Key} (h:Nt w g bm l):g≠bm:=by
 rintro rfl
 obtain⟨D,⟨es,ck,q1,q2⟩,hD⟩:=h.own
 rw[h.cell] at q1;cases q1
theorem Nt.add {w w':World} {g bm:Nat} {l:List Key} {k:Key} {D:DataW Unit} (h:Nt w g bm l) (hk:KOk k) (f:k∉l) (c:w.ownsMap Tryz.prog 116 (plainElem Tryz.prog 3) bm l.length D)
 (hs:Maps.size D=l.length) (hD:∀k,KOk k→Maps.has D (kl k)=decide (k∈l)∧D.atKey (kl k) (.lit (.int .i64 0))= .lit (.int .i64 (if k∈l then (l.idxOf k:Int)+1 else 0)))
 (h1:w'.heap[g]? =w.heap[g]?) (d:w'.ownsMap Tryz.prog 116 (plainElem Tryz.prog 3) bm (l.length+1) (D.put (kl k) (.lit (.int .i64 ((l.length:Int)+1))))):Nt w' g bm (l++[k]):=by
 refine⟨h1.trans h.cell,⟨_,by rw[tH];exact d,?_,fun k' i=>?_⟩,?_,?_⟩
 ·rw[Maps.size_put (c.tidy nt_law),(hD k hk).1,tA f,hs];simp
 ·by_cases he:k'=k
  ·subst he
   rw[Maps.has_put_same c.isMap (pe _),Maps.atKey_put_same c.isMap (pe _)]
   simp[List.idxOf_append,f]
  ·have j:kl k'≠kl k:=fun e=>he (sf i hk e)
   rw[Maps.has_put_other j,Maps.atKey_put_other j,(hD k' i).1,(hD k' i).2]
   by_cases hm:k'∈l
   ·simp[hm,List.idxOf_append]
   ·simp[hm,he]
 ·rw[List.nodup_append];exact⟨h.nd,by simp,fun a ha b hb=>by simp at hb;subst hb;rintro rfl;exact f ha⟩
 ·intro a ha
  rcases List.mem_append.1 ha with ha|ha
  ·exact h.ok a ha
  ·simp at ha;subst ha;exact hk
open Go.RowKit Go.Maps
theorem lz (w:World):Calls Tryz.prog 9 #[] w fun e w'=>∃g bm,e= .returned (.pointer (some ⟨g,0,none⟩))∧Nt w' g bm []∧Below w.heap.size w w'∧w.heap.size≤g∧w.heap.size≤bm:=by
 have a:= @run_makeMap Tryz.prog
 go_enter Tryz.func9,Tryz.ntmps9
 go_wp2_with fail
 go_ret
 have hb:=(ae w (.map #[] 0)).trans ((ae (w.alloc (.map #[] 0)) (.cells #[.map (some w.heap.size)] 93)).mono (by simp))
 have hs:(w.alloc (.map #[] 0)).heap.size=w.heap.size+1:=by simp
 refine⟨w.heap.size+1,w.heap.size,rfl,⟨?_,⟨.map [],(World.ownsMap_made w _ _ _).alloc _,rfl,fun k hk=>⟨rfl,rfl⟩⟩,List.nodup_nil,fun k hk=>by cases hk⟩,hb,Nat.le_succ _,tJ _⟩
 have:=tL (w.alloc (.map #[] 0)) (.cells #[.map (some w.heap.size)] 93)
 rwa [hs] at this
theorem hH {w:World} {g bm:Nat} {l:List Key} (h:Nt w g bm l):w.cell? ⟨g,0,none⟩=some (.map (some bm))∧w.frozen? ⟨g,0,none⟩=false:=by
 have hc:=h.cell
 constructor
 ·simp[World.cell?,hc]
 ·simp[World.frozen?,hc]
theorem lA (g bm:Nat) (l:List Key) (w:World) (hN:Nt w g bm l):Calls Tryz.prog 24 #[.pointer (some ⟨g,0,none⟩)] w fun e w'=>e= .returned (.int .i64 (l.length:Int))∧w'=w:=by
 obtain⟨c0,a⟩:=hH hN
 obtain⟨D,hD,hs,_⟩:=hN.own
 have HD:=tt hD
 have Hs:=tt hs
 clear hD hs
 go_enter Tryz.func24,Tryz.ntmps24
 go_wp2_with (at_len;refine wpList_len_own _ rfl _ 91 rfl 116 3 Tryz.underlying91 _ bm _ _ rfl HD.out ?_;rw[Hs.out])
 go_ret
 exact⟨rfl,rfl⟩
theorem qy {w:World} {g bm:Nat} {l:List Key} (h:Nt w g bm l) {k:Key} (hk:KOk k) (w':World) (hw:w'.heap[bm]? =w.heap[bm]?):
 (Instr.lookup 91 (.map (some bm)) (kv k) true).run Tryz.prog w'= .ok (.tuple #[.int .i64 (num l k),.bool (decide (k∈l))]) w':=by
 obtain⟨D,⟨es,ck,q1,q2⟩,hs,hD⟩:=h.own
 have a:w'.ownsMap Tryz.prog 116 (plainElem Tryz.prog 3) bm l.length D:=⟨es,ck,hw.trans q1,q2⟩
 obtain⟨v,ps,hr,hv⟩:=a.look_ok nt_law Tryz.underlying91 (zeroI w') (plainElem_int (H:=Unit) Tryz.underlying3 (WalkArith.wf_i64 (n:=0) (by omega))) (j7 k hk)
 obtain⟨c,rfl,hz,_⟩:=plainElem_int_inv Tryz.underlying3 hv
 rw[(hD k hk).2] at hz
 injection hz with hz _
 injection hz with hz
 injection hz with _ hz
 unfold num
 rw[hr,(hD k hk).1,←hz]
theorem jA {a:Act} {o:Oper} {w:World} (x y:Operand) (ho:o.op= .lookup 91 x y true) {g bm:Nat} {l:List Key} {w0:World} (h:Nt w0 g bm l) {k:Key} (hk:KOk k) (hw:w.heap[bm]? =w0.heap[bm]?)
 (hx:a.eval x= .map (some bm)) (hy:a.eval y=kv k):(execOp a.eval o).run Tryz.prog w= .ok (.value (.tuple #[.int .i64 (num l k),.bool (decide (k∈l))])) w:=by
 unfold execOp
 simp only[ho,hx,hy,Sem.run_bind,Sem.run_pure,qy h hk w hw,Result.andThen_ok]
theorem gS {a:Act} {o:Oper} {w:World} (x y:Operand) (ho:o.op= .lookup 91 x y true) {g bm:Nat} {l:List Key} {w0:World} (h:Nt w0 g bm l) {k:Key} (hk:KOk k) (hw:w.heap[bm]? =w0.heap[bm]?)
 (hx:a.eval x= .map (some bm)) (hy:a.eval y=kv k) {b:Bool} (hb:decide (k∈l)=b):(execOp a.eval o).run Tryz.prog w= .ok (.value (.tuple #[.int .i64 (num l k),.bool b])) w:=by
 subst hb;exact jA x y ho h hk hw hx hy
theorem df {a:Act} {o:Oper} {w:World} {P:Nat→Prop} (x:Operand) (ho:o.op= .convert 49 9 x) (v:Value) (l:List UInt8) (h:RdP w P 1 v l.length (l.map bv)) (hx:a.eval x=v):
 (execOp a.eval o).run Tryz.prog w= .ok (.value (.string (aX l))) w:=by
 unfold execOp
 simp only[ho,hx,Sem.run_bind,Sem.run_pure,lP w v l h,Result.andThen_ok]
theorem ml (g bm:Nat) (l:List Key) (p:Int) (bs:List UInt8) (v:Value) (w:World) (P:Nat→Prop) (hN:Nt w g bm l) (hk:KOk (p,bs)) (hv:RdP w P 1 v bs.length (bs.map bv)):
 Calls Tryz.prog 97 #[.pointer (some ⟨g,0,none⟩),.int .i64 p,v] w fun e w'=>e= .returned (.tuple #[.int .i64 (num l (p,bs)),.bool (decide ((p,bs)∈l))])∧∃q,w'=w.drewN q:=by
 obtain⟨c0,d⟩:=hH hN
 obtain⟨_,A,c,rfl,_,_,_⟩:=hv.parts
 have HN:=tt hN
 have HV:=tt hv
 have HK:=tt hk
 clear hN hv hk d
 go_enter Tryz.func97,Tryz.ntmps97
 go_wp2_with fail
 refine wp_region_quiet_lit (by kernel_rfl) (by kernel_rfl) ?_
 repeat (first|(refine bt rfl (.string (aX bs)) (fun w' hC=>by obtain⟨n,rfl⟩:=hC;exact df (.tmp 16) rfl _ bs HV.out rfl) ?_;intro K hK;go_simp;refine hK _ ?_;clear hK K)|(refine bt rfl (.tuple #[.int .i64 (num l (p,bs)),.bool (decide ((p,bs)∈l))]) (fun w' hC=>by obtain⟨n,rfl⟩:=hC;exact jA (.tmp 14) (.tmp 18) rfl HN.out HK.out rfl rfl rfl) ?_;intro K hK;go_simp;refine hK _ ?_;clear hK K)|go_big_quiet_step (fail))
 refine wpQuiet_nil ?_
 intro _ b
 obtain⟨nq,a⟩:=b
 subst a
 go_wp2_with fail
 go_ret2
 exact⟨rfl,_,rfl⟩
theorem oV (g bm:Nat) (l:List Key) (p:Int) (bs:List UInt8) (s:Int) (v:Value) (w:World) (P:Nat→Prop) (hN:Nt w g bm l) (hk:KOk (p,bs)) (hv:RdP w P 1 v bs.length (bs.map bv)):
 Calls Tryz.prog 62 #[.pointer (some ⟨g,0,none⟩),.int .i64 p,v,.int .i64 s] w fun e w'=>e= .returned (.bool (decide ((p,bs)∈l)&&decide (num l (p,bs)=s)))∧∃q,w'=w.drewN q:=by
 have HN:=tt hN
 have HV:=tt hv
 have HK:=tt hk
 clear hN hv hk
 by_cases hm:(p,bs)∈l
 case' pos=>
  go_enter Tryz.func62,Tryz.ntmps62
  go_wp2_with fail
  refine (ml g bm l p bs v w P HN.out HK.out HV.out).mono ?_
  rintro e w' ⟨rfl,q,rfl⟩
  rw[tB hm]
  go_wp2_with fail
  go_ret
  exact⟨by simp[hm,Bool.beq_eq_decide_eq],q,rfl⟩
 case' neg=>
  go_enter Tryz.func62,Tryz.ntmps62
  go_wp2_with fail
  refine (ml g bm l p bs v w P HN.out HK.out HV.out).mono ?_
  rintro e w' ⟨rfl,q,rfl⟩
  rw[tA hm]
  go_wp2_with fail
  go_ret
  exact⟨by simp[hm],q,rfl⟩
theorem iF:(Tryz.prog.info? 116).map (·.size)=some 2:=by kernel_rfl
theorem jU (g bm:Nat) (l:List Key) (p:Int) (bs:List UInt8) (v:Value) (w:World) (P:Nat→Prop) (hN:Nt w g bm l) (hk:KOk (p,bs)) (hl:l.length < 1099511627776) (hv:RdP w P 1 v bs.length (bs.map bv)):
 Calls Tryz.prog 56 #[.pointer (some ⟨g,0,none⟩),.int .i64 p,v] w fun e w'=>e= .returned (.int .i64 (aV l (p,bs)))∧Nt w' g bm (bi l (p,bs))∧Fp (fun b=>b=bm) w w':=by
 have HN:=tt hN
 have HV:=tt hv
 have HK:=tt hk
 clear hN hv hk
 go_enter Tryz.func56,Tryz.ntmps56
 go_wp2_with (first|(refine iH rfl (.string (aX bs)) (df (.tmp 12) rfl _ bs HV.out rfl) ?_)|(refine bj rfl 116 (.tmp 7) (.tmp 14) rfl _ _ [.int .i64 p,.string (aX bs)] rfl rfl rfl iF (by simp[Value.oneCell']) ?_;intro w1 hb1 f hs1))
 have a:=tt (HN.out.below hb1)
 have m:Hid (∀w':World,(∃n,w'=w1.drewN n)→w'.rangeAt w.heap.size 0 [.int .i64 p,.string (aX bs)]):=tt (by rintro w' ⟨n,rfl⟩;exact f)
 have s:=tt f
 have o:=tt hb1
 obtain⟨c0,r⟩:=hH a.out
 clear hb1 f hs1 r
 go_frame
 by_cases hm:(p,bs)∈l
 case' pos=>
  have hd:=tB hm
  refine wp_region_quiet_lit (by kernel_rfl) (by kernel_rfl) ?_
  repeat (first|(refine aj rfl 116 (.tmp 7) rfl w.heap.size 0 rfl _ _ m.out Tryz.underlying116 rfl iF ?_;intro K hK;go_simp;refine hK _ ?_;clear hK K)|(refine bt rfl (.tuple #[.int .i64 (num l (p,bs)),.bool true]) (fun w' hC=>by obtain⟨n,rfl⟩:=hC;exact gS (.tmp 19) (.tmp 20) rfl a.out HK.out (by rfl) (by rfl) (by rfl) hd) ?_;intro K hK;go_simp;refine hK _ ?_;clear hK K)|go_big_quiet_step (fail))
  refine wpQuiet_nil ?_
  intro _ d
  obtain⟨nq,c⟩:=d
  subst c
  go_wp2_with fail
  go_ret
  have e1:aV l (p,bs)=num l (p,bs):=by simp[aV,num,hm]
  have e2:bi l (p,bs)=l:=by simp[bi,hm]
  rw[e1,e2]
  exact⟨rfl,a.out.keep rfl rfl,(Fp.of_below o.out _).drewN nq⟩
 case' neg=>
  have hd:=tA hm
  refine wp_region_quiet_lit (by kernel_rfl) (by kernel_rfl) ?_
  repeat (first|(refine aj rfl 116 (.tmp 7) rfl w.heap.size 0 rfl _ _ m.out Tryz.underlying116 rfl iF ?_;intro K hK;go_simp;refine hK _ ?_;clear hK K)|(refine bt rfl (.tuple #[.int .i64 (num l (p,bs)),.bool false]) (fun w' hC=>by obtain⟨n,rfl⟩:=hC;exact gS (.tmp 19) (.tmp 20) rfl a.out HK.out (by rfl) (by rfl) (by rfl) hd) ?_;intro K hK;go_simp;refine hK _ ?_;clear hK K)|go_big_quiet_step (fail))
  refine wpQuiet_nil ?_
  intro _ d
  obtain⟨nq,c⟩:=d
  subst c
  obtain⟨D,hD,hs,j⟩:=a.out.own
  have HD:=tt hD
  have Hs:=tt hs
  have t:=tt j
  clear hD hs j
  go_wp2_with (at_len;refine wpList_len_own _ rfl _ 91 rfl 116 3 Tryz.underlying91 _ bm _ D rfl (show (w1.drewN nq).ownsMap _ _ _ _ _ _ from HD.out) ?_;rw[Hs.out])
  have hr3:=s.out
  have x0:w1.cell? ⟨w.heap.size,0,none⟩=some (.int .i64 p):=by simpa using hr3 0 _ rfl
  have x1:w1.cell? ⟨w.heap.size,1,none⟩=some (.string (aX bs)):=by simpa using hr3 1 _ rfl
  clear hr3
  refine bz 6 (by kernel_rfl) (by kernel_rfl) ?_
  simp only[List.take_succ_cons,List.take_zero,tE,List.drop_zero]
  repeat still_step
  refine wpStill_nil ?_
  go_wp2_with (at_mapUpdate;refine wpList_mapUpdate_own _ rfl _ _ _ 91 rfl 116 3 nt_law Tryz.underlying91 _ bm l.length D rfl (show ((w1.drewN nq).drew).ownsMap _ _ _ _ _ _ from HD.out) (by unfold maxLen;omega) _ _ (kl (p,bs)) rfl rfl (j7 (p,bs) HK.out) (.lit (.int .i64 ((l.length:Int)+1))) [] (plainElem_int Tryz.underlying3 (WalkArith.wf_i64 (by omega))) ?_;intro w2 h i)
  go_ret
  have e1:aV l (p,bs)=(l.length:Int)+1:=by simp[aV,hm]
  have e2:bi l (p,bs)=l++[(p,bs)]:=by simp[bi,hm]
  rw[e1,e2]
  have hlt:=a.out.lt
  have q:=a.out.ne
  refine⟨rfl,a.out.add HK.out hm HD.out Hs.out t.out ?_ h,?_⟩
  ·exact i.block g hlt.1 (by simp;exact q)
  ·exact (((Fp.of_below o.out _).drewN nq).drew).grown i (fun k hk=>Or.inl (by injection hk with hk;exact hk.symm))
theorem az:(Tryz.prog.info? 42).map (·.size)=some 6:=by kernel_rfl
theorem ft {W:World} {g:Nat} {zs:Array Value} {T:TypeId} (h:W.heap[g]? =some (.cells zs T (0,0))) (l:List Value) (hl:l.length=zs.size):(W.setCells g 0 l).heap[g]? =some (.cells l.toArray T (0,0))∧∀b,b≠g→(W.setCells g 0 l).heap[b]? =W.heap[b]?:=by
 have c:∀(vs:List Value) (k:Nat) (W:World) (pre:List Value),W.heap[g]? =some (.cells (pre++zs.toList.drop k).toArray T (0,0))→pre.length=k→k+vs.length=zs.size→(W.setCells g k vs).heap[g]? =some (.cells (pre++vs).toArray T (0,0)):=by
  intro vs
  induction vs with
  |nil=>
   intro k W pre h1 h2 h3
   rw[List.drop_eq_nil_of_le (by simp at h3 ⊢;omega)] at h1
   exact h1
  |cons v vs ih=>
   intro k W pre h1 h2 h3
   have h4:(W.setCell ⟨g,k,none⟩ v).heap[g]? =some (.cells ((pre++[v])++zs.toList.drop (k+1)).toArray T (0,0)):=by
    rw[heap_setCell_same W _ k _ _ v h1]
    congr 2
    have hk:k < zs.toList.length:=by simp at h3 ⊢;omega
    rw[List.drop_eq_getElem_cons hk]
    apply Array.ext'
    simp[h2]
   have:=ih (k+1) _ (pre++[v]) h4 (by simp[h2]) (by simp at h3 ⊢;omega)
   simpa [World.setCells] using this
 have a:∀(vs:List Value) (k:Nat) (W:World) (b:Nat),b≠g→(W.setCells g k vs).heap[b]? =W.heap[b]?:=by
  intro vs
  induction vs with
  |nil=>intro k W b _;rfl
  |cons v vs ih=>
   intro k W b hb
   exact (ih (k+1) _ b hb).trans (Below.heap_setCell W ⟨g,k,none⟩ _ b hb)
 exact⟨by simpa using c l 0 W [] (by simpa using h) rfl (by simpa using hl),fun b hb=>a l 0 W b hb⟩
theorem fs {W:World} {g:Nat} {zs:Array Value} {T:TypeId} (h:W.heap[g]? =some (.cells zs T (0,0))):W.there g 0 zs.size:=fun j hj=>by
 refine⟨?_,frozen_of_row W _ (0+j) _ _ h⟩
 rw[Nat.zero_add,cell_of_row W _ j _ _ _ h]
 simp[hj]
theorem aI {P:Program} {fn:Func} {p u:Tmp} {ty:TypeId} (h:fn.results=#[.cell p ty,.tmp u]) (tmps:Array Value) (w:World) (g:Nat) (t:TypeId) (cs:Array Value) (fr:Nat×Nat) (d:TypeDesc)
 (hp:tmps.getD p undef= .pointer (some ⟨g,0,none⟩)) (hg:w.heap[g]? =some (.cells cs t fr))
 (hu:P.underlying ty=some d) (hd:(match d with| .struct _| .array _ _=>true|_=>false)=true) (hi:(P.info? ty).map (·.size)=some cs.size):
 (results fn tmps).run P w= .ok (.tuple #[.agg cs,tmps.getD u undef]) w:=by
 have a:tmps[p]?.getD undef= .pointer (some ⟨g,0,none⟩):=by simpa using hp
 simp[results,h,a,asAddr,run_loadVar_row w g t ty cs fr d hg hu hd hi]
theorem jl {w:World} {g:Nat} {r:Psp.Req} (h:w.heap[g]? =some (.cells #[.int .i64 r.c,.int .i64 r.t,.int .i64 r.k,.int .i64 r.y,.int .i64 r.v,.int .i64 r.s] 42 (0,0))):
 w.cell? ⟨g,0,none⟩=some (.int .i64 r.c)∧w.cell? ⟨g,1,none⟩=some (.int .i64 r.t)∧w.cell? ⟨g,2,none⟩=some (.int .i64 r.k)∧w.cell? ⟨g,3,none⟩=some (.int .i64 r.y)∧w.cell? ⟨g,4,none⟩=some (.int .i64 r.v)∧w.cell? ⟨g,5,none⟩=some (.int .i64 r.s)∧w.frozen? ⟨g,5,none⟩=false:=by
 have hc:=fun j=>cell_of_row w g j _ _ _ h
 exact⟨(hc 0).trans rfl,(hc 1).trans rfl,(hc 2).trans rfl,(hc 3).trans rfl,(hc 4).trans rfl,(hc 5).trans rfl,frozen_of_row w g 5 _ _ h⟩
theorem fB (n:Int) (h:Psp.okN n=true):(Psp.aK n).length≤6:=(Psp.ej h).2
theorem pw (r:Psp.Req) (h:Psp.okR r=true):(Psp.bR r).length≤36:=by
 unfold Psp.okR at h
 simp only[tI] at h
 obtain⟨h1,h2,h3,_,_,h6⟩:=h
 have a1:=fB _ h1
 have a2:=fB _ h2
 have a3:=fB _ h3
 have a4:=(Psp.dB r.y).2
 have a5:=(Psp.dB r.v).2
 have a6:=fB _ h6
 unfold Psp.bR
 simp only[tH]
 omega
theorem qr (r:Psp.Req):(res (Psp.bR r) (Psp.okR r)).length≤36:=by
 cases h:Psp.okR r with
 |false=>rw[jO];simp
 |true=>rw[dt];exact pw r h
end Go.Proofs.YtipmjleohadoeaaGreat
end
section
namespace Psp
def aZ (r:Req) (clients:Int):Bool:=decide (0≤r.c∧r.c < clients∧1≤r.t∧r.t≤1048576∧0≤r.s∧r.s < 1099511627776∧0≤r.y∧r.y < 64∧ -2147483648 < r.v∧r.v < 2147483648∧(r.k=1∨r.k=3∨(r.k=2∧r.v=0)∨(r.k=4∧r.v=0)∨(r.k=5∧r.y=0∧r.v=0)))
end Psp
namespace Go.Proofs.YtipmjleohadoeaaGreat
open Go.RowKit
theorem cR:(Tryz.prog.info? 40).map (·.size)=some 3:=by kernel_rfl
theorem km (r:Psp.Req) (w:World):(w.alloc (.cells #[.int .i64 r.c,.int .i64 r.t,.int .i64 r.k,.int .i64 r.y,.int .i64 r.v,.int .i64 r.s] 42)).rangeAt w.heap.size 2 [.int .i64 r.k,.int .i64 r.y,.int .i64 r.v]:=by
 intro j v hv
 rw[cell_of_row _ w.heap.size (2+j) _ _ _ (tL w _)]
 match j,hv with
 |0,hv=>simpa using hv
 |1,hv=>simpa using hv
 |2,hv=>simpa using hv
theorem gr (r:Psp.Req) (clients:Int) (w:World):
 Calls Tryz.prog 54 #[.agg #[.int .i64 r.c,.int .i64 r.t,.int .i64 r.k,.int .i64 r.y,.int .i64 r.v,.int .i64 r.s],.int .i64 clients] w fun e w'=>e= .returned (.bool (Psp.aZ r clients))∧Below w.heap.size w w':=by
 have q:=km r w
 go_enter Tryz.func54,Tryz.ntmps54
 have hb0:Below w.heap.size w (w.alloc (.cells #[.int .i64 r.c,.int .i64 r.t,.int .i64 r.k,.int .i64 r.y,.int .i64 r.v,.int .i64 r.s] 42)):=ae _ _
 have hb1:Below w.heap.size w ((w.alloc (.cells #[.int .i64 r.c,.int .i64 r.t,.int .i64 r.k,.int .i64 r.y,.int .i64 r.v,.int .i64 r.s] 42)).alloc (.cells #[.int .i64 r.k,.int .i64 r.y,.int .i64 r.v] 40)):=(ae _ _).trans ((ae _ _).mono (by simp))
 go_upto_region 1 with fail
 go_cut [34] from 6 to 34 (fun x wx=>x= .bool (decide ((r.c < 0)∨(clients≤r.c)∨(r.t < 1)∨(1048576 < r.t)∨(r.s < 0)∨(1099511627776≤r.s)))∧(w.alloc (.cells #[.int .i64 r.c,.int .i64 r.t,.int .i64 r.k,.int .i64 r.y,.int .i64 r.v,.int .i64 r.s] 42))=wx)
 case first=>
  by_cases h0:r.c < 0
  ·have d0:decide (r.c < 0)=true:=tB h0
   have hp:decide ((r.c < 0)∨(clients≤r.c)∨(r.t < 1)∨(1048576 < r.t)∨(r.s < 0)∨(1099511627776≤r.s))=true:=tB (by omega)
   go_wp2_with fail
   go_meet
   exact⟨hp▸rfl,rfl⟩
  ·have d0:decide (r.c < 0)=false:=tA h0
   by_cases h1:clients≤r.c
   ·have d1:decide (clients≤r.c)=true:=tB h1
    have hp:decide ((r.c < 0)∨(clients≤r.c)∨(r.t < 1)∨(1048576 < r.t)∨(r.s < 0)∨(1099511627776≤r.s))=true:=tB (by omega)
    go_wp2_with fail
    go_meet
    exact⟨hp▸rfl,rfl⟩
   ·have d1:decide (clients≤r.c)=false:=tA h1
    by_cases h2:r.t < 1
    ·have d2:decide (r.t < 1)=true:=tB h2
     have hp:decide ((r.c < 0)∨(clients≤r.c)∨(r.t < 1)∨(1048576 < r.t)∨(r.s < 0)∨(1099511627776≤r.s))=true:=tB (by omega)
     go_wp2_with fail
     go_meet
     exact⟨hp▸rfl,rfl⟩
    ·have d2:decide (r.t < 1)=false:=tA h2
     by_cases h3:1048576 < r.t
     ·have d3:decide (1048576 < r.t)=true:=tB h3
      have hp:decide ((r.c < 0)∨(clients≤r.c)∨(r.t < 1)∨(1048576 < r.t)∨(r.s < 0)∨(1099511627776≤r.s))=true:=tB (by omega)
      go_wp2_with fail
      go_meet
      exact⟨hp▸rfl,rfl⟩
     ·have d3:decide (1048576 < r.t)=false:=tA h3
      by_cases h4:r.s < 0
      ·have d4:decide (r.s < 0)=true:=tB h4
       have hp:decide ((r.c < 0)∨(clients≤r.c)∨(r.t < 1)∨(1048576 < r.t)∨(r.s < 0)∨(1099511627776≤r.s))=true:=tB (by omega)
       go_wp2_with fail
       go_meet
       exact⟨hp▸rfl,rfl⟩
      ·have d4:decide (r.s < 0)=false:=tA h4
       by_cases h5:1099511627776≤r.s
       ·have d5:decide (1099511627776≤r.s)=true:=tB h5
        have hp:decide ((r.c < 0)∨(clients≤r.c)∨(r.t < 1)∨(1048576 < r.t)∨(r.s < 0)∨(1099511627776≤r.s))=true:=tB (by omega)
        go_wp2_with fail
        go_meet
        exact⟨hp▸rfl,rfl⟩
       ·have d5:decide (1099511627776≤r.s)=false:=tA h5
        have hp:decide ((r.c < 0)∨(clients≤r.c)∨(r.t < 1)∨(1048576 < r.t)∨(r.s < 0)∨(1099511627776≤r.s))=false:=tA (by omega)
        go_wp2_with fail
        go_meet
        exact⟨hp▸rfl,rfl⟩
 case' rest=>
  obtain⟨rfl,rfl⟩:=hcut
  by_cases p:(r.c < 0)∨(clients≤r.c)∨(r.t < 1)∨(1048576 < r.t)∨(r.s < 0)∨(1099511627776≤r.s)
  case' pos=>
   have n:decide ((r.c < 0)∨(clients≤r.c)∨(r.t < 1)∨(1048576 < r.t)∨(r.s < 0)∨(1099511627776≤r.s))=true:=tB p
   have hv:Psp.aZ r clients=false:=tA (by omega)
   rw[n]
   go_wp2_with fail
   go_ret
   exact⟨by rw[hv];rfl,by assumption⟩
  case' neg=>
   have n:decide ((r.c < 0)∨(clients≤r.c)∨(r.t < 1)∨(1048576 < r.t)∨(r.s < 0)∨(1099511627776≤r.s))=false:=tA p
   rw[n]
   go_upto_region 4 with (first|(refine aA (by simp[Region.wanted,yielded]) 40 (.tmp 35) rfl w.heap.size 2 rfl [.int .i64 r.k,.int .i64 r.y,.int .i64 r.v] _ q Tryz.underlying40 rfl cR ?_)|(refine bj rfl 40 (.tmp 5) (.tmp 36) rfl _ _ [.int .i64 r.k,.int .i64 r.y,.int .i64 r.v] rfl rfl rfl cR (by simp[Value.oneCell']) ?_;intro w1 hb1 F hs1))
   go_upto_region 4 with fail
   go_cut [54] from 37 to 54 (fun x wx=>x= .bool (decide ((r.y < 0)∨(64≤r.y)∨(r.v≤ -2147483648)∨(2147483648≤r.v)))∧((w.alloc (.cells #[.int .i64 r.c,.int .i64 r.t,.int .i64 r.k,.int .i64 r.y,.int .i64 r.v,.int .i64 r.s] 42)).alloc (.cells #[.int .i64 r.k,.int .i64 r.y,.int .i64 r.v] 40))=wx)
   case first=>
    by_cases h0:r.y < 0
    ·have d0:decide (r.y < 0)=true:=tB h0
     have hp:decide ((r.y < 0)∨(64≤r.y)∨(r.v≤ -2147483648)∨(2147483648≤r.v))=true:=tB (by omega)
     go_wp2_with fail
     go_meet
     exact⟨hp▸rfl,rfl⟩
    ·have d0:decide (r.y < 0)=false:=tA h0
     by_cases h1:64≤r.y
     ·have d1:decide (64≤r.y)=true:=tB h1
      have hp:decide ((r.y < 0)∨(64≤r.y)∨(r.v≤ -2147483648)∨(2147483648≤r.v))=true:=tB (by omega)
      go_wp2_with fail
      go_meet
      exact⟨hp▸rfl,rfl⟩
     ·have d1:decide (64≤r.y)=false:=tA h1
      by_cases h2:r.v≤ -2147483648
      ·have d2:decide (r.v≤ -2147483648)=true:=tB h2
       have hp:decide ((r.y < 0)∨(64≤r.y)∨(r.v≤ -2147483648)∨(2147483648≤r.v))=true:=tB (by omega)
       go_wp2_with fail
       go_meet
       exact⟨hp▸rfl,rfl⟩
      ·have d2:decide (r.v≤ -2147483648)=false:=tA h2
       by_cases h3:2147483648≤r.v
       ·have d3:decide (2147483648≤r.v)=true:=tB h3
        have hp:decide ((r.y < 0)∨(64≤r.y)∨(r.v≤ -2147483648)∨(2147483648≤r.v))=true:=tB (by omega)
        go_wp2_with fail
        go_meet
        exact⟨hp▸rfl,rfl⟩
       ·have d3:decide (2147483648≤r.v)=false:=tA h3
        have hp:decide ((r.y < 0)∨(64≤r.y)∨(r.v≤ -2147483648)∨(2147483648≤r.v))=false:=tA (by omega)
        go_wp2_with fail
        go_meet
        exact⟨hp▸rfl,rfl⟩
   case' rest=>
    obtain⟨rfl,rfl⟩:=hcut
    by_cases o:(r.y < 0)∨(64≤r.y)∨(r.v≤ -2147483648)∨(2147483648≤r.v)
    case' pos=>
     have m:decide ((r.y < 0)∨(64≤r.y)∨(r.v≤ -2147483648)∨(2147483648≤r.v))=true:=tB o
     have hv:Psp.aZ r clients=false:=tA (by omega)
     rw[m]
     go_wp2_with fail
     go_ret
     exact⟨by rw[hv];rfl,by assumption⟩
    case' neg=>
     have m:decide ((r.y < 0)∨(64≤r.y)∨(r.v≤ -2147483648)∨(2147483648≤r.v))=false:=tA o
     rw[m]
     by_cases i:r.k=1
     ·have C:decide (r.k=1)=true:=tB i
      have hv:Psp.aZ r clients=true:=tB (by omega)
      go_wp2_with fail
      go_ret
      exact⟨by rw[hv];first|rfl|exact congrArg (fun x=>Ending.returned (.bool x)) (by assumption),(ae _ _).trans ((ae _ _).mono (by simp))⟩
     ·have C:decide (r.k=1)=false:=tA i
      have K:(r.k==1)=false:=by simpa using i
      by_cases h:r.k=3
      ·have B:decide (r.k=3)=true:=tB h
       have hv:Psp.aZ r clients=true:=tB (by omega)
       go_wp2_with fail
       go_ret
       exact⟨by rw[hv];first|rfl|exact congrArg (fun x=>Ending.returned (.bool x)) (by assumption),(ae _ _).trans ((ae _ _).mono (by simp))⟩
      ·have B:decide (r.k=3)=false:=tA h
       have J:(r.k==3)=false:=by simpa using h
       by_cases g:r.k=2
       ·have A:decide (r.k=2)=true:=tB g
        by_cases b:r.v=0
        ·have l:decide (r.v=0)=true:=tB b
         have hv:Psp.aZ r clients=true:=tB (by omega)
         go_wp2_with fail
         go_ret
         exact⟨by rw[hv];first|rfl|exact congrArg (fun x=>Ending.returned (.bool x)) (by assumption),(ae _ _).trans ((ae _ _).mono (by simp))⟩
        ·have l:decide (r.v=0)=false:=tA b
         have E:(r.v==0)=false:=by simpa using b
         have hv:Psp.aZ r clients=false:=tA (by omega)
         go_wp2_with fail
         go_ret
         exact⟨by rw[hv];first|rfl|exact congrArg (fun x=>Ending.returned (.bool x)) (by assumption),(ae _ _).trans ((ae _ _).mono (by simp))⟩
       ·have A:decide (r.k=2)=false:=tA g
        have I:(r.k==2)=false:=by simpa using g
        by_cases b:r.k=4
        ·have l:decide (r.k=4)=true:=tB b
         by_cases a:r.v=0
         ·have j:decide (r.v=0)=true:=tB a
          have hv:Psp.aZ r clients=true:=tB (by omega)
          go_wp2_with fail
          go_ret
          exact⟨by rw[hv];first|rfl|exact congrArg (fun x=>Ending.returned (.bool x)) (by assumption),(ae _ _).trans ((ae _ _).mono (by simp))⟩
         ·have j:decide (r.v=0)=false:=tA a
          have D:(r.v==0)=false:=by simpa using a
          have hv:Psp.aZ r clients=false:=tA (by omega)
          go_wp2_with fail
          go_ret
          exact⟨by rw[hv];first|rfl|exact congrArg (fun x=>Ending.returned (.bool x)) (by assumption),(ae _ _).trans ((ae _ _).mono (by simp))⟩
        ·have l:decide (r.k=4)=false:=tA b
         have E:(r.k==4)=false:=by simpa using b
         by_cases a:r.k=5
         ·have j:decide (r.k=5)=true:=tB a
          by_cases f:r.y=0
          ·have z:decide (r.y=0)=true:=tB f
           by_cases d:r.v=0
           ·have u:decide (r.v=0)=true:=tB d
            have hv:Psp.aZ r clients=true:=tB (by omega)
            go_wp2_with fail
            go_ret
            exact⟨by rw[hv];first|rfl|exact congrArg (fun x=>Ending.returned (.bool x)) (by assumption),(ae _ _).trans ((ae _ _).mono (by simp))⟩
           ·have u:decide (r.v=0)=false:=tA d
            have G:(r.v==0)=false:=by simpa using d
            have hv:Psp.aZ r clients=false:=tA (by omega)
            go_wp2_with fail
            go_ret
            exact⟨by rw[hv];first|rfl|exact congrArg (fun x=>Ending.returned (.bool x)) (by assumption),(ae _ _).trans ((ae _ _).mono (by simp))⟩
          ·have z:decide (r.y=0)=false:=tA f
           have H:(r.y==0)=false:=by simpa using f
           have hv:Psp.aZ r clients=false:=tA (by omega)
           go_wp2_with fail
           go_ret
           exact⟨by rw[hv];first|rfl|exact congrArg (fun x=>Ending.returned (.bool x)) (by assumption),(ae _ _).trans ((ae _ _).mono (by simp))⟩
         ·have j:decide (r.k=5)=false:=tA a
          have D:(r.k==5)=false:=by simpa using a
          have hv:Psp.aZ r clients=false:=tA (by omega)
          go_wp2_with fail
          go_ret
          exact⟨by rw[hv];first|rfl|exact congrArg (fun x=>Ending.returned (.bool x)) (by assumption),(ae _ _).trans ((ae _ _).mono (by simp))⟩
theorem ef (r:Psp.Req) (clients:Int) (w:World):
 Calls Tryz.prog 19 #[.agg #[.int .i64 r.c,.int .i64 r.t,.int .i64 r.k,.int .i64 r.y,.int .i64 r.v,.int .i64 r.s],.int .i64 clients] w fun e w'=>e= .returned (.bool (Psp.aZ r clients))∧Below w.heap.size w w':=by
 have m:=km r w
 go_enter Tryz.func19,Tryz.ntmps19
 have hb1:Below w.heap.size w ((w.alloc (.cells #[.int .i64 r.c,.int .i64 r.t,.int .i64 r.k,.int .i64 r.y,.int .i64 r.v,.int .i64 r.s] 42)).alloc (.cells #[.int .i64 r.k,.int .i64 r.y,.int .i64 r.v] 40)):=(ae _ _).trans ((ae _ _).mono (by simp))
 go_upto_region 2 with (first|(refine aA (by simp[Region.wanted,yielded]) 40 (.tmp 6) rfl w.heap.size 2 rfl [.int .i64 r.k,.int .i64 r.y,.int .i64 r.v] _ m Tryz.underlying40 rfl cR ?_)|(refine bj rfl 40 (.tmp 5) (.tmp 7) rfl _ _ [.int .i64 r.k,.int .i64 r.y,.int .i64 r.v] rfl rfl rfl cR (by simp[Value.oneCell']) ?_;intro w1 hb1 B hs1))
 go_upto_region 2 with fail
 go_cut [66] from 8 to 66 (fun x wx=>x= .bool (decide ((r.c < 0)∨(clients≤r.c)∨(r.t < 1)∨(1048576 < r.t)∨(r.k < 1)∨(5 < r.k)∨(r.y < 0)∨(64≤r.y)∨(r.v≤ -2147483648)∨(2147483648≤r.v)∨(r.s < 0)∨(1099511627776≤r.s)))∧((w.alloc (.cells #[.int .i64 r.c,.int .i64 r.t,.int .i64 r.k,.int .i64 r.y,.int .i64 r.v,.int .i64 r.s] 42)).alloc (.cells #[.int .i64 r.k,.int .i64 r.y,.int .i64 r.v] 40))=wx)
 case first=>
  by_cases h0:r.c < 0
  ·have d0:decide (r.c < 0)=true:=tB h0
   have hp:decide ((r.c < 0)∨(clients≤r.c)∨(r.t < 1)∨(1048576 < r.t)∨(r.k < 1)∨(5 < r.k)∨(r.y < 0)∨(64≤r.y)∨(r.v≤ -2147483648)∨(2147483648≤r.v)∨(r.s < 0)∨(1099511627776≤r.s))=true:=tB (by omega)
   go_wp2_with fail
   go_meet
   exact⟨hp▸rfl,rfl⟩
  ·have d0:decide (r.c < 0)=false:=tA h0
   by_cases h1:clients≤r.c
   ·have d1:decide (clients≤r.c)=true:=tB h1
    have hp:decide ((r.c < 0)∨(clients≤r.c)∨(r.t < 1)∨(1048576 < r.t)∨(r.k < 1)∨(5 < r.k)∨(r.y < 0)∨(64≤r.y)∨(r.v≤ -2147483648)∨(2147483648≤r.v)∨(r.s < 0)∨(1099511627776≤r.s))=true:=tB (by omega)
    go_wp2_with fail
    go_meet
    exact⟨hp▸rfl,rfl⟩
   ·have d1:decide (clients≤r.c)=false:=tA h1
    by_cases h2:r.t < 1
    ·have d2:decide (r.t < 1)=true:=tB h2
     have hp:decide ((r.c < 0)∨(clients≤r.c)∨(r.t < 1)∨(1048576 < r.t)∨(r.k < 1)∨(5 < r.k)∨(r.y < 0)∨(64≤r.y)∨(r.v≤ -2147483648)∨(2147483648≤r.v)∨(r.s < 0)∨(1099511627776≤r.s))=true:=tB (by omega)
     go_wp2_with fail
     go_meet
     exact⟨hp▸rfl,rfl⟩
    ·have d2:decide (r.t < 1)=false:=tA h2
     by_cases h3:1048576 < r.t
     ·have d3:decide (1048576 < r.t)=true:=tB h3
      have hp:decide ((r.c < 0)∨(clients≤r.c)∨(r.t < 1)∨(1048576 < r.t)∨(r.k < 1)∨(5 < r.k)∨(r.y < 0)∨(64≤r.y)∨(r.v≤ -2147483648)∨(2147483648≤r.v)∨(r.s < 0)∨(1099511627776≤r.s))=true:=tB (by omega)
      go_wp2_with fail
      go_meet
      exact⟨hp▸rfl,rfl⟩
     ·have d3:decide (1048576 < r.t)=false:=tA h3
      by_cases h4:r.k < 1
      ·have d4:decide (r.k < 1)=true:=tB h4
       have hp:decide ((r.c < 0)∨(clients≤r.c)∨(r.t < 1)∨(1048576 < r.t)∨(r.k < 1)∨(5 < r.k)∨(r.y < 0)∨(64≤r.y)∨(r.v≤ -2147483648)∨(2147483648≤r.v)∨(r.s < 0)∨(1099511627776≤r.s))=true:=tB (by omega)
       go_wp2_with fail
       go_meet
       exact⟨hp▸rfl,rfl⟩
      ·have d4:decide (r.k < 1)=false:=tA h4
       by_cases h5:5 < r.k
       ·have d5:decide (5 < r.k)=true:=tB h5
        have hp:decide ((r.c < 0)∨(clients≤r.c)∨(r.t < 1)∨(1048576 < r.t)∨(r.k < 1)∨(5 < r.k)∨(r.y < 0)∨(64≤r.y)∨(r.v≤ -2147483648)∨(2147483648≤r.v)∨(r.s < 0)∨(1099511627776≤r.s))=true:=tB (by omega)
        go_wp2_with fail
        go_meet
        exact⟨hp▸rfl,rfl⟩
       ·have d5:decide (5 < r.k)=false:=tA h5
        by_cases h6:r.y < 0
        ·have d6:decide (r.y < 0)=true:=tB h6
         have hp:decide ((r.c < 0)∨(clients≤r.c)∨(r.t < 1)∨(1048576 < r.t)∨(r.k < 1)∨(5 < r.k)∨(r.y < 0)∨(64≤r.y)∨(r.v≤ -2147483648)∨(2147483648≤r.v)∨(r.s < 0)∨(1099511627776≤r.s))=true:=tB (by omega)
         go_wp2_with fail
         go_meet
         exact⟨hp▸rfl,rfl⟩
        ·have d6:decide (r.y < 0)=false:=tA h6
         by_cases h7:64≤r.y
         ·have d7:decide (64≤r.y)=true:=tB h7
          have hp:decide ((r.c < 0)∨(clients≤r.c)∨(r.t < 1)∨(1048576 < r.t)∨(r.k < 1)∨(5 < r.k)∨(r.y < 0)∨(64≤r.y)∨(r.v≤ -2147483648)∨(2147483648≤r.v)∨(r.s < 0)∨(1099511627776≤r.s))=true:=tB (by omega)
          go_wp2_with fail
          go_meet
          exact⟨hp▸rfl,rfl⟩
         ·have d7:decide (64≤r.y)=false:=tA h7
          by_cases h8:r.v≤ -2147483648
          ·have d8:decide (r.v≤ -2147483648)=true:=tB h8
           have hp:decide ((r.c < 0)∨(clients≤r.c)∨(r.t < 1)∨(1048576 < r.t)∨(r.k < 1)∨(5 < r.k)∨(r.y < 0)∨(64≤r.y)∨(r.v≤ -2147483648)∨(2147483648≤r.v)∨(r.s < 0)∨(1099511627776≤r.s))=true:=tB (by omega)
           go_wp2_with fail
           go_meet
           exact⟨hp▸rfl,rfl⟩
          ·have d8:decide (r.v≤ -2147483648)=false:=tA h8
           by_cases h9:2147483648≤r.v
           ·have d9:decide (2147483648≤r.v)=true:=tB h9
            have hp:decide ((r.c < 0)∨(clients≤r.c)∨(r.t < 1)∨(1048576 < r.t)∨(r.k < 1)∨(5 < r.k)∨(r.y < 0)∨(64≤r.y)∨(r.v≤ -2147483648)∨(2147483648≤r.v)∨(r.s < 0)∨(1099511627776≤r.s))=true:=tB (by omega)
            go_wp2_with fail
            go_meet
            exact⟨hp▸rfl,rfl⟩
           ·have d9:decide (2147483648≤r.v)=false:=tA h9
            by_cases l:r.s < 0
            ·have A:decide (r.s < 0)=true:=tB l
             have hp:decide ((r.c < 0)∨(clients≤r.c)∨(r.t < 1)∨(1048576 < r.t)∨(r.k < 1)∨(5 < r.k)∨(r.y < 0)∨(64≤r.y)∨(r.v≤ -2147483648)∨(2147483648≤r.v)∨(r.s < 0)∨(1099511627776≤r.s))=true:=tB (by omega)
             go_wp2_with fail
             go_meet
             exact⟨hp▸rfl,rfl⟩
            ·have A:decide (r.s < 0)=false:=tA l
             by_cases j:1099511627776≤r.s
             ·have z:decide (1099511627776≤r.s)=true:=tB j
              have hp:decide ((r.c < 0)∨(clients≤r.c)∨(r.t < 1)∨(1048576 < r.t)∨(r.k < 1)∨(5 < r.k)∨(r.y < 0)∨(64≤r.y)∨(r.v≤ -2147483648)∨(2147483648≤r.v)∨(r.s < 0)∨(1099511627776≤r.s))=true:=tB (by omega)
              go_wp2_with fail
              go_meet
              exact⟨hp▸rfl,rfl⟩
             ·have z:decide (1099511627776≤r.s)=false:=tA j
              have hp:decide ((r.c < 0)∨(clients≤r.c)∨(r.t < 1)∨(1048576 < r.t)∨(r.k < 1)∨(5 < r.k)∨(r.y < 0)∨(64≤r.y)∨(r.v≤ -2147483648)∨(2147483648≤r.v)∨(r.s < 0)∨(1099511627776≤r.s))=false:=tA (by omega)
              go_wp2_with fail
              go_meet
              exact⟨hp▸rfl,rfl⟩
 case' rest=>
  obtain⟨rfl,rfl⟩:=hcut
  by_cases i:(r.c < 0)∨(clients≤r.c)∨(r.t < 1)∨(1048576 < r.t)∨(r.k < 1)∨(5 < r.k)∨(r.y < 0)∨(64≤r.y)∨(r.v≤ -2147483648)∨(2147483648≤r.v)∨(r.s < 0)∨(1099511627776≤r.s)
  case' pos=>
   have h:decide ((r.c < 0)∨(clients≤r.c)∨(r.t < 1)∨(1048576 < r.t)∨(r.k < 1)∨(5 < r.k)∨(r.y < 0)∨(64≤r.y)∨(r.v≤ -2147483648)∨(2147483648≤r.v)∨(r.s < 0)∨(1099511627776≤r.s))=true:=tB i
   have hv:Psp.aZ r clients=false:=tA (by omega)
   rw[h]
   go_wp2_with fail
   go_ret
   exact⟨by rw[hv];rfl,by assumption⟩
  case' neg=>
   have h:decide ((r.c < 0)∨(clients≤r.c)∨(r.t < 1)∨(1048576 < r.t)∨(r.k < 1)∨(5 < r.k)∨(r.y < 0)∨(64≤r.y)∨(r.v≤ -2147483648)∨(2147483648≤r.v)∨(r.s < 0)∨(1099511627776≤r.s))=false:=tA i
   rw[h]
   by_cases g:r.k=1
   ·have u:decide (r.k=1)=true:=tB g
    have hv:Psp.aZ r clients=true:=tB (by omega)
    go_wp2_with fail
    go_ret
    exact⟨by rw[hv];first|rfl|exact congrArg (fun x=>Ending.returned (.bool x)) (by assumption),(ae _ _).trans ((ae _ _).mono (by simp))⟩
   ·have u:decide (r.k=1)=false:=tA g
    have G:(r.k==1)=false:=by simpa using g
    by_cases f:r.k=3
    ·have q:decide (r.k=3)=true:=tB f
     have hv:Psp.aZ r clients=true:=tB (by omega)
     go_wp2_with fail
     go_ret
     exact⟨by rw[hv];first|rfl|exact congrArg (fun x=>Ending.returned (.bool x)) (by assumption),(ae _ _).trans ((ae _ _).mono (by simp))⟩
    ·have q:decide (r.k=3)=false:=tA f
     have F:(r.k==3)=false:=by simpa using f
     by_cases d:r.v=0
     ·have p:decide (r.v=0)=true:=tB d
      by_cases b:r.k=5
      ·have o:decide (r.k=5)=true:=tB b
       by_cases a:r.y=0
       ·have n:decide (r.y=0)=true:=tB a
        have hv:Psp.aZ r clients=true:=tB (by omega)
        go_wp2_with fail
        go_ret
        exact⟨by rw[hv];first|rfl|exact congrArg (fun x=>Ending.returned (.bool x)) (by assumption),(ae _ _).trans ((ae _ _).mono (by simp))⟩
       ·have n:decide (r.y=0)=false:=tA a
        have C:(r.y==0)=false:=by simpa using a
        have hv:Psp.aZ r clients=false:=tA (by omega)
        go_wp2_with fail
        go_ret
        exact⟨by rw[hv];first|rfl|exact congrArg (fun x=>Ending.returned (.bool x)) (by assumption),(ae _ _).trans ((ae _ _).mono (by simp))⟩
      ·have o:decide (r.k=5)=false:=tA b
       have D:(r.k==5)=false:=by simpa using b
       have hv:Psp.aZ r clients=true:=tB (by omega)
       go_wp2_with fail
       go_ret
       exact⟨by rw[hv];first|rfl|exact congrArg (fun x=>Ending.returned (.bool x)) (by assumption),(ae _ _).trans ((ae _ _).mono (by simp))⟩
     ·have p:decide (r.v=0)=false:=tA d
      have E:(r.v==0)=false:=by simpa using d
      have hv:Psp.aZ r clients=false:=tA (by omega)
      go_wp2_with fail
      go_ret
      exact⟨by rw[hv];first|rfl|exact congrArg (fun x=>Ending.returned (.bool x)) (by assumption),(ae _ _).trans ((ae _ _).mono (by simp))⟩
theorem ko {a b:List UInt8} (h:aX a≠aX b):((aX a).toList==(aX b).toList)=false:=by
 have e:∀c:List UInt8,(aX c).toList=c:=fun c=>by
  have:=ByteArray.toList_loop_eq (aX c) (aX c).size 0 [] (by omega) (by omega)
  unfold ByteArray.toList
  rw[this,fN];rfl
 rw[e,e]
 simpa using fun h'=>h (by rw[h'])
theorem mf:∀{l:List Key} {k:Nat} {x:Key},(∀j,j < k→l[j]?≠some x)→l[k]? =some x→x∈l∧l.idxOf x=k
 | [],k,x,_,h=>by simp at h
 |y :: l,0,x,_,h=>by
  simp at h;subst h;simp
 |y :: l,k+1,x,h0,h=>by
  have hy:y≠x:=by have:=h0 0 (by omega);simpa using this
  obtain⟨h1,h2⟩:=mf (l:=l) (k:=k) (x:=x) (fun j hj=>by simpa using h0 (j+1) (by omega)) (by simpa using h)
  refine⟨List.mem_cons_of_mem _ h1,?_⟩
  have hb:(y==x)=false:=by simpa using hy
  simp[List.idxOf_cons,hb,h2]
theorem oS {l:List Key} {x:Key} (h:∀j,j < l.length→l[j]?≠some x):x∉l:=by
 intro hx
 obtain⟨j,hj,e⟩:=List.mem_iff_getElem.1 hx
 exact h j hj (by rw[tK hj,e])
structure Ntr (w:World) (S:Nat→Prop) (g:Nat) (l:List Key):Prop where
 ex:∃vp vt,w.heap[g]? =some (.cells #[vp,vt] 29 (0,0))∧w.ownsRow 0 3 1 vp l.length (l.map fun k=>.int .i64 k.1)∧w.ownsRow 0 9 1 vt l.length (l.map fun k=>.string (aX k.2))∧
  S g∧(∀b,vp.ownBlock=some b→S b∧b≠g)∧(∀b,vt.ownBlock=some b→S b∧b≠g∧vp.ownBlock≠some b)
theorem dX {w w':World} {e:TypeId} {k n:Nat} {v:Value} {xs:List Value} (h:w.ownsRow 0 e k v n xs) (hk:∀b,v.ownBlock=some b→w'.heap[b]? =w.heap[b]?):w'.ownsRow 0 e k v n xs:=by
 refine⟨h.1,h.2.imp id ?_⟩
 rintro⟨g,cap,a,rfl,h1,h2,h3⟩
 exact⟨g,cap,a,rfl,h1,(hk g rfl).trans h2,h3⟩
theorem du {w:World} {e:TypeId} {k n:Nat} {v:Value} {xs:List Value} (h:w.ownsRow 0 e k v n xs) {b:Nat} (hb:v.ownBlock=some b):b < w.heap.size:=by
 rcases h.2 with⟨rfl,_⟩|⟨g,cap,a,rfl,h1,h2,h3⟩
 ·cases hb
 ·injection hb with hb;subst hb;exact (tz h2).1
theorem Ntr.keep {w w':World} {S:Nat→Prop} {g:Nat} {l:List Key} (h:Ntr w S g l) (hk:∀b,S b→b < w.heap.size→w'.heap[b]? =w.heap[b]?):Ntr w' S g l:=by
 obtain⟨vp,vt,h1,h2,h3,h4,h5,h6⟩:=h.ex
 exact⟨vp,vt,(hk g h4 (tz h1).1).trans h1,dX h2 fun b hb=>hk b (h5 b hb).1 (du h2 hb),dX h3 fun b hb=>hk b (h6 b hb).1 (du h3 hb),h4,h5,h6⟩
theorem Ntr.below {w w':World} {S:Nat→Prop} {g:Nat} {l:List Key} (h:Ntr w S g l) (hb:Below w.heap.size w w'):Ntr w' S g l:=h.keep fun b _ hlt=>hb.block b hlt
theorem Ntr.fp {w w':World} {S S':Nat→Prop} {g:Nat} {l:List Key} (h:Ntr w S g l) (hf:Fp S' w w') (hd:∀b,S b→¬S' b):Ntr w' S g l:=h.keep fun b hS hlt=>hf.block b hlt (hd b hS)
theorem Ntr.slices {w:World} {S:Nat→Prop} {g:Nat} {l:List Key} (h:Ntr w S g l):∃A B c d,w.cell? ⟨g,0,none⟩=some (.slice A l.length c)∧w.cell? ⟨g,1,none⟩=some (.slice B l.length d)∧l.length≤c∧l.length≤d∧c≤maxLen∧d≤maxLen∧
 ∀j k,l[j]? =some k→∃b1 b2,A=some ⟨b1,0,none⟩∧B=some ⟨b2,0,none⟩∧w.cell? ⟨b1,j,none⟩=some (.int .i64 k.1)∧w.cell? ⟨b2,j,none⟩=some (.string (aX k.2)):=by
 obtain⟨vp,vt,h1,h2,h3,h4,h5,h6⟩:=h.ex
 obtain⟨A,c,rfl,_⟩:=ao h2
 obtain⟨B,d,rfl,_⟩:=ao h3
 obtain⟨_,A',c',e1,q1,q2,q3⟩:=Rd.of_own h2
 obtain⟨_,B',d',e2,r1,r2,r3⟩:=Rd.of_own h3
 injection e1 with s _ r
 injection e2 with q _ p
 subst s r q p
 refine⟨A,B,c,d,(cell_of_row w g 0 _ _ _ h1).trans rfl,(cell_of_row w g 1 _ _ _ h1).trans rfl,q1,r1,q2,r2,fun j k hk=>?_⟩
 have hj:0 < l.length:=by have:=(List.getElem?_eq_some_iff.1 hk).1;omega
 have f1:∃b1,A=some ⟨b1,0,none⟩:=by
  rcases h2.2 with⟨e,e0⟩|⟨b,cap,t,e,_⟩
  ·omega
  ·injection e with e;exact⟨b,e⟩
 have f2:∃b1,B=some ⟨b1,0,none⟩:=by
  rcases h3.2 with⟨e,e0⟩|⟨b,cap,t,e,_⟩
  ·omega
  ·injection e with e;exact⟨b,e⟩
 obtain⟨b1,rfl⟩:=f1
 obtain⟨b2,rfl⟩:=f2
 obtain⟨v,o1,e3,_,f⟩:=q3 hj
 obtain⟨u,o2,e4,_,a⟩:=r3 hj
 injection e3 with e3
 injection e3 with o n
 injection e4 with e4
 injection e4 with m i
 subst o n m i
 have g1:=f j (.int .i64 k.1) (by rw[List.getElem?_map,hk];rfl)
 have g2:=a j (.string (aX k.2)) (by rw[List.getElem?_map,hk];rfl)
 rw[Nat.zero_add] at g1 g2
 exact⟨b1,b2,rfl,rfl,g1,g2⟩
theorem mm (S:Nat→Prop) (g:Nat) (l:List Key) (p:Int) (bs:List UInt8) (v:Value) (w:World) (P:Nat→Prop) (hN:Ntr w S g l) (hv:RdP w P 1 v bs.length (bs.map bv)):
 Calls Tryz.prog 101 #[.pointer (some ⟨g,0,none⟩),.int .i64 p,v] w fun e w'=>e= .returned (.tuple #[.int .i64 (num l (p,bs)),.bool (decide ((p,bs)∈l))])∧w'=w:=by
 obtain⟨A,B,c,d,c0,c1,q1,q2,q3,q4,a⟩:=hN.slices
 unfold maxLen at q3 q4
 obtain⟨n,hn⟩:∃n,l.length=n:=⟨_,rfl⟩
 rw[hn] at c0 c1 q1 q2
 have Hn:=tt hn
 have HV:=tt hv
 have m:=tt a
 clear hN hv hn a
 go_enter Tryz.func101,Tryz.ntmps101
 go_wp2_with (refine iH rfl (.string (aX bs)) (df (.tmp 10) rfl _ bs HV.out rfl) ?_)
 go_loopw [9] (fun i wr=>∃k:Nat,i= .int .i64 (k:Int)∧k≤n∧Hid (∀j,j < k→l[j]?≠some (p,bs))∧wr=w) (fun i _=>n - (intOf i).toNat)
 case atStart=>exact⟨0,rfl,Nat.zero_le _,tt (fun j hj=>by omega),rfl⟩
 case round=>
  obtain⟨k,rfl,hk,H0,rfl⟩:=hrel
  by_cases hlt:k < n
  ·obtain⟨x,hx⟩:∃x,l[k]? =some x:=⟨l[k]'(by rw[Hn.out];exact hlt),tK (by rw[Hn.out];exact hlt)⟩
   obtain⟨b1,b2,rfl,rfl,g1,g2⟩:=m.out k x hx
   have Hx:=tt hx
   clear hx
   by_cases h1:x.1=p
   ·have e1:(x.1==p)=true:=by simpa using h1
    by_cases h2:aX x.2=aX bs
    ·have e2:((aX x.2).toList==(aX bs).toList)=true:=by rw[h2];simp
     have o:x=(p,bs):=Prod.ext h1 (gu h2)
     obtain⟨m1,m2⟩:=mf H0.out (by rw[Hx.out,o])
     have e3:num l (p,bs)=(k:Int)+1:=by simp[num,m1,m2]
     have Hm:=tt (And.intro m1 e3)
     clear o m1 m2 h1 h2 e3
     go_wp2_with fail
     go_ret2
     exact⟨by rw[Hm.out.2,decide_eq_true Hm.out.1];rfl,by first|rfl|trivial⟩
    ·have e2:((aX x.2).toList==(aX bs).toList)=false:=ko h2
     have f:Hid (some x≠some (p,bs)):=tt (fun h=>h2 (by injection h with h;rw[h]))
     clear h1 h2
     go_wp2_with fail
     go_roundw
     case rel=>exact⟨k+1,by go_num,by omega,tt (fun j hj=>by
      by_cases b:j=k
      ·subst b;rw[Hx.out];exact f.out
      ·exact H0.out j (by omega)),by first|rfl|trivial⟩
     case measure=>simp[intOf];omega
   ·have e1:(x.1==p)=false:=by simpa using h1
    have f:Hid (some x≠some (p,bs)):=tt (fun h=>h1 (by injection h with h;rw[h]))
    clear h1
    go_wp2_with fail
    go_roundw
    case rel=>exact⟨k+1,by go_num,by omega,tt (fun j hj=>by
     by_cases b:j=k
     ·subst b;rw[Hx.out];exact f.out
     ·exact H0.out j (by omega)),by first|rfl|trivial⟩
    case measure=>simp[intOf];omega
  ·have d1:decide ((k:Int) < (n:Int))=false:=by simp;omega
   go_wp2_with fail
   go_ret2
   have hm:=oS (l:=l) (x:=(p,bs)) (fun j hj=>H0.out j (by rw[Hn.out] at hj;omega))
   exact⟨by simp[num,hm],rfl⟩
theorem mx {l:List Key} {k:Key} {s:Int} (h:s < 1∨(l.length:Int) < s):(decide (k∈l)&&decide (num l k=s))=false:=by
 by_cases hm:k∈l
 ·have:=List.idxOf_lt_length_iff.2 hm
  have:num l k≠s:=by simp only[num,hm,if_true];omega
  simp[this]
 ·simp[hm]
theorem sF {l:List Key} {k x:Key} {j:Nat} (hd:l.Nodup) (hx:l[j]? =some x):(decide (k∈l)&&decide (num l k=(j:Int)+1))=decide (x=k):=by
 obtain⟨hj,he⟩:=List.getElem?_eq_some_iff.1 hx
 by_cases a:x=k
 ·have hm:k∈l:=by rw[←a,←he];exact List.getElem_mem hj
  have hi:l.idxOf k=j:=by rw[←a,←he];exact hd.idxOf_getElem j hj
  simp[num,hm,hi,a]
 ·rw[tA a]
  by_cases hm:k∈l
  ·have h1:num l k≠(j:Int)+1:=by
    simp only[num,hm,if_true]
    intro h
    have h2:l.idxOf k=j:=by omega
    have hlt:=List.idxOf_lt_length_iff.2 hm
    have h3:l[l.idxOf k]=k:=List.getElem_idxOf hlt
    simp only[h2] at h3
    exact a (he.symm.trans h3)
   simp[h1]
  ·simp[hm]
theorem oW (S:Nat→Prop) (g:Nat) (l:List Key) (p:Int) (bs:List UInt8) (s:Int) (v:Value) (w:World) (P:Nat→Prop) (hN:Ntr w S g l) (hd:l.Nodup) (hs:aE s) (hv:RdP w P 1 v bs.length (bs.map bv)):
 Calls Tryz.prog 106 #[.pointer (some ⟨g,0,none⟩),.int .i64 p,v,.int .i64 s] w fun e w'=>e= .returned (.bool (decide ((p,bs)∈l)&&decide (num l (p,bs)=s)))∧∃q,w'=w.drewN q:=by
 obtain⟨A,B,c,d,c0,c1,q1,q2,q3,q4,j⟩:=hN.slices
 unfold maxLen at q3 q4
 obtain⟨n,hn⟩:∃n,l.length=n:=⟨_,rfl⟩
 rw[hn] at c0 c1 q1 q2
 have Hn:=tt hn
 have HV:=tt hv
 have m:=tt j
 have Hd:=tt hd
 obtain⟨hs1,o⟩:=hs
 clear hN hv hn j hd
 by_cases h1:s < 1
 ·have d1:decide (1≤s)=false:=by simp;omega
  have b:=tt (mx (l:=l) (k:=(p,bs)) (Or.inl h1))
  clear h1
  go_enter Tryz.func106,Tryz.ntmps106
  go_wp2_with fail
  refine wp_region_quiet_lit (by kernel_rfl) (by kernel_rfl) ?_
  repeat (first|go_big_quiet_step (fail)|(refine bt (by simp[Region.wanted,yielded]) (.string (aX bs)) (fun w' hC=>by obtain⟨n,rfl⟩:=hC;exact df (.tmp 41) rfl _ bs HV.out (by rfl)) ?_;intro K hK;go_simp;refine hK _ ?_;clear hK K))
  refine wpQuiet_nil ?_
  intro _ i
  obtain⟨nq,a⟩:=i
  subst a
  go_wp2_with fail
  go_ret
  exact⟨by rw[b.out];rfl,_,rfl⟩
 ·have d1:decide (1≤s)=true:=by simp;omega
  by_cases h2:(n:Int) < s
  ·have d2:decide (s≤(n:Int))=false:=by simp;omega
   have b:=tt (mx (l:=l) (k:=(p,bs)) (s:=s) (Or.inr (by rw[Hn.out];exact h2)))
   clear h1 h2
   go_enter Tryz.func106,Tryz.ntmps106
   go_wp2_with fail
   refine wp_region_quiet_lit (by kernel_rfl) (by kernel_rfl) ?_
   repeat (first|go_big_quiet_step (fail)|(refine bt (by simp[Region.wanted,yielded]) (.string (aX bs)) (fun w' hC=>by obtain⟨n,rfl⟩:=hC;exact df (.tmp 41) rfl _ bs HV.out (by rfl)) ?_;intro K hK;go_simp;refine hK _ ?_;clear hK K))
   refine wpQuiet_nil ?_
   intro _ i
   obtain⟨nq,a⟩:=i
   subst a
   go_wp2_with fail
   go_ret
   exact⟨by rw[b.out];rfl,_,rfl⟩
  ·obtain⟨k,rfl⟩:∃k:Nat,s=(k:Int)+1:=⟨(s - 1).toNat,by omega⟩
   have hlt:k < n:=by omega
   obtain⟨x,hx⟩:∃x,l[k]? =some x:=⟨l[k]'(by rw[Hn.out];exact hlt),tK (by rw[Hn.out];exact hlt)⟩
   obtain⟨b1,b2,rfl,rfl,g1,g2⟩:=m.out k x hx
   have d2:decide ((k:Int)+1≤(n:Int))=true:=by simp;omega
   have f:=sF (k:=(p,bs)) Hd.out hx
   have z1:(k:Int)+1 - 1=(k:Int):=by omega
   clear h1 h2 hx
   by_cases h3:x.1=p
   ·have e1:(x.1==p)=true:=by simpa using h3
    by_cases h4:aX x.2=aX bs
    ·have e2:((aX x.2).toList==(aX bs).toList)=true:=by rw[h4];simp
     have b:=tt (f.trans (tB (Prod.ext h3 (gu h4))))
     clear h3 h4 f
     go_enter Tryz.func106,Tryz.ntmps106
     go_wp2_with fail
     refine wp_region_quiet_lit (by kernel_rfl) (by kernel_rfl) ?_
     repeat (first|go_big_quiet_step (fail)|(refine bt (by simp[Region.wanted,yielded]) (.string (aX bs)) (fun w' hC=>by obtain⟨n,rfl⟩:=hC;exact df (.tmp 41) rfl _ bs HV.out (by rfl)) ?_;intro K hK;go_simp;refine hK _ ?_;clear hK K))
     refine wpQuiet_nil ?_
     intro _ i
     obtain⟨nq,a⟩:=i
     subst a
     go_wp2_with fail
     go_ret
     exact⟨by rw[b.out];rfl,_,rfl⟩
    ·have e2:((aX x.2).toList==(aX bs).toList)=false:=ko h4
     have b:=tt (f.trans (tA (fun h=>h4 (by rw[h]))))
     clear h3 h4 f
     go_enter Tryz.func106,Tryz.ntmps106
     go_wp2_with fail
     refine wp_region_quiet_lit (by kernel_rfl) (by kernel_rfl) ?_
     repeat (first|go_big_quiet_step (fail)|(refine bt (by simp[Region.wanted,yielded]) (.string (aX bs)) (fun w' hC=>by obtain⟨n,rfl⟩:=hC;exact df (.tmp 41) rfl _ bs HV.out (by rfl)) ?_;intro K hK;go_simp;refine hK _ ?_;clear hK K))
     refine wpQuiet_nil ?_
     intro _ i
     obtain⟨nq,a⟩:=i
     subst a
     go_wp2_with fail
     go_ret
     exact⟨by rw[b.out];rfl,_,rfl⟩
   ·have e1:(x.1==p)=false:=by simpa using h3
    have b:=tt (f.trans (tA (fun h=>h3 (by rw[h]))))
    clear h3 f
    go_enter Tryz.func106,Tryz.ntmps106
    go_wp2_with fail
    refine wp_region_quiet_lit (by kernel_rfl) (by kernel_rfl) ?_
    repeat (first|go_big_quiet_step (fail)|(refine bt (by simp[Region.wanted,yielded]) (.string (aX bs)) (fun w' hC=>by obtain⟨n,rfl⟩:=hC;exact df (.tmp 41) rfl _ bs HV.out (by rfl)) ?_;intro K hK;go_simp;refine hK _ ?_;clear hK K))
    refine wpQuiet_nil ?_
    intro _ i
    obtain⟨nq,a⟩:=i
    subst a
    go_wp2_with fail
    go_ret
    exact⟨by rw[b.out];rfl,_,rfl⟩
theorem nZ {P:Program} {w:World} {ops:Array Oper} {o:Oper} {a:Act} {K:Act→World→Prop} {Q:Exit→Act→World→Prop} {E:Prop} (hw:Region.wanted o (yielded ops a.tmps)=true) (v:Value)
 (hr:(execOp a.eval o).run P w= .ok (.value v) w) (h:K (a.put o.dst v) w):if Region.wanted o (yielded ops a.tmps)=true then Oper.wp P o a w K Q else E:=by
 rw[if_pos hw]
 unfold Oper.wp
 rw[hr]
 exact h
theorem nY:(Tryz.prog.info? 9).map (fun i=>(i.zero,i.size,i.bytes))=some (some (.string ByteArray.empty),1,16):=by kernel_rfl
theorem intE:Elem Tryz.prog 22 3 1 8:=⟨Tryz.underlying22,by kernel_rfl,by decide⟩
theorem strE:Elem Tryz.prog 27 9 1 16:=⟨Tryz.underlying27,by kernel_rfl,by decide⟩
theorem r7 {S:Nat→Prop} {g:Nat} {l:List Key} {p:Int} {bs:List UInt8} {w w4 w6:World} {A3 B:Option Addr} {c3 d gg cap:Nat}
 (h4:S g) (h6:∀b,(Value.slice B l.length d).ownBlock=some b→S b∧b≠g) (hz:w.heap.size < w4.heap.size) (o:g < w.heap.size)
 (c:∀b,(Value.slice A3 (l.length+1) c3).ownBlock=some b→(S b∨(w.heap.size≤b∧b < w4.heap.size))∧b≠g∧(Value.slice B l.length d).ownBlock≠some b)
 (ho3:w4.ownsRow 0 3 1 (.slice A3 (l.length+1) c3) (l.length+1) (l.map (fun k=>Value.int .i64 k.1)++[.int .i64 p])) (hf:Fp S w w4)
 (m:w6.heap[g]? =some (.cells #[.slice A3 (l.length+1) c3,.slice B l.length d] 29 (0,0)))
 (e:(w4.drew.alloc (.cells #[.string (aX bs)] 9)).grownBy w6 (Value.slice B l.length d).ownBlock)
 (j:w6.ownsRow 0 9 1 (.slice (some ⟨gg,0,none⟩) (l.length+1) cap) (l.length+1) (l.map (fun k=>Value.string (aX k.2))++[.string (aX bs)]))
 (f:(Value.slice B l.length d).ownBlock=some gg∨gg=w4.heap.size+1) (hlt:gg < w6.heap.size):
 Ntr (w6.setCell ⟨g,1,none⟩ (.slice (some ⟨gg,0,none⟩) (l.length+1) cap)) (fun b=>S b∨(w.heap.size≤b∧b < (w6.setCell ⟨g,1,none⟩ (.slice (some ⟨gg,0,none⟩) (l.length+1) cap)).heap.size)) g (l++[(p,bs)])∧Fp S w (w6.setCell ⟨g,1,none⟩ (.slice (some ⟨gg,0,none⟩) (l.length+1) cap)):=by
 have i:(w6.setCell ⟨g,1,none⟩ (.slice (some ⟨gg,0,none⟩) (l.length+1) cap)).heap.size=w6.heap.size:=by simp[World.setCell]
 have n:w4.heap.size+1≤w6.heap.size:=by have:=e.size;simpa using this
 have a:gg≠g:=by
  rcases f with h|h
  ·exact (h6 gg h).2
  ·have:=hf.size;omega
 refine⟨⟨_,_,heap_setCell_same w6 g 1 _ _ (.slice (some ⟨gg,0,none⟩) (l.length+1) cap) m,?_,?_,Or.inl h4,?_,?_⟩,?_⟩
 ·have:=dX (w':=w6.setCell ⟨g,1,none⟩ (.slice (some ⟨gg,0,none⟩) (l.length+1) cap)) ho3 fun b hb=>by
   rw[Below.heap_setCell w6 _ _ b (fun he=>(c b hb).2.1 he),e.block b (by have:=du ho3 hb;simp;omega) (fun he=>(c b hb).2.2 he.symm)]
   exact (ae w4.drew _).block b (du ho3 hb)
  simpa using this
 ·have:=dX (w':=w6.setCell ⟨g,1,none⟩ (.slice (some ⟨gg,0,none⟩) (l.length+1) cap)) j fun b hb=>Below.heap_setCell w6 _ _ b (fun he=>a (by injection hb with hb;exact hb.trans he))
  simpa using this
 ·intro b hb
  obtain⟨q1,q2,_⟩:=c b hb
  refine⟨?_,q2⟩
  rcases q1 with q|q
  ·exact Or.inl q
  ·exact Or.inr ⟨q.1,by rw[i];omega⟩
 ·intro b hb
  injection hb with hb
  simp only at hb
  subst hb
  refine⟨?_,a,fun he=>?_⟩
  ·rcases f with h|h
   ·exact Or.inl (h6 _ h).1
   ·exact Or.inr ⟨by omega,by rw[i];exact hlt⟩
  ·obtain⟨_,_,q3⟩:=c _ he
   rcases f with h|h
   ·exact q3 h
   ·have:=du ho3 he;omega
 ·exact (((hf.drew).alloc _).grown e (fun k hk=>Or.inl (h6 k hk).1)).setCell (p:=⟨g,1,none⟩) (Or.inl h4) _
theorem jV (S:Nat→Prop) (g:Nat) (l:List Key) (p:Int) (bs:List UInt8) (v:Value) (w:World) (P:Nat→Prop) (hN:Ntr w S g l) (hl:l.length < 1099511627776) (hv:RdP w P 1 v bs.length (bs.map bv)) (hP:∀b,P b→¬S b):
 Calls Tryz.prog 72 #[.pointer (some ⟨g,0,none⟩),.int .i64 p,v] w fun e w'=>e= .returned (.int .i64 (aV l (p,bs)))∧Ntr w' (fun b=>S b∨(w.heap.size≤b∧b < w'.heap.size)) g (bi l (p,bs))∧Fp S w w':=by
 have HN:=tt hN
 have HV:=tt hv
 by_cases hm:(p,bs)∈l
 ·have e1:aV l (p,bs)=num l (p,bs):=by simp[aV,num,hm]
  have e2:bi l (p,bs)=l:=by simp[bi,hm]
  have hd:=tB hm
  rw[e1,e2]
  clear hN hv e1 e2
  go_enter Tryz.func72,Tryz.ntmps72
  go_wp2_with fail
  refine (mm S g l p bs v w P HN.out HV.out).mono ?_
  rw[hd]
  rintro e w' ⟨rfl,rfl⟩
  go_wp2_with fail
  go_ret
  refine⟨rfl,?_,Fp.refl _ _⟩
  obtain⟨vp,vt,h1,h2,h3,h4,h5,h6⟩:=HN.out.ex
  exact⟨vp,vt,h1,h2,h3,Or.inl h4,fun b hb=>⟨Or.inl (h5 b hb).1,(h5 b hb).2⟩,fun b hb=>⟨Or.inl (h6 b hb).1,(h6 b hb).2⟩⟩
 ·have e1:aV l (p,bs)=(l.length:Int)+1:=by simp[aV,hm]
  have e2:bi l (p,bs)=l++[(p,bs)]:=by simp[bi,hm]
  have hd:=tA hm
  rw[e1,e2]
  clear e1 e2
  obtain⟨vp,vt,h1,h2,h3,h4,h5,h6⟩:=hN.ex
  obtain⟨A,c,rfl,_,_,_⟩:=ao h2
  obtain⟨B,d,rfl,_,_,_⟩:=ao h3
  have C:g < w.heap.size:=(tz h1).1
  have c0:w.cell? ⟨g,0,none⟩=some (.slice A l.length c):=(cell_of_row w g 0 _ _ _ h1).trans rfl
  have f0:=frozen_of_row w g 0 _ _ h1
  have H1:=tt h1
  have H2:=tt h2
  have H3:=tt h3
  have H4:=tt h4
  have H5:=tt h5
  have H6:=tt h6
  clear hN hv h1 h2 h3 h4 h5 h6
  go_enter Tryz.func72,Tryz.ntmps72
  go_wp2_with fail
  refine (mm S g l p bs v w P HN.out HV.out).mono ?_
  rw[hd]
  rintro e w' ⟨rfl,rfl⟩
  have n:(w'.alloc (.cells #[.int .i64 p] 3)).ownsRow 0 3 1 (.slice A l.length c) l.length (l.map fun k=>.int .i64 k.1):=bE H2.out (ae _ _)
  go_wp2_with (at_builtin;refine bk intE rfl _ _ rfl 0 (.slice A l.length c) l.length _ rfl n _ (.slice (some ⟨w'.heap.size,0,none⟩) 1 1) 1 [.int .i64 p] rfl (Rd.lit w' #[.int .i64 p] 3 1 rfl) (by simp[Value.oneCell']) (by unfold maxLen;omega) (by omega) (by omega) ?_;intro v1 w3 h3 o hb3;obtain⟨A3,c3,rfl,_,_,_⟩:=ao h3;have a:=(o.block g (by simp;omega) (fun he=>((H5.out g he.symm).2 rfl))).trans (((ae w' (.cells #[.int .i64 p] 3)).block g C).trans H1.out);have k0:=(cell_of_row w3 g 0 _ _ _ a).trans rfl;have z0:=frozen_of_row w3 g 0 _ _ a)
  clear c0 f0
  have f3:Fp S w' w3:=((Fp.refl S w').alloc _).grown o (fun k hk=>Or.inl (H5.out k hk).1)
  have u:=heap_setCell_same w3 g 0 _ _ (.slice A3 (l.length+1) c3) a
  have q:(w3.setCell ⟨g,0,none⟩ (.slice A3 (l.length+1) c3)).heap.size=w3.heap.size:=by simp[World.setCell]
  have f4:Fp S w' (w3.setCell ⟨g,0,none⟩ (.slice A3 (l.length+1) c3)):=f3.setCell (p:=⟨g,0,none⟩) (Or.inl H4.out) _
  have j:(w'.alloc (.cells #[.int .i64 p] 3)).heap.size=w'.heap.size+1:=by simp
  have x:w'.heap.size < w3.heap.size:=by have:=o.size;rw[j] at this;omega
  have r:∀b,(Value.slice A3 (l.length+1) c3).ownBlock=some b→(S b∨(w'.heap.size≤b∧b < w3.heap.size))∧b≠g∧(Value.slice B l.length d).ownBlock≠some b:=by
   intro b hb
   rcases hb3 with he|he
   ·rw[he] at hb
    refine⟨Or.inl (H5.out b hb).1,(H5.out b hb).2,fun hq=>(H6.out b hq).2.2 hb⟩
   ·have hlt:=du h3 hb
    rw[he,j] at hb
    injection hb with hb
    refine⟨Or.inr ⟨by omega,hlt⟩,by omega,fun hq=>?_⟩
    have:=du H3.out hq
    omega
  have i:(w3.setCell ⟨g,0,none⟩ (.slice A3 (l.length+1) c3)).ownsRow 0 3 1 (.slice A3 (l.length+1) c3) (l.length+1) (l.map (fun k=>Value.int .i64 k.1)++[.int .i64 p]):=
   dX h3 fun b hb=>Below.heap_setCell w3 _ _ b (fun he=>(r b hb).2.1 he)
  have h:(w3.setCell ⟨g,0,none⟩ (.slice A3 (l.length+1) c3)).ownsRow 0 9 1 (.slice B l.length d) l.length (l.map fun k=>.string (aX k.2)):=
   dX H3.out fun b hb=>by
    have hlt:=du H3.out hb
    rw[Below.heap_setCell w3 _ _ b (fun he=>(H6.out b hb).2.1 he),o.block b (by rw[j];omega) (fun he=>(H6.out b hb).2.2 he.symm)]
    exact (ae w' _).block b hlt
  have m:=HV.out.fp f4 hP
  obtain⟨w4,hw4⟩:∃w4,w4=w3.setCell ⟨g,0,none⟩ (.slice A3 (l.length+1) c3):=⟨_,rfl⟩
  rw[←hw4] at u q f4 i h m ⊢
  have f:w4.heap[g]? =some (.cells #[.slice A3 (l.length+1) c3,.slice B l.length d] 29 (0,0)):=u
  have F:=tt f
  have O:=tt f4
  have N:=tt i
  have M:=tt h
  have E:=tt m
  rw[←q] at r
  have Q:=tt r
  have k1:w4.cell? ⟨g,1,none⟩=some (.slice B l.length d):=(cell_of_row w4 g 1 _ _ _ f).trans rfl
  have T:w4.cell? ⟨g,0,none⟩=some (.slice A3 (l.length+1) c3):=(cell_of_row w4 g 0 _ _ _ f).trans rfl
  have z:g < w4.heap.size:=(tz f).1
  have G:w'.heap.size < w4.heap.size:=by rw[q];exact x
  clear q u f f4 f3 i h m r hw4 h3 o hb3 a k0 z0 n j x
  obtain⟨i0,K,J,I,H⟩:=info_parts nY
  have s:(w4.drew.alloc (.cells #[.string (aX bs)] 9)).ownsRow 0 9 1 (.slice B l.length d) l.length (l.map fun k=>.string (aX k.2)):=bE (show w4.drew.ownsRow _ _ _ _ _ _ from M.out) (ae _ _)
  have z1:w4.frozen? ⟨g,1,none⟩=false:=frozen_of_row w4 g 1 _ _ F.out
  have R:=lP w4.drew v bs (show RdP w4.drew P 1 v bs.length (bs.map bv) from E.out)
  go_region_law (first
   |(refine nZ (by rfl) (.string (aX bs)) (df (.tmp 33) (by rfl) _ bs (show RdP w4.drew _ _ _ _ _ from E.out) (by rfl)) ?_)
   |(refine step_append_lies _ (by rfl) _ _ _ (by rfl) 0 9 i0 _ 1 16 Tryz.underlying27 K J I H rfl (by omega) (.slice B l.length d) l.length _ (by rfl) s ⟨w4.heap.size,0,none⟩ 1 1 [.string (aX bs)] (by rfl) (by rfl) (World.news_of_block (cs:=#[.string (aX bs)]) (t:=9) (fr:=(0,0)) (tL w4.drew _)) (by simp[Value.oneCell'])
      (by omega) (by unfold maxLen;omega) (by omega) (by omega) (w4.heap.size+1) (by simp) ?_;intro gg cap w6 h6 D L y;have a:=(D.block g (by simp;omega) (fun he=>((H6.out g he.symm).2.1 rfl))).trans (((ae w4.drew (.cells #[.string (aX bs)] 9)).block g z).trans (show w4.drew.heap[g]? =_ from F.out));have k2:w6.cell? ⟨g,0,none⟩=some (.slice A3 (l.length+1) c3):=(cell_of_row w6 g 0 _ _ _ a).trans rfl;have k3:w6.cell? ⟨g,1,none⟩=some (.slice B l.length d):=(cell_of_row w6 g 1 _ _ _ a).trans rfl;have z3:=frozen_of_row w6 g 1 _ _ a))
  all_goals
   go_wp2_with fail
   go_ret
   obtain⟨r1,r2⟩:=r7 H4.out (fun b hb=>⟨(H6.out b hb).1,(H6.out b hb).2.1⟩) G C Q.out N.out O.out a D h6 L y
   exact⟨by first|rfl|simp,r1,r2⟩
end Go.Proofs.YtipmjleohadoeaaGreat
end
section
namespace Psp
def iX (n:Int):Int→List Int→Bool
 |_,[]=>true
 |last,x :: l=>if x≤last∨n≤x then false else iX n x l
def dF (l:List Int) (f:Int):Bool:=may f&&(decide ((l.length:Int)=bU f)&&iX (aO f) (-1) l)
end Psp
namespace Go.Proofs.YtipmjleohadoeaaGreat
open Go.RowKit Go.ChangeShapes
def vv (v:Int×Int):List Value:=[iv v.1,iv v.2]
theorem fM {w:World} {b o:Nat} {l:List (Int×Int)} (h:Lies w b o (l.flatMap vv)) {k:Nat} (hk:k < l.length):
 w.cell? ⟨b,o+k * 2,none⟩=some (.int .i64 l[k].1)∧w.cell? ⟨b,o+k * 2+1,none⟩=some (.int .i64 l[k].2):=by
 refine⟨?_,?_⟩
 ·refine h (k * 2) _ ?_
  have:=cD (f:=vv) (k:=2) (fun _=>rfl) l k 0 (by omega)
  rw[Nat.add_zero] at this
  rw[this,tK hk];rfl
 ·rw[Nat.add_assoc]
  refine h (k * 2+1) _ ?_
  rw[cD (f:=vv) (k:=2) (fun _=>rfl) l k 1 (by omega),tK hk];rfl
theorem ln (l:List (Int×Int)) (v:Value) (f:Int) (w:World) (hr:Rd w w.heap.size 2 v l.length (l.flatMap vv)) (hl:∀a∈l,aE a.1∧aE a.2):
 Calls Tryz.prog 156 #[v,.int .i64 f] w fun e w'=>e= .returned (.bool (Psp.dF (l.map (·.1)) f))∧Below w.heap.size w w':=by
 obtain⟨C,A,c,rfl,E,D,g⟩:=hr
 obtain⟨len,hlen⟩:∃len,l.length=len:=⟨_,rfl⟩
 unfold maxLen at D
 have hn:=Psp.cd f
 have hq:=Psp.fu f
 obtain⟨n,hn'⟩:∃n,Psp.aO f=n:=⟨_,rfl⟩
 obtain⟨q,hq'⟩:∃n,Psp.bU f=n:=⟨_,rfl⟩
 have hR:Psp.dF (l.map (·.1)) f=(Psp.may f&&(decide ((len:Int)=q)&&Psp.iX n (-1) (l.map (·.1)))):=by unfold Psp.dF;rw[List.length_map,hlen,hn',hq']
 rw[hR,hlen]
 rw[hn'] at hn
 rw[hq'] at hq
 obtain⟨N,M⟩:=hn
 obtain⟨L,K⟩:=hq
 rw[hlen] at g E
 have p:=tt hlen
 have Hl:=tt hl
 have u:=tt g
 clear hlen hl C g hR
 cases H:Psp.may f with
 |false=>
  rw[Bool.false_and]
  go_enter Tryz.func156,Tryz.ntmps156
  go_wp2_with (first|(go_at_call 63;refine (jY _ _).mono ?_;rintro e w' ⟨rfl,rfl⟩)|(go_at_call 126;refine (dT _ _).mono ?_;rintro e w' ⟨rfl,rfl⟩))
  go_ret
  exact⟨rfl,Below.refl _ _⟩
 |true=>
  rw[Bool.true_and]
  by_cases B:(len:Int)=q
  ·have hd:decide ((len:Int)=q)=true:=tB B
   rw[hd,Bool.true_and]
   obtain⟨R,hR⟩:∃R,Psp.iX n (-1) (l.map (·.1))=R:=⟨_,rfl⟩
   rw[hR]
   have HR:=tt hR
   clear hR
   go_enter Tryz.func156,Tryz.ntmps156
   go_wp2_with (first|(go_at_call 63;refine (jY _ _).mono ?_;rintro e w' ⟨rfl,rfl⟩)|(go_at_call 126;refine (dT _ _).mono ?_;rintro e w' ⟨rfl,rfl⟩))
   go_loopw [5,20] (fun last i wr=>∃(k:Nat) (z:Int),i= .int .i64 (k:Int)∧k≤len∧last= .int .i64 z∧ -1≤z∧z≤9223372036854775807∧Psp.iX n z ((l.map (·.1)).drop k)=R∧Below w.heap.size w wr) (fun _ i _=>len - (intOf i).toNat)
   case atStart=>exact⟨0, -1,rfl,Nat.zero_le _,rfl,by omega,by omega,HR.out,Below.refl _ _⟩
   case round=>
    obtain⟨k,z,rfl,hk,rfl,J,I,j,d⟩:=hrel
    have s:=d.size
    by_cases hlt:k < len
    ·obtain⟨b,o,G,hb,m⟩:=u.out (by omega)
     subst G
     have r:k < l.length:=by have:=p.out;omega
     obtain⟨O,hcb⟩:=fM (m.keep (d.block b hb)) r
     obtain⟨⟨Q,P⟩,hb1,hb2⟩:=Hl.out l[k] (List.getElem_mem r)
     rw[List.drop_eq_getElem_cons (by simpa using r),List.getElem_map,Psp.iX] at j
     generalize l[k].1=x at *
     generalize l[k].2=y at *
     have t:=tt j
     clear j m
     by_cases h1:x≤z
     ·have d1:decide (x≤z)=true:=tB h1
      go_wp2_with fail
      go_quiet ((go_at_call 58;exact Calls.quiet_of_same ((bg _ _).mono fun _ _ h=>⟨h.1,h.2.symm⟩)))
      go_wp2_with fail
      go_ret
      refine⟨by rw[←t.out,if_pos (Or.inl h1)];rfl,ak (d.alloc s _) _⟩
     ·have d1:decide (x≤z)=false:=tA h1
      by_cases h2:n≤x
      ·have d2:decide (n≤x)=true:=tB h2
       go_wp2_with fail
       go_quiet ((go_at_call 58;exact Calls.quiet_of_same ((bg _ _).mono fun _ _ h=>⟨h.1,h.2.symm⟩)))
       go_wp2_with fail
       go_ret
       refine⟨by rw[←t.out,if_pos (Or.inr h2)];rfl,ak (d.alloc s _) _⟩
      ·have d2:decide (n≤x)=false:=tA h2
       go_wp2_with fail
       go_quiet ((go_at_call 58;exact Calls.quiet_of_same ((bg _ _).mono fun _ _ h=>⟨h.1,h.2.symm⟩)))
       go_wp2_with fail
       go_roundw
       case rel=>exact⟨k+1,x,by go_num,by omega,rfl,by omega,by omega,by rw[←t.out,if_neg (by omega)],ak (d.alloc s _) _⟩
       case measure=>simp[intOf];omega
    ·obtain rfl:k=len:=by omega
     rw[List.drop_eq_nil_of_le (by rw[List.length_map,p.out];exact tJ _)] at j
     have F:R=true:=j.symm
     clear j
     subst F
     go_wp2_with fail
     go_ret
     exact⟨rfl,d⟩
  ·have hd:decide ((len:Int)=q)=false:=tA B
   rw[hd,Bool.false_and]
   go_enter Tryz.func156,Tryz.ntmps156
   go_wp2_with (first|(go_at_call 63;refine (jY _ _).mono ?_;rintro e w' ⟨rfl,rfl⟩)|(go_at_call 126;refine (dT _ _).mono ?_;rintro e w' ⟨rfl,rfl⟩))
   go_ret
   exact⟨rfl,Below.refl _ _⟩
theorem bl (f:Int):(Psp.aO f==0)= !Psp.may f:=by
 unfold Psp.aO Psp.may
 by_cases h1:1≤f <;> by_cases h2:f≤4 <;> simp[h1,h2]
 omega
theorem jQ (l:List (Int×Int)) (v:Value) (f:Int) (w:World) (hr:Rd w w.heap.size 2 v l.length (l.flatMap vv)) (hl:∀a∈l,aE a.1∧aE a.2):
 Calls Tryz.prog 160 #[v,.int .i64 f] w fun e w'=>e= .returned (.bool (Psp.dF (l.map (·.1)) f))∧Below w.heap.size w w':=by
 obtain⟨M,A,c,rfl,P,O,m⟩:=hr
 obtain⟨len,hlen⟩:∃len,l.length=len:=⟨_,rfl⟩
 unfold maxLen at O
 have hn:=Psp.cd f
 have hq:=Psp.fu f
 have hm:=bl f
 obtain⟨n,hn'⟩:∃n,Psp.aO f=n:=⟨_,rfl⟩
 obtain⟨q,hq'⟩:∃n,Psp.bU f=n:=⟨_,rfl⟩
 have hR:Psp.dF (l.map (·.1)) f=(Psp.may f&&(decide ((len:Int)=q)&&Psp.iX n (-1) (l.map (·.1)))):=by unfold Psp.dF;rw[List.length_map,hlen,hn',hq']
 rw[hR,hlen]
 rw[hn'] at hn hm
 rw[hq'] at hq
 obtain⟨aa,Z⟩:=hn
 obtain⟨Y,X⟩:=hq
 rw[hlen] at m P
 have C:=tt hlen
 have Hl:=tt hl
 have H:=tt m
 clear hlen hl M m hR
 cases B:Psp.may f with
 |false=>
  rw[Bool.false_and]
  have n0:n=0:=by simpa [B] using hm
  clear hm
  go_enter Tryz.func160,Tryz.ntmps160
  go_wp2_with (first|(go_at_call 13;refine (aM _ _).mono ?_;rintro e w' ⟨rfl,rfl⟩)|(go_at_call 162;refine (dK _ _).mono ?_;rintro e w' ⟨rfl,rfl⟩))
  go_ret
  exact⟨rfl,Below.refl _ _⟩
 |true=>
  rw[Bool.true_and]
  have n0:n≠0:=by simpa [B] using hm
  have n1:0 < n:=by omega
  have hnb:(n==0)=false:=by simpa using n0
  clear hm n0
  by_cases J:(len:Int)=q
  ·have hd:decide ((len:Int)=q)=true:=tB J
   rw[hd,Bool.true_and]
   obtain⟨R,hR⟩:∃R,Psp.iX n (-1) (l.map (·.1))=R:=⟨_,rfl⟩
   rw[hR]
   have HR:=tt hR
   clear hR
   go_enter Tryz.func160,Tryz.ntmps160
   go_wp2_with (first|(go_at_call 13;refine (aM _ _).mono ?_;rintro e w' ⟨rfl,rfl⟩)|(go_at_call 162;refine (dK _ _).mono ?_;rintro e w' ⟨rfl,rfl⟩))
   go_loopw [5] (fun i wr=>∃(k:Nat) (z:Int),i= .int .i64 (k:Int)∧k≤len∧ -1≤z∧(∀p,p+1=k→∃hp:p < l.length,l[p].1=z∧0≤z)∧(k=0→z= -1)∧Psp.iX n z ((l.map (·.1)).drop k)=R∧Below w.heap.size w wr) (fun i _=>len - (intOf i).toNat)
   case atStart=>exact⟨0, -1,rfl,Nat.zero_le _,by omega,fun p h=>by omega,fun _=>rfl,HR.out,Below.refl _ _⟩
   case round=>
    obtain⟨k,z,rfl,hk,V,D,I,j,d⟩:=hrel
    have W:=d.size
    by_cases hlt:k < len
    ·obtain⟨b,o,U,hb,s⟩:=H.out (by omega)
     subst U
     have y:k < l.length:=by have:=C.out;omega
     have g:=s.keep (d.block b hb)
     obtain⟨K,hcb⟩:=fM g y
     obtain⟨⟨S,Q⟩,hb1,hb2⟩:=Hl.out l[k] (List.getElem_mem y)
     rw[List.drop_eq_getElem_cons (by simpa using y),List.getElem_map,Psp.iX] at j
     obtain⟨x,hx⟩:∃x,l[k].1=x:=⟨_,rfl⟩
     rw[hx] at K S Q j
     have t:=tt j
     have Hx:=tt hx
     have Hz:=tt D
     have G:=tt g
     clear j s g hcb hb1 hb2 hx D
     by_cases h1:x < 0
     ·have d1:decide (x < 0)=true:=tB h1
      go_wp2_with fail
      go_quiet ((go_at_call 13;exact Calls.quiet_of_same ((aM _ _).mono fun _ _ h=>⟨h.1,h.2.symm⟩)))
      go_wp2_with fail
      go_ret
      refine⟨by rw[←t.out,if_pos (Or.inl (by omega))];rfl,ak d _⟩
     ·have d1:decide (x < 0)=false:=tA h1
      by_cases h2:n≤x
      ·have d2:decide (n≤x)=true:=tB h2
       go_wp2_with fail
       go_quiet ((go_at_call 13;exact Calls.quiet_of_same ((aM _ _).mono fun _ _ h=>⟨h.1,h.2.symm⟩)))
       go_wp2_with fail
       go_ret
       refine⟨by rw[←t.out,if_pos (Or.inr h2)];rfl,ak d _⟩
      ·have d2:decide (n≤x)=false:=tA h2
       have r:∀p,p+1=k+1→∃hp:p < l.length,l[p].1=x∧0≤x:=fun p hp=>by
        obtain rfl:p=k:=by omega
        exact⟨y,Hx.out,by omega⟩
       have u:=tt r
       clear r
       by_cases ac:0 < k
       ·obtain⟨p,hp⟩:∃p,((k:Int) - 1).toNat=p:=⟨_,rfl⟩
        obtain⟨F,E,L⟩:=Hz.out p (by omega)
        have N:=(fM G.out F).1
        rw[E] at N
        have d3:decide (0 < (k:Int))=true:=by simp;omega
        by_cases h3:x≤z
        ·have d4:decide (x≤z)=true:=tB h3
         clear E F
         go_wp2_with fail
         go_quiet ((go_at_call 13;exact Calls.quiet_of_same ((aM _ _).mono fun _ _ h=>⟨h.1,h.2.symm⟩)))
         go_wp2_with fail
         go_ret
         refine⟨by rw[←t.out,if_pos (Or.inl h3)];rfl,ak d _⟩
        ·have d4:decide (x≤z)=false:=tA h3
         clear E F
         go_wp2_with fail
         go_quiet ((go_at_call 13;exact Calls.quiet_of_same ((aM _ _).mono fun _ _ h=>⟨h.1,h.2.symm⟩)))
         go_wp2_with fail
         go_roundw
         case rel=>exact⟨k+1,x,by go_num,by omega,by omega,u.out,fun h=>by omega,by rw[←t.out,if_neg (by omega)],ak d _⟩
         case measure=>simp[intOf];omega
       ·obtain rfl:k=0:=by omega
        have L:=I rfl
        rw[Nat.zero_mul,Nat.add_zero] at K
        go_wp2_with fail
        go_quiet ((go_at_call 13;exact Calls.quiet_of_same ((aM _ _).mono fun _ _ h=>⟨h.1,h.2.symm⟩)))
        go_wp2_with fail
        go_roundw
        case rel=>exact⟨1,x,by first|rfl|go_num,by omega,by omega,u.out,fun h=>by omega,by rw[←t.out,if_neg (by omega)],ak d _⟩
        case measure=>simp[intOf];omega
    ·obtain rfl:k=len:=by omega
     rw[List.drop_eq_nil_of_le (by rw[List.length_map,C.out];exact tJ _)] at j
     have T:R=true:=j.symm
     clear j D I
     subst T
     go_wp2_with fail
     go_ret
     exact⟨rfl,d⟩
  ·have hd:decide ((len:Int)=q)=false:=tA J
   rw[hd,Bool.false_and]
   go_enter Tryz.func160,Tryz.ntmps160
   go_wp2_with (first|(go_at_call 13;refine (aM _ _).mono ?_;rintro e w' ⟨rfl,rfl⟩)|(go_at_call 162;refine (dK _ _).mono ?_;rintro e w' ⟨rfl,rfl⟩))
   go_ret
   exact⟨rfl,Below.refl _ _⟩
end Go.Proofs.YtipmjleohadoeaaGreat
end
