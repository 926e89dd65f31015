import Derived.Test.YtipmjleohadoeaaGreatGaPy
import Derived.ProofKit
import Derived.OpenShut
import Derived.BigQuiet
import Derived.Deep.QuietTactic
import Derived.StillTailTactics
import Derived.Deep.MidRow
import Derived.Laws.StructEq
import Derived.Test.YtipmjleohadoeaaGreatChecked
set_option maxRecDepth 100000
set_option maxHeartbeats 16000000
set_option linter.unusedVariables false
set_option linter.unusedSimpArgs false
section
section
namespace Go.Proofs.YtipmjleohadoeaaGreat
open Go.RowKit Go.ChangeShapes Go.WideShapes
theorem lE {n:Int} (h:(Lit.int .i64 n).wf=true): -9223372036854775808≤n∧n≤9223372036854775807:=by
 simp[Lit.wf,IntKind.min,IntKind.max,IntKind.signed,IntKind.bits] at h
 omega
theorem u8_bd {n:Int} (h:(Lit.int .u8 n).wf=true):0≤n∧n≤255:=by
 simp[Lit.wf,IntKind.min,IntKind.max,IntKind.signed,IntKind.bits] at h
 omega
structure Opens (P:Program) (t:TypeId) (k:Nat) {α:Type} (f:α→List Value) (wf:α→Prop):Prop where
 cells:P.cellsOf t=k
 len:∀a,(f a).length=k
 pos:0 < k
 get:∀{H:Type} (enc:TypeId×Value→H) (w:World) (fuel:Nat) (cs:List Value) (x:DataW H×List MemPlace),DataW.trod enc P w 0 (fun _=>true) true fuel t cs=some x→∃a,cs=f a∧wf a
def aE (n:Int):Prop:= -9223372036854775808≤n∧n≤9223372036854775807
theorem nh {P:Program} {t:TypeId} (ht:P.underlying t=some (.int .i64)) (hc:P.cellsOf t=1):Opens P t 1 (fun n=>[iv n]) aE:=by
 refine⟨hc,fun _=>rfl,by omega,fun enc w fuel cs x h=>?_⟩
 obtain⟨n,rfl,_,hw⟩:=DataW.trod_int ht h
 exact⟨n,rfl,lE hw⟩
theorem lw {P:Program} {t:TypeId} (ht:P.underlying t=some (.int .u8)) (hc:P.cellsOf t=1):Opens P t 1 (fun n=>[bv n]) (fun _=>True):=by
 refine⟨hc,fun _=>rfl,by omega,fun enc w fuel cs x h=>?_⟩
 obtain⟨n,rfl,_,hw⟩:=DataW.trod_int ht h
 have hb:=u8_bd hw
 refine⟨UInt8.ofNat n.toNat,?_,trivial⟩
 unfold bv
 rw[Psp.eI (by omega),Int.toNat_of_nonneg hb.1]
theorem fh {α:Type} (p:Nat→α→Prop):∀(n:Nat),(∀i,i < n→∃a,p i a)→∃l:List α,l.length=n∧∀i a,l[i]? =some a→p i a
 |0,_=>⟨[],rfl,fun i a h=>by simp at h⟩
 |n+1,h=>by
  obtain⟨l,hl,hp⟩:=fh p n (fun i hi=>h i (by omega))
  obtain⟨a,ha⟩:=h n (by omega)
  refine⟨l++[a],by simp[hl],fun i b hb=>?_⟩
  rw[List.getElem?_append] at hb
  split at hb
  ·exact hp i b hb
  ·have:i=n:=by
    have:=(List.getElem?_eq_some_iff.1 hb).1
    simp at this
    omega
   subst this
   simp[hl] at hb
   subst hb
   exact ha
theorem iK {α:Type} {f:α→List Value} {k:Nat} (hf:∀a,(f a).length=k):∀l:List α,(l.flatMap f).length=l.length * k
 | []=>by simp
 |a :: l=>by
  rw[List.flatMap_cons,tH,hf,iK hf l,tC,Nat.add_mul,Nat.one_mul,Nat.add_comm]
theorem cD {α:Type} {f:α→List Value} {k:Nat} (hf:∀a,(f a).length=k):∀(l:List α) (i r:Nat),r < k→(l.flatMap f)[i * k+r]? =(l[i]?).bind fun a=>(f a)[r]?
 | [],i,r,h=>by simp
 |a :: l,0,r,h=>by
  rw[List.flatMap_cons,Nat.zero_mul,Nat.zero_add,List.getElem?_append,hf,if_pos h]
  simp
 |a :: l,i+1,r,h=>by
  have:=cD hf l i r h
  rw[List.flatMap_cons,List.getElem?_append,hf,if_neg (by rw[Nat.add_mul];omega)]
  rw[show (i+1) * k+r - k=i * k+r by rw[Nat.add_mul];omega,this]
  simp
theorem iT {w:World} {a:Addr} {n:Nat} {cs:List Value} (h:w.cells? 0 a n=some cs):cs.length=n∧∀j,j < n→w.cell? (a.add j)=cs[j]?:=by
 unfold World.cells? at h
 rw[if_pos (Nat.zero_le _)] at h
 have h1:∀(l:List Nat) (cs:List Value),(l.mapM fun i=>w.cell? (a.add i))=some cs→cs.length=l.length∧∀(j i:Nat),l[j]? =some i→w.cell? (a.add i)=cs[j]?:=by
  intro l
  induction l with
  |nil=>intro cs h;simp at h;subst h;simp
  |cons i l ih=>
   intro cs h
   rw[List.mapM_cons] at h
   cases h1:w.cell? (a.add i) with
   |none=>rw[h1] at h;simp at h
   |some v=>
    rw[h1] at h
    cases h2:l.mapM fun i=>w.cell? (a.add i) with
    |none=>rw[h2] at h;simp at h
    |some vs=>
     rw[h2] at h
     simp at h
     subst h
     obtain⟨h3,h4⟩:=ih vs h2
     refine⟨by simp[h3],fun j i' hj=>?_⟩
     cases j with
     |zero=>simp at hj;subst hj;simpa using h1
     |succ j=>simpa using h4 j i' (by simpa using hj)
 obtain⟨h2,h3⟩:=h1 _ _ h
 refine⟨by simpa using h2,fun j hj=>h3 j j (by simp[hj])⟩
theorem nj {P:Program} {t e:TypeId} {k:Nat} {α:Type} {f:α→List Value} {wf:α→Prop} (ht:P.underlying t=some (.slice e)) (E:Opens P e k f wf)
 {H:Type} {enc:TypeId×Value→H} {w:World} {v:Value} {d:DataW H} {ps:List MemPlace} (h:DataW.Trod enc P w 0 (fun _=>true) true t v d ps) (hv:∃a len cap,v= .slice a len cap):
 ∃l:List α,Rd w w.heap.size k v l.length (l.flatMap f)∧∀a∈l,wf a:=by
 obtain⟨a0,len0,cap0,rfl⟩:=hv
 obtain⟨fuel,hf⟩:=h
 rcases DataW.trod_slice ht hf with⟨c,_⟩|⟨a,len,cap,g,rest,n,_,c,_,_,hl,hm,hlen,B,_,_⟩
 ·simp[Value.cells] at c
  obtain⟨rfl,rfl,rfl⟩:=c
  exact⟨[],Rd.none_,fun a h=>by simp at h⟩
 ·simp[Value.cells] at c
  obtain⟨rfl,rfl,rfl⟩:=c
  have each:∀i,i < len0→∃b:α,wf b∧∀r,r < k→w.cell? ((a.add (i * k)).add r)=(f b)[r]?:=by
   intro i hi
   have h1:=B i hi
   rw[E.cells] at h1
   have h2:g[i]? =some g[i]:=tK (by omega)
   rw[h2] at h1
   cases hc:w.cells? 0 (a.add (i * k)) k with
   |none=>rw[hc] at h1;simp at h1
   |some cs=>
    rw[hc] at h1
    obtain⟨b,hb,y⟩:=E.get enc w n cs _ (by simpa using h1)
    subst hb
    exact⟨b,y,(iT hc).2⟩
  obtain⟨l,z,hp⟩:=fh (fun i b=>wf b∧∀r,r < k→w.cell? ((a.add (i * k)).add r)=(f b)[r]?) len0 each
  subst z
  refine⟨l,⟨iK E.len l,some a,cap0,rfl,hl,hm,fun x=>?_⟩,fun b hb=>?_⟩
  ·have hk:=E.pos
   obtain⟨b0,hb0⟩:∃b,l[0]? =some b:=⟨l[0],tK x⟩
   have m:=(hp 0 b0 hb0).2 0 hk
   have q:∀i r,(a.add (i * k)).add r=a.add (i * k+r):=by
    intro i r
    unfold Addr.add
    by_cases h1:i * k=0 <;> by_cases h2:r=0 <;> simp[h1,h2,Nat.add_assoc]
   have A:0 < (f b0).length:=by rw[E.len];exact hk
   have h3:(f b0)[0]? =some (f b0)[0]:=tK A
   have hs:a.spot=none:=by
    rw[h3,Nat.zero_mul] at m
    have h4:=World.cell?_spot m
    simpa [Addr.add] using h4
   obtain⟨b,o,s⟩:=a
   subst hs
   have p:∀j,(⟨b,o,none⟩:Addr).add j=⟨b,o+j,none⟩:=by
    intro j
    unfold Addr.add
    split
    ·rename_i h;subst h;rfl
    ·rfl
   refine⟨b,o,rfl,?_,?_⟩
   ·rw[h3] at m
    have:=World.block_lt_of_cell? w _ m
    rw[q,p] at this
    exact this
   ·intro j u hu
    have hj:j=j / k * k+j % k:=by rw[Nat.mul_comm];exact (Nat.div_add_mod j k).symm
    have hr:j % k < k:=Nat.mod_lt _ hk
    rw[hj,cD E.len l _ _ hr] at hu
    cases hb:l[j / k]? with
    |none=>rw[hb] at hu;simp at hu
    |some b1=>
     rw[hb] at hu
     have h5:=(hp _ b1 hb).2 _ hr
     rw[q,p,←hj] at h5
     rw[h5]
     simpa using hu
  ·obtain⟨i,hi,he⟩:=List.getElem_of_mem hb
   exact (hp i b (by rw[tK hi,he])).1
theorem kB {P:Program} {t:TypeId} (ht:P.underlying t=some (.int .i64)) {H:Type} {enc:TypeId×Value→H} {w:World} {v:Value} {d:DataW H} {ps:List MemPlace}
 (h:DataW.Trod enc P w 0 (fun _=>true) true t v d ps) (hv:∃n,v= .int .i64 n):∃n,v= .int .i64 n∧aE n:=by
 obtain⟨n,rfl⟩:=hv
 obtain⟨fuel,hf⟩:=h
 obtain⟨n',h,_,hw⟩:=DataW.trod_int ht hf
 simp[Value.cells] at h
 subst h
 exact⟨n,rfl,lE hw⟩
structure Later (w:World) where
 W:World
 h:Below w.heap.size w W
instance (w:World):Nonempty (Later w):=⟨⟨w,Below.refl _ _⟩⟩
theorem ai {P:Program} {id:Nat} {Q:Exit→Act→World→Prop} {a:Act} {w:World} {l:List Oper} (hm:P.follows .mixedOrders=true) (hB:Region.lexB .any l.toArray=true)
 (h:wpQuiet P l.toArray (fun w'=>∃p:Later w,w'=p.W) (fun a'=>∀w',(∃p:Later w,w'=p.W)→Q .normal a' w') l a):(Code.region id l.toArray true).wp P Q a w:=
 wp_region_quiet (C:=fun w'=>∃p:Later w,w'=p.W) hm hB ⟨⟨w.drew,(Below.refl _ _).drew⟩,rfl⟩ (by simpa using h)
theorem ab {w:World} {b o:Nat} {v:Value} (h:w.cell? ⟨b,o,none⟩=some v):∀p:Later w,p.W.cell? ⟨b,o,none⟩=some v:=
 fun p=>(p.h.cell (p:=⟨b,o,none⟩) (World.block_lt_of_cell? w ⟨b,o,none⟩ h)).trans h
theorem ag {P:Program} {f:FuncId} {args:Array Value} {w:World} {v:Value} (p:Later w)
 (h:Calls P f args p.W fun e w'=>e= .returned v∧Below p.W.heap.size p.W w'):Calls P f args p.W fun e w''=>e= .returned v∧∃q:Later w,w''=q.W:=
 h.mono fun _ w' ⟨he,hb⟩=>⟨he,⟨w',p.h.trans (hb.mono p.h.size)⟩,rfl⟩
theorem ah {P:Program} {f:FuncId} {args:Array Value} {w:World} {v:Value} (p:Later w)
 (h:Calls P f args p.W fun e w'=>e= .returned v∧p.W=w'):Calls P f args p.W fun e w''=>e= .returned v∧∃q:Later w,w''=q.W:=
 h.mono fun _ w' ⟨he,hb⟩=>⟨he,p,hb.symm⟩
theorem Rd.later {w:World} {B k n:Nat} {v:Value} {xs:List Value} (h:Rd w B k v n xs) (hB:B≤w.heap.size) (p:Later w):Rd p.W p.W.heap.size k v n xs:=
 (h.below (p.h.mono hB)).more (Nat.le_trans hB p.h.size)
theorem Rd.cap {w:World} {B k n m cap:Nat} {A:Option Addr} {xs:List Value} (h:Rd w B k (.slice A n cap) m xs):n≤cap∧cap≤9223372036854775807:=by
 obtain⟨h1,A',c,h2,h3,h4,h5⟩:=h
 injection h2 with _ e1 e2
 subst e1 e2
 unfold maxLen at h4
 omega
theorem Rd.take {w:World} {B k n cap:Nat} {A:Option Addr} {xs:List Value} (h:Rd w B k (.slice A n cap) n xs) {j:Nat} (hj:j≤n):Rd w B k (.slice A j cap) j (xs.take (j * k)):=by
 obtain⟨h1,A',c,h2,h3,h4,h5⟩:=h
 injection h2 with e1 _ e2
 subst e1 e2
 refine⟨?_,A,cap,rfl,by omega,h4,fun hn=>?_⟩
 ·rw[List.length_take,h1]
  exact Nat.min_eq_left (Nat.mul_le_mul_right _ hj)
 ·obtain⟨b,o,e,hb,hl⟩:=h5 (by omega)
  exact⟨b,o,e,hb,hl.take _⟩
section
variable {w w':World} {base base' k k' n n':Nat} {e e':TypeId} {v v':Value} {xs xs':List Value}
theorem bE (h:w.ownsRow base e k v n xs) (hb:Below w.heap.size w w'):w'.ownsRow base e k v n xs:=by
 refine⟨h.1,?_⟩
 rcases h.2 with hn|⟨g,cap,b,rfl,a,hg,r⟩
 ·exact .inl hn
 ·exact .inr ⟨g,cap,b,rfl,a,(hb.block g (tz hg).1).trans hg,r⟩
theorem ng (h:w.ownsRow base e k v n xs) (h':w.ownsRow base' e' k' v' n' xs') (b:e≠e'):v.ownBlock=none∨v.ownBlock≠v'.ownBlock:=by
 rcases h.2 with⟨rfl,_⟩|⟨g,cap,f,rfl,_,hg,_⟩
 ·exact .inl rfl
 ·refine .inr ?_
  rcases h'.2 with⟨rfl,_⟩|⟨g',d,c,rfl,_,a,_⟩
  ·simp[Value.ownBlock]
  ·intro he
   have e1:g=g':=by simpa [Value.ownBlock] using he
   subst e1
   rw[hg] at a
   injection a with a
   injection a with _ ht
   exact b ht
theorem ao (h:w.ownsRow base e k v n xs):∃A c,v= .slice A n c∧n≤c∧c≤9223372036854775807∧(0 < n→∃g,A=some ⟨g,0,none⟩∧base≤g∧g < w.heap.size∧Lies w g 0 xs):=by
 have hr:=Rd.of_own h
 obtain⟨_,A,c,rfl,hc,hm,hl⟩:=hr
 unfold maxLen at hm
 refine⟨A,c,rfl,hc,by omega,fun hn=>?_⟩
 obtain⟨b,o,rfl,hb,a⟩:=hl hn
 obtain⟨g,cap,e1,hg,hlt⟩:=h.form hn
 injection e1 with e1
 injection e1 with e1
 injection e1 with e2 e3
 subst e2 e3
 exact⟨b,rfl,hg,hlt,a⟩
theorem oP (h:w.ownsRow base e k v n xs):∀j,v.ownBlock=some j→base≤j:=fun j hj=>(h.lt j hj).1
end
structure Fp (S:Nat→Prop) (w w':World):Prop where
 os:w'.os=w.os
 tape:w'.tape=w.tape
 output:w'.output=w.output
 size:w.heap.size≤w'.heap.size
 block:∀k,k < w.heap.size→¬S k→w'.heap[k]? =w.heap[k]?
section
variable {w w' w'':World} {S S':Nat→Prop} {B:Nat}
theorem Fp.refl (S:Nat→Prop) (w:World):Fp S w w:=⟨rfl,rfl,rfl,tJ _,fun _ _ _=>rfl⟩
theorem Fp.trans (h:Fp S w w') (g:Fp S' w' w'') (hs:∀k,S' k→S k∨w.heap.size≤k):Fp S w w'':=
 ⟨g.os.trans h.os,g.tape.trans h.tape,g.output.trans h.output,Nat.le_trans h.size g.size,fun k hk hn=>by
  refine (g.block k (Nat.lt_of_lt_of_le hk h.size) fun hS=>?_).trans (h.block k hk hn)
  rcases hs k hS with h1|h1
  ·exact hn h1
  ·omega⟩
theorem Fp.mono (h:Fp S w w') (hs:∀k,k < w.heap.size→S k→S' k):Fp S' w w':=⟨h.os,h.tape,h.output,h.size,fun k hk hn=>h.block k hk fun h'=>hn (hs k hk h')⟩
theorem Fp.of_below (h:Below w.heap.size w w') (S:Nat→Prop):Fp S w w':=⟨h.os,h.tape,h.output,h.size,fun k hk _=>h.block k hk⟩
theorem Fp.to_below (h:Fp S w w') (hB:B≤w.heap.size) (hs:∀k,k < w.heap.size→S k→B≤k):Below B w w':=
 ⟨h.os,h.tape,h.output,h.size,fun k hk=>h.block k (by omega) fun h'=>by have:=hs k (by omega) h';omega⟩
theorem Fp.below (h:Fp S w w') (g:Below w'.heap.size w' w''):Fp S w w'':=h.trans (Fp.of_below g (fun _=>False)) (fun _ h=>h.elim)
theorem Fp.drewN (h:Fp S w w') (n:Nat):Fp S w (w'.drewN n):=⟨h.os,h.tape,h.output,h.size,h.block⟩
theorem Fp.drew (h:Fp S w w'):Fp S w w'.drew:=⟨h.os,h.tape,h.output,h.size,h.block⟩
theorem Fp.alloc (h:Fp S w w') (o:Obj):Fp S w (w'.alloc o):=h.below ((Below.refl _ _).alloc (tJ _) _)
theorem Fp.setCell (h:Fp S w w') {p:Addr} (hp:S p.block∨w.heap.size≤p.block) (u:Value):Fp S w (w'.setCell p u):=
 ⟨h.os,h.tape,h.output,by simpa [World.setCell] using h.size,fun k hk hn=>(Below.heap_setCell w' p u k (by
  rintro rfl
  rcases hp with hp|hp
  ·exact hn hp
  ·omega)).trans (h.block k hk hn)⟩
theorem Fp.setCells (h:Fp S w w') {b o:Nat} (hp:S b∨w.heap.size≤b) (vs:List Value):Fp S w (w'.setCells b o vs):=by
 induction vs generalizing w' o with
 |nil=>exact h
 |cons v vs ih=>exact ih (h.setCell (p:=⟨b,o,none⟩) hp v)
theorem Fp.grown {row:Option Nat} (h:Fp S w w') (g:w'.grownBy w'' row) (hr:∀k,row=some k→S k∨w.heap.size≤k):Fp S w w'':=
 ⟨g.os.trans h.os,g.tape.trans h.tape,g.output.trans h.output,Nat.le_trans h.size g.size,fun k hk hn=>by
  refine (g.block k (Nat.lt_of_lt_of_le hk h.size) fun e=>?_).trans (h.block k hk hn)
  rcases hr k e.symm with h1|h1
  ·exact hn h1
  ·omega⟩
theorem Fp.cell (h:Fp S w w') {b o:Nat} (hb:b < w.heap.size) (hn:¬S b):w'.cell? ⟨b,o,none⟩=w.cell? ⟨b,o,none⟩:=World.cell?_of_block (a:=⟨b,o,none⟩) (h.block b hb hn)
theorem Rd.fp {k n:Nat} {v:Value} {xs:List Value} (h:Rd w B k v n xs) (g:Fp S w w') (hB:B≤w.heap.size) (hs:∀k,k < B→¬S k):Rd w' B k v n xs:=h.keep fun b hb=>g.block b (by omega) (hs b hb)
end
theorem bz {P:Program} {id:Nat} {Q:Exit→Act→World→Prop} {a:Act} {w:World} {l:List Oper} (n:Nat) (hm:P.follows .mixedOrders=true) (hB:Region.lexTailB .any l.toArray n=true)
 (h:wpStill P l.toArray w.drew (fun a'=>wpList P l.toArray Q (l.drop n) a' w.drew) (l.take n) a):(Code.region id l.toArray true).wp P Q a w:=wp_region_still_tail n hm hB h
theorem ay {w w':World} (h:∃p:Later w,w'=p.W):Below w.heap.size w w':=by obtain⟨p,rfl⟩:=h;exact p.h
theorem bt {P:Program} {ops:Array Oper} {C:World→Prop} {Q:Act→Prop} {a:Act} {o:Oper} {rest:List Oper} (hw:Region.wanted o (yielded ops a.tmps)=true) (v:Value)
 (hr:∀w,C w→(execOp a.eval o).run P w= .ok (.value v) w) (h:∀K:Act→Prop,(∀a,wpQuiet P ops C Q rest a→K a)→K (a.put o.dst v)):wpQuiet P ops C Q (o :: rest) a:=by
 refine wpQuiet_step fun K hK=>?_
 rw[if_pos hw]
 refine⟨v,fun w hC=>?_,h K hK⟩
 unfold Oper.quietAt
 rw[hr w hC]
 exact⟨rfl,rfl⟩
theorem iH {P:Program} {ops:Array Oper} {Q:Exit→Act→World→Prop} {a:Act} {w:World} {o:Oper} {rest:List Oper} (hw:Region.wanted o (yielded ops a.tmps)=true) (v:Value)
 (hr:(execOp a.eval o).run P w= .ok (.value v) w) (h:wpList P ops Q rest (a.put o.dst v) w):wpList P ops Q (o :: rest) a w:=by
 refine BigFrame.wpList_want hw fun K hK=>?_
 unfold Oper.wp
 rw[hr]
 exact hK _ _ h
theorem fJ {P:Program} {a:Act} {o:Oper} {w:World} (ty:TypeId) (x:Operand) (ho:o.op= .load ty x) (b off:Nat) (hx:a.eval x= .pointer (some ⟨b,off,none⟩)) (cs:List Value) (d:TypeDesc)
 (hc:w.rangeAt b off cs) (hu:P.underlying ty=some d) (hd:d.isRow=true) (hi:(P.info? ty).map (·.size)=some cs.length):(execOp a.eval o).run P w= .ok (.value (.agg cs.toArray)) w:=by
 unfold execOp
 simp only[ho,hx,Instr.loadAt,Instr.sureAddr,Sem.run_bind,Sem.run_pure,Result.andThen_ok,run_loadVar_mid w b off ty cs d hc hu hd hi]
theorem aj {P:Program} {ops:Array Oper} {C:World→Prop} {Q:Act→Prop} {a:Act} {o:Oper} {rest:List Oper} (hw:Region.wanted o (yielded ops a.tmps)=true) (ty:TypeId) (x:Operand) (ho:o.op= .load ty x)
 (b off:Nat) (hx:a.eval x= .pointer (some ⟨b,off,none⟩)) (cs:List Value) (d:TypeDesc) (hc:∀w,C w→w.rangeAt b off cs) (hu:P.underlying ty=some d) (hd:d.isRow=true) (hi:(P.info? ty).map (·.size)=some cs.length)
 (h:∀K:Act→Prop,(∀a,wpQuiet P ops C Q rest a→K a)→K (a.put o.dst (.agg cs.toArray))):wpQuiet P ops C Q (o :: rest) a:=
 bt hw _ (fun w hC=>fJ ty x ho b off hx cs d (hc w hC) hu hd hi) h
theorem aA {P:Program} {ops:Array Oper} {Q:Exit→Act→World→Prop} {a:Act} {w:World} {o:Oper} {rest:List Oper} (hw:Region.wanted o (yielded ops a.tmps)=true) (ty:TypeId) (x:Operand) (ho:o.op= .load ty x)
 (b off:Nat) (hx:a.eval x= .pointer (some ⟨b,off,none⟩)) (cs:List Value) (d:TypeDesc) (hc:w.rangeAt b off cs) (hu:P.underlying ty=some d) (hd:d.isRow=true) (hi:(P.info? ty).map (·.size)=some cs.length)
 (h:wpList P ops Q rest (a.put o.dst (.agg cs.toArray)) w):wpList P ops Q (o :: rest) a w:=
 iH hw _ (fJ ty x ho b off hx cs d hc hu hd hi) h
theorem cM {w w':World} {b o:Nat} {cs:List Value} (h:w.rangeAt b o cs) (hk:w'.heap[b]? =w.heap[b]?):w'.rangeAt b o cs:=
 fun j v hv=>(World.cell?_of_block (a:=⟨b,o+j,none⟩) hk).trans (h j v hv)
theorem mX (w:World) (cs:Array Value) (t:TypeId):(w.alloc (.cells cs t)).rangeAt w.heap.size 0 cs.toList:=fun j v hv=>by
 rw[Nat.zero_add,cell_of_row _ w.heap.size j cs t (0,0) (tL w _)]
 simpa using hv
theorem pn (vs:List Value):∀(k:Nat) (pre rest:List Value),pre.length=k→rest.length=vs.length→
 List.foldl (fun (cs:Array Value) (x:Value×Nat)=>cs.setIfInBounds x.2 x.1) (pre++rest).toArray (vs.zipIdx k)=(pre++vs).toArray:=by
 induction vs with
 |nil=>intro k pre rest _ h;obtain rfl:rest=[]:=List.eq_nil_of_length_eq_zero (by simpa using h);simp
 |cons v vs ih=>
  intro k pre rest hk h
  match rest,h with
  |r :: rest,h=>
   rw[List.zipIdx_cons,List.foldl_cons]
   have e:(pre++r :: rest).toArray.setIfInBounds k v=((pre++[v])++rest).toArray:=by
    apply Array.ext'
    simp[←hk]
   show List.foldl _ ((pre++r :: rest).toArray.setIfInBounds k v) _=_
   rw[e,ih (k+1) (pre++[v]) rest (by simp[hk]) (by simpa using h)]
   simp
theorem pp (vs:List Value) (z:Array Value) (h:z.size=vs.length):Instr.fill (fun i=>some (i * vs.length,vs.length)) z [(0,.agg vs.toArray)]=some vs.toArray:=by
 have e:=pn vs 0 [] z.toList rfl (by simpa using h)
 simp only[List.nil_append,Array.toArray_toList] at e
 simp only[Instr.fill,Value.cells,List.size_toArray,Nat.zero_mul,Nat.zero_add,h]
 rw[if_neg (by simp)]
 congr 1
 refine Eq.trans ?_ e
 simp
theorem lg {P:Program} (w:World) (t e:TypeId) (vs:List Value) (hu:P.underlying t=some (.slice e)) (hz:(P.info? e).map (fun i=>(i.zero.map (·.cells.size),i.size))=some (some vs.length,vs.length)) (h0:0 < vs.length) (hn:vs.length≤16777216):
 (Instr.buildSlice t 1 #[(0,.agg vs.toArray)]).run P w= .ok (.slice (some ⟨w.heap.size,0,none⟩) 1 1) (w.alloc (.cells vs.toArray e)):=by
 cases hi:P.info? e with
 |none=>rw[hi] at hz;simp at hz
 |some i=>
  rw[hi] at hz
  simp only[Option.map_some,Option.some.injEq,Prod.mk.injEq] at hz
  obtain⟨a,hs⟩:=hz
  cases hzz:i.zero with
  |none=>rw[hzz] at a;simp at a
  |some z=>
   rw[hzz] at a
   have b:z.cells.size=vs.length:=by simpa using a
   have hf:=pp vs ((Array.range (1 * vs.length)).map (z.cells[·% z.cells.size]!)) (by simp)
   have d:¬ (1 * vs.length > 2 ^ 24):=by omega
   have c:¬ (1 * vs.length=0):=by omega
   simp[Instr.buildSlice,run_underlying hu,sizeOf,typeInfo,zeroValue,hi,hzz,hs]
   rw[if_neg (by omega),if_neg (by intro h;subst h;simp at h0)]
   rw[Nat.one_mul] at hf
   rw[hf]
   simp[newRow,go_sem]
theorem cu {P:Program} {ops:Array Oper} {Q:Exit→Act→World→Prop} {a:Act} {w:World} {o:Oper} {rest:List Oper} (hw:Region.wanted o (yielded ops a.tmps)=true) (t:TypeId) (x:Operand) (ho:o.op= .buildSlice t 1 #[(0,x)])
 (e:TypeId) (vs:List Value) (hx:a.eval x= .agg vs.toArray) (hu:P.underlying t=some (.slice e)) (hz:(P.info? e).map (fun i=>(i.zero.map (·.cells.size),i.size))=some (some vs.length,vs.length)) (h0:0 < vs.length) (hn:vs.length≤16777216)
 (h:wpList P ops Q rest (a.put o.dst (.slice (some ⟨w.heap.size,0,none⟩) 1 1)) (w.alloc (.cells vs.toArray e))):wpList P ops Q (o :: rest) a w:=by
 refine BigFrame.wpList_want hw fun K hK=>?_
 have hr:=lg (P:=P) w t e vs hu hz h0 hn
 unfold Oper.wp execOp
 simp[ho,hx,hr,Result.andThen]
 exact hK _ _ h
theorem jc (w:World) (z:Array Value) (t:TypeId):(w.alloc (.cells z t)).there w.heap.size 0 z.size:=fun j hj=>by
 refine⟨?_,?_⟩
 ·rw[Nat.zero_add,cell_of_row _ w.heap.size j z t (0,0) (tL w _)]
  simp[hj]
 ·exact frozen_of_row _ w.heap.size (0+j) z t (tL w _)
theorem bj {P:Program} {ops:Array Oper} {Q:Exit→Act→World→Prop} {a:Act} {w:World} {o:Oper} {rest:List Oper} (hw:Region.wanted o (yielded ops a.tmps)=true) (ty:TypeId) (x y:Operand) (ho:o.op= .store ty x y)
 (z:Array Value) (t:TypeId) (cs:List Value) (hx:a.eval x= .pointer (some ⟨w.heap.size,0,none⟩)) (hy:a.eval y= .agg cs.toArray) (hz:z.size=cs.length) (hi:(P.info? ty).map (·.size)=some cs.length) (h1:∀v∈cs,v.oneCell'=true)
 (h:∀w',Below w.heap.size w w'→w'.rangeAt w.heap.size 0 cs→w'.heap.size=w.heap.size+1→wpList P ops Q rest (a.put o.dst undef) w'):wpList P ops Q (o :: rest) a (w.alloc (.cells z t)):=by
 have ht:(w.alloc (.cells z t)).there w.heap.size 0 cs.toArray.size:=by
  have:=jc w z t
  rwa [hz] at this
 refine BigFrame.wpList_want hw fun K hK=>wp_store_mid ty x y ho w.heap.size 0 cs.toArray hx hy ht (by simpa using hi) (all_oneCell_toArray h1) (hK _ _ ?_)
 have hb:∀(vs:List Value) (o:Nat) (w0:World),(w0.setCells w.heap.size o vs).heap.size=w0.heap.size:=by
  intro vs
  induction vs with
  |nil=>intro o w0;rfl
  |cons v vs ih=>intro o w0;exact (ih (o+1) _).trans (by simp[World.setCell])
 refine h _ ?_ (World.rangeAt_setCells_same _ _ _ _ (by simpa using ht)) (by rw[hb];simp)
 have h2:Fp (fun _=>False) w ((w.alloc (.cells z t)).setCells w.heap.size 0 cs.toArray.toList):=((Fp.refl (fun _=>False) w).alloc _).setCells (Or.inr (tJ _)) _
 exact h2.to_below (tJ _) fun k _ h=>h.elim
theorem bA {w:World} {base base' k n:Nat} {e:TypeId} {v:Value} {xs:List Value} (h:w.ownsRow base e k v n xs) (hb:base'≤base):w.ownsRow base' e k v n xs:=by
 refine⟨h.1,h.2.imp id ?_⟩
 rintro⟨g,cap,a,e1,h1,r⟩
 exact⟨g,cap,a,e1,by omega,r⟩
end Go.Proofs.YtipmjleohadoeaaGreat
end
section
namespace Psp
structure Req where
 c:Int
 t:Int
 k:Int
 y:Int
 v:Int
 s:Int
theorem Req.eq_iff (a b:Req):a=b↔(a.c=b.c∧a.t=b.t∧a.k=b.k∧a.y=b.y∧a.v=b.v∧a.s=b.s):=by
 cases a;cases b;simp
instance:DecidableEq Req:=fun a b=>decidable_of_iff _ (Req.eq_iff a b).symm
end Psp
namespace Go.Proofs.YtipmjleohadoeaaGreat
open Go.RowKit
def rq (r:Psp.Req):List Value:=[iv r.c,iv r.t,iv r.k,iv r.y,iv r.v,iv r.s]
def nQ (r:Psp.Req):Prop:=aE r.c∧aE r.t∧aE r.k∧aE r.y∧aE r.v∧aE r.s
theorem qK (a b:Psp.Req) (w:World):(binOp .eql 42 (.agg (rq a).toArray) (.agg (rq b).toArray)).run Tryz.prog w= .ok (.bool (decide (a=b))) w:=by
 have d:Tryz.prog.stoodInHeld 42=false:=by kernel_rfl
 have e:Tryz.prog.stoodInHeld 40=false:=by kernel_rfl
 have he:=Psp.Req.eq_iff a b
 rw[run_eql_struct]
 simp[go_sem,d,e,rq,iv]
 by_cases h1:a.c=b.c
 ·by_cases h2:a.t=b.t
  ·by_cases h3:a.k=b.k
   ·by_cases h4:a.y=b.y
    ·by_cases h5:a.v=b.v
     ·by_cases h6:a.s=b.s <;> simp[*]
     ·simp[*]
    ·simp[*]
   ·simp[*]
  ·simp[*]
 ·simp[*]
theorem mU:Elem Tryz.prog 51 42 6 48:=⟨Tryz.underlying51,by kernel_rfl,by decide⟩
theorem rQ (r:Psp.Req):∀v∈rq r,v.oneCell'=true:=by
 intro v hv
 simp only[rq,iv,List.mem_cons,List.not_mem_nil,or_false] at hv
 rcases hv with rfl|rfl|rfl|rfl|rfl|rfl <;> rfl
theorem qz (a b:Psp.Req) (w:World):(binOp .neq 42 (.agg (rq a).toArray) (.agg (rq b).toArray)).run Tryz.prog w= .ok (.bool (!decide (a=b))) w:=by
 have h:=qK a b w
 rw[run_eql_struct] at h
 rw[run_neq_struct]
 cases hr:(Op.equalIn 10000 42 (.agg (rq a).toArray) (.agg (rq b).toArray)).run Tryz.prog w with
 |ok x w'=>
  rw[hr] at h
  simp only[Result.andThen_ok] at h ⊢
  simp only[Result.ok.injEq,Value.bool.injEq] at h
  rw[h.1,h.2]
 |halt x w'=>rw[hr] at h;simp[Result.andThen] at h
theorem gk {act:Act} {o:Oper} {w:World} (x y:Operand) (t:TypeId) (ho:o.op= .binOp .neq 42 x y t) (a b:Psp.Req) (hx:act.eval x= .agg (rq a).toArray) (hy:act.eval y= .agg (rq b).toArray):
 (execOp act.eval o).run Tryz.prog w= .ok (.value (.bool (!decide (a=b)))) w:=by
 have hm:Tryz.prog.eqGuardType Tryz.prog.depth 42=false:=by kernel_rfl
 unfold execOp
 simp only[ho,hx,hy,Sem.run_bind,Sem.run_pure,run_eqGuard_agg w .neq 42 x y _ _ hm,Result.andThen_ok,qz]
end Go.Proofs.YtipmjleohadoeaaGreat
end
section
namespace Psp
structure Vote where
 n:Int
 s:Int
deriving DecidableEq
structure Cert where
 v:Int
 i:Int
 q:Int
 b:List Req
 o:List Vote
deriving DecidableEq
structure Part where
 f:Int
 o:List Vote
 c:List Cert
 s:Int
deriving DecidableEq
def okN (n:Int):Bool:=decide (0≤n∧n < 1099511627776)
def okS (n:Int):Bool:=decide (-549755813888≤n∧n < 549755813888)
def aK (n:Int):List UInt8:=num n.toNat
def ey (n:Int):List UInt8:=num (zig n).toNat
def bw {α:Type} (e:α→List UInt8) (l:List α):List UInt8:=aK l.length++l.flatMap e
def okL {α:Type} (ok:α→Bool) (l:List α):Bool:=decide (l.length≤256)&&l.all ok
def bR (r:Req):List UInt8:=aK r.c++(aK r.t++(aK r.k++(ey r.y++(ey r.v++aK r.s))))
def okR (r:Req):Bool:=okN r.c&&(okN r.t&&(okN r.k&&(okS r.y&&(okS r.v&&okN r.s))))
def cI (v:Vote):List UInt8:=aK v.n++aK v.s
def okV (v:Vote):Bool:=okN v.n&&okN v.s
def cO (c:Cert):List UInt8:=aK c.v++(aK c.i++(aK c.q++(bw bR c.b++bw cI c.o)))
def okC (c:Cert):Bool:=okN c.v&&(okN c.i&&(okN c.q&&(okL okR c.b&&okL okV c.o)))
def cP (p:Part):List UInt8:=aK p.f++(bw cI p.o++(bw cO p.c++aK p.s))
def okP (p:Part):Bool:=okN p.f&&(okL okV p.o&&(okL okC p.c&&okN p.s))
theorem bM (n:Int):okN n=true↔0≤n∧n < 1099511627776:=by simp[okN]
theorem dw (n:Int):okS n=true↔ -549755813888≤n∧n < 549755813888:=by simp[okS]
theorem ej {n:Int} (h:okN n=true):1≤(aK n).length∧(aK n).length≤6:=by
 obtain⟨h0,h1⟩:=(bM n).1 h
 exact⟨fy _,fc (by omega)⟩
theorem dB (n:Int):1≤(ey n).length∧(ey n).length≤6:=by
 have:=jF n
 exact⟨fy _,fc (by omega)⟩
theorem cG {α:Type} (e:α→List UInt8) {l:List α} {k:Nat} (h:k < l.length):(l.take (k+1)).flatMap e=(l.take k).flatMap e++e l[k]:=by
 rw[List.take_succ_eq_append_getElem h,List.flatMap_append];simp
theorem cU {α:Type} (p:α→Bool) {l:List α} {k:Nat} (h:k < l.length):(l.take (k+1)).all p=((l.take k).all p&&p l[k]):=by
 rw[List.take_succ_eq_append_getElem h,List.all_append];simp
def At (b:List UInt8) (a a':Int) (e:List UInt8):Prop:=∃pre suf,b=pre++(e++suf)∧a=(pre.length:Int)∧a'=((pre.length+e.length:Nat):Int)
theorem At.bd {b e:List UInt8} {a a':Int} (h:At b a a' e):0≤a∧a'=a+e.length∧a'≤b.length:=by
 obtain⟨pre,c,rfl,rfl,rfl⟩:=h
 simp only[tH]
 omega
theorem dH {b e f:List UInt8} {a c:Int}:At b a c (e++f)↔∃m,At b a m e∧At b m c f:=by
 constructor
 ·rintro⟨pre,d,rfl,rfl,rfl⟩
  exact⟨((pre.length+e.length:Nat):Int),⟨pre,f++d,by simp,rfl,rfl⟩,⟨pre++e,d,by simp,by simp,by simp;omega⟩⟩
 ·rintro⟨m,⟨pre,d,h1,rfl,rfl⟩,⟨h,g,h2,h3,rfl⟩⟩
  have hl:h.length=(pre++e).length:=by simp;omega
  have e1:h++(f++g)=(pre++e)++d:=by rw[←h2,h1];simp
  obtain⟨rfl,rfl⟩:=List.append_inj e1 hl
  exact⟨pre,g,by rw[h1];simp,rfl,by simp;omega⟩
theorem pN {b:List UInt8} {a c:Int}:At b a c []↔0≤a∧a≤b.length∧c=a:=by
 constructor
 ·intro h;have:=h.bd;simp at this;omega
 ·rintro⟨h0,h1,rfl⟩
  exact⟨b.take c.toNat,b.drop c.toNat,by simp,by simp;omega,by simp;omega⟩
theorem At.pre {b e:List UInt8} (r:List UInt8) {a c:Int} (h:At b a c e):At (b++r) a c e:=by
 obtain⟨p,s,rfl,rfl,rfl⟩:=h
 exact⟨p,s++r,by simp,rfl,rfl⟩
theorem qY (e r:List UInt8):At (e++r) 0 e.length e:=⟨[],r,by simp,rfl,by simp⟩
abbrev Dec (α:Type):=List UInt8→Int→Option (α×Int)
def Codec {α:Type} (e:α→List UInt8) (ok:α→Bool) (d:Dec α):Prop:=∀b a x a',d b a=some (x,a')↔(ok x=true∧At b a a' (e x))
end Psp
namespace Go.Proofs.YtipmjleohadoeaaGreat
open Psp
def dN:Dec Int:=fun b a=>(bT b a).map fun p=>((p.1:Int),a+(p.2:Int))
theorem codec_N:Codec aK okN dN:=by
 intro b a x a'
 unfold dN
 constructor
 ·intro h
  cases ht:bT b a with
  |none=>rw[ht] at h;cases h
  |some p=>
   rw[ht] at h
   obtain⟨v,m⟩:=p
   simp only[Option.map_some,Option.some.injEq,Prod.mk.injEq] at h
   obtain⟨rfl,rfl⟩:=h
   have hb:=dW ht
   unfold bT at ht
   rw[if_neg (by omega)] at ht
   obtain⟨h1,h2,r,h3⟩:=take_some ht
   refine⟨(bM _).2 ⟨by omega,by omega⟩,b.take a.toNat,r,?_,?_,?_⟩
   ·unfold aK
    rw[Int.toNat_natCast,←h3,List.take_append_drop]
   ·rw[List.length_take];omega
   ·unfold aK
    rw[Int.toNat_natCast,←h2,List.length_take];omega
 ·rintro⟨h,pre,c,rfl,rfl,rfl⟩
  obtain⟨h0,h1⟩:=(bM x).1 h
  have:bT (pre++(aK x++c)) (pre.length:Int)=some (x.toNat,(aK x).length):=by
   unfold bT
   rw[if_neg (by omega),Int.toNat_natCast,List.drop_left]
   exact nX c (by omega)
  rw[this]
  simp only[Option.map_some,Option.some.injEq,Prod.mk.injEq]
  exact⟨by omega,by omega⟩
theorem rC {b:List UInt8} {a n a':Int} (h:dN b a=some (n,a')):0≤n∧n < 1099511627776∧0≤a∧a < a'∧a'≤b.length:=by
 obtain⟨h1,h2⟩:=(codec_N b a n a').1 h
 have h3:=(bM n).1 h1
 have h4:=ej h1
 have h5:=h2.bd
 omega
end Go.Proofs.YtipmjleohadoeaaGreat
namespace Psp
open Go.Proofs.YtipmjleohadoeaaGreat
def dS:Dec Int:=fun b a=>(dN b a).map fun p=>(zag p.1,p.2)
theorem ka:Codec ey okS dS:=by
 intro b a x a'
 unfold dS
 constructor
 ·intro h
  cases ht:dN b a with
  |none=>rw[ht] at h;cases h
  |some p=>
   rw[ht] at h
   obtain⟨n,c⟩:=p
   simp only[Option.map_some,Option.some.injEq,Prod.mk.injEq] at h
   obtain⟨rfl,rfl⟩:=h
   obtain⟨h1,h2⟩:=(codec_N b a n c).1 ht
   have h3:=(bM n).1 h1
   have h4:=nO n
   refine⟨(dw _).2 h4,?_⟩
   unfold ey
   rw[pR h3.1 h3.2]
   exact h2
 ·rintro⟨h,g⟩
  have h1:=(dw x).1 h
  have hz:=jF x
  have:dN b a=some (zig x,a'):=(codec_N b a _ _).2 ⟨(bM _).2 ⟨hz.1,hz.2⟩,g⟩
  rw[this]
  simp only[Option.map_some,Option.some.injEq,Prod.mk.injEq,and_true]
  exact pT h1.1 h1.2
theorem bD {α β:Type} {d:Dec α} {e:α→List UInt8} {ok:α→Bool} (h:Codec e ok d) {b:List UInt8} {a a':Int} {f:α×Int→Option (β×Int)} {y:β}:
 (d b a).bind f=some (y,a')↔∃x m,ok x=true∧At b a m (e x)∧f (x,m)=some (y,a'):=by
 rw[Option.bind_eq_some_iff]
 constructor
 ·rintro⟨⟨x,m⟩,h1,h2⟩
  obtain⟨h3,h4⟩:=(h b a x m).1 h1
  exact⟨x,m,h3,h4,h2⟩
 ·rintro⟨x,m,h1,h2,h3⟩
  exact⟨(x,m),(h b a x m).2 ⟨h1,h2⟩,h3⟩
theorem eL {α β:Type} {d:Dec α} {e:α→List UInt8} {ok:α→Bool} (h:Codec e ok d) {b:List UInt8} {a a':Int} {f:α×Int→β×Int} {y:β}:
 (d b a).map f=some (y,a')↔∃x m,ok x=true∧At b a m (e x)∧f (x,m)=(y,a'):=by
 rw[Option.map_eq_some_iff]
 constructor
 ·rintro⟨⟨x,m⟩,h1,h2⟩
  obtain⟨h3,h4⟩:=(h b a x m).1 h1
  exact⟨x,m,h3,h4,h2⟩
 ·rintro⟨x,m,h1,h2,h3⟩
  exact⟨(x,m),(h b a x m).2 ⟨h1,h2⟩,h3⟩
def dg {α:Type} (d:Dec α) (b:List UInt8):Nat→Int→Option (List α×Int)
 |0,a=>some ([],a)
 |n+1,a=>(d b a).bind fun p=>(dg d b n p.2).map fun q=>(p.1 :: q.1,q.2)
def dL {α:Type} (d:Dec α):Dec (List α):=fun b a=>(dN b a).bind fun p=>if p.1≤256 then dg d b p.1.toNat p.2 else none
theorem fC {α:Type} {d:Dec α} {e:α→List UInt8} {ok:α→Bool} (h:Codec e ok d) (b:List UInt8):∀(n:Nat) (a:Int) (l:List α) (a':Int),0≤a→a≤b.length→
 (dg d b n a=some (l,a')↔l.length=n∧l.all ok=true∧At b a a' (l.flatMap e))
 |0,a,l,a',h0,h1=>by
  unfold dg
  constructor
  ·intro g
   simp only[Option.some.injEq,Prod.mk.injEq] at g
   obtain⟨rfl,rfl⟩:=g
   exact⟨rfl,rfl,pN.2 ⟨h0,h1,rfl⟩⟩
  ·rintro⟨g1,g2,g3⟩
   have:l=[]:=List.eq_nil_of_length_eq_zero g1
   subst this
   rw[(pN.1 g3).2.2]
 |n+1,a,l,a',h0,h1=>by
  unfold dg
  rw[bD h]
  constructor
  ·rintro⟨x,m,h2,h3,h4⟩
   obtain⟨⟨xs,m'⟩,h5,h6⟩:=Option.map_eq_some_iff.1 h4
   simp only[Prod.mk.injEq] at h6
   obtain⟨rfl,rfl⟩:=h6
   have hb:=h3.bd
   obtain⟨h7,h8,h9⟩:=(fC h b n m xs m' (by omega) (by omega)).1 h5
   refine⟨by simp[h7],by simp[h2] at h8 ⊢;exact h8,?_⟩
   rw[List.flatMap_cons]
   exact dH.2 ⟨m,h3,h9⟩
  ·rintro⟨h2,h3,h4⟩
   cases l with
   |nil=>simp at h2
   |cons x xs=>
    rw[List.flatMap_cons] at h4
    obtain⟨m,h5,h6⟩:=dH.1 h4
    rw[List.all_cons,tI] at h3
    have hb:=h5.bd
    have c:=h6.bd
    have:=(fC h b n m xs a' (by omega) (by omega)).2 ⟨by simpa using h2,h3.2,h6⟩
    exact⟨x,m,h3.1,h5,by rw[this];rfl⟩
theorem cV {α:Type} {d:Dec α} {e:α→List UInt8} {ok:α→Bool} (h:Codec e ok d):Codec (bw e) (okL ok) (dL d):=by
 intro b a l a'
 unfold dL okL bw
 rw[bD codec_N,tI,decide_eq_true_eq]
 constructor
 ·rintro⟨n,m,h1,h2,h3⟩
  by_cases hn:n≤256
  ·rw[if_pos hn] at h3
   have hb:=h2.bd
   obtain⟨h4,h5,h6⟩:=(fC h b n.toNat m l a' (by omega) (by omega)).1 h3
   have h7:=(bM n).1 h1
   have:(l.length:Int)=n:=by omega
   exact⟨⟨by omega,h5⟩,dH.2 ⟨m,by rw[this];exact h2,h6⟩⟩
  ·rw[if_neg hn] at h3;cases h3
 ·rintro⟨⟨h1,h2⟩,h3⟩
  obtain⟨m,h4,h5⟩:=dH.1 h3
  have hb:=h4.bd
  have hb5:=h5.bd
  refine⟨(l.length:Int),m,(bM _).2 ⟨by omega,by omega⟩,h4,?_⟩
  rw[if_pos (by omega),Int.toNat_natCast]
  exact (fC h b _ m l a' (by omega) (by omega)).2 ⟨rfl,h2,h5⟩
def dR:Dec Req:=fun b a=>(dN b a).bind fun c=>(dN b c.2).bind fun t=>(dN b t.2).bind fun k=>(dS b k.2).bind fun y=>(dS b y.2).bind fun v=>(dN b v.2).map fun s=>(⟨c.1,t.1,k.1,y.1,v.1,s.1⟩,s.2)
theorem kd:Codec bR okR dR:=by
 intro b a x a'
 unfold dR okR bR
 simp only[bD codec_N,bD ka,eL codec_N,tI,dH,Prod.mk.injEq]
 constructor
 ·rintro⟨c,m1,o1,g1,t,m2,o2,g2,k,m3,o3,g3,y,m4,o4,g4,v,m5,o5,g5,s,m6,o6,g6,rfl,rfl⟩
  exact⟨⟨o1,o2,o3,o4,o5,o6⟩,m1,g1,m2,g2,m3,g3,m4,g4,m5,g5,g6⟩
 ·rintro⟨⟨o1,o2,o3,o4,o5,o6⟩,m1,g1,m2,g2,m3,g3,m4,g4,m5,g5,g6⟩
  exact⟨_,m1,o1,g1,_,m2,o2,g2,_,m3,o3,g3,_,m4,o4,g4,_,m5,o5,g5,_,a',o6,g6,rfl,rfl⟩
def dV:Dec Vote:=fun b a=>(dN b a).bind fun n=>(dN b n.2).map fun s=>(⟨n.1,s.1⟩,s.2)
theorem ia:Codec cI okV dV:=by
 intro b a x a'
 unfold dV okV cI
 simp only[bD codec_N,eL codec_N,tI,dH,Prod.mk.injEq]
 constructor
 ·rintro⟨c,m1,o1,g1,t,m2,o2,g2,rfl,rfl⟩
  exact⟨⟨o1,o2⟩,m1,g1,g2⟩
 ·rintro⟨⟨o1,o2⟩,m1,g1,g2⟩
  exact⟨_,m1,o1,g1,_,a',o2,g2,rfl,rfl⟩
def dC:Dec Cert:=fun b a=>(dN b a).bind fun v=>(dN b v.2).bind fun i=>(dN b i.2).bind fun q=>(dL dR b q.2).bind fun l=>(dL dV b l.2).map fun o=>(⟨v.1,i.1,q.1,l.1,o.1⟩,o.2)
theorem ke:Codec cO okC dC:=by
 intro b a x a'
 unfold dC okC cO
 simp only[bD codec_N,bD (cV kd),eL (cV ia),tI,dH (f:=bw cI x.o),dH (f:=_++_),Prod.mk.injEq]
 constructor
 ·rintro⟨c,m1,o1,g1,t,m2,o2,g2,k,m3,o3,g3,y,m4,o4,g4,v,m5,o5,g5,rfl,rfl⟩
  exact⟨⟨o1,o2,o3,o4,o5⟩,m1,g1,m2,g2,m3,g3,m4,g4,g5⟩
 ·rintro⟨⟨o1,o2,o3,o4,o5⟩,m1,g1,m2,g2,m3,g3,m4,g4,g5⟩
  exact⟨_,m1,o1,g1,_,m2,o2,g2,_,m3,o3,g3,_,m4,o4,g4,_,a',o5,g5,rfl,rfl⟩
def dP:Dec Part:=fun b a=>(dN b a).bind fun f=>(dL dV b f.2).bind fun o=>(dL dC b o.2).bind fun c=>(dN b c.2).map fun s=>(⟨f.1,o.1,c.1,s.1⟩,s.2)
theorem mu:Codec cP okP dP:=by
 intro b a x a'
 unfold dP okP cP
 simp only[bD codec_N,bD (cV ia),bD (cV ke),eL codec_N,tI,dH (f:=aK x.s),dH (f:=_++_),Prod.mk.injEq]
 constructor
 ·rintro⟨c,m1,o1,g1,t,m2,o2,g2,k,m3,o3,g3,y,m4,o4,g4,rfl,rfl⟩
  exact⟨⟨o1,o2,o3,o4⟩,m1,g1,m2,g2,m3,g3,g4⟩
 ·rintro⟨⟨o1,o2,o3,o4⟩,m1,g1,m2,g2,m3,g3,g4⟩
  exact⟨_,m1,o1,g1,_,m2,o2,g2,_,m3,o3,g3,_,a',o4,g4,rfl,rfl⟩
section
variable {α:Type} {d:Dec α} {e:α→List UInt8} {ok:α→Bool}
theorem Codec.back (h:Codec e ok d) {x:α} (hx:ok x=true) (r:List UInt8):d (e x++r) 0=some (x,((e x).length:Int)):=(h _ _ _ _).2 ⟨hx,qY _ _⟩
theorem Codec.inj (h:Codec e ok d) {x y:α} (hx:ok x=true) (hy:ok y=true) (he:e x=e y):x=y:=by
 have h1:=h.back hx []
 have h2:=h.back hy []
 rw[he] at h1
 rw[h1] at h2
 simpa using h2
theorem Codec.bd (h:Codec e ok d) {b:List UInt8} {a a':Int} {x:α} (g:d b a=some (x,a')):0≤a∧a≤a'∧a'≤b.length:=by
 have:=((h _ _ _ _).1 g).2.bd
 omega
end
structure Wrote (e:List UInt8) (ok:Bool) (bnd:Nat) (out out':List UInt8) (bad bad':Bool):Prop where
 isbad:bad'=(bad|| !ok)
 isout:bad'=false→out'=out++e
 islen:out'.length≤out.length+bnd
theorem Wrote.trans {e f:List UInt8} {ok ok':Bool} {n m:Nat} {o o' a:List UInt8} {b b' c:Bool} (h:Wrote e ok n o o' b b') (g:Wrote f ok' m o' a b' c):Wrote (e++f) (ok&&ok') (n+m) o a b c:=by
 refine⟨by rw[g.isbad,h.isbad];cases b <;> cases ok <;> cases ok' <;> rfl,fun hb=>?_,by have:=h.islen;have:=g.islen;omega⟩
 have d:b'=false:=by rw[g.isbad] at hb;cases b' <;> simp_all
 rw[g.isout hb,h.isout d,List.append_assoc]
theorem Wrote.more {e:List UInt8} {ok:Bool} {n m:Nat} {o o':List UInt8} {b b':Bool} (h:Wrote e ok n o o' b b') (hm:n≤m):Wrote e ok m o o' b b':=⟨h.isbad,h.isout,by have:=h.islen;omega⟩
theorem Wrote.nil (o:List UInt8) (b:Bool):Wrote [] true 0 o o b b:=⟨by simp,fun _=>by simp,by simp⟩
end Psp
end
section
namespace Go.Proofs.YtipmjleohadoeaaGreat
open Go.RowKit
def RdP (w:World) (P:Nat→Prop) (k:Nat) (v:Value) (n:Nat) (xs:List Value):Prop:=
 xs.length=n * k∧∃A c,v= .slice A n c∧n≤c∧c≤maxLen∧(0 < n→∃b o,A=some ⟨b,o,none⟩∧P b∧b < w.heap.size∧Lies w b o xs)
section
variable {w w':World} {P P':Nat→Prop} {B k n:Nat} {v:Value} {xs:List Value}
theorem RdP.keep (h:RdP w P k v n xs) (hs:w.heap.size≤w'.heap.size) (hk:∀b,P b→b < w.heap.size→w'.heap[b]? =w.heap[b]?):RdP w' P k v n xs:=by
 obtain⟨h1,A,c,h2,h3,h4,h5⟩:=h
 refine⟨h1,A,c,h2,h3,h4,fun hn=>?_⟩
 obtain⟨b,o,e,hb,hlt,hl⟩:=h5 hn
 exact⟨b,o,e,hb,by omega,hl.keep (hk b hb hlt)⟩
theorem RdP.mono (h:RdP w P k v n xs) (hP:∀b,b < w.heap.size→P b→P' b):RdP w P' k v n xs:=by
 obtain⟨h1,A,c,h2,h3,h4,h5⟩:=h
 refine⟨h1,A,c,h2,h3,h4,fun hn=>?_⟩
 obtain⟨b,o,e,hb,hlt,hl⟩:=h5 hn
 exact⟨b,o,e,hP b hlt hb,hlt,hl⟩
theorem RdP.fp {S:Nat→Prop} (h:RdP w P k v n xs) (g:Fp S w w') (hs:∀b,P b→¬S b):RdP w' P k v n xs:=h.keep g.size fun b hb hlt=>g.block b hlt (hs b hb)
theorem RdP.below (h:RdP w P k v n xs) (g:Below w.heap.size w w'):RdP w' P k v n xs:=h.keep g.size fun b hb hlt=>g.block b hlt
theorem RdP.to_rd (h:RdP w P k v n xs):Rd w w.heap.size k v n xs:=by
 obtain⟨h1,A,c,h2,h3,h4,h5⟩:=h
 refine⟨h1,A,c,h2,h3,h4,fun hn=>?_⟩
 obtain⟨b,o,e,hb,hlt,hl⟩:=h5 hn
 exact⟨b,o,e,hlt,hl⟩
theorem Rd.to_p (h:Rd w B k v n xs) (hB:B≤w.heap.size):RdP w (fun b=>b < B) k v n xs:=by
 obtain⟨h1,A,c,h2,h3,h4,h5⟩:=h
 refine⟨h1,A,c,h2,h3,h4,fun hn=>?_⟩
 obtain⟨b,o,e,hb,hl⟩:=h5 hn
 exact⟨b,o,e,hb,by omega,hl⟩
theorem RdP.none_:RdP w P k (.slice none 0 0) 0 []:=⟨by simp,none,0,rfl,tJ _,Nat.zero_le _,fun h=>absurd h (by omega)⟩
theorem RdP.of_own {base:Nat} {e:TypeId} (h:w.ownsRow base e k v n xs):RdP w (fun b=>v.ownBlock=some b∧base≤b) k v n xs:=by
 have hr:=Rd.of_own h
 obtain⟨h1,A,c,rfl,h3,h4,h5⟩:=hr
 refine⟨h1,A,c,rfl,h3,h4,fun hn=>?_⟩
 obtain⟨b,o,rfl,hb,hl⟩:=h5 hn
 have h6:(Value.slice (some ⟨b,o,none⟩) n c).ownBlock=some b:=rfl
 exact⟨b,o,rfl,⟨h6,(h.lt b h6).1⟩,hb,hl⟩
theorem RdP.parts (h:RdP w P k v n xs):xs.length=n * k∧∃A c,v= .slice A n c∧n≤c∧c≤9223372036854775807∧(0 < n→∃b o,A=some ⟨b,o,none⟩∧P b∧b < w.heap.size∧Lies w b o xs):=by
 obtain⟨h1,A,c,h2,h3,h4,h5⟩:=h
 unfold maxLen at h4
 exact⟨h1,A,c,h2,h3,by omega,h5⟩
end
structure Wr (T:TypeId) (w:World) (S:Nat→Prop) (g:Nat) (out:List UInt8) (bad:Bool):Prop where
 ex:∃v,w.heap[g]? =some (.cells #[v,.bool bad] T (0,0))∧w.ownsRow 0 5 1 v out.length (out.map bv)∧∀k,v.ownBlock=some k→S k∧k≠g
 own:S g
 lt:∀k,S k→k < w.heap.size
section
variable {T:TypeId} {w w' w3:World} {S S':Nat→Prop} {g:Nat} {out:List UInt8} {bad:Bool}
theorem ar {base:Nat} {e:TypeId} {k n:Nat} {v:Value} {xs:List Value} (h:w.ownsRow base e k v n xs) (hk:∀b,v.ownBlock=some b→w'.heap[b]? =w.heap[b]?):w'.ownsRow base e k v n xs:=by
 refine⟨h.1,?_⟩
 rcases h.2 with hn|⟨b,cap,a,rfl,hb,hh,r⟩
 ·exact .inl hn
 ·exact .inr ⟨b,cap,a,rfl,hb,(hk b rfl).trans hh,r⟩
theorem Wr.fp (h:Wr T w S g out bad) (hf:Fp S' w w') (hd:∀k,S k→¬S' k):Wr T w' S g out bad:=by
 obtain⟨v,h1,h2,h3⟩:=h.ex
 exact⟨⟨v,(hf.block g (h.lt g h.own) (hd g h.own)).trans h1,ar h2 fun b hb=>hf.block b (h.lt b (h3 b hb).1) (hd b (h3 b hb).1),h3⟩,h.own,fun k hk=>Nat.lt_of_lt_of_le (h.lt k hk) hf.size⟩
theorem Wr.below (h:Wr T w S g out bad) (hb:Below w.heap.size w w'):Wr T w' S g out bad:=h.fp (Fp.of_below hb fun _=>False) fun _ _ h=>h
theorem Wr.wider (h:Wr T w S g out bad) (hs:∀k,S k→S' k) (hl:∀k,S' k→k < w.heap.size):Wr T w S' g out bad:=by
 obtain⟨v,h1,h2,h3⟩:=h.ex
 exact⟨⟨v,h1,h2,fun k hk=>⟨hs k (h3 k hk).1,(h3 k hk).2⟩⟩,hs g h.own,hl⟩
theorem Wr.cells (h:Wr T w S g out bad):∃A c,out.length≤c∧c≤9223372036854775807∧w.cell? ⟨g,0,none⟩=some (.slice A out.length c)∧w.cell? ⟨g,1,none⟩=some (.bool bad)∧
 w.frozen? ⟨g,0,none⟩=false∧w.frozen? ⟨g,1,none⟩=false∧w.ownsRow 0 5 1 (.slice A out.length c) out.length (out.map bv)∧∀k,(Value.slice A out.length c).ownBlock=some k→S k∧k≠g:=by
 obtain⟨v,h1,h2,h3⟩:=h.ex
 obtain⟨A,c,rfl,b,a,hl⟩:=ao h2
 refine⟨A,c,b,a,?_,?_,?_,?_,h2,h3⟩
 ·rw[cell_of_row w g 0 _ _ _ h1];rfl
 ·rw[cell_of_row w g 1 _ _ _ h1];rfl
 ·exact frozen_of_row w g 0 _ _ h1
 ·exact frozen_of_row w g 1 _ _ h1
theorem Wr.setBad (h:Wr T w S g out bad) (b:Bool):Wr T (w.setCell ⟨g,1,none⟩ (.bool b)) S g out b∧Fp S w (w.setCell ⟨g,1,none⟩ (.bool b)):=by
 obtain⟨v,h1,h2,h3⟩:=h.ex
 refine⟨⟨⟨v,?_,ar h2 fun k hk=>Below.heap_setCell w ⟨g,1,none⟩ _ k (fun e=>(h3 k hk).2 e),h3⟩,h.own,fun k hk=>by simpa [World.setCell] using h.lt k hk⟩,(Fp.refl S w).setCell (p:=⟨g,1,none⟩) (Or.inl h.own) _⟩
 rw[heap_setCell_same w g 1 _ _ _ h1];rfl
theorem Wr.append {A:Option Addr} {c:Nat} {v':Value} {e:List UInt8} (h:Wr T w S g out bad) (hv:w.cell? ⟨g,0,none⟩=some (.slice A out.length c)) (a:w3.ownsRow 0 5 1 v' (out.length+e.length) (out.map bv++e.map bv)) (hg:w.grownBy w3 (Value.slice A out.length c).ownBlock)
 (hb:v'.ownBlock=(Value.slice A out.length c).ownBlock∨v'.ownBlock=some w.heap.size):
 Wr T (w3.setCell ⟨g,0,none⟩ v') (fun k=>S k∨(w.heap.size≤k∧k < w3.heap.size)) g (out++e) bad∧Fp S w (w3.setCell ⟨g,0,none⟩ v'):=by
 obtain⟨v,h1,h2,h3⟩:=h.ex
 rw[cell_of_row w g 0 _ _ _ h1] at hv
 have e1:v= .slice A out.length c:=by simpa using hv
 subst e1
 have d:=h.lt g h.own
 have f:w3.heap[g]? =w.heap[g]?:=hg.block g d (fun he=>(h3 g he.symm).2 rfl)
 have b:v'.ownBlock≠some g:=by
  intro he
  rcases hb with hb|hb
  ·rw[hb] at he;exact (h3 g he).2 rfl
  ·rw[hb] at he;injection he with he;omega
 refine⟨⟨⟨v',?_,?_,?_⟩,Or.inl h.own,?_⟩,?_⟩
 ·rw[heap_setCell_same w3 g 0 _ _ _ (f.trans h1)];rfl
 ·rw[tH,List.map_append]
  exact ar a fun k hk=>Below.heap_setCell w3 ⟨g,0,none⟩ _ k (fun he=>b (by rw[hk,he]))
 ·intro k hk
  refine⟨?_,fun he=>b (by rw[hk,he])⟩
  rcases hb with hb|hb
  ·exact Or.inl (h3 k (by rw[←hb];exact hk)).1
  ·rw[hb] at hk
   injection hk with hk
   subst hk
   exact Or.inr ⟨tJ _,(a.lt _ hb).2⟩
 ·intro k hk
  rcases hk with hk|hk
  ·have:=h.lt k hk;have:=hg.size;simp[World.setCell];omega
  ·simpa [World.setCell] using hk.2
 ·exact ((Fp.refl S w).grown hg (fun k hk=>Or.inl (h3 k hk).1)).setCell (p:=⟨g,0,none⟩) (Or.inl h.own) _
theorem Wr.grown {A:Option Addr} {c:Nat} (h:Wr T w S g out bad) (hv:w.cell? ⟨g,0,none⟩=some (.slice A out.length c)) (hg:w.grownBy w3 (Value.slice A out.length c).ownBlock):
 w3.cell? ⟨g,0,none⟩=some (.slice A out.length c)∧w3.frozen? ⟨g,0,none⟩=false:=by
 obtain⟨v,h1,h2,h3⟩:=h.ex
 rw[cell_of_row w g 0 _ _ _ h1] at hv
 have e1:v= .slice A out.length c:=by simpa using hv
 subst e1
 have a:w3.heap[g]? =w.heap[g]?:=hg.block g (h.lt g h.own) (fun he=>(h3 g he.symm).2 rfl)
 refine⟨?_,frozen_of_row w3 g 0 _ _ (a.trans h1)⟩
 rw[cell_of_row w3 g 0 _ _ _ (a.trans h1)];rfl
end
def WrOk (T:TypeId) (e:List UInt8) (ok:Bool) (bnd:Nat) (S:Nat→Prop) (g:Nat) (out:List UInt8) (bad:Bool) (w:World) (en:Ending) (w':World):Prop:=
 en= .returned (.tuple #[])∧∃out' bad',Psp.Wrote e ok bnd out out' bad bad'∧Wr T w' (fun k=>S k∨(w.heap.size≤k∧k < w'.heap.size)) g out' bad'∧Fp S w w'
structure WrS (T:TypeId) (e:List UInt8) (ok:Bool) (bnd:Nat) (S:Nat→Prop) (g:Nat) (out:List UInt8) (bad:Bool) (w:World) (S':Nat→Prop) (out':List UInt8) (bad':Bool) (w':World):Prop where
 wrote:Psp.Wrote e ok bnd out out' bad bad'
 wr:Wr T w' S' g out' bad'
 fp:Fp S w w'
 sub:∀k,S' k→S k∨w.heap.size≤k
 sup:∀k,S k→S' k
section
variable {T:TypeId} {e f:List UInt8} {ok ok':Bool} {n m:Nat} {S S':Nat→Prop} {g:Nat} {out out':List UInt8} {bad bad':Bool} {w w' w'':World} {en:Ending}
theorem WrS.start (h:Wr T w S g out bad):WrS T [] true 0 S g out bad w S out bad w:=⟨Psp.Wrote.nil _ _,h,Fp.refl _ _,fun k hk=>Or.inl hk,fun k hk=>hk⟩
theorem WrS.below (h:WrS T e ok n S g out bad w S' out' bad' w') (hb:Below w'.heap.size w' w''):WrS T e ok n S g out bad w S' out' bad' w'':=⟨h.wrote,h.wr.below hb,h.fp.below hb,h.sub,h.sup⟩
theorem WrS.step (h:WrS T e ok n S g out bad w S' out' bad' w') (hc:WrOk T f ok' m S' g out' bad' w' en w''):
 en= .returned (.tuple #[])∧∃c a b,WrS T (e++f) (ok&&ok') (n+m) S g out bad w c a b w'':=by
 obtain⟨he,o2,b2,h1,h2,h3⟩:=hc
 refine⟨he,_,o2,b2,h.wrote.trans h1,h2,h.fp.trans h3 h.sub,fun k hk=>?_,fun k hk=>Or.inl (h.sup k hk)⟩
 rcases hk with hk|hk
 ·exact h.sub k hk
 ·exact Or.inr (Nat.le_trans h.fp.size hk.1)
theorem WrS.done (h:WrS T e ok n S g out bad w S' out' bad' w') (hm:n≤m):WrOk T e ok m S g out bad w (.returned (.tuple #[])) w':=by
 refine⟨rfl,out',bad',h.wrote.more hm,h.wr.wider (fun k hk=>?_) (fun k hk=>?_),h.fp⟩
 ·rcases h.sub k hk with h1|h1
  ·exact Or.inl h1
  ·exact Or.inr ⟨h1,h.wr.lt k hk⟩
 ·rcases hk with hk|hk
  ·exact h.wr.lt k (h.sup k hk)
  ·exact hk.2
theorem WrS.of (he:e=f) (ho:ok=ok') (h:WrS T e ok n S g out bad w S' out' bad' w'):WrS T f ok' n S g out bad w S' out' bad' w':=by rw[←he,←ho];exact h
theorem WrS.lies {b o:Nat} {cs:List Value} (h:WrS T e ok n S g out bad w S' out' bad' w') (hl:Lies w b o cs) (hb:b < w.heap.size) (hP:¬S b):Lies w' b o cs:=hl.keep (h.fp.block b hb hP)
theorem WrOk.from_ {w0:World} (h:WrOk T e ok n S g out bad w en w') (hb:Below w0.heap.size w0 w):WrOk T e ok n S g out bad w0 en w':=by
 obtain⟨he,o2,b2,h1,h2,h3⟩:=h
 have hz:=hb.size
 refine⟨he,o2,b2,h1,h2.wider (fun k hk=>?_) (fun k hk=>?_),(Fp.of_below hb S).trans h3 fun k hk=>Or.inl hk⟩
 ·rcases hk with hk|hk
  ·exact Or.inl hk
  ·exact Or.inr ⟨by omega,hk.2⟩
 ·rcases hk with hk|hk
  ·exact h2.lt k (Or.inl hk)
  ·exact hk.2
theorem WrS.off (h:WrS T e ok n S g out bad w S' out' bad' w') {b:Nat} (hb:b < w.heap.size) (hP:¬S b):¬S' b:=fun hk=>by
 rcases h.sub b hk with h1|h1
 ·exact hP h1
 ·omega
end
end Go.Proofs.YtipmjleohadoeaaGreat
end
end
section
section
namespace Go.Proofs.YtipmjleohadoeaaGreat
open Go.RowKit
theorem jR (x:Value) (n:Nat) (e:List UInt8) (ok:Bool) (S:Nat→Prop) (g:Nat) (out:List UInt8) (bad:Bool) (w:World) (hW:Wr 171 w S g out bad)
 (hx:RdP w (fun b=>¬S b) 1 x n (e.map bv)) (hb:out.length+n≤1099511627776):
 Calls Tryz.prog 163 #[.pointer (some ⟨g,0,none⟩),x,.bool ok] w (WrOk 171 e ok n S g out bad w):=by
 have hn:e.length=n:=by have:=hx.1;simpa using this
 have HW:=tt hW
 have j:(w.setCell ⟨g,1,none⟩ (.bool (bad|| !ok))).cell? ⟨g,0,none⟩=w.cell? ⟨g,0,none⟩:=by go_simp
 obtain⟨hW1,m⟩:=hW.setBad (bad|| !ok)
 obtain⟨A,c,z,y,k0,k1,z0,z1,v,hS⟩:=hW.cells
 obtain⟨A',c',_,_,f,_,_,_,a,B⟩:=hW1.cells
 rw[j,k0] at f
 injection f with f
 injection f with e1 _ e2
 subst e1 e2
 have hx1:=(hx.fp m (fun b hb=>hb)).to_rd
 have Hn:=tt hn
 have q:=tt hW1
 have p:=tt j
 have l:∀u∈e.map bv,u.oneCell'=true:=by intro u hu;obtain⟨b,_,rfl⟩:=List.mem_map.1 hu;rfl
 have t:=tt l
 clear hW hx hn hW1 j l
 have fin:∀v' w3,w3.ownsRow 0 5 1 v' (out.length+n) (out.map bv++e.map bv)→(w.setCell ⟨g,1,none⟩ (.bool (bad|| !ok))).grownBy w3 (Value.slice A out.length c).ownBlock→(v'.ownBlock=(Value.slice A out.length c).ownBlock∨v'.ownBlock=some (w.setCell ⟨g,1,none⟩ (.bool (bad|| !ok))).heap.size)→
  WrOk 171 e ok n S g out bad w (.returned (.tuple #[])) (w3.setCell ⟨g,0,none⟩ v'):=by
  intro v' w3 h3 d hb3
  have s:(w.setCell ⟨g,1,none⟩ (.bool (bad|| !ok))).cell? ⟨g,0,none⟩=some (.slice A out.length c):=by rw[p.out];exact k0
  obtain⟨h4,h5⟩:=q.out.append s (by rw[Hn.out];exact h3) d hb3
  have r:(w.setCell ⟨g,1,none⟩ (.bool (bad|| !ok))).heap.size=w.heap.size:=by simp[World.setCell]
  refine⟨rfl,out++e,bad|| !ok,⟨rfl,fun _=>rfl,by rw[tH,Hn.out];exact tJ _⟩,?_,m.trans h5 fun k hk=>Or.inl hk⟩
  rw[r] at h4
  exact h4.wider (fun k hk=>by simpa [World.setCell] using hk) (fun k hk=>h4.lt k (by simpa [World.setCell] using hk))
 have o:∀w3,(w.setCell ⟨g,1,none⟩ (.bool (bad|| !ok))).grownBy w3 (Value.slice A out.length c).ownBlock→w3.cell? ⟨g,0,none⟩=some (.slice A out.length c)∧w3.frozen? ⟨g,0,none⟩=false:=fun w3 hg=>q.out.grown (by rw[p.out];exact k0) hg
 have i:=tt fin
 have h:=tt o
 clear fin o
 cases bad <;> cases ok
 all_goals
  simp only[Bool.false_or,Bool.true_or,Bool.not_true,Bool.not_false] at a hx1 i h
  go_enter Tryz.func163,Tryz.ntmps163
  go_wp2_with (at_builtin;refine bk et rfl _ _ rfl 0 (.slice A out.length c) out.length (out.map bv) rfl a _ x n (e.map bv) rfl hx1 t.out (by unfold maxLen;omega) (by omega) (by omega) ?_;intro v' w3 h3 d hb3;obtain⟨A4,c4,rfl,_,_,_⟩:=ao h3;obtain⟨q0,q1⟩:=h.out w3 d;have H:=tt (i.out _ w3 h3 d hb3);clear h3 d hb3)
  go_end0
  exact H.out
theorem cg (l:List Int) (n:Nat) (b:Nat) (S:Nat→Prop) (g:Nat) (out:List UInt8) (bad:Bool) (w:World) (hW:Wr 171 w S g out bad) (hn:l.length=n)
 (hl:Lies w b 0 (l.map iv)) (t:b < w.heap.size) (hS:¬S b) (B:n≤10) (hb:out.length+6 * n≤1099511627776):
 Calls Tryz.prog 140 #[.pointer (some ⟨g,0,none⟩),.slice (some ⟨b,0,none⟩) n n] w (WrOk 171 (l.flatMap Psp.aK) (l.all Psp.okN) (6 * n) S g out bad w):=by
 have z:WrS 171 ((l.take 0).flatMap Psp.aK) ((l.take 0).all Psp.okN) (6 * 0) S g out bad w S out bad w:=WrS.start hW
 have Hn:=tt hn
 have Hl:=tt hl
 clear hn hl hW
 go_enter Tryz.func140,Tryz.ntmps140
 go_wp2_with fail
 go_loopw [8] (fun i wr=>∃(k:Nat) (S':Nat→Prop) (out':List UInt8) (bad':Bool),i= .int .i64 (k:Int)∧k≤n∧WrS 171 ((l.take k).flatMap Psp.aK) ((l.take k).all Psp.okN) (6 * k) S g out bad w S' out' bad' wr) (fun i _=>n - (intOf i).toNat)
 case atStart=>exact⟨0,S,out,bad,rfl,Nat.zero_le _,z⟩
 case round=>
  obtain⟨k,S',out',bad',rfl,hk,hI⟩:=hrel
  by_cases hlt:k < n
  ·have f:k < l.length:=by have:=Hn.out;omega
   have c:=(Hl.out.keep (hI.fp.block b t hS)).at_ (j:=k) (by simpa using f)
   have o:=Psp.cG Psp.aK f
   have p:=Psp.cU Psp.okN f
   have A:=hI.off t hS
   have hlen:=hI.wrote.islen
   obtain⟨y,hy⟩:∃y,l[k]=y:=⟨_,rfl⟩
   rw[List.getElem_map,hy,Nat.zero_add] at c
   unfold iv at c
   rw[hy] at o p
   have u:=tt o
   have x:=tt p
   have HI:=tt hI
   clear o p hI hy f
   by_cases a:Psp.okN y=true
   ·have q:=(Psp.bM y).1 a
    obtain⟨y0,y1⟩:=q
    go_wp2_with fail
    refine (gC y _ y0 y1).mono ?_
    rintro e w1 ⟨v,rfl,h,d⟩
    have C:=Psp.ej a
    have hz:=d.size
    have hr:RdP w1 (fun b=>¬S' b) 1 v (Psp.aK y).length ((Psp.aK y).map bv):=(RdP.of_own h).mono fun b _ hb hs=>by have:=HI.out.wr.lt b hs;omega
    have Hr:=tt hr
    have m:=tt d
    clear hr h d
    go_wp2_with fail
    refine (jR v _ (Psp.aK y) true S' g out' bad' w1 (HI.out.wr.below m.out) Hr.out (by omega)).mono ?_
    intro e w2 hc
    obtain⟨rfl,S2,o2,b2,h2⟩:=(HI.out.below m.out).step hc
    have H2:=tt (h2.of u.out.symm (show ((l.take k).all Psp.okN&&true)=(l.take (k+1)).all Psp.okN by rw[x.out,a]))
    clear h2 hc
    go_wp2_with fail
    go_roundw
    case rel=>exact⟨k+1,S2,o2,b2,by go_num,by omega,⟨H2.out.wrote.more (by omega),H2.out.wr,H2.out.fp,H2.out.sub,H2.out.sup⟩⟩
    case measure=>simp[intOf];omega
   ·have r:Psp.okN y=false:=by simpa using a
    have q:=mt (Psp.bM y).2 a
    go_wp2_with fail
    refine (jw y _ (by omega)).mono ?_
    rintro e w1 ⟨rfl,rfl⟩
    go_wp2_with fail
    refine (jR _ 0 [] false S' g out' bad' wr HI.out.wr (RdP.none_) (by omega)).mono ?_
    intro e w2 hc
    obtain⟨rfl,o2,b2,h1,h2,h3⟩:=hc
    have s:WrOk 171 (Psp.aK y) false 0 S' g out' bad' wr (.returned (.tuple #[])) w2:=⟨rfl,o2,b2,⟨h1.isbad,fun hb=>by rw[h1.isbad] at hb;simp at hb,h1.islen⟩,h2,h3⟩
    obtain⟨_,S2,o3,b3,h4⟩:=HI.out.step s
    have H4:=tt (h4.of u.out.symm (show ((l.take k).all Psp.okN&&false)=(l.take (k+1)).all Psp.okN by rw[x.out,r]))
    clear h4 s h1 h2 h3
    go_wp2_with fail
    go_roundw
    case rel=>exact⟨k+1,S2,o3,b3,by go_num,by omega,⟨H4.out.wrote.more (by omega),H4.out.wr,H4.out.fp,H4.out.sub,H4.out.sup⟩⟩
    case measure=>simp[intOf];omega
  ·obtain rfl:k=n:=by omega
   have he:=Hn.out
   go_wp2_with fail
   go_end0
   have h1:=hI.done (tJ _)
   rw[List.take_of_length_le (by omega)] at h1
   exact h1
theorem mP (l:List Int) (n:Nat) (b:Nat) (S:Nat→Prop) (g:Nat) (out:List UInt8) (bad:Bool) (w:World) (hW:Wr 171 w S g out bad) (hn:l.length=n)
 (hl:Lies w b 0 (l.map iv)) (t:b < w.heap.size) (hS:¬S b) (B:n≤10) (hb:out.length+6 * n≤1099511627776):
 Calls Tryz.prog 141 #[.pointer (some ⟨g,0,none⟩),.slice (some ⟨b,0,none⟩) n n] w (WrOk 171 (l.flatMap Psp.ey) (l.all Psp.okS) (6 * n) S g out bad w):=by
 have z:WrS 171 ((l.take 0).flatMap Psp.ey) ((l.take 0).all Psp.okS) (6 * 0) S g out bad w S out bad w:=WrS.start hW
 have Hn:=tt hn
 have Hl:=tt hl
 clear hn hl hW
 go_enter Tryz.func141,Tryz.ntmps141
 go_wp2_with fail
 go_loopw [8] (fun i wr=>∃(k:Nat) (S':Nat→Prop) (out':List UInt8) (bad':Bool),i= .int .i64 (k:Int)∧k≤n∧WrS 171 ((l.take k).flatMap Psp.ey) ((l.take k).all Psp.okS) (6 * k) S g out bad w S' out' bad' wr) (fun i _=>n - (intOf i).toNat)
 case atStart=>exact⟨0,S,out,bad,rfl,Nat.zero_le _,z⟩
 case round=>
  obtain⟨k,S',out',bad',rfl,hk,hI⟩:=hrel
  by_cases hlt:k < n
  ·have f:k < l.length:=by have:=Hn.out;omega
   have a:=(Hl.out.keep (hI.fp.block b t hS)).at_ (j:=k) (by simpa using f)
   have o:=Psp.cG Psp.ey f
   have p:=Psp.cU Psp.okS f
   have A:=hI.off t hS
   have hlen:=hI.wrote.islen
   obtain⟨y,hy⟩:∃y,l[k]=y:=⟨_,rfl⟩
   rw[List.getElem_map,hy,Nat.zero_add] at a
   unfold iv at a
   rw[hy] at o p
   have u:=tt o
   have x:=tt p
   have HI:=tt hI
   clear o p hI hy f
   by_cases d:Psp.okS y=true
   ·have q:=(Psp.dw y).1 d
    obtain⟨y0,y1⟩:=q
    go_wp2_with fail
    refine (jg y _ y0 y1).mono ?_
    rintro e w1 ⟨v,rfl,h,c⟩
    have C:=Psp.dB y
    have hz:=c.size
    have hr:RdP w1 (fun b=>¬S' b) 1 v (Psp.ey y).length ((Psp.ey y).map bv):=(RdP.of_own h).mono fun b _ hb hs=>by have:=HI.out.wr.lt b hs;omega
    have Hr:=tt hr
    have m:=tt c
    clear hr h c
    go_wp2_with fail
    refine (jR v _ (Psp.ey y) true S' g out' bad' w1 (HI.out.wr.below m.out) Hr.out (by omega)).mono ?_
    intro e w2 hc
    obtain⟨rfl,S2,o2,b2,h2⟩:=(HI.out.below m.out).step hc
    have H2:=tt (h2.of u.out.symm (show ((l.take k).all Psp.okS&&true)=(l.take (k+1)).all Psp.okS by rw[x.out,d]))
    clear h2 hc
    go_wp2_with fail
    go_roundw
    case rel=>exact⟨k+1,S2,o2,b2,by go_num,by omega,⟨H2.out.wrote.more (by omega),H2.out.wr,H2.out.fp,H2.out.sub,H2.out.sup⟩⟩
    case measure=>simp[intOf];omega
   ·have r:Psp.okS y=false:=by simpa using d
    have q:=mt (Psp.dw y).2 d
    go_wp2_with fail
    refine (jh y _ (by omega)).mono ?_
    rintro e w1 ⟨rfl,rfl⟩
    go_wp2_with fail
    refine (jR _ 0 [] false S' g out' bad' wr HI.out.wr (RdP.none_) (by omega)).mono ?_
    intro e w2 hc
    obtain⟨rfl,o2,b2,h1,h2,h3⟩:=hc
    have s:WrOk 171 (Psp.ey y) false 0 S' g out' bad' wr (.returned (.tuple #[])) w2:=⟨rfl,o2,b2,⟨h1.isbad,fun hb=>by rw[h1.isbad] at hb;simp at hb,h1.islen⟩,h2,h3⟩
    obtain⟨_,S2,o3,b3,h4⟩:=HI.out.step s
    have H4:=tt (h4.of u.out.symm (show ((l.take k).all Psp.okS&&false)=(l.take (k+1)).all Psp.okS by rw[x.out,r]))
    clear h4 s h1 h2 h3
    go_wp2_with fail
    go_roundw
    case rel=>exact⟨k+1,S2,o3,b3,by go_num,by omega,⟨H4.out.wrote.more (by omega),H4.out.wr,H4.out.fp,H4.out.sub,H4.out.sup⟩⟩
    case measure=>simp[intOf];omega
  ·obtain rfl:k=n:=by omega
   have he:=Hn.out
   go_wp2_with fail
   go_end0
   have h1:=hI.done (tJ _)
   rw[List.take_of_length_le (by omega)] at h1
   exact h1
def vt (v:Psp.Vote):List Value:=[iv v.n,iv v.s]
structure CertV where
 c:Psp.Cert
 b:Value
 o:Value
def cv (x:CertV):List Value:=[iv x.c.v,iv x.c.i,iv x.c.q,x.b,x.o]
def CertOk (w:World) (P:Nat→Prop) (x:CertV):Prop:=RdP w P 6 x.b x.c.b.length (x.c.b.flatMap rq)∧RdP w P 2 x.o x.c.o.length (x.c.o.flatMap vt)
def RdC (w:World) (P:Nat→Prop) (v:Value) (l:List Psp.Cert):Prop:=∃L:List CertV,L.map (·.c)=l∧RdP w P 5 v L.length (L.flatMap cv)∧∀x∈L,CertOk w P x
structure PartV where
 p:Psp.Part
 o:Value
 c:Value
def pv (x:PartV):List Value:=[iv x.p.f,x.o,x.c,iv x.p.s]
def PartOk (w:World) (P:Nat→Prop) (x:PartV):Prop:=RdP w P 2 x.o x.p.o.length (x.p.o.flatMap vt)∧RdC w P x.c x.p.c
def RdA (w:World) (P:Nat→Prop) (v:Value) (l:List Psp.Part):Prop:=∃L:List PartV,L.map (·.p)=l∧RdP w P 4 v L.length (L.flatMap pv)∧∀x∈L,PartOk w P x
section
variable {w w':World} {P P':Nat→Prop} {k n:Nat} {v:Value} {xs:List Value} {l:List Psp.Cert} {x:CertV} {y:PartV}
def Keeps (P P':Nat→Prop) (w w':World):Prop:=w.heap.size≤w'.heap.size∧∀b,P b→b < w.heap.size→w'.heap[b]? =w.heap[b]?∧P' b
theorem RdP.keeps (h:RdP w P k v n xs) (g:Keeps P P' w w'):RdP w' P' k v n xs:=by
 obtain⟨h1,A,c,h2,h3,h4,h5⟩:=h
 refine⟨h1,A,c,h2,h3,h4,fun hn=>?_⟩
 obtain⟨b,o,e,hb,hlt,hl⟩:=h5 hn
 exact⟨b,o,e,(g.2 b hb hlt).2,by have:=g.1;omega,hl.keep (g.2 b hb hlt).1⟩
theorem CertOk.keeps (h:CertOk w P x) (g:Keeps P P' w w'):CertOk w' P' x:=⟨h.1.keeps g,h.2.keeps g⟩
theorem RdC.keeps (h:RdC w P v l) (g:Keeps P P' w w'):RdC w' P' v l:=by
 obtain⟨L,h1,h2,h3⟩:=h
 exact⟨L,h1,h2.keeps g,fun x hx=>(h3 x hx).keeps g⟩
theorem PartOk.keeps (h:PartOk w P y) (g:Keeps P P' w w'):PartOk w' P' y:=⟨h.1.keeps g,h.2.keeps g⟩
theorem RdA.keeps {l:List Psp.Part} (h:RdA w P v l) (g:Keeps P P' w w'):RdA w' P' v l:=by
 obtain⟨L,h1,h2,h3⟩:=h
 exact⟨L,h1,h2.keeps g,fun x hx=>(h3 x hx).keeps g⟩
theorem Keeps.below (g:Below w.heap.size w w'):Keeps P P w w':=⟨g.size,fun b hb hlt=>⟨g.block b hlt,hb⟩⟩
theorem Keeps.mono (hP:∀b,b < w.heap.size→P b→P' b):Keeps P P' w w:=⟨tJ _,fun b hb hlt=>⟨rfl,hP b hlt hb⟩⟩
theorem RdC.below (h:RdC w P v l) (g:Below w.heap.size w w'):RdC w' P v l:=h.keeps (Keeps.below g)
theorem RdP.one (h:RdP w P k v n xs):v.oneCell'=true:=by obtain⟨_,A,c,rfl,_⟩:=h;rfl
theorem RdC.one (h:RdC w P v l):v.oneCell'=true:=by obtain⟨L,_,h2,_⟩:=h;exact h2.one
theorem WrS.keeps {T:TypeId} {e:List UInt8} {ok:Bool} {n:Nat} {S S':Nat→Prop} {g:Nat} {out out':List UInt8} {bad bad':Bool} (h:WrS T e ok n S g out bad w S' out' bad' w'):Keeps (fun b=>¬S b) (fun b=>¬S' b) w w':=
 ⟨h.fp.size,fun b hb hlt=>⟨h.fp.block b hlt hb,h.off hlt hb⟩⟩
theorem WrS.rd {T:TypeId} {e:List UInt8} {ok:Bool} {m:Nat} {S S':Nat→Prop} {g:Nat} {out out':List UInt8} {bad bad':Bool} (h:WrS T e ok m S g out bad w S' out' bad' w') (hr:RdP w (fun b=>¬S b) k v n xs):RdP w' (fun b=>¬S' b) k v n xs:=hr.keeps h.keeps
theorem WrS.rdC {T:TypeId} {e:List UInt8} {ok:Bool} {m:Nat} {S S':Nat→Prop} {g:Nat} {out out':List UInt8} {bad bad':Bool} (h:WrS T e ok m S g out bad w S' out' bad' w') (hr:RdC w (fun b=>¬S b) v l):RdC w' (fun b=>¬S' b) v l:=hr.keeps h.keeps
end
theorem aJ (w:World) (cs:List Value) (e:TypeId) (b:Nat) (hb:w.heap.size=b):Lies (w.alloc (.cells cs.toArray e)) b 0 cs:=by
 subst hb
 intro j u hu
 rw[Nat.zero_add,cell_of_row _ w.heap.size j cs.toArray e (0,0) (tL w _)]
 simpa using hu
theorem Wr.off {T:TypeId} {w:World} {S:Nat→Prop} {g:Nat} {out:List UInt8} {bad:Bool} (h:Wr T w S g out bad) {b:Nat} (hb:w.heap.size≤b):¬S b:=fun hs=>by have:=h.lt b hs;omega
theorem ae (w:World) (o:Obj):Below w.heap.size w (w.alloc o):=(Below.refl _ _).alloc (tJ _) _
theorem pV (n s:Int) (S:Nat→Prop) (g:Nat) (out:List UInt8) (bad:Bool) (w:World) (hW:Wr 171 w S g out bad) (hb:out.length+12≤1099511627776):
 Calls Tryz.prog 145 #[.pointer (some ⟨g,0,none⟩),.agg #[.int .i64 n,.int .i64 s]] w (WrOk 171 (Psp.cI ⟨n,s⟩) (Psp.okV ⟨n,s⟩) 12 S g out bad w):=by
 have HW:=tt hW
 clear hW
 go_enter Tryz.func145,Tryz.ntmps145
 go_wp2_with fail
 have h1:WrS 171 [] true 0 S g out bad w S out bad ((w.alloc (.cells #[.int .i64 n,.int .i64 s] 166)).alloc (.cells #[.int .i64 n,.int .i64 s] 3)):=((WrS.start HW.out).below (ae _ _)).below (ae _ _)
 refine (cg [n,s] 2 (w.heap.size+1) S g out bad _ h1.wr rfl (aJ _ [iv n,iv s] _ _ (by simp)) (by simp) (HW.out.off (by omega)) (by omega) (by omega)).mono ?_
 intro e w2 hc
 obtain⟨rfl,S2,o2,b2,h2⟩:=h1.step hc
 have H2:=tt h2
 clear h2 hc h1
 go_wp2_with fail
 go_end0
 exact (H2.out.of (by simp[Psp.cI]) (by simp[Psp.okV])).done (by omega)
theorem oy (c t k y v s:Int) (S:Nat→Prop) (g:Nat) (out:List UInt8) (bad:Bool) (w:World) (hW:Wr 171 w S g out bad) (hb:out.length+36≤1099511627776):
 Calls Tryz.prog 107 #[.pointer (some ⟨g,0,none⟩),.agg #[.int .i64 c,.int .i64 t,.int .i64 k,.int .i64 y,.int .i64 v,.int .i64 s]] w (WrOk 171 (Psp.bR ⟨c,t,k,y,v,s⟩) (Psp.okR ⟨c,t,k,y,v,s⟩) 36 S g out bad w):=by
 have HW:=tt (hW.below (ae w (.cells #[.int .i64 c,.int .i64 t,.int .i64 k,.int .i64 y,.int .i64 v,.int .i64 s] 42)))
 have hS:¬S w.heap.size:=hW.off (tJ _)
 have f:=tt (aJ w [iv c,iv t,iv k,iv y,iv v,iv s] 42 _ rfl)
 have b:w.heap.size < (w.alloc (.cells #[.int .i64 c,.int .i64 t,.int .i64 k,.int .i64 y,.int .i64 v,.int .i64 s] 42)).heap.size:=by simp
 have d:=tt b
 clear hW b
 go_enter Tryz.func107,Tryz.ntmps107
 go_wp2_with fail
 have h1:WrS 171 [] true 0 S g out bad (w.alloc (.cells #[.int .i64 c,.int .i64 t,.int .i64 k,.int .i64 y,.int .i64 v,.int .i64 s] 42)) S out bad ((w.alloc (.cells #[.int .i64 c,.int .i64 t,.int .i64 k,.int .i64 y,.int .i64 v,.int .i64 s] 42)).alloc (.cells #[.int .i64 c,.int .i64 t,.int .i64 k] 3)):=(WrS.start HW.out).below (ae _ _)
 refine (cg [c,t,k] 3 (w.heap.size+1) S g out bad _ h1.wr rfl (aJ _ [iv c,iv t,iv k] _ _ (by simp)) (by simp) (HW.out.off (by simp)) (by omega) (by omega)).mono ?_
 intro e w2 hc
 obtain⟨rfl,S2,o2,b2,h2⟩:=h1.step hc
 have a:=h2.lies f.out d.out hS
 have x3:=a.at_ (j:=3) (by simp)
 have x4:=a.at_ (j:=4) (by simp)
 simp only[Nat.zero_add,tG,tF,iv] at x3 x4
 have h:=h2.fp.size
 have l:=h2.wrote.islen
 have H2:=tt h2
 clear h2 hc h1 a
 go_wp2_with fail
 have h3:=H2.out.below (ae w2 (.cells #[.int .i64 y,.int .i64 v] 3))
 refine (mP [y,v] 2 w2.heap.size S2 g o2 b2 _ h3.wr rfl (aJ _ [iv y,iv v] _ _ rfl) (by simp) (H2.out.wr.off (by omega)) (by omega) (by omega)).mono ?_
 intro e w3 hc
 obtain⟨rfl,S3,o3,b3,h4⟩:=h3.step hc
 have a:=h4.lies f.out d.out hS
 have x5:=a.at_ (j:=5) (by simp)
 simp only[Nat.zero_add,tG,tF,iv] at x5
 have i:=h4.wrote.islen
 have H4:=tt h4
 clear h3 hc h4 a x3 x4
 go_wp2_with fail
 have h5:=H4.out.below (ae w3 (.cells #[.int .i64 s] 3))
 refine (cg [s] 1 w3.heap.size S3 g o3 b3 _ h5.wr rfl (aJ _ [iv s] _ _ rfl) (by simp) (H4.out.wr.off (by omega)) (by omega) (by omega)).mono ?_
 intro e w4 hc
 obtain⟨rfl,S4,o4,b4,h6⟩:=h5.step hc
 have H6:=tt h6
 clear hc h5 h6 x5
 go_wp2_with fail
 go_end0
 exact ((H6.out.of (by simp[Psp.bR]) (by simp[Psp.okR,Bool.and_assoc])).done (by omega)).from_ (ae _ _)
theorem bF {α:Type} {f:α→List Value} {k:Nat} (hf:∀a,(f a).length=k) {w:World} {b o:Nat} {l:List α} (h:Lies w b o (l.flatMap f)) {i:Nat} (hi:i < l.length):w.rangeAt b (o+i * k) (f l[i]):=by
 intro j v hv
 have hj:j < k:=by have:=(List.getElem?_eq_some_iff.1 hv).1;rwa [hf] at this
 have h1:=cD (f:=f) (k:=k) hf l i j hj
 rw[tK hi] at h1
 rw[Nat.add_assoc]
 exact h _ v (by rw[h1];exact hv)
theorem dz:(Tryz.prog.info? 42).map (·.size)=some 6:=by kernel_rfl
theorem ga:(Tryz.prog.info? 166).map (·.size)=some 2:=by kernel_rfl
theorem kD (l:List Psp.Req) (n:Nat) (x:Value) (S:Nat→Prop) (g:Nat) (out:List UInt8) (bad:Bool) (w:World) (hW:Wr 171 w S g out bad) (hn:l.length=n)
 (hx:RdP w (fun b=>¬S b) 6 x n (l.flatMap rq)) (hb:out.length+9222≤1099511627776):
 Calls Tryz.prog 143 #[.pointer (some ⟨g,0,none⟩),x,.func (.func 107) #[] #[]] w (WrOk 171 (Psp.bw Psp.bR l) (Psp.okL Psp.okR l) 9222 S g out bad w):=by
 have he:l.length=n:=by exact hn
 have He:=tt he
 have Hn:=tt hn
 obtain⟨u,A,cp,rfl,V,U,j⟩:=hx.parts
 have I:=tt j
 by_cases Q:256 < n
 ·have d1:decide (256 < (n:Int))=true:=by simp;omega
  obtain⟨hs1,z⟩:=hW.setBad true
  obtain⟨A2,c2,T,R,k0,k1,z0,z1,P,W⟩:=hW.cells
  have E:=tt hs1
  have J:=tt z
  clear hs1 z hW hn he hx u j
  go_enter Tryz.func143,Tryz.ntmps143
  go_wp2_with fail
  go_end0
  refine⟨rfl,out,true,⟨?_,(fun h=>by cases h),by omega⟩,E.out.wider (fun k hk=>Or.inl hk) (fun k hk=>?_),J.out⟩
  ·have:Psp.okL Psp.okR l=false:=by unfold Psp.okL;rw[He.out,tA (by omega)];rfl
   rw[this];simp
  ·rcases hk with hk|hk
   ·exact E.out.lt k hk
   ·exact hk.2
 ·have d1:decide (256 < (n:Int))=false:=by simp;omega
  have HW:=tt hW
  clear hW hn he hx u j
  go_enter Tryz.func143,Tryz.ntmps143
  go_wp2_with fail
  have h1:=(WrS.start HW.out).below (ae w (.cells #[.int .i64 (n:Int)] 3))
  refine (cg [(n:Int)] 1 w.heap.size S g out bad _ h1.wr rfl (aJ _ [iv (n:Int)] _ _ rfl) (by simp) (HW.out.off (by omega)) (by omega) (by omega)).mono ?_
  intro e w2 hc
  obtain⟨rfl,S2,o2,b2,h2⟩:=h1.step hc
  have h3:WrS 171 (Psp.aK n++(l.take 0).flatMap Psp.bR) (true&&(l.take 0).all Psp.okR) (6+0 * 36) S g out bad w S2 o2 b2 w2:=h2.of (by simp) (by simp[Psp.okN];omega)
  have H3:=tt h3
  clear h1 hc h2 h3
  go_wp2_with fail
  go_loopw [21] (fun i wr=>∃(k:Nat) (S':Nat→Prop) (out':List UInt8) (bad':Bool),i= .int .i64 (k:Int)∧k≤n∧WrS 171 (Psp.aK n++(l.take k).flatMap Psp.bR) (true&&(l.take k).all Psp.okR) (6+k * 36) S g out bad w S' out' bad' wr) (fun i _=>n - (intOf i).toNat)
  case atStart=>exact⟨0,S2,o2,b2,rfl,Nat.zero_le _,H3.out⟩
  case round=>
   obtain⟨k,S',out',bad',rfl,hk,hI⟩:=hrel
   by_cases hlt:k < n
   ·obtain⟨b,o,H,G,hb,a⟩:=I.out (by omega)
    subst H
    have C:k < l.length:=by have:=Hn.out;omega
    have d:k < l.length:=by have:=He.out;omega
    have q:=Psp.cG Psp.bR d
    have r:=Psp.cU Psp.okR d
    have hlen:=hI.wrote.islen
    have p:(k+1) * 36≤256 * 36:=Nat.mul_le_mul_right _ (by omega)
    rw[Nat.succ_mul] at p
    obtain⟨t,ht⟩:∃t,l[k]=t:=⟨_,rfl⟩
    have m:=bF (f:=rq) (k:=6) (fun _=>rfl) (hI.lies a hb G) C
    rw[ht] at q r
    rw[ht] at m
    have K:=tt m
    have M:=tt q
    have O:=tt r
    have HI:=tt hI
    clear a m q r hI C d ht
    go_wp2_with (first|(refine aA rfl 42 (.tmp 23) rfl b (o+k * 6) rfl (rq t) _ ?_ Tryz.underlying42 rfl dz ?_;exact K.out)|(refine bj rfl 42 (.tmp 7) (.tmp 24) rfl _ _ (rq t) rfl rfl rfl dz (by simp[rq,iv,Value.oneCell']) ?_;intro wa D B F;have N:=tt D;have L:=tt B;clear D B F)|(refine aA rfl 42 (.tmp 7) rfl wr.heap.size 0 rfl [.int .i64 t.c,.int .i64 t.t,.int .i64 t.k,.int .i64 t.y,.int .i64 t.v,.int .i64 t.s] _ ?_ Tryz.underlying42 rfl dz ?_;exact L.out))
    have h4:=HI.out.below N.out
    refine (oy t.c t.t t.k t.y t.v t.s S' g out' bad' _ h4.wr (by omega)).mono ?_
    intro e w3 hc
    obtain⟨rfl,S3,o3,b3,h5⟩:=h4.step hc
    have H5:=tt (h5.of (show (Psp.aK n++(l.take k).flatMap Psp.bR)++Psp.bR t=Psp.aK n++(l.take (k+1)).flatMap Psp.bR by rw[M.out,List.append_assoc]) (show ((true&&(l.take k).all Psp.okR)&&Psp.okR t)=(true&&(l.take (k+1)).all Psp.okR) by rw[O.out,Bool.and_assoc]))
    clear h4 hc h5
    go_wp2_with fail
    go_roundw
    case rel=>exact⟨k+1,S3,o3,b3,by go_num,by omega,⟨H5.out.wrote.more (by rw[Nat.succ_mul];omega),H5.out.wr,H5.out.fp,H5.out.sub,H5.out.sup⟩⟩
    case measure=>simp[intOf];omega
   ·obtain rfl:k=n:=by omega
    have hE:=He.out
    go_wp2_with fail
    go_end0
    rw[List.take_of_length_le (by omega)] at hI
    have h6:Psp.okL Psp.okR l=(true&&l.all Psp.okR):=by unfold Psp.okL;rw[tB (by omega)]
    have h7:Psp.bw Psp.bR l=Psp.aK k++l.flatMap Psp.bR:=by unfold Psp.bw;rw[hE]
    rw[h6,h7]
    exact hI.done (by have:k * 36≤256 * 36:=Nat.mul_le_mul_right _ (by omega);omega)
theorem iI (l:List Psp.Vote) (n:Nat) (x:Value) (S:Nat→Prop) (g:Nat) (out:List UInt8) (bad:Bool) (w:World) (hW:Wr 171 w S g out bad) (hn:l.length=n)
 (hx:RdP w (fun b=>¬S b) 2 x n (l.flatMap vt)) (hb:out.length+3078≤1099511627776):
 Calls Tryz.prog 144 #[.pointer (some ⟨g,0,none⟩),x,.func (.func 145) #[] #[]] w (WrOk 171 (Psp.bw Psp.cI l) (Psp.okL Psp.okV l) 3078 S g out bad w):=by
 have he:l.length=n:=by exact hn
 have He:=tt he
 have Hn:=tt hn
 obtain⟨r,A,cp,rfl,R,Q,d⟩:=hx.parts
 have F:=tt d
 by_cases N:256 < n
 ·have d1:decide (256 < (n:Int))=true:=by simp;omega
  obtain⟨hs1,u⟩:=hW.setBad true
  obtain⟨A2,c2,P,O,k0,k1,z0,z1,M,T⟩:=hW.cells
  have B:=tt hs1
  have G:=tt u
  clear hs1 u hW hn he hx r d
  go_enter Tryz.func144,Tryz.ntmps144
  go_wp2_with fail
  go_end0
  refine⟨rfl,out,true,⟨?_,(fun h=>by cases h),by omega⟩,B.out.wider (fun k hk=>Or.inl hk) (fun k hk=>?_),G.out⟩
  ·have:Psp.okL Psp.okV l=false:=by unfold Psp.okL;rw[He.out,tA (by omega)];rfl
   rw[this];simp
  ·rcases hk with hk|hk
   ·exact B.out.lt k hk
   ·exact hk.2
 ·have d1:decide (256 < (n:Int))=false:=by simp;omega
  have HW:=tt hW
  clear hW hn he hx r d
  go_enter Tryz.func144,Tryz.ntmps144
  go_wp2_with fail
  have h1:=(WrS.start HW.out).below (ae w (.cells #[.int .i64 (n:Int)] 3))
  refine (cg [(n:Int)] 1 w.heap.size S g out bad _ h1.wr rfl (aJ _ [iv (n:Int)] _ _ rfl) (by simp) (HW.out.off (by omega)) (by omega) (by omega)).mono ?_
  intro e w2 hc
  obtain⟨rfl,S2,o2,b2,h2⟩:=h1.step hc
  have h3:WrS 171 (Psp.aK n++(l.take 0).flatMap Psp.cI) (true&&(l.take 0).all Psp.okV) (6+0 * 12) S g out bad w S2 o2 b2 w2:=h2.of (by simp) (by simp[Psp.okN];omega)
  have H3:=tt h3
  clear h1 hc h2 h3
  go_wp2_with fail
  go_loopw [21] (fun i wr=>∃(k:Nat) (S':Nat→Prop) (out':List UInt8) (bad':Bool),i= .int .i64 (k:Int)∧k≤n∧WrS 171 (Psp.aK n++(l.take k).flatMap Psp.cI) (true&&(l.take k).all Psp.okV) (6+k * 12) S g out bad w S' out' bad' wr) (fun i _=>n - (intOf i).toNat)
  case atStart=>exact⟨0,S2,o2,b2,rfl,Nat.zero_le _,H3.out⟩
  case round=>
   obtain⟨k,S',out',bad',rfl,hk,hI⟩:=hrel
   by_cases hlt:k < n
   ·obtain⟨b,o,E,D,hb,a⟩:=F.out (by omega)
    subst E
    have y:k < l.length:=by have:=Hn.out;omega
    have c:k < l.length:=by have:=He.out;omega
    have p:=Psp.cG Psp.cI c
    have q:=Psp.cU Psp.okV c
    have hlen:=hI.wrote.islen
    have m:(k+1) * 12≤256 * 12:=Nat.mul_le_mul_right _ (by omega)
    rw[Nat.succ_mul] at m
    obtain⟨t,ht⟩:∃t,l[k]=t:=⟨_,rfl⟩
    have j:=bF (f:=vt) (k:=2) (fun _=>rfl) (hI.lies a hb D) y
    rw[ht] at p q
    rw[ht] at j
    have H:=tt j
    have J:=tt p
    have L:=tt q
    have HI:=tt hI
    clear a j p q hI y c ht
    go_wp2_with (first|(refine aA rfl 166 (.tmp 23) rfl b (o+k * 2) rfl (vt t) _ ?_ Tryz.underlying166 rfl ga ?_;exact H.out)|(refine bj rfl 166 (.tmp 7) (.tmp 24) rfl _ _ (vt t) rfl rfl rfl ga (by simp[vt,iv,Value.oneCell']) ?_;intro wa z v C;have K:=tt z;have I:=tt v;clear z v C)|(refine aA rfl 166 (.tmp 7) rfl wr.heap.size 0 rfl [.int .i64 t.n,.int .i64 t.s] _ ?_ Tryz.underlying166 rfl ga ?_;exact I.out))
    have h4:=HI.out.below K.out
    refine (pV t.n t.s S' g out' bad' _ h4.wr (by omega)).mono ?_
    intro e w3 hc
    obtain⟨rfl,S3,o3,b3,h5⟩:=h4.step hc
    have H5:=tt (h5.of (show (Psp.aK n++(l.take k).flatMap Psp.cI)++Psp.cI t=Psp.aK n++(l.take (k+1)).flatMap Psp.cI by rw[J.out,List.append_assoc]) (show ((true&&(l.take k).all Psp.okV)&&Psp.okV t)=(true&&(l.take (k+1)).all Psp.okV) by rw[L.out,Bool.and_assoc]))
    clear h4 hc h5
    go_wp2_with fail
    go_roundw
    case rel=>exact⟨k+1,S3,o3,b3,by go_num,by omega,⟨H5.out.wrote.more (by rw[Nat.succ_mul];omega),H5.out.wr,H5.out.fp,H5.out.sub,H5.out.sup⟩⟩
    case measure=>simp[intOf];omega
   ·obtain rfl:k=n:=by omega
    have hE:=He.out
    go_wp2_with fail
    go_end0
    rw[List.take_of_length_le (by omega)] at hI
    have h6:Psp.okL Psp.okV l=(true&&l.all Psp.okV):=by unfold Psp.okL;rw[tB (by omega)]
    have h7:Psp.bw Psp.cI l=Psp.aK k++l.flatMap Psp.cI:=by unfold Psp.bw;rw[hE]
    rw[h6,h7]
    exact hI.done (by have:k * 12≤256 * 12:=Nat.mul_le_mul_right _ (by omega);omega)
theorem dI:(Tryz.prog.info? 162).map (·.size)=some 5:=by kernel_rfl
theorem fa:(Tryz.prog.info? 168).map (·.size)=some 4:=by kernel_rfl
theorem qT (v i q:Int) (vb vo:Value) (lb:List Psp.Req) (lo:List Psp.Vote) (S:Nat→Prop) (g:Nat) (out:List UInt8) (bad:Bool) (w:World) (hW:Wr 171 w S g out bad)
 (h1:RdP w (fun b=>¬S b) 6 vb lb.length (lb.flatMap rq)) (h2:RdP w (fun b=>¬S b) 2 vo lo.length (lo.flatMap vt)) (hb:out.length+12318≤1099511627776):
 Calls Tryz.prog 147 #[.pointer (some ⟨g,0,none⟩),.agg #[.int .i64 v,.int .i64 i,.int .i64 q,vb,vo]] w (WrOk 171 (Psp.cO ⟨v,i,q,lb,lo⟩) (Psp.okC ⟨v,i,q,lb,lo⟩) 12318 S g out bad w):=by
 have H1:=tt h1
 have H2:=tt h2
 obtain⟨_,A1,c1,rfl,_,_,_⟩:=h1.parts
 obtain⟨_,A2,c2,rfl,_,_,_⟩:=h2.parts
 obtain⟨nb,hnb⟩:∃n,lb.length=n:=⟨_,rfl⟩
 obtain⟨no,hno⟩:∃n,lo.length=n:=⟨_,rfl⟩
 rw[hnb] at H1 ⊢
 rw[hno] at H2 ⊢
 have m:=tt hnb
 have l:=tt hno
 have HW:=tt (hW.below (ae w (.cells #[.int .i64 v,.int .i64 i,.int .i64 q,.slice A1 nb c1,.slice A2 no c2] 162)))
 have hS:¬S w.heap.size:=hW.off (tJ _)
 have f:=tt (aJ w [iv v,iv i,iv q,.slice A1 nb c1,.slice A2 no c2] 162 _ rfl)
 have k:=tt (H1.out.below (ae w (.cells #[.int .i64 v,.int .i64 i,.int .i64 q,.slice A1 nb c1,.slice A2 no c2] 162)))
 have h:=tt (H2.out.below (ae w (.cells #[.int .i64 v,.int .i64 i,.int .i64 q,.slice A1 nb c1,.slice A2 no c2] 162)))
 have c:w.heap.size < (w.alloc (.cells #[.int .i64 v,.int .i64 i,.int .i64 q,.slice A1 nb c1,.slice A2 no c2] 162)).heap.size:=by simp
 have d:=tt c
 clear hW c h1 h2 hnb hno
 go_enter Tryz.func147,Tryz.ntmps147
 go_wp2_with fail
 have h1:WrS 171 [] true 0 S g out bad (w.alloc (.cells #[.int .i64 v,.int .i64 i,.int .i64 q,.slice A1 nb c1,.slice A2 no c2] 162)) S out bad ((w.alloc (.cells #[.int .i64 v,.int .i64 i,.int .i64 q,.slice A1 nb c1,.slice A2 no c2] 162)).alloc (.cells #[.int .i64 v,.int .i64 i,.int .i64 q] 3)):=(WrS.start HW.out).below (ae _ _)
 refine (cg [v,i,q] 3 (w.heap.size+1) S g out bad _ h1.wr rfl (aJ _ [iv v,iv i,iv q] _ _ (by simp)) (by simp) (HW.out.off (by simp)) (by omega) (by omega)).mono ?_
 intro e w2 hc
 obtain⟨rfl,S2,o2,b2,h2⟩:=h1.step hc
 have a:=h2.lies f.out d.out hS
 have x3:=a.at_ (j:=3) (by simp)
 simp only[Nat.zero_add,tG,tF,iv] at x3
 have p:=h2.wrote.islen
 have H2:=tt h2
 clear h2 hc h1 a
 go_wp2_with fail
 refine (kD lb nb _ S2 g o2 b2 _ H2.out.wr m.out (H2.out.rd k.out) (by omega)).mono ?_
 intro e w3 hc
 obtain⟨rfl,S3,o3,b3,h4⟩:=H2.out.step hc
 have a:=h4.lies f.out d.out hS
 have x4:=a.at_ (j:=4) (by simp)
 simp only[Nat.zero_add,tG,tF,iv] at x4
 have o:=h4.wrote.islen
 have H4:=tt h4
 clear hc h4 a x3
 go_wp2_with fail
 refine (iI lo no _ S3 g o3 b3 _ H4.out.wr l.out (H4.out.rd h.out) (by omega)).mono ?_
 intro e w4 hc
 obtain⟨rfl,S4,o4,b4,h6⟩:=H4.out.step hc
 have H6:=tt h6
 clear hc h6 x4
 go_wp2_with fail
 go_end0
 exact ((H6.out.of (by simp[Psp.cO]) (by simp[Psp.okC,Bool.and_assoc])).done (by omega)).from_ (ae _ _)
theorem kE (l:List CertV) (n:Nat) (x:Value) (S:Nat→Prop) (g:Nat) (out:List UInt8) (bad:Bool) (w:World) (hW:Wr 171 w S g out bad) (hn:l.length=n)
 (hx:RdP w (fun b=>¬S b) 5 x n (l.flatMap cv)) (hc:∀y∈l,CertOk w (fun b=>¬S b) y) (hb:out.length+3153414≤1099511627776):
 Calls Tryz.prog 146 #[.pointer (some ⟨g,0,none⟩),x,.func (.func 147) #[] #[]] w (WrOk 171 (Psp.bw Psp.cO (l.map (·.c))) (Psp.okL Psp.okC (l.map (·.c))) 3153414 S g out bad w):=by
 have he:(l.map (·.c)).length=n:=by rw[List.length_map];exact hn
 have He:=tt he
 have Hn:=tt hn
 obtain⟨C,A,cp,rfl,X,W,p⟩:=hx.parts
 have K:=tt p
 by_cases T:256 < n
 ·have d1:decide (256 < (n:Int))=true:=by simp;omega
  obtain⟨hs1,D⟩:=hW.setBad true
  obtain⟨A2,c2,V,U,k0,k1,z0,z1,R,Y⟩:=hW.cells
  have G:=tt hs1
  have L:=tt D
  clear hs1 D hW hn he hx C p
  go_enter Tryz.func146,Tryz.ntmps146
  go_wp2_with fail
  go_end0
  refine⟨rfl,out,true,⟨?_,(fun h=>by cases h),by omega⟩,G.out.wider (fun k hk=>Or.inl hk) (fun k hk=>?_),L.out⟩
  ·have:Psp.okL Psp.okC (l.map (·.c))=false:=by unfold Psp.okL;rw[He.out,tA (by omega)];rfl
   rw[this];simp
  ·rcases hk with hk|hk
   ·exact G.out.lt k hk
   ·exact hk.2
 ·have d1:decide (256 < (n:Int))=false:=by simp;omega
  have HW:=tt hW
  clear hW hn he hx C p
  go_enter Tryz.func146,Tryz.ntmps146
  go_wp2_with fail
  have h1:=(WrS.start HW.out).below (ae w (.cells #[.int .i64 (n:Int)] 3))
  refine (cg [(n:Int)] 1 w.heap.size S g out bad _ h1.wr rfl (aJ _ [iv (n:Int)] _ _ rfl) (by simp) (HW.out.off (by omega)) (by omega) (by omega)).mono ?_
  intro e w2 hc
  obtain⟨rfl,S2,o2,b2,h2⟩:=h1.step hc
  have h3:WrS 171 (Psp.aK n++((l.map (·.c)).take 0).flatMap Psp.cO) (true&&((l.map (·.c)).take 0).all Psp.okC) (6+0 * 12318) S g out bad w S2 o2 b2 w2:=h2.of (by simp) (by simp[Psp.okN];omega)
  have H3:=tt h3
  clear h1 hc h2 h3
  go_wp2_with fail
  go_loopw [21] (fun i wr=>∃(k:Nat) (S':Nat→Prop) (out':List UInt8) (bad':Bool),i= .int .i64 (k:Int)∧k≤n∧WrS 171 (Psp.aK n++((l.map (·.c)).take k).flatMap Psp.cO) (true&&((l.map (·.c)).take k).all Psp.okC) (6+k * 12318) S g out bad w S' out' bad' wr) (fun i _=>n - (intOf i).toNat)
  case atStart=>exact⟨0,S2,o2,b2,rfl,Nat.zero_le _,H3.out⟩
  case round=>
   obtain⟨k,S',out',bad',rfl,hk,hI⟩:=hrel
   by_cases hlt:k < n
   ·obtain⟨b,o,J,I,hb,a⟩:=K.out (by omega)
    subst J
    have s:k < l.length:=by have:=Hn.out;omega
    have d:k < (l.map (·.c)).length:=by have:=He.out;omega
    have z:=Psp.cG Psp.cO d
    have B:=Psp.cU Psp.okC d
    have hlen:=hI.wrote.islen
    have u:(k+1) * 12318≤256 * 12318:=Nat.mul_le_mul_right _ (by omega)
    rw[Nat.succ_mul] at u
    obtain⟨t,ht⟩:∃t,l[k]=t:=⟨_,rfl⟩
    have r:=bF (f:=cv) (k:=5) (fun _=>rfl) (hI.lies a hb I) s
    rw[List.getElem_map,ht] at z B
    rw[ht] at r
    have M:=tt r
    have O:=tt z
    have Q:=tt B
    have HI:=tt hI
    have j:=tt (hc t (by rw[←ht];exact List.getElem_mem s))
    have m:=tt (show t.b.oneCell'=true∧t.o.oneCell'=true from⟨j.out.1.one,j.out.2.one⟩)
    clear a r z B hI s d ht
    go_wp2_with (first|(refine aA rfl 162 (.tmp 23) rfl b (o+k * 5) rfl (cv t) _ ?_ Tryz.underlying162 rfl dI ?_;exact M.out)|(refine bj rfl 162 (.tmp 7) (.tmp 24) rfl _ _ (cv t) rfl rfl rfl dI (by simp[cv,iv,Value.oneCell'];exact⟨m.out.1,m.out.2⟩) ?_;intro wa F E H;have P:=tt F;have N:=tt E;clear F E H)|(refine aA rfl 162 (.tmp 7) rfl wr.heap.size 0 rfl [.int .i64 t.c.v,.int .i64 t.c.i,.int .i64 t.c.q,t.b,t.o] _ ?_ Tryz.underlying162 rfl dI ?_;exact N.out))
    have h4:=HI.out.below P.out
    refine (qT t.c.v t.c.i t.c.q t.b t.o t.c.b t.c.o S' g out' bad' _ h4.wr (h4.rd j.out.1) (h4.rd j.out.2) (by omega)).mono ?_
    intro e w3 hc
    obtain⟨rfl,S3,o3,b3,h5⟩:=h4.step hc
    have H5:=tt (h5.of (show (Psp.aK n++((l.map (·.c)).take k).flatMap Psp.cO)++Psp.cO t.c=Psp.aK n++((l.map (·.c)).take (k+1)).flatMap Psp.cO by rw[O.out,List.append_assoc]) (show ((true&&((l.map (·.c)).take k).all Psp.okC)&&Psp.okC t.c)=(true&&((l.map (·.c)).take (k+1)).all Psp.okC) by rw[Q.out,Bool.and_assoc]))
    clear h4 hc h5
    go_wp2_with fail
    go_roundw
    case rel=>exact⟨k+1,S3,o3,b3,by go_num,by omega,⟨H5.out.wrote.more (by rw[Nat.succ_mul];omega),H5.out.wr,H5.out.fp,H5.out.sub,H5.out.sup⟩⟩
    case measure=>simp[intOf];omega
   ·obtain rfl:k=n:=by omega
    have hE:=He.out
    go_wp2_with fail
    go_end0
    rw[List.take_of_length_le (by omega)] at hI
    have h6:Psp.okL Psp.okC (l.map (·.c))=(true&&(l.map (·.c)).all Psp.okC):=by unfold Psp.okL;rw[tB (by omega)]
    have h7:Psp.bw Psp.cO (l.map (·.c))=Psp.aK k++(l.map (·.c)).flatMap Psp.cO:=by unfold Psp.bw;rw[hE]
    rw[h6,h7]
    exact hI.done (by have:k * 12318≤256 * 12318:=Nat.mul_le_mul_right _ (by omega);omega)
theorem qw (f:Int) (vo vc:Value) (s:Int) (lo:List Psp.Vote) (lc:List Psp.Cert) (S:Nat→Prop) (g:Nat) (out:List UInt8) (bad:Bool) (w:World) (hW:Wr 171 w S g out bad)
 (h1:RdP w (fun b=>¬S b) 2 vo lo.length (lo.flatMap vt)) (h2:RdC w (fun b=>¬S b) vc lc) (hb:out.length+3156504≤1099511627776):
 Calls Tryz.prog 149 #[.pointer (some ⟨g,0,none⟩),.agg #[.int .i64 f,vo,vc,.int .i64 s]] w (WrOk 171 (Psp.cP ⟨f,lo,lc,s⟩) (Psp.okP ⟨f,lo,lc,s⟩) 3156504 S g out bad w):=by
 have H1:=tt h1
 have H2:=tt h2
 obtain⟨L0,_,o,_⟩:=h2
 obtain⟨_,A1,c1,rfl,_,_,_⟩:=h1.parts
 obtain⟨_,A2,c2,rfl,_,_,_⟩:=o.parts
 obtain⟨nc,hnc⟩:∃n,L0.length=n:=⟨_,rfl⟩
 obtain⟨no,hno⟩:∃n,lo.length=n:=⟨_,rfl⟩
 rw[hno] at H1 ⊢
 rw[hnc] at H2 ⊢
 have r:=tt hno
 have HW:=tt (hW.below (ae w (.cells #[.int .i64 f,.slice A1 no c1,.slice A2 nc c2,.int .i64 s] 168)))
 have hS:¬S w.heap.size:=hW.off (tJ _)
 have k:=tt (aJ w [iv f,.slice A1 no c1,.slice A2 nc c2,iv s] 168 _ rfl)
 have q:=tt (H1.out.below (ae w (.cells #[.int .i64 f,.slice A1 no c1,.slice A2 nc c2,.int .i64 s] 168)))
 have p:=tt (H2.out.below (ae w (.cells #[.int .i64 f,.slice A1 no c1,.slice A2 nc c2,.int .i64 s] 168)))
 have l:w.heap.size < (w.alloc (.cells #[.int .i64 f,.slice A1 no c1,.slice A2 nc c2,.int .i64 s] 168)).heap.size:=by simp
 have i:=tt l
 clear hW l h1 o hno hnc
 go_enter Tryz.func149,Tryz.ntmps149
 go_wp2_with fail
 have h1:WrS 171 [] true 0 S g out bad (w.alloc (.cells #[.int .i64 f,.slice A1 no c1,.slice A2 nc c2,.int .i64 s] 168)) S out bad ((w.alloc (.cells #[.int .i64 f,.slice A1 no c1,.slice A2 nc c2,.int .i64 s] 168)).alloc (.cells #[.int .i64 f] 3)):=(WrS.start HW.out).below (ae _ _)
 refine (cg [f] 1 (w.heap.size+1) S g out bad _ h1.wr rfl (aJ _ [iv f] _ _ (by simp)) (by simp) (HW.out.off (by simp)) (by omega) (by omega)).mono ?_
 intro e w2 hc
 obtain⟨rfl,S2,o2,b2,h2⟩:=h1.step hc
 have a:=h2.lies k.out i.out hS
 have x1:=a.at_ (j:=1) (by simp)
 simp only[Nat.zero_add,tG,tF,iv] at x1
 have x:=h2.wrote.islen
 have H2:=tt h2
 clear h2 hc h1 a
 go_wp2_with fail
 refine (iI lo no _ S2 g o2 b2 _ H2.out.wr r.out (H2.out.rd q.out) (by omega)).mono ?_
 intro e w3 hc
 obtain⟨rfl,S3,o3,b3,h4⟩:=H2.out.step hc
 have a:=h4.lies k.out i.out hS
 have x2:=a.at_ (j:=2) (by simp)
 simp only[Nat.zero_add,tG,tF,iv] at x2
 have v:=h4.wrote.islen
 have H4:=tt h4
 clear hc h4 a x1
 go_wp2_with fail
 obtain⟨L,hL1,d,m⟩:=H4.out.rdC p.out
 have h:L.length=nc:=by
  obtain⟨_,A,c,e,_⟩:=d
  injection e with _ e _
  exact e.symm
 rw[h] at d
 have t:=tt hL1
 refine (kE L nc _ S3 g o3 b3 _ H4.out.wr h d m (by omega)).mono ?_
 intro e w4 hc
 rw[t.out] at hc
 obtain⟨rfl,S4,o4,b4,h6⟩:=H4.out.step hc
 have a:=h6.lies k.out i.out hS
 have x3:=a.at_ (j:=3) (by simp)
 simp only[Nat.zero_add,tG,tF,iv] at x3
 have u:=h6.wrote.islen
 have H6:=tt h6
 clear hc h6 x2 a hL1 d m h
 go_wp2_with fail
 have h5:=H6.out.below (ae w4 (.cells #[.int .i64 s] 3))
 refine (cg [s] 1 w4.heap.size S4 g o4 b4 _ h5.wr rfl (aJ _ [iv s] _ _ rfl) (by simp) (H6.out.wr.off (by omega)) (by omega) (by omega)).mono ?_
 intro e w5 hc
 obtain⟨rfl,S5,o5,b5,h7⟩:=h5.step hc
 have H7:=tt h7
 clear hc h5 h7 x3
 go_wp2_with fail
 go_end0
 exact ((H7.out.of (by simp[Psp.cP]) (by simp[Psp.okP,Bool.and_assoc])).done (by omega)).from_ (ae _ _)
theorem pc (l:List PartV) (n:Nat) (x:Value) (S:Nat→Prop) (g:Nat) (out:List UInt8) (bad:Bool) (w:World) (hW:Wr 171 w S g out bad) (hn:l.length=n)
 (hx:RdP w (fun b=>¬S b) 4 x n (l.flatMap pv)) (hc:∀y∈l,PartOk w (fun b=>¬S b) y) (hb:out.length+808065030≤1099511627776):
 Calls Tryz.prog 148 #[.pointer (some ⟨g,0,none⟩),x,.func (.func 149) #[] #[]] w (WrOk 171 (Psp.bw Psp.cP (l.map (·.p))) (Psp.okL Psp.okP (l.map (·.p))) 808065030 S g out bad w):=by
 have he:(l.map (·.p)).length=n:=by rw[List.length_map];exact hn
 have He:=tt he
 have Hn:=tt hn
 obtain⟨C,A,cp,rfl,X,W,q⟩:=hx.parts
 have K:=tt q
 by_cases T:256 < n
 ·have d1:decide (256 < (n:Int))=true:=by simp;omega
  obtain⟨hs1,D⟩:=hW.setBad true
  obtain⟨A2,c2,V,U,k0,k1,z0,z1,R,Y⟩:=hW.cells
  have G:=tt hs1
  have L:=tt D
  clear hs1 D hW hn he hx C q
  go_enter Tryz.func148,Tryz.ntmps148
  go_wp2_with fail
  go_end0
  refine⟨rfl,out,true,⟨?_,(fun h=>by cases h),by omega⟩,G.out.wider (fun k hk=>Or.inl hk) (fun k hk=>?_),L.out⟩
  ·have:Psp.okL Psp.okP (l.map (·.p))=false:=by unfold Psp.okL;rw[He.out,tA (by omega)];rfl
   rw[this];simp
  ·rcases hk with hk|hk
   ·exact G.out.lt k hk
   ·exact hk.2
 ·have d1:decide (256 < (n:Int))=false:=by simp;omega
  have HW:=tt hW
  clear hW hn he hx C q
  go_enter Tryz.func148,Tryz.ntmps148
  go_wp2_with fail
  have h1:=(WrS.start HW.out).below (ae w (.cells #[.int .i64 (n:Int)] 3))
  refine (cg [(n:Int)] 1 w.heap.size S g out bad _ h1.wr rfl (aJ _ [iv (n:Int)] _ _ rfl) (by simp) (HW.out.off (by omega)) (by omega) (by omega)).mono ?_
  intro e w2 hc
  obtain⟨rfl,S2,o2,b2,h2⟩:=h1.step hc
  have h3:WrS 171 (Psp.aK n++((l.map (·.p)).take 0).flatMap Psp.cP) (true&&((l.map (·.p)).take 0).all Psp.okP) (6+0 * 3156504) S g out bad w S2 o2 b2 w2:=h2.of (by simp) (by simp[Psp.okN];omega)
  have H3:=tt h3
  clear h1 hc h2 h3
  go_wp2_with fail
  go_loopw [21] (fun i wr=>∃(k:Nat) (S':Nat→Prop) (out':List UInt8) (bad':Bool),i= .int .i64 (k:Int)∧k≤n∧WrS 171 (Psp.aK n++((l.map (·.p)).take k).flatMap Psp.cP) (true&&((l.map (·.p)).take k).all Psp.okP) (6+k * 3156504) S g out bad w S' out' bad' wr) (fun i _=>n - (intOf i).toNat)
  case atStart=>exact⟨0,S2,o2,b2,rfl,Nat.zero_le _,H3.out⟩
  case round=>
   obtain⟨k,S',out',bad',rfl,hk,hI⟩:=hrel
   by_cases hlt:k < n
   ·obtain⟨b,o,J,I,hb,a⟩:=K.out (by omega)
    subst J
    have u:k < l.length:=by have:=Hn.out;omega
    have d:k < (l.map (·.p)).length:=by have:=He.out;omega
    have z:=Psp.cG Psp.cP d
    have B:=Psp.cU Psp.okP d
    have hlen:=hI.wrote.islen
    have v:(k+1) * 3156504≤256 * 3156504:=Nat.mul_le_mul_right _ (by omega)
    rw[Nat.succ_mul] at v
    obtain⟨t,ht⟩:∃t,l[k]=t:=⟨_,rfl⟩
    have r:=bF (f:=pv) (k:=4) (fun _=>rfl) (hI.lies a hb I) u
    rw[List.getElem_map,ht] at z B
    rw[ht] at r
    have M:=tt r
    have O:=tt z
    have Q:=tt B
    have HI:=tt hI
    have j:=tt (hc t (by rw[←ht];exact List.getElem_mem u))
    have m:=tt (show t.o.oneCell'=true∧t.c.oneCell'=true from⟨j.out.1.one,j.out.2.one⟩)
    clear a r z B hI u d ht
    go_wp2_with (first|(refine aA rfl 168 (.tmp 23) rfl b (o+k * 4) rfl (pv t) _ ?_ Tryz.underlying168 rfl fa ?_;exact M.out)|(refine bj rfl 168 (.tmp 7) (.tmp 24) rfl _ _ (pv t) rfl rfl rfl fa (by simp[pv,iv,Value.oneCell'];exact⟨m.out.1,m.out.2⟩) ?_;intro wa F E H;have P:=tt F;have N:=tt E;clear F E H)|(refine aA rfl 168 (.tmp 7) rfl wr.heap.size 0 rfl [.int .i64 t.p.f,t.o,t.c,.int .i64 t.p.s] _ ?_ Tryz.underlying168 rfl fa ?_;exact N.out))
    have h4:=HI.out.below P.out
    refine (qw t.p.f t.o t.c t.p.s t.p.o t.p.c S' g out' bad' _ h4.wr (h4.rd j.out.1) (h4.rdC j.out.2) (by omega)).mono ?_
    intro e w3 hc
    obtain⟨rfl,S3,o3,b3,h5⟩:=h4.step hc
    have H5:=tt (h5.of (show (Psp.aK n++((l.map (·.p)).take k).flatMap Psp.cP)++Psp.cP t.p=Psp.aK n++((l.map (·.p)).take (k+1)).flatMap Psp.cP by rw[O.out,List.append_assoc]) (show ((true&&((l.map (·.p)).take k).all Psp.okP)&&Psp.okP t.p)=(true&&((l.map (·.p)).take (k+1)).all Psp.okP) by rw[Q.out,Bool.and_assoc]))
    clear h4 hc h5
    go_wp2_with fail
    go_roundw
    case rel=>exact⟨k+1,S3,o3,b3,by go_num,by omega,⟨H5.out.wrote.more (by rw[Nat.succ_mul];omega),H5.out.wr,H5.out.fp,H5.out.sub,H5.out.sup⟩⟩
    case measure=>simp[intOf];omega
   ·obtain rfl:k=n:=by omega
    have hE:=He.out
    go_wp2_with fail
    go_end0
    rw[List.take_of_length_le (by omega)] at hI
    have h6:Psp.okL Psp.okP (l.map (·.p))=(true&&(l.map (·.p)).all Psp.okP):=by unfold Psp.okL;rw[tB (by omega)]
    have h7:Psp.bw Psp.cP (l.map (·.p))=Psp.aK k++(l.map (·.p)).flatMap Psp.cP:=by unfold Psp.bw;rw[hE]
    rw[h6,h7]
    exact hI.done (by have:k * 3156504≤256 * 3156504:=Nat.mul_le_mul_right _ (by omega);omega)
def Bytes (e:List UInt8) (ok:Bool) (w:World) (en:Ending) (w':World):Prop:=
 ∃v,en= .returned (.tuple #[v,.bool ok])∧w'.ownsRow w.heap.size 5 1 v (if ok then e else []).length ((if ok then e else []).map bv)∧Below w.heap.size w w'
theorem bf {a b:Bool} (v:Value) (h:a=b):Ending.returned (.tuple #[v,.bool b])= .returned (.tuple #[v,.bool a]):=by rw[h]
theorem eh {w:World} {base base':Nat} {e:TypeId} {k n:Nat} {v:Value} {xs:List Value} (h:w.ownsRow base e k v n xs) (hb:∀b,v.ownBlock=some b→base'≤b):w.ownsRow base' e k v n xs:=by
 refine⟨h.1,?_⟩
 rcases h.2 with hn|⟨b,cap,a,rfl,_,hh,r⟩
 ·exact .inl hn
 ·exact .inr ⟨b,cap,a,rfl,hb b rfl,hh,r⟩
theorem Wr.new (w:World) (T:TypeId) (g:Nat) (hg:w.heap.size=g):Wr T (w.alloc (.cells #[.slice none 0 0,.bool false] T)) (fun k=>k=g) g [] false:=by
 subst hg
 exact⟨⟨_,tL w _,World.ownsRow_nil _ _ _ _,fun k hk=>by simp[Value.ownBlock] at hk⟩,rfl,fun k hk=>by subst hk;simp⟩
theorem Keeps.newb (w:World) (o:Obj):Keeps (fun b=>b < w.heap.size) (fun b=>¬b=w.heap.size) w (w.alloc o):=⟨by simp,fun b hb hlt=>⟨(ae w o).block b hlt,by omega⟩⟩
theorem ek (S:Nat→Prop) (g:Nat) (out:List UInt8) (w:World) (hW:Wr 171 w S g out true):
 Calls Tryz.prog 108 #[.pointer (some ⟨g,0,none⟩)] w fun e w'=>e= .returned (.tuple #[.slice none 0 0,.bool false])∧w=w':=by
 obtain⟨A,c,d,b,k0,k1,z0,z1,a,hS⟩:=hW.cells
 clear hW a hS
 go_enter Tryz.func108,Tryz.ntmps108
 go_wp2_with fail
 go_ret2
 exact⟨rfl,rfl⟩
theorem dD (S:Nat→Prop) (g:Nat) (out:List UInt8) (w:World) (hW:Wr 171 w S g out false):
 Calls Tryz.prog 108 #[.pointer (some ⟨g,0,none⟩)] w fun e w'=>(∃v,e= .returned (.tuple #[v,.bool true])∧w.ownsRow 0 5 1 v out.length (out.map bv)∧∀k,v.ownBlock=some k→S k)∧w=w':=by
 obtain⟨A,c,f,d,k0,k1,z0,z1,a,hS⟩:=hW.cells
 have b:=tt a
 have HS:=tt hS
 clear hW a hS
 go_enter Tryz.func108,Tryz.ntmps108
 go_wp2_with fail
 go_ret2
 exact⟨⟨_,rfl,b.out,fun k hk=>(HS.out k hk).1⟩,rfl⟩
theorem rV (c t k y v s:Int) (w:World):
 Calls Tryz.prog 79 #[.agg #[.int .i64 c,.int .i64 t,.int .i64 k,.int .i64 y,.int .i64 v,.int .i64 s]] w (Bytes (Psp.bR ⟨c,t,k,y,v,s⟩) (Psp.okR ⟨c,t,k,y,v,s⟩) w):=by
 have e:Wr 171 ((w.alloc (.cells #[.int .i64 c,.int .i64 t,.int .i64 k,.int .i64 y,.int .i64 v,.int .i64 s] 42)).alloc (.cells #[.slice none 0 0,.bool false] 171)) (fun k=>k=w.heap.size+1) (w.heap.size+1) [] false:=Wr.new (w.alloc (.cells #[.int .i64 c,.int .i64 t,.int .i64 k,.int .i64 y,.int .i64 v,.int .i64 s] 42)) _ _ (by simp)
 have g:=tt e
 have l:Below w.heap.size w ((w.alloc (.cells #[.int .i64 c,.int .i64 t,.int .i64 k,.int .i64 y,.int .i64 v,.int .i64 s] 42)).alloc (.cells #[.slice none 0 0,.bool false] 171)):=((ae w _).trans ((ae _ _).mono (by simp)))
 have j:=tt l
 clear e l
 go_enter Tryz.func79,Tryz.ntmps79
 go_wp2_with fail
 refine (oy c t k y v s _ _ [] false _ g.out (by simp)).mono ?_
 intro en w2 hc
 obtain⟨rfl,S2,o2,b2,h2⟩:=(WrS.start g.out).step hc
 have h3:=h2.of (List.nil_append _) (Bool.true_and _)
 have f:Below w.heap.size w w2:=j.out.trans (h3.fp.to_below (B:=w.heap.size) j.out.size (fun k _ hk=>by rw[hk];omega))
 have d:∀k,S2 k→w.heap.size≤k:=fun k hk=>by
  rcases h3.sub k hk with h|h
  ·rw[h];omega
  ·have:=j.out.size;omega
 have i:=tt f
 have m:=tt d
 have H3:=tt h3
 clear h2 h3 hc f d
 cases hk:(Psp.okR ⟨c,t,k,y,v,s⟩) with
 |true=>
  have hb:b2=false:=by rw[H3.out.wrote.isbad,hk];rfl
  subst hb
  have Hk:=tt hk
  clear hk
  go_wp2_with fail
  refine (dD S2 _ o2 _ H3.out.wr).mono ?_
  rintro en w3 ⟨⟨v,rfl,a,hS⟩,rfl⟩
  have ho:=H3.out.wrote.isout rfl
  rw[List.nil_append] at ho
  rw[ho] at a
  have n:=tt (eh a fun b hb=>m.out b (hS b hb))
  clear a hS ho
  go_wp2_with fail
  go_ret2
  exact⟨v,bf v Hk.out,by simpa [Hk.out] using n.out,i.out⟩
 |false=>
  have hb:b2=true:=by rw[H3.out.wrote.isbad,hk];rfl
  subst hb
  have Hk:=tt hk
  clear hk
  go_wp2_with fail
  refine (ek S2 _ o2 _ H3.out.wr).mono ?_
  rintro en w3 ⟨rfl,rfl⟩
  go_wp2_with fail
  go_ret2
  exact⟨.slice none 0 0,bf _ Hk.out,by simpa [Hk.out] using World.ownsRow_nil _ _ _ _,i.out⟩
theorem oN (l:List Psp.Req) (x:Value) (w:World) (hx:RdP w (fun b=>b < w.heap.size) 6 x l.length (l.flatMap rq)):
 Calls Tryz.prog 112 #[x] w (Bytes (Psp.bw Psp.bR l) (Psp.okL Psp.okR l) w):=by
 have d:Wr 171 (w.alloc (.cells #[.slice none 0 0,.bool false] 171)) (fun k=>k=w.heap.size) (w.heap.size) [] false:=Wr.new w _ _ rfl
 have f:=tt d
 have j:Below w.heap.size w (w.alloc (.cells #[.slice none 0 0,.bool false] 171)):=ae _ _
 have i:=tt j
 clear d j
 go_enter Tryz.func112,Tryz.ntmps112
 go_wp2_with fail
 refine (kD l _ x _ _ [] false _ f.out rfl (hx.keeps (Keeps.newb _ _)) (by simp)).mono ?_
 intro en w2 hc
 obtain⟨rfl,S2,o2,b2,h2⟩:=(WrS.start f.out).step hc
 have h3:=h2.of (List.nil_append _) (Bool.true_and _)
 have e:Below w.heap.size w w2:=i.out.trans (h3.fp.to_below (B:=w.heap.size) i.out.size (fun k _ hk=>by rw[hk];exact tJ _))
 have c:∀k,S2 k→w.heap.size≤k:=fun k hk=>by
  rcases h3.sub k hk with h|h
  ·rw[h];exact tJ _
  ·have:=i.out.size;omega
 have g:=tt e
 have m:=tt c
 have H3:=tt h3
 clear h2 h3 hc e c
 cases hk:(Psp.okL Psp.okR l) with
 |true=>
  have hb:b2=false:=by rw[H3.out.wrote.isbad,hk];rfl
  subst hb
  have Hk:=tt hk
  clear hk
  go_wp2_with fail
  refine (dD S2 _ o2 _ H3.out.wr).mono ?_
  rintro en w3 ⟨⟨v,rfl,a,hS⟩,rfl⟩
  have ho:=H3.out.wrote.isout rfl
  rw[List.nil_append] at ho
  rw[ho] at a
  have n:=tt (eh a fun b hb=>m.out b (hS b hb))
  clear a hS ho
  go_wp2_with fail
  go_ret2
  exact⟨v,bf v Hk.out,by simpa [Hk.out] using n.out,g.out⟩
 |false=>
  have hb:b2=true:=by rw[H3.out.wrote.isbad,hk];rfl
  subst hb
  have Hk:=tt hk
  clear hk
  go_wp2_with fail
  refine (ek S2 _ o2 _ H3.out.wr).mono ?_
  rintro en w3 ⟨rfl,rfl⟩
  go_wp2_with fail
  go_ret2
  exact⟨.slice none 0 0,bf _ Hk.out,by simpa [Hk.out] using World.ownsRow_nil _ _ _ _,g.out⟩
theorem oJ (l:List Psp.Vote) (x:Value) (w:World) (hx:RdP w (fun b=>b < w.heap.size) 2 x l.length (l.flatMap vt)):
 Calls Tryz.prog 113 #[x] w (Bytes (Psp.bw Psp.cI l) (Psp.okL Psp.okV l) w):=by
 have d:Wr 171 (w.alloc (.cells #[.slice none 0 0,.bool false] 171)) (fun k=>k=w.heap.size) (w.heap.size) [] false:=Wr.new w _ _ rfl
 have f:=tt d
 have j:Below w.heap.size w (w.alloc (.cells #[.slice none 0 0,.bool false] 171)):=ae _ _
 have i:=tt j
 clear d j
 go_enter Tryz.func113,Tryz.ntmps113
 go_wp2_with fail
 refine (iI l _ x _ _ [] false _ f.out rfl (hx.keeps (Keeps.newb _ _)) (by simp)).mono ?_
 intro en w2 hc
 obtain⟨rfl,S2,o2,b2,h2⟩:=(WrS.start f.out).step hc
 have h3:=h2.of (List.nil_append _) (Bool.true_and _)
 have e:Below w.heap.size w w2:=i.out.trans (h3.fp.to_below (B:=w.heap.size) i.out.size (fun k _ hk=>by rw[hk];exact tJ _))
 have c:∀k,S2 k→w.heap.size≤k:=fun k hk=>by
  rcases h3.sub k hk with h|h
  ·rw[h];exact tJ _
  ·have:=i.out.size;omega
 have g:=tt e
 have m:=tt c
 have H3:=tt h3
 clear h2 h3 hc e c
 cases hk:(Psp.okL Psp.okV l) with
 |true=>
  have hb:b2=false:=by rw[H3.out.wrote.isbad,hk];rfl
  subst hb
  have Hk:=tt hk
  clear hk
  go_wp2_with fail
  refine (dD S2 _ o2 _ H3.out.wr).mono ?_
  rintro en w3 ⟨⟨v,rfl,a,hS⟩,rfl⟩
  have ho:=H3.out.wrote.isout rfl
  rw[List.nil_append] at ho
  rw[ho] at a
  have n:=tt (eh a fun b hb=>m.out b (hS b hb))
  clear a hS ho
  go_wp2_with fail
  go_ret2
  exact⟨v,bf v Hk.out,by simpa [Hk.out] using n.out,g.out⟩
 |false=>
  have hb:b2=true:=by rw[H3.out.wrote.isbad,hk];rfl
  subst hb
  have Hk:=tt hk
  clear hk
  go_wp2_with fail
  refine (ek S2 _ o2 _ H3.out.wr).mono ?_
  rintro en w3 ⟨rfl,rfl⟩
  go_wp2_with fail
  go_ret2
  exact⟨.slice none 0 0,bf _ Hk.out,by simpa [Hk.out] using World.ownsRow_nil _ _ _ _,g.out⟩
theorem oM (l:List Psp.Cert) (x:Value) (w:World) (hx:RdC w (fun b=>b < w.heap.size) x l):
 Calls Tryz.prog 114 #[x] w (Bytes (Psp.bw Psp.cO l) (Psp.okL Psp.okC l) w):=by
 obtain⟨L,m,hL1,p⟩:=hx
 have q:=tt m
 clear m
 have d:Wr 171 (w.alloc (.cells #[.slice none 0 0,.bool false] 171)) (fun k=>k=w.heap.size) (w.heap.size) [] false:=Wr.new w _ _ rfl
 have f:=tt d
 have j:Below w.heap.size w (w.alloc (.cells #[.slice none 0 0,.bool false] 171)):=ae _ _
 have i:=tt j
 clear d j
 go_enter Tryz.func114,Tryz.ntmps114
 go_wp2_with fail
 refine (kE L _ x _ _ [] false _ f.out rfl (hL1.keeps (Keeps.newb _ _)) (fun y hy=>(p y hy).keeps (Keeps.newb _ _)) (by simp)).mono ?_
 intro en w2 hc
 rw[q.out] at hc
 obtain⟨rfl,S2,o2,b2,h2⟩:=(WrS.start f.out).step hc
 have h3:=h2.of (List.nil_append _) (Bool.true_and _)
 have e:Below w.heap.size w w2:=i.out.trans (h3.fp.to_below (B:=w.heap.size) i.out.size (fun k _ hk=>by rw[hk];exact tJ _))
 have c:∀k,S2 k→w.heap.size≤k:=fun k hk=>by
  rcases h3.sub k hk with h|h
  ·rw[h];exact tJ _
  ·have:=i.out.size;omega
 have g:=tt e
 have n:=tt c
 have H3:=tt h3
 clear h2 h3 hc e c
 cases hk:(Psp.okL Psp.okC l) with
 |true=>
  have hb:b2=false:=by rw[H3.out.wrote.isbad,hk];rfl
  subst hb
  have Hk:=tt hk
  clear hk
  go_wp2_with fail
  refine (dD S2 _ o2 _ H3.out.wr).mono ?_
  rintro en w3 ⟨⟨v,rfl,a,hS⟩,rfl⟩
  have ho:=H3.out.wrote.isout rfl
  rw[List.nil_append] at ho
  rw[ho] at a
  have o:=tt (eh a fun b hb=>n.out b (hS b hb))
  clear a hS ho
  go_wp2_with fail
  go_ret2
  exact⟨v,bf v Hk.out,by simpa [Hk.out] using o.out,g.out⟩
 |false=>
  have hb:b2=true:=by rw[H3.out.wrote.isbad,hk];rfl
  subst hb
  have Hk:=tt hk
  clear hk
  go_wp2_with fail
  refine (ek S2 _ o2 _ H3.out.wr).mono ?_
  rintro en w3 ⟨rfl,rfl⟩
  go_wp2_with fail
  go_ret2
  exact⟨.slice none 0 0,bf _ Hk.out,by simpa [Hk.out] using World.ownsRow_nil _ _ _ _,g.out⟩
theorem oK (l:List Psp.Part) (x:Value) (w:World) (hx:RdA w (fun b=>b < w.heap.size) x l):
 Calls Tryz.prog 115 #[x] w (Bytes (Psp.bw Psp.cP l) (Psp.okL Psp.okP l) w):=by
 obtain⟨L,m,hL1,p⟩:=hx
 have q:=tt m
 clear m
 have d:Wr 171 (w.alloc (.cells #[.slice none 0 0,.bool false] 171)) (fun k=>k=w.heap.size) (w.heap.size) [] false:=Wr.new w _ _ rfl
 have f:=tt d
 have j:Below w.heap.size w (w.alloc (.cells #[.slice none 0 0,.bool false] 171)):=ae _ _
 have i:=tt j
 clear d j
 go_enter Tryz.func115,Tryz.ntmps115
 go_wp2_with fail
 refine (pc L _ x _ _ [] false _ f.out rfl (hL1.keeps (Keeps.newb _ _)) (fun y hy=>(p y hy).keeps (Keeps.newb _ _)) (by simp)).mono ?_
 intro en w2 hc
 rw[q.out] at hc
 obtain⟨rfl,S2,o2,b2,h2⟩:=(WrS.start f.out).step hc
 have h3:=h2.of (List.nil_append _) (Bool.true_and _)
 have e:Below w.heap.size w w2:=i.out.trans (h3.fp.to_below (B:=w.heap.size) i.out.size (fun k _ hk=>by rw[hk];exact tJ _))
 have c:∀k,S2 k→w.heap.size≤k:=fun k hk=>by
  rcases h3.sub k hk with h|h
  ·rw[h];exact tJ _
  ·have:=i.out.size;omega
 have g:=tt e
 have n:=tt c
 have H3:=tt h3
 clear h2 h3 hc e c
 cases hk:(Psp.okL Psp.okP l) with
 |true=>
  have hb:b2=false:=by rw[H3.out.wrote.isbad,hk];rfl
  subst hb
  have Hk:=tt hk
  clear hk
  go_wp2_with fail
  refine (dD S2 _ o2 _ H3.out.wr).mono ?_
  rintro en w3 ⟨⟨v,rfl,a,hS⟩,rfl⟩
  have ho:=H3.out.wrote.isout rfl
  rw[List.nil_append] at ho
  rw[ho] at a
  have o:=tt (eh a fun b hb=>n.out b (hS b hb))
  clear a hS ho
  go_wp2_with fail
  go_ret2
  exact⟨v,bf v Hk.out,by simpa [Hk.out] using o.out,g.out⟩
 |false=>
  have hb:b2=true:=by rw[H3.out.wrote.isbad,hk];rfl
  subst hb
  have Hk:=tt hk
  clear hk
  go_wp2_with fail
  refine (ek S2 _ o2 _ H3.out.wr).mono ?_
  rintro en w3 ⟨rfl,rfl⟩
  go_wp2_with fail
  go_ret2
  exact⟨.slice none 0 0,bf _ Hk.out,by simpa [Hk.out] using World.ownsRow_nil _ _ _ _,g.out⟩
end Go.Proofs.YtipmjleohadoeaaGreat
end
end
