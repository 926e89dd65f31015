import Derived.Test.YtipmjleohadoeaaGreatGaPy
import Derived.Test.YtipmjleohadoeaaGreatJ1Py
import Derived.Test.YtipmjleohadoeaaGreatGgPy
import Derived.Test.YtipmjleohadoeaaGreatGfPy
import Derived.Deep.CutBlock
import Derived.Test.YtipmjleohadoeaaGreatJ2Py
import Derived.StillTail
import Derived.OrdersHeld
set_option maxRecDepth 100000
set_option maxHeartbeats 16000000
set_option linter.unusedVariables false
set_option linter.unusedSimpArgs false
section
section
namespace Go.Proofs.YtipmjleohadoeaaGreat
open Go.RowKit
theorem gm {P:Program} {ops:Array Oper} {rest:List Oper} {o:Oper} {a:Act} {w:World} {Q:Exit→Act→World→Prop} (f:o.guard=none) (t:TypeId) (x y:Operand) (ho:o.op= .index t x y)
 (n:Nat) (e:TypeId) (hu:P.underlying t=some (.array n e)) (d:∀w,(isAgg e).run P w= .ok false w) (b:(P.info? e).map (·.size)=some 1)
 (cs:Array Value) (k:IntKind) (j:Nat) (hx:a.eval x= .agg cs) (hy:a.eval y= .int k (j:Int)) (hj:j < n) (v:Value) (hv:cs[j]? =some v)
 (h:wpList P ops Q rest (a.put o.dst v) w):wpList P ops Q (o :: rest) a w:=by
 refine wpList_plain f fun K hK=>?_
 unfold Oper.wp execOp
 obtain⟨i,hi⟩:∃i,P.info? e=some i:=by
  cases hi:P.info? e with
  |none=>rw[hi] at b;simp at b
  |some i=>exact⟨i,rfl⟩
 have hs:i.size=1:=by rw[hi] at b;simpa using b
 have hlt:0≤(j:Int)∧(j:Int) < (n:Int):=by omega
 have c:(Instr.index t (.agg cs) (.int k (j:Int))).run P w= .ok v w:=by
  simp[Instr.index,asIntOf,run_underlying hu,hlt,sizeOf,typeInfo,hi,hs,part,d,hv]
  intro h;omega
 simp only[ho,hx,hy,Sem.run_bind,Sem.run_pure,c,Result.andThen_ok]
 exact hK _ _ h
end Go.Proofs.YtipmjleohadoeaaGreat
end
section
namespace Psp
open Go.Proofs.YtipmjleohadoeaaGreat (dN codec_N)
structure Msg where
 k:Int
 f:Int
 v:Int
 i:Int
 q:Int
 r:Int
 b:List Req
 o:List Vote
 c:List Cert
 p:List Part
deriving DecidableEq
def bu (m:Msg):List UInt8:=aK m.k++(aK m.f++(aK m.v++(aK m.i++(aK m.q++(ey m.r++(bw bR m.b++(bw cI m.o++(bw cO m.c++bw cP m.p))))))))
def okM (m:Msg):Bool:=okN m.k&&(okN m.f&&(okN m.v&&(okN m.i&&(okN m.q&&(okS m.r&&(okL okR m.b&&(okL okV m.o&&(okL okC m.c&&okL okP m.p))))))))
def okB (m:Msg):Bool:=okM m&&decide ((bu m).length≤65536)
def dM:Dec Msg:=fun b a=>(dN b a).bind fun k=>(dN b k.2).bind fun f=>(dN b f.2).bind fun v=>(dN b v.2).bind fun i=>(dN b i.2).bind fun q=>(dS b q.2).bind fun r=>
 (dL dR b r.2).bind fun l=>(dL dV b l.2).bind fun o=>(dL dC b o.2).bind fun c=>(dL dP b c.2).map fun p=>(⟨k.1,f.1,v.1,i.1,q.1,r.1,l.1,o.1,c.1,p.1⟩,p.2)
theorem codec_M:Codec bu okM dM:=by
 intro b a x a'
 unfold dM okM bu
 simp only[bD codec_N,bD ka,bD (cV kd),bD (cV ia),bD (cV ke),eL (cV mu),tI,dH (f:=bw cP x.p),dH (f:=_++_),Prod.mk.injEq]
 constructor
 ·rintro⟨k,m1,o1,g1,f,m2,o2,g2,v,m3,o3,g3,i,m4,o4,g4,q,m5,o5,g5,r,m6,o6,g6,l,m7,o7,g7,o,m8,o8,g8,c,m9,o9,g9,p,e,o10,d,rfl,rfl⟩
  exact⟨⟨o1,o2,o3,o4,o5,o6,o7,o8,o9,o10⟩,m1,g1,m2,g2,m3,g3,m4,g4,m5,g5,m6,g6,m7,g7,m8,g8,m9,g9,d⟩
 ·rintro⟨⟨o1,o2,o3,o4,o5,o6,o7,o8,o9,o10⟩,m1,g1,m2,g2,m3,g3,m4,g4,m5,g5,m6,g6,m7,g7,m8,g8,m9,g9,d⟩
  exact⟨_,m1,o1,g1,_,m2,o2,g2,_,m3,o3,g3,_,m4,o4,g4,_,m5,o5,g5,_,m6,o6,g6,_,m7,o7,g7,_,m8,o8,g8,_,m9,o9,g9,_,a',o10,d,rfl,rfl⟩
def aY (b:List UInt8):Option Msg:=(dM b 0).bind fun p=>if p.2=(b.length:Int)∧b.length≤65536 then some p.1 else none
theorem gB (b:List UInt8) (m:Msg):aY b=some m↔okB m=true∧b=bu m:=by
 unfold aY okB
 rw[Option.bind_eq_some_iff,tI,decide_eq_true_eq]
 constructor
 ·rintro⟨⟨x,a⟩,h1,h2⟩
  split at h2
  ·rename_i h3
   injection h2 with h2
   dsimp only at h2 h3
   subst h2
   obtain⟨h4,pre,c,h5,h6,h7⟩:=(codec_M _ _ _ _).1 h1
   have hp:pre=[]:=List.eq_nil_of_length_eq_zero (by omega)
   subst hp
   have hl:=congrArg List.length h5
   simp only[tH,tD] at hl h7
   have hs:c=[]:=List.eq_nil_of_length_eq_zero (by omega)
   subst hs
   rw[List.nil_append,List.append_nil] at h5
   exact⟨⟨h4,by rw[←h5];exact h3.2⟩,h5⟩
  ·cases h2
 ·rintro⟨⟨h1,h2⟩,rfl⟩
  have h3:=codec_M.back h1 []
  rw[List.append_nil] at h3
  exact⟨_,h3,by rw[if_pos ⟨rfl,h2⟩]⟩
theorem iC {m:Msg} (h:okB m=true):aY (bu m)=some m:=(gB _ _).2 ⟨h,rfl⟩
theorem dq {n:Int} (h:okN n=true):(aK n).length≤6:=(ej h).2
theorem j8 {α:Type} (e:α→List UInt8) (ok:α→Bool) (k:Nat) (h:∀x,ok x=true→(e x).length≤k):∀l:List α,l.all ok=true→(l.flatMap e).length≤l.length * k
 | [],_=>by simp
 |x :: l,g=>by
  rw[List.all_cons,tI] at g
  have h1:=h x g.1
  have h2:=j8 e ok k h l g.2
  rw[List.flatMap_cons,tH,tC,Nat.succ_mul]
  omega
theorem kF {α:Type} {e:α→List UInt8} {ok:α→Bool} {k:Nat} (h:∀x,ok x=true→(e x).length≤k) {l:List α} (g:okL ok l=true):(bw e l).length≤6+256 * k:=by
 unfold okL at g
 rw[tI,decide_eq_true_eq] at g
 have h1:=j8 e ok k h l g.2
 have h2:=dq (n:=(l.length:Int)) ((bM _).2 (by omega))
 have h3:=Nat.mul_le_mul_right k g.1
 unfold bw
 rw[tH]
 omega
theorem sd {r:Req} (h:okR r=true):(bR r).length≤36:=by
 unfold okR at h
 simp only[tI] at h
 have h1:=dq h.1
 have h2:=dq h.2.1
 have h3:=dq h.2.2.1
 have h4:=(dB r.y).2
 have h5:=(dB r.v).2
 have h6:=dq h.2.2.2.2.2
 unfold bR
 simp only[tH]
 omega
theorem sc {v:Vote} (h:okV v=true):(cI v).length≤12:=by
 unfold okV at h
 simp only[tI] at h
 have h1:=dq h.1
 have h2:=dq h.2
 unfold cI
 simp only[tH]
 omega
theorem lenC {c:Cert} (h:okC c=true):(cO c).length≤12318:=by
 unfold okC at h
 simp only[tI] at h
 have h1:=dq h.1
 have h2:=dq h.2.1
 have h3:=dq h.2.2.1
 have h4:=kF (k:=36) (e:=bR) (fun x hx=>sd hx) h.2.2.2.1
 have h5:=kF (k:=12) (e:=cI) (fun x hx=>sc hx) h.2.2.2.2
 unfold cO
 simp only[tH]
 omega
theorem lenP {p:Part} (h:okP p=true):(cP p).length≤3160000:=by
 unfold okP at h
 simp only[tI] at h
 have h1:=dq h.1
 have h2:=kF (k:=12) (e:=cI) (fun x hx=>sc hx) h.2.1
 have h3:=kF (k:=12318) (e:=cO) (fun x hx=>lenC hx) h.2.2.1
 have h4:=dq h.2.2.2
 unfold cP
 simp only[tH]
 omega
theorem resR (l:List Req):(if okL okR l then bw bR l else []).length≤10000:=by
 split
 ·rename_i h;have:=kF (k:=36) (e:=bR) (fun x hx=>sd hx) h;omega
 ·simp
theorem resV (l:List Vote):(if okL okV l then bw cI l else []).length≤10000:=by
 split
 ·rename_i h;have:=kF (k:=12) (e:=cI) (fun x hx=>sc hx) h;omega
 ·simp
theorem resC (l:List Cert):(if okL okC l then bw cO l else []).length≤10000000:=by
 split
 ·rename_i h;have:=kF (k:=12318) (e:=cO) (fun x hx=>lenC hx) h;omega
 ·simp
theorem resP (l:List Part):(if okL okP l then bw cP l else []).length≤1000000000:=by
 split
 ·rename_i h;have:=kF (k:=3160000) (e:=cP) (fun x hx=>lenP hx) h;omega
 ·simp
def win (n lo hi:Int):Bool:=decide (lo≤n)&&decide (n≤hi)
theorem aN (n lo hi:Int):win n lo hi=true↔lo≤n∧n≤hi:=by simp[win]
theorem dm (n lo hi:Int):win n lo hi=false↔¬ (lo≤n∧n≤hi):=by rw[←aN];simp
def eA (s:Int):Bool:=win s 0 1099511627775
def eF (l:List Vote):Bool:=l.all fun v=>eA v.s
def ed (l:List Vote) (f:Int):Bool:=eF l&&dF (l.map (·.n)) f
def cH (v i q f:Int):Bool:=win v 0 12&&(win i 0 f&&win q 1 16)
def fj (l:List Req) (cl:Int):Bool:=l.all fun r=>aZ r cl
def bn (l:List Req) (cl lo hi:Int):Bool:=fj l cl&&win l.length lo hi
def cT (c:Cert) (f cl:Int):Bool:=cH c.v c.i c.q f&&(bn c.b cl 0 4&&ed c.o f)
def ltC (a b:Cert):Bool:=decide (a.i < b.i∨(a.i=b.i∧a.q < b.q))
def upC:List Cert→Bool
 |a :: b :: l=>ltC a b&&upC (b :: l)
 |_=>true
def dG (view:Int) (l:List Cert) (f cl:Int):Bool:=l.all (fun c=>cT c f cl&&decide (c.v < view))&&upC l
def cx (view:Int) (o:List Vote) (c:List Cert) (f cl:Int):Bool:=win view 1 12&&(ed o f&&dG view c f cl)
def upP:List Part→Bool
 |a :: b :: l=>decide (a.f < b.f)&&upP (b :: l)
 |_=>true
def bB (n f:Int):Bool:=win n 0 (aO f - 1)
def dJ (view:Int) (p:Part) (f cl:Int):Bool:=bB p.f f&&(eA p.s&&cx view p.o p.c f cl)
def cN (view:Int) (l:List Part) (f cl:Int):Bool:=decide ((l.length:Int)=bU f)&&(l.all (fun p=>dJ view p f cl)&&upP l)
def bZ (m:Msg) (b o c p:Bool):Bool:=(b||decide (m.b.length=0))&&((o||decide (m.o.length=0))&&((c||decide (m.c.length=0))&&(p||decide (m.p.length=0))))
def iM (l:List Req):Int:=match l with| []=>0|r :: _=>r.c
def fU (l:List Cert) (f cl:Int):Bool:=match l with| [c]=>cT c f cl|_=>false
def noB (l:List Int):Bool:=l.all fun n=>n==0
def aF (m:Msg) (f cl:Int):Bool:=
 may f&&(if m.k=1 then noB [m.v,m.i,m.q,m.r]&&(bZ m true false false false&&(bn m.b cl 1 1&&(decide (100≤m.f)&&decide (m.f - 100=iM m.b))))
 else bB m.f f&&(if m.k=2 then noB [m.v,m.i,m.q,m.r]&&(bZ m true false false false&&bn m.b cl 1 1)
 else if m.k=3 then (m.r==0)&&(bZ m true false false false&&(cH m.v m.i m.q f&&(bn m.b cl 1 4&&decide (m.f=aP f m.v m.i))))
 else if m.k=4∨m.k=5 then (m.r==0)&&(bZ m true false false false&&(cH m.v m.i m.q f&&bn m.b cl 0 4))
 else if m.k=6 then noB [m.i,m.q,m.r]&&(bZ m false false false false&&win m.v 0 11)
 else if m.k=7 then noB [m.i,m.q,m.r]&&(bZ m false true true false&&cx m.v m.o m.c f cl)
 else if m.k=8 then noB [m.q,m.r]&&(bZ m false false false true&&(win m.v 1 12&&(win m.i 0 f&&(decide (m.f=aP f m.v m.i)&&cN m.v m.p f cl))))
 else if m.k=9 then noB [m.v,m.i,m.q,m.r]&&(bZ m false false true false&&fU m.c f cl)
 else if m.k=10 then (m.v==0)&&(bZ m false false false false&&(win m.i 0 (cl - 1)&&(win m.q 1 1048576&&win m.r (-549755813887) 549755813887)))
 else false))
theorem eu {α:Type} {p:α→Bool} {l:List α}:(∀k,k < l.length→∀x,l[k]? =some x→p x=true)→l.all p=true:=by
 intro h
 rw[List.all_eq_true]
 intro x hx
 obtain⟨k,hk,rfl⟩:=List.getElem_of_mem hx
 exact h k hk _ (tK hk)
theorem eU {α:Type} {p:α→Bool} {l:List α} {k:Nat} {x:α} (hx:l[k]? =some x) (h:p x=false):l.all p=false:=by
 rw[List.all_eq_false]
 exact⟨x,List.mem_of_getElem? hx,by simp[h]⟩
theorem jJ:∀(l:List Cert),upC l=true↔∀k a b,l[k]? =some a→l[k+1]? =some b→ltC a b=true
 | []=>by simp[upC]
 | [_]=>by simp[upC]
 |a :: b :: l=>by
  simp only[upC,tI,jJ (b :: l)]
  constructor
  ·rintro⟨h1,h2⟩ k x y hx hy
   cases k with
   |zero=>simp at hx hy;subst hx;subst hy;exact h1
   |succ k=>exact h2 k x y (by simpa using hx) (by simpa using hy)
  ·intro h
   exact⟨h 0 a b (by simp) (by simp),fun k x y hx hy=>h (k+1) x y (by simpa using hx) (by simpa using hy)⟩
theorem jI:∀(l:List Part),upP l=true↔∀k a b,l[k]? =some a→l[k+1]? =some b→a.f < b.f
 | []=>by simp[upP]
 | [_]=>by simp[upP]
 |a :: b :: l=>by
  simp only[upP,tI,jI (b :: l),decide_eq_true_eq]
  constructor
  ·rintro⟨h1,h2⟩ k x y hx hy
   cases k with
   |zero=>simp at hx hy;subst hx;subst hy;exact h1
   |succ k=>exact h2 k x y (by simpa using hx) (by simpa using hy)
  ·intro h
   exact⟨h 0 a b (by simp) (by simp),fun k x y hx hy=>h (k+1) x y (by simpa using hx) (by simpa using hy)⟩
end Psp
end
end
section
namespace Go.Proofs.YtipmjleohadoeaaGreat
open Go.RowKit
structure MsgV where
 m:Psp.Msg
 b:Value
 o:Value
 c:Value
 p:Value
def mv (x:MsgV):List Value:=[iv x.m.k,iv x.m.f,iv x.m.v,iv x.m.i,iv x.m.q,iv x.m.r,x.b,x.o,x.c,x.p]
def MsgOk (w:World) (P:Nat→Prop) (x:MsgV):Prop:=RdR w P x.b x.m.b∧RdV w P x.o x.m.o∧RdC w P x.c x.m.c∧RdA w P x.p x.m.p
theorem RdR.keeps' {w w':World} {P P':Nat→Prop} {v:Value} {l:List Psp.Req} (h:RdR w P v l) (g:Keeps P P' w w'):RdR w' P' v l:=RdP.keeps h g
theorem RdV.keeps' {w w':World} {P P':Nat→Prop} {v:Value} {l:List Psp.Vote} (h:RdV w P v l) (g:Keeps P P' w w'):RdV w' P' v l:=RdP.keeps h g
theorem MsgOk.keeps {w w':World} {P P':Nat→Prop} {x:MsgV} (h:MsgOk w P x) (g:Keeps P P' w w'):MsgOk w' P' x:=⟨RdP.keeps h.1 g,RdP.keeps h.2.1 g,h.2.2.1.keeps g,h.2.2.2.keeps g⟩
theorem RdA.one {w:World} {P:Nat→Prop} {v:Value} {l:List Psp.Part} (h:RdA w P v l):v.oneCell'=true:=by obtain⟨L,_,h2,_⟩:=h;exact h2.one
theorem MsgOk.one {w:World} {P:Nat→Prop} {x:MsgV} (h:MsgOk w P x):∀v∈mv x,v.oneCell'=true:=by
 intro v hv
 simp only[mv,List.mem_cons,List.not_mem_nil,or_false] at hv
 rcases hv with rfl|rfl|rfl|rfl|rfl|rfl|rfl|rfl|rfl|rfl
 ·rfl
 ·rfl
 ·rfl
 ·rfl
 ·rfl
 ·rfl
 ·exact RdP.one h.1
 ·exact RdP.one h.2.1
 ·exact h.2.2.1.one
 ·exact h.2.2.2.one
def zM:Psp.Msg:=⟨0,0,0,0,0,0,[],[],[],[]⟩
theorem RdC.nil {w:World} {P:Nat→Prop}:RdC w P (.slice none 0 0) []:=⟨[],rfl,RdP.none_,fun _ h=>by cases h⟩
theorem RdA.nil {w:World} {P:Nat→Prop}:RdA w P (.slice none 0 0) []:=⟨[],rfl,RdP.none_,fun _ h=>by cases h⟩
theorem zM_ok {w:World} {P:Nat→Prop}:MsgOk w P ⟨zM,.slice none 0 0,.slice none 0 0,.slice none 0 0,.slice none 0 0⟩:=⟨RdP.none_,RdP.none_,RdC.nil,RdA.nil⟩
theorem mh (n:Int) (w:World):Calls Tryz.prog 110 #[.int .i64 n] w (Bytes (Psp.aK n) (Psp.okN n) w):=by
 by_cases h:Psp.okN n=true
 ·obtain⟨h0,h1⟩:=(Psp.bM n).1 h
  refine (gC n w h0 h1).mono ?_
  rintro e w' ⟨v,rfl,h2,h3⟩
  exact⟨v,by rw[h],by rw[h];exact h2,h3⟩
 ·have h':Psp.okN n=false:=by simpa using h
  have h2:=mt (Psp.bM n).2 h
  refine (jw n w (by omega)).mono ?_
  rintro e w' ⟨rfl,rfl⟩
  exact⟨_,by rw[h'],by rw[h'];exact World.ownsRow_nil _ _ _ _,Below.refl _ _⟩
theorem oq (n:Int) (w:World):Calls Tryz.prog 71 #[.int .i64 n] w (Bytes (Psp.aK n) (Psp.okN n) w):=by
 by_cases h:Psp.okN n=true
 ·obtain⟨h0,h1⟩:=(Psp.bM n).1 h
  refine (gN n w h0 h1).mono ?_
  rintro e w' ⟨v,rfl,h2,h3⟩
  exact⟨v,by rw[h],by rw[h];exact h2,h3⟩
 ·have h':Psp.okN n=false:=by simpa using h
  have h2:=mt (Psp.bM n).2 h
  refine (gO n w (by omega)).mono ?_
  rintro e w' ⟨rfl,rfl⟩
  exact⟨_,by rw[h'],by rw[h'];exact World.ownsRow_nil _ _ _ _,Below.refl _ _⟩
theorem qa (n:Int) (w:World):Calls Tryz.prog 111 #[.int .i64 n] w (Bytes (Psp.ey n) (Psp.okS n) w):=by
 by_cases h:Psp.okS n=true
 ·obtain⟨h0,h1⟩:=(Psp.dw n).1 h
  refine (jg n w h0 h1).mono ?_
  rintro e w' ⟨v,rfl,h2,h3⟩
  exact⟨v,by rw[h],by rw[h];exact h2,h3⟩
 ·have h':Psp.okS n=false:=by simpa using h
  have h2:=mt (Psp.dw n).2 h
  refine (jh n w (by omega)).mono ?_
  rintro e w' ⟨rfl,rfl⟩
  exact⟨_,by rw[h'],by rw[h'];exact World.ownsRow_nil _ _ _ _,Below.refl _ _⟩
structure Wc (w0 wr:World) (N:Nat) (cs:Array Value) (v:Value) (out:List UInt8) (good:Bool):Prop where
 box:wr.heap[N]? =some (.cells cs 56 (0,0))
 oc:wr.heap[N+1]? =some (.cells #[v] 49 (0,0))
 gc:wr.heap[N+1+1]? =some (.cells #[.bool good] 4 (0,0))
 own:wr.ownsRow (N+3) 5 1 v out.length (out.map bv)
 bel:Below N w0 wr
 eq:w0.heap.size=N
theorem Wc.lt {w0 wr:World} {N:Nat} {cs:Array Value} {v:Value} {out:List UInt8} {a:Bool} (h:Wc w0 wr N cs v out a):N+1+1 < wr.heap.size:=(tz h.gc).1
theorem Wc.below {w0 wr w':World} {N:Nat} {cs:Array Value} {v:Value} {out:List UInt8} {a:Bool} (h:Wc w0 wr N cs v out a) (hb:Below wr.heap.size wr w'):Wc w0 w' N cs v out a:=by
 have:=h.lt
 exact⟨(hb.block N (by omega)).trans h.box,(hb.block (N+1) (by omega)).trans h.oc,(hb.block (N+1+1) (by omega)).trans h.gc,bE h.own hb,h.bel.trans (hb.mono (by omega)),h.eq⟩
theorem Wc.cells {w0 wr:World} {N:Nat} {cs:Array Value} {v:Value} {out:List UInt8} {a:Bool} (h:Wc w0 wr N cs v out a):
 wr.cell? ⟨N+1,0,none⟩=some v∧wr.cell? ⟨N+1+1,0,none⟩=some (.bool a)∧wr.frozen? ⟨N+1,0,none⟩=false∧wr.frozen? ⟨N+1+1,0,none⟩=false:=by
 refine⟨?_,?_,frozen_of_row _ _ 0 _ _ h.oc,frozen_of_row _ _ 0 _ _ h.gc⟩
 ·rw[cell_of_row _ _ 0 _ _ _ h.oc];rfl
 ·rw[cell_of_row _ _ 0 _ _ _ h.gc];rfl
theorem Wc.msg {w0 wr:World} {N:Nat} {cs:Array Value} {v:Value} {out:List UInt8} {a:Bool} (h:Wc w0 wr N cs v out a) {j:Nat} {u:Value} (hj:cs[j]? =some u):wr.cell? ⟨N,j,none⟩=some u:=by
 rw[cell_of_row _ _ j _ _ _ h.box];exact hj
theorem gF (w0 w:World) (N:Nat) (cs:Array Value) (v:Value) (out:List UInt8) (a:Bool) (x:Value) (n:Nat) (e:List UInt8) (ok:Bool) (hI:Wc w0 w N cs v out a) (hx:RdP w (fun b=>N+1+1 < b) 1 x n (e.map bv))
 (hb:out.length+n≤1099511627776):
 Calls Tryz.prog 109 #[x,.bool ok,.pointer (some ⟨N+1+1,0,none⟩),.pointer (some ⟨N+1,0,none⟩)] w fun en w'=>en= .returned (.tuple #[])∧∃v',Wc w0 w' N cs v' (out++e) (a&&ok):=by
 have hn:e.length=n:=by have:=hx.1;simpa using this
 obtain⟨A,c,rfl,s,r,_⟩:=ao hI.own
 obtain⟨k0,k1,z0,z1⟩:=hI.cells
 have o:(w.setCell ⟨N+1+1,0,none⟩ (.bool (a&&ok))).cell? ⟨N+1,0,none⟩=w.cell? ⟨N+1,0,none⟩:=by go_simp
 have m:Fp (fun b=>N≤b) w (w.setCell ⟨N+1+1,0,none⟩ (.bool (a&&ok))):=(Fp.refl _ w).setCell (p:=⟨N+1+1,0,none⟩) (Or.inl (by show N≤N+1+1;omega)) _
 have g:Fp (fun b=>b=N+1+1) w (w.setCell ⟨N+1+1,0,none⟩ (.bool (a&&ok))):=(Fp.refl (fun b=>b=N+1+1) w).setCell (p:=⟨N+1+1,0,none⟩) (Or.inl (show N+1+1=N+1+1 from rfl)) _
 have hx1:=(hx.fp g (fun b hb h=>by omega)).to_rd
 have d:(w.setCell ⟨N+1+1,0,none⟩ (.bool (a&&ok))).ownsRow (N+3) 5 1 (.slice A out.length c) out.length (out.map bv):=ar hI.own fun b hb=>g.block b (hI.own.lt b hb).2 (by have:=(hI.own.lt b hb).1;omega)
 have l:∀u∈e.map bv,u.oneCell'=true:=by intro u hu;obtain⟨b,_,rfl⟩:=List.mem_map.1 hu;rfl
 have hlt:=hI.lt
 have j:(w.setCell ⟨N+1+1,0,none⟩ (.bool (a&&ok))).heap.size=w.heap.size:=by simp[World.setCell]
 have fin:∀v' w3,w3.ownsRow (N+3) 5 1 v' (out.length+n) (out.map bv++e.map bv)→(w.setCell ⟨N+1+1,0,none⟩ (.bool (a&&ok))).grownBy w3 (Value.slice A out.length c).ownBlock→
  Wc w0 (w3.setCell ⟨N+1,0,none⟩ v') N cs v' (out++e) (a&&ok)∧w3.cell? ⟨N+1,0,none⟩=some (.slice A out.length c)∧w3.frozen? ⟨N+1,0,none⟩=false:=by
  intro v' w3 h3 f
  have ho:∀b,b < N+3→w3.heap[b]? =(w.setCell ⟨N+1+1,0,none⟩ (.bool (a&&ok))).heap[b]?:=fun b hb=>f.block b (by rw[j];omega) fun he=>by have:=(hI.own.lt b he.symm).1;omega
  have k:w3.heap[N+1]? =some (.cells #[.slice A out.length c] 49 (0,0)):=((ho _ (by omega)).trans (Below.heap_setCell w ⟨N+1+1,0,none⟩ _ _ (by show N+1≠N+1+1;omega))).trans hI.oc
  refine⟨⟨?_,?_,?_,?_,?_,hI.eq⟩,?_,frozen_of_row _ _ 0 _ _ k⟩
  ·rw[Below.heap_setCell w3 ⟨N+1,0,none⟩ _ N (by show N≠N+1;omega),ho N (by omega),Below.heap_setCell w ⟨N+1+1,0,none⟩ _ N (by show N≠N+1+1;omega)]
   exact hI.box
  ·rw[heap_setCell_same w3 (N+1) 0 _ _ _ k];rfl
  ·rw[Below.heap_setCell w3 ⟨N+1,0,none⟩ _ (N+1+1) (by show N+1+1≠N+1;omega),ho (N+1+1) (by omega),heap_setCell_same w (N+1+1) 0 _ _ _ hI.gc];rfl
  ·rw[tH,List.map_append,hn]
   exact ar h3 fun b hb=>Below.heap_setCell w3 ⟨N+1,0,none⟩ _ b (by have:=(h3.lt b hb).1;show b≠N+1;omega)
  ·refine hI.bel.trans ((((m.grown f fun b hb=>Or.inl (by have:=(hI.own.lt b hb).1;show N≤b;omega)).setCell (p:=⟨N+1,0,none⟩) (Or.inl (by show N≤N+1;omega)) _)).to_below (by omega) fun b _ h=>h)
  ·rw[cell_of_row _ _ 0 _ _ _ k];rfl
 have i:=tt fin
 have q:=tt l
 clear hI hx hn fin l m g
 cases a <;> cases ok
 all_goals
  simp only[Bool.false_and,Bool.true_and] at d hx1 i o j
  have b1:N+3≤w.heap.size:=by omega
  go_enter Tryz.func109,Tryz.ntmps109
  go_wp2_with (at_builtin;refine bk et rfl _ _ rfl (N+3) (.slice A out.length c) out.length (out.map bv) rfl d _ x n (e.map bv) rfl hx1 q.out (by unfold maxLen;omega) (by omega) (by rw[j];omega) ?_;intro v' w3 h3 f hb3;obtain⟨A4,c4,rfl,_,_,_⟩:=ao h3;obtain⟨q2,q0,q1⟩:=i.out _ w3 h3 f;have H:=tt q2;clear h3 f hb3 q2)
  go_end0
  exact⟨rfl,_,H.out⟩
def iY (m:Psp.Msg):List Int:=[m.k,m.f,m.v,m.i,m.q]
def fe (m:Psp.Msg) (k:Nat):List UInt8:=((iY m).take k).flatMap fun n=>res (Psp.aK n) (Psp.okN n)
def ff (m:Psp.Msg) (k:Nat):Bool:=((iY m).take k).all Psp.okN
theorem nD {m:Psp.Msg} {k:Nat} {n:Int} (h:(iY m)[k]? =some n):fe m k++res (Psp.aK n) (Psp.okN n)=fe m (k+1)∧(ff m k&&Psp.okN n)=ff m (k+1):=by
 unfold fe ff
 rw[List.take_add_one,h]
 simp[List.flatMap_append]
theorem po (m:Psp.Msg) (k:Nat) (hk:k≤5):(fe m k).length≤30:=by
 have h:=Psp.j8 (fun n=>res (Psp.aK n) (Psp.okN n)) (fun _=>true) 6 (fun x _=>by
  unfold res
  split
  ·rename_i h;exact Psp.dq h
  ·simp) ((iY m).take k) (by simp)
 unfold fe
 rw[List.length_take] at h
 have:(iY m).length=5:=rfl
 omega
theorem und5:Tryz.prog.underlying 173=some (.array 5 3):=by kernel_rfl
theorem ny:∀w,(isAgg 3).run Tryz.prog w= .ok false w:=fun _=>by kernel_rfl
theorem res6 (n:Int):(res (Psp.aK n) (Psp.okN n)).length≤6:=by
 unfold res
 split
 ·rename_i h;exact Psp.dq h
 ·simp
theorem sx {m:Psp.Msg} (h:ff m 5=true):fe m 5=Psp.aK m.k++(Psp.aK m.f++(Psp.aK m.v++(Psp.aK m.i++Psp.aK m.q))):=by
 have h':(Psp.okN m.k&&(Psp.okN m.f&&(Psp.okN m.v&&(Psp.okN m.i&&Psp.okN m.q))))=true:=by simpa [ff,iY] using h
 simp only[tI] at h'
 obtain⟨h1,h2,h3,h4,h5⟩:=h'
 simp[fe,iY,h1,h2,h3,h4,h5,res]
def nN (m:Psp.Msg):Bool:=ff m 5&&Psp.okS m.r&&Psp.okL Psp.okR m.b&&Psp.okL Psp.okV m.o&&Psp.okL Psp.okC m.c&&Psp.okL Psp.okP m.p
def rg (m:Psp.Msg):List UInt8:=fe m 5++res (Psp.ey m.r) (Psp.okS m.r)++res (Psp.bw Psp.bR m.b) (Psp.okL Psp.okR m.b)++res (Psp.bw Psp.cI m.o) (Psp.okL Psp.okV m.o)++res (Psp.bw Psp.cO m.c) (Psp.okL Psp.okC m.c)++res (Psp.bw Psp.cP m.p) (Psp.okL Psp.okP m.p)
theorem mE (m:Psp.Msg):nN m=Psp.okM m:=by
 have h:ff m 5=(Psp.okN m.k&&(Psp.okN m.f&&(Psp.okN m.v&&(Psp.okN m.i&&Psp.okN m.q)))):=by simp[ff,iY]
 unfold nN Psp.okM
 rw[h]
 simp only[Bool.and_assoc]
theorem rf {m:Psp.Msg} (h:nN m=true):rg m=Psp.bu m:=by
 unfold nN at h
 simp only[tI] at h
 obtain⟨⟨⟨⟨⟨h1,h2⟩,h3⟩,h4⟩,h5⟩,h6⟩:=h
 unfold rg Psp.bu
 rw[sx h1,h2,h3,h4,h5,h6]
 simp only[dt,List.append_assoc]
theorem resS (n:Int):(res (Psp.ey n) (Psp.okS n)).length≤6:=by
 unfold res
 split
 ·exact (Psp.dB n).2
 ·simp
theorem sG (m:Psp.Msg) (vb vo vc vp:Value) (w:World) (hx:MsgOk w (fun b=>b < w.heap.size) ⟨m,vb,vo,vc,vp⟩):
 Calls Tryz.prog 80 #[.agg #[.int .i64 m.k,.int .i64 m.f,.int .i64 m.v,.int .i64 m.i,.int .i64 m.q,.int .i64 m.r,vb,vo,vc,vp]] w (Bytes (Psp.bu m) (Psp.okB m) w):=by
 have HX:=tt hx
 have o0:vb.oneCell'=true:=RdP.one hx.1
 have o1:vo.oneCell'=true:=RdP.one hx.2.1
 have o2:vc.oneCell'=true:=hx.2.2.1.one
 have o3:vp.oneCell'=true:=hx.2.2.2.one
 clear hx
 have O:Wc w (((w.alloc (.cells #[.int .i64 m.k,.int .i64 m.f,.int .i64 m.v,.int .i64 m.i,.int .i64 m.q,.int .i64 m.r,vb,vo,vc,vp] 56)).alloc (.cells #[.slice none 0 0] 49)).alloc (.cells #[.bool true] 4)) w.heap.size #[.int .i64 m.k,.int .i64 m.f,.int .i64 m.v,.int .i64 m.i,.int .i64 m.q,.int .i64 m.r,vb,vo,vc,vp] (.slice none 0 0) [] true:=by
  refine⟨?_,?_,?_,World.ownsRow_nil _ _ _ _,?_,rfl⟩
  ·rw[(ae _ _).block _ (by simp;omega),(ae _ _).block _ (by simp)];exact tL w _
  ·rw[(ae _ _).block _ (by simp)]
   have:=tL (w.alloc (.cells #[.int .i64 m.k,.int .i64 m.f,.int .i64 m.v,.int .i64 m.i,.int .i64 m.q,.int .i64 m.r,vb,vo,vc,vp] 56)) (.cells #[.slice none 0 0] 49)
   simpa using this
  ·have:=tL ((w.alloc (.cells #[.int .i64 m.k,.int .i64 m.f,.int .i64 m.v,.int .i64 m.i,.int .i64 m.q,.int .i64 m.r,vb,vo,vc,vp] 56)).alloc (.cells #[.slice none 0 0] 49)) (.cells #[.bool true] 4)
   simpa using this
  ·exact ((ae w _).trans ((ae _ _).mono (by simp))).trans ((ae _ _).mono (by simp;omega))
 have P:=tt O
 clear O
 go_enter Tryz.func80,Tryz.ntmps80
 go_wp2_with fail
 go_loopw [21] (fun i wr=>∃(k:Nat) (v':Value),i= .int .i64 (k:Int)∧k≤5∧Hid (Wc w wr w.heap.size #[.int .i64 m.k,.int .i64 m.f,.int .i64 m.v,.int .i64 m.i,.int .i64 m.q,.int .i64 m.r,vb,vo,vc,vp] v' (fe m k) (ff m k))) (fun i _=>5 - (intOf i).toNat)
 case atStart=>exact⟨0,_,rfl,by omega,P⟩
 case round=>
  obtain⟨k,v',rfl,hk,HI⟩:=hrel
  clear P
  have hlen:=po m k hk
  by_cases h5:k < 5
  ·obtain⟨n,hn⟩:∃n,(iY m)[k]? =some n:=⟨_,tK (by show k < 5;exact h5)⟩
   obtain⟨s1,s2⟩:=nD hn
   have S1:=tt s1
   have S2:=tt s2
   have h6:=res6 n
   have Hn:=tt hn
   clear s1 s2 hn
   have hv:(#[Value.int .i64 m.k,.int .i64 m.f,.int .i64 m.v,.int .i64 m.i,.int .i64 m.q]:Array Value)[k]? =some (.int .i64 n):=by
    have:=Hn.out
    rcases (show k=0∨k=1∨k=2∨k=3∨k=4 by omega) with rfl|rfl|rfl|rfl|rfl <;> (simp[iY] at this;subst this;rfl)
   go_wp2_with (refine gm rfl 173 _ _ rfl 5 _ und5 ny (by kernel_rfl) _ _ k rfl rfl h5 _ hv ?_)
   refine (mh n wr).mono ?_
   intro e w1 h
   obtain⟨b,hb⟩:∃b,res (Psp.aK n) (Psp.okN n)=b:=⟨_,rfl⟩
   obtain⟨o,ho⟩:∃o,Psp.okN n=o:=⟨_,rfl⟩
   obtain⟨A,c,rfl,hp,a⟩:=Bytes.rdb h hb ho
   rw[hb] at S1 h6
   rw[ho] at S2
   have hlt:=HI.out.lt
   have d:=tt (HI.out.below a)
   have HP:=tt (hp.mono (P':=fun j=>w.heap.size+1+1 < j) fun j _ (hj:wr.heap.size≤j)=>by omega)
   clear h hb ho a hp HI hv Hn
   go_wp2_with fail
   refine (gF w w1 w.heap.size _ v' (fe m k) (ff m k) _ b.length b o d.out HP.out (by omega)).mono ?_
   rintro e w2 ⟨rfl,v2,h2⟩
   have H2:=tt h2
   rw[S1.out,S2.out] at H2
   clear h2
   go_wp2_with fail
   go_roundw
   case rel=>exact⟨k+1,v2,by go_num,by omega,H2⟩
   case measure=>simp[intOf];omega
  ·obtain rfl:k=5:=by omega
   obtain⟨out,hout⟩:∃out,fe m 5=out:=⟨_,rfl⟩
   obtain⟨s,hgood⟩:∃s,ff m 5=s:=⟨_,rfl⟩
   rw[hout] at HI hlen
   rw[hgood] at HI
   have R:=tt hout
   have X:=tt hgood
   clear hout hgood h5 hk
   have x5:=HI.out.msg (j:=5) rfl
   go_wp2_with fail
   refine (qa m.r wr).mono ?_
   intro e a2 h
   obtain⟨b0,hb0⟩:∃b,res (Psp.ey m.r) (Psp.okS m.r)=b:=⟨_,rfl⟩
   obtain⟨o0,ho0⟩:∃o,Psp.okS m.r=o:=⟨_,rfl⟩
   obtain⟨A0,c0,rfl,hp,a⟩:=Bytes.rdb h hb0 ho0
   have h6:b0.length≤6:=by rw[←hb0];exact resS m.r
   have hlt:=HI.out.lt
   have d:=tt (HI.out.below a)
   have HP:=tt (hp.mono (P':=fun j=>w.heap.size+1+1 < j) fun j _ (hj:wr.heap.size≤j)=>by omega)
   have ad:=tt hb0
   have W:=tt ho0
   clear h a hp HI hb0 ho0 x5 hlt
   go_wp2_with fail
   refine (gF w a2 w.heap.size _ v' out s _ b0.length b0 o0 d.out HP.out (by omega)).mono ?_
   rintro e N ⟨rfl,v0,h2⟩
   obtain⟨out0,hout⟩:∃x,out++b0=x:=⟨_,rfl⟩
   obtain⟨good0,hgood⟩:∃x,(s&&o0)=x:=⟨_,rfl⟩
   have hlen0:out0.length≤36:=by rw[←hout,tH];omega
   rw[hout,hgood] at h2
   have HI:=tt h2
   have D:=tt hout
   have I:=tt hgood
   clear h2 hout hgood d HP h6 hlen
   have x6:=HI.out.msg (j:=6) rfl
   go_wp2_with fail
   refine (oN m.b vb N (HX.out.keeps (Keeps.on HI.out.bel)).1).mono ?_
   intro e a1 h
   obtain⟨b1,hb1⟩:∃b,res (Psp.bw Psp.bR m.b) (Psp.okL Psp.okR m.b)=b:=⟨_,rfl⟩
   obtain⟨o1,ho1⟩:∃o,Psp.okL Psp.okR m.b=o:=⟨_,rfl⟩
   obtain⟨A1,c1,rfl,hp,a⟩:=Bytes.rdb h hb1 ho1
   have h6:b1.length≤10000:=by rw[←hb1];exact Psp.resR m.b
   have hlt:=HI.out.lt
   have d:=tt (HI.out.below a)
   have HP:=tt (hp.mono (P':=fun j=>w.heap.size+1+1 < j) fun j _ (hj:N.heap.size≤j)=>by omega)
   have ac:=tt hb1
   have V:=tt ho1
   clear h a hp HI hb1 ho1 x6 hlt
   go_wp2_with fail
   refine (gF w a1 w.heap.size _ v0 out0 good0 _ b1.length b1 o1 d.out HP.out (by omega)).mono ?_
   rintro e M ⟨rfl,v1,h2⟩
   obtain⟨out1,hout⟩:∃x,out0++b1=x:=⟨_,rfl⟩
   obtain⟨good1,hgood⟩:∃x,(good0&&o1)=x:=⟨_,rfl⟩
   have hlen1:out1.length≤10036:=by rw[←hout,tH];omega
   rw[hout,hgood] at h2
   have HI:=tt h2
   have C:=tt hout
   have H:=tt hgood
   clear h2 hout hgood d HP h6 hlen0
   have x7:=HI.out.msg (j:=7) rfl
   go_wp2_with fail
   refine (oJ m.o vo M (HX.out.keeps (Keeps.on HI.out.bel)).2.1).mono ?_
   intro e a0 h
   obtain⟨b2,hb2⟩:∃b,res (Psp.bw Psp.cI m.o) (Psp.okL Psp.okV m.o)=b:=⟨_,rfl⟩
   obtain⟨o2,ho2⟩:∃o,Psp.okL Psp.okV m.o=o:=⟨_,rfl⟩
   obtain⟨A2,c2,rfl,hp,a⟩:=Bytes.rdb h hb2 ho2
   have h6:b2.length≤10000:=by rw[←hb2];exact Psp.resV m.o
   have hlt:=HI.out.lt
   have d:=tt (HI.out.below a)
   have HP:=tt (hp.mono (P':=fun j=>w.heap.size+1+1 < j) fun j _ (hj:M.heap.size≤j)=>by omega)
   have aa:=tt hb2
   have U:=tt ho2
   clear h a hp HI hb2 ho2 x7 hlt
   go_wp2_with fail
   refine (gF w a0 w.heap.size _ v1 out1 good1 _ b2.length b2 o2 d.out HP.out (by omega)).mono ?_
   rintro e L ⟨rfl,v2,h2⟩
   obtain⟨out2,hout⟩:∃x,out1++b2=x:=⟨_,rfl⟩
   obtain⟨good2,hgood⟩:∃x,(good1&&o2)=x:=⟨_,rfl⟩
   have hlen2:out2.length≤20036:=by rw[←hout,tH];omega
   rw[hout,hgood] at h2
   have HI:=tt h2
   have B:=tt hout
   have G:=tt hgood
   clear h2 hout hgood d HP h6 hlen1
   have x8:=HI.out.msg (j:=8) rfl
   go_wp2_with fail
   refine (oM m.c vc L (HX.out.keeps (Keeps.on HI.out.bel)).2.2.1).mono ?_
   intro e al h
   obtain⟨b3,hb3⟩:∃b,res (Psp.bw Psp.cO m.c) (Psp.okL Psp.okC m.c)=b:=⟨_,rfl⟩
   obtain⟨o3,ho3⟩:∃o,Psp.okL Psp.okC m.c=o:=⟨_,rfl⟩
   obtain⟨A3,c3,rfl,hp,a⟩:=Bytes.rdb h hb3 ho3
   have h6:b3.length≤10000000:=by rw[←hb3];exact Psp.resC m.c
   have hlt:=HI.out.lt
   have d:=tt (HI.out.below a)
   have HP:=tt (hp.mono (P':=fun j=>w.heap.size+1+1 < j) fun j _ (hj:L.heap.size≤j)=>by omega)
   have Z:=tt hb3
   have T:=tt ho3
   clear h a hp HI hb3 ho3 x8 hlt
   go_wp2_with fail
   refine (gF w al w.heap.size _ v2 out2 good2 _ b3.length b3 o3 d.out HP.out (by omega)).mono ?_
   rintro e K ⟨rfl,v3,h2⟩
   obtain⟨out3,hout⟩:∃x,out2++b3=x:=⟨_,rfl⟩
   obtain⟨good3,hgood⟩:∃x,(good2&&o3)=x:=⟨_,rfl⟩
   have J:out3.length≤10020036:=by rw[←hout,tH];omega
   rw[hout,hgood] at h2
   have HI:=tt h2
   have z:=tt hout
   have F:=tt hgood
   clear h2 hout hgood d HP h6 hlen2
   have x9:=HI.out.msg (j:=9) rfl
   go_wp2_with fail
   refine (oK m.p vp K (HX.out.keeps (Keeps.on HI.out.bel)).2.2.2).mono ?_
   intro e af h
   obtain⟨b4,hb4⟩:∃b,res (Psp.bw Psp.cP m.p) (Psp.okL Psp.okP m.p)=b:=⟨_,rfl⟩
   obtain⟨o4,ho4⟩:∃o,Psp.okL Psp.okP m.p=o:=⟨_,rfl⟩
   obtain⟨A4,c4,rfl,hp,a⟩:=Bytes.rdb h hb4 ho4
   have h6:b4.length≤1000000000:=by rw[←hb4];exact Psp.resP m.p
   have hlt:=HI.out.lt
   have d:=tt (HI.out.below a)
   have HP:=tt (hp.mono (P':=fun j=>w.heap.size+1+1 < j) fun j _ (hj:K.heap.size≤j)=>by omega)
   have Y:=tt hb4
   have S:=tt ho4
   clear h a hp HI hb4 ho4 x9 hlt
   go_wp2_with fail
   refine (gF w af w.heap.size _ v3 out3 good3 _ b4.length b4 o4 d.out HP.out (by omega)).mono ?_
   rintro e a4 ⟨rfl,v4,h2⟩
   obtain⟨out4,hout⟩:∃x,out3++b4=x:=⟨_,rfl⟩
   obtain⟨good4,hgood⟩:∃x,(good3&&o4)=x:=⟨_,rfl⟩
   have a3:out4.length≤1010020036:=by rw[←hout,tH];omega
   rw[hout,hgood] at h2
   have HI:=tt h2
   have y:=tt hout
   have E:=tt hgood
   clear h2 hout hgood d HP h6 J
   have HE:Hid (out4=rg m):=tt (by unfold rg;rw[ad.out,ac.out,aa.out,Z.out,Y.out,R.out,D.out,C.out,B.out,z.out,y.out])
   have HG:Hid (good4=nN m):=tt (by unfold nN;rw[W.out,V.out,U.out,T.out,S.out,X.out,I.out,H.out,G.out,F.out,E.out])
   obtain⟨k0,k1,_,_⟩:=HI.out.cells
   obtain⟨A,c,rfl,a6,a5,_⟩:=ao HI.out.own
   have Q:=tt (bA HI.out.own (base':=w.heap.size) (by omega))
   have t:=tt HI.out.bel
   clear HI ad ac aa Z Y W V U T S R D C B z y X I H G F E
   cases good4 with
   |false=>
    have g:Psp.okB m=false:=by unfold Psp.okB;rw[←mE,←HG.out];rfl
    have l:=tt g
    clear g
    go_wp2_with fail
    go_ret2
    exact⟨_,bf _ l.out,by rw[l.out];exact World.ownsRow_nil _ _ _ _,t.out⟩
   |true=>
    have he:=HE.out.trans (rf HG.out.symm)
    have hm:Psp.okM m=true:=by rw[←mE];exact HG.out.symm
    subst he
    by_cases u:(Psp.bu m).length≤65536
    ·have g:Psp.okB m=true:=by unfold Psp.okB;rw[hm,tB u];rfl
     have l:=tt g
     have d1:decide (((Psp.bu m).length:Int) > 65536)=false:=by simp;omega
     clear g hm HE HG
     go_wp2_with fail
     go_ret2
     exact⟨_,bf _ l.out,by rw[l.out];exact Q.out,t.out⟩
    ·have g:Psp.okB m=false:=by unfold Psp.okB;rw[tA u,Bool.and_false]
     have l:=tt g
     have d1:decide (((Psp.bu m).length:Int) > 65536)=true:=by simp;omega
     clear g hm HE HG
     go_wp2_with fail
     go_ret2
     exact⟨_,bf _ l.out,by rw[l.out];exact World.ownsRow_nil _ _ _ _,t.out⟩
def okE (s:Int) (body:List UInt8):Bool:=Psp.okN s&&decide ((Psp.aK s).length+body.length≤65536)
theorem qM (s:Int) (a:List UInt8) (x:Value) (w:World) (hx:RdP w (fun b=>b < w.heap.size) 1 x a.length (a.map bv)) (r:a.length≤1099511627776):
 Calls Tryz.prog 81 #[.int .i64 s,x] w (Bytes (Psp.aK s++a) (okE s a) w):=by
 obtain⟨_,A,c,rfl,p,o,_⟩:=hx.parts
 have HX:=tt hx
 clear hx
 go_enter Tryz.func81,Tryz.ntmps81
 go_wp2_with fail
 refine (mh s w).mono ?_
 intro e w1 h
 obtain⟨ob,hob⟩:∃ob,ob=Psp.okN s:=⟨_,rfl⟩
 obtain⟨A1,c1,rfl,g,hb⟩:=h.open_
 have HB:=tt hb
 clear h hb
 rw[←hob] at g ⊢
 cases ob with
 |false=>
  have d:okE s a=false:=by unfold okE;rw[←hob];rfl
  have f:=tt d
  clear d hob
  rw[jO] at *
  go_wp2_with fail
  go_ret2
  exact⟨_,bf _ f.out,by rw[f.out];exact World.ownsRow_nil _ _ _ _,HB.out⟩
 |true=>
  rw[dt] at *
  have hl:=(Psp.ej hob.symm)
  obtain⟨l1,l2⟩:=hl
  have hz:w.heap.size≤w1.heap.size:=HB.out.size
  have m:=(HX.out.keeps (Keeps.on HB.out)).to_rd
  by_cases i:(Psp.aK s).length+a.length≤65536
  ·have d:okE s a=true:=by unfold okE;rw[←hob,tB i];rfl
   have f:=tt d
   have d1:decide (((Psp.aK s).length:Int)+(a.length:Int) > 65536)=false:=by simp;omega
   have l:∀u∈a.map bv,u.oneCell'=true:=by intro u hu;obtain⟨b,_,rfl⟩:=List.mem_map.1 hu;rfl
   have n:=tt l
   clear d hob l
   go_wp2_with (at_builtin;refine bk et rfl _ _ rfl w.heap.size _ _ _ rfl g _ _ a.length (a.map bv) rfl m n.out (by unfold maxLen;omega) (by omega) hz ?_;intro v' w3 h3 k hb3;obtain⟨A4,c4,rfl,_,_,_⟩:=ao h3;have HO:=tt h3;have HG:=tt ((((Fp.of_below HB.out (fun _=>False)).grown k fun j hj=>Or.inr (oP g j hj)).to_below (B:=w.heap.size) (tJ _) fun j _ h=>h.elim));clear h3 k hb3)
   go_ret2
   exact⟨_,bf _ f.out,by rw[f.out];simpa [tH,List.map_append] using HO.out,HG.out⟩
  ·have d:okE s a=false:=by unfold okE;rw[tA i,Bool.and_false]
   have f:=tt d
   have d1:decide (((Psp.aK s).length:Int)+(a.length:Int) > 65536)=true:=by simp;omega
   have q:a.length≤9223372036854775807:=by omega
   clear d hob
   go_wp2_with fail
   go_ret2
   exact⟨_,bf _ f.out,by rw[f.out];exact World.ownsRow_nil _ _ _ _,HB.out⟩
theorem kw (s:Int) (a:List UInt8) (x:Value) (w:World) (hx:RdP w (fun b=>b < w.heap.size) 1 x a.length (a.map bv)) (r:a.length≤1099511627776):
 Calls Tryz.prog 42 #[.int .i64 s,x] w (Bytes (Psp.aK s++a) (okE s a) w):=by
 obtain⟨_,A,c,rfl,p,o,_⟩:=hx.parts
 have HX:=tt hx
 clear hx
 go_enter Tryz.func42,Tryz.ntmps42
 go_wp2_with fail
 refine (oq s w).mono ?_
 intro e w1 h
 obtain⟨ob,hob⟩:∃ob,ob=Psp.okN s:=⟨_,rfl⟩
 obtain⟨A1,c1,rfl,g,hb⟩:=h.open_
 have HB:=tt hb
 clear h hb
 rw[←hob] at g ⊢
 cases ob with
 |false=>
  have d:okE s a=false:=by unfold okE;rw[←hob];rfl
  have f:=tt d
  clear d hob
  rw[jO] at *
  go_wp2_with fail
  go_ret2
  exact⟨_,bf _ f.out,by rw[f.out];exact World.ownsRow_nil _ _ _ _,HB.out⟩
 |true=>
  rw[dt] at *
  have hl:=(Psp.ej hob.symm)
  obtain⟨l1,l2⟩:=hl
  have hz:w.heap.size≤w1.heap.size:=HB.out.size
  have m:=(HX.out.keeps (Keeps.on HB.out)).to_rd
  by_cases i:(Psp.aK s).length+a.length≤65536
  ·have d:okE s a=true:=by unfold okE;rw[←hob,tB i];rfl
   have f:=tt d
   have d1:decide (((Psp.aK s).length:Int)+(a.length:Int) > 65536)=false:=by simp;omega
   have l:∀u∈a.map bv,u.oneCell'=true:=by intro u hu;obtain⟨b,_,rfl⟩:=List.mem_map.1 hu;rfl
   have n:=tt l
   clear d hob l
   go_wp2_with (at_builtin;refine bk et rfl _ _ rfl w.heap.size _ _ _ rfl g _ _ a.length (a.map bv) rfl m n.out (by unfold maxLen;omega) (by omega) hz ?_;intro v' w3 h3 k hb3;obtain⟨A4,c4,rfl,_,_,_⟩:=ao h3;have HO:=tt h3;have HG:=tt ((((Fp.of_below HB.out (fun _=>False)).grown k fun j hj=>Or.inr (oP g j hj)).to_below (B:=w.heap.size) (tJ _) fun j _ h=>h.elim));clear h3 k hb3)
   go_ret2
   exact⟨_,bf _ f.out,by rw[f.out];simpa [tH,List.map_append] using HO.out,HG.out⟩
  ·have d:okE s a=false:=by unfold okE;rw[tA i,Bool.and_false]
   have f:=tt d
   have d1:decide (((Psp.aK s).length:Int)+(a.length:Int) > 65536)=true:=by simp;omega
   have q:a.length≤9223372036854775807:=by omega
   clear d hob
   go_wp2_with fail
   go_ret2
   exact⟨_,bf _ f.out,by rw[f.out];exact World.ownsRow_nil _ _ _ _,HB.out⟩
def kM (m:Psp.Msg):Key:=(m.f,Psp.bu m)
theorem gl {m:Psp.Msg} (h:Psp.okB m=true):(Psp.bu m).length≤65536:=by
 unfold Psp.okB at h
 rw[tI,decide_eq_true_eq] at h
 exact h.2
theorem rB {m:Psp.Msg} (hf:aE m.f) (h:Psp.okB m=true):KOk (kM m):=⟨hf,by have:=gl h;show (Psp.bu m).length≤maxLen;unfold maxLen;omega⟩
def sealK (K:List Key) (m:Psp.Msg):List Key:=if Psp.okB m then bi K (kM m) else K
def okS (K:List Key) (m:Psp.Msg):Bool:=Psp.okB m&&okE (aV K (kM m)) (Psp.bu m)
def pQ (K:List Key) (m:Psp.Msg) (g bm:Nat) (w:World) (e:Ending) (w':World):Prop:=
 ∃v,e= .returned (.tuple #[v,.bool (okS K m)])∧w'.ownsRow w.heap.size 5 1 v (res (Psp.aK (aV K (kM m))++Psp.bu m) (okS K m)).length ((res (Psp.aK (aV K (kM m))++Psp.bu m) (okS K m)).map bv)∧
  Nt w' g bm (sealK K m)∧Fp (fun b=>b=bm) w w'
theorem rP (m:Psp.Msg) (vb vo vc vp:Value) (g bm:Nat) (K:List Key) (w:World) (hx:MsgOk w (fun b=>b < w.heap.size) ⟨m,vb,vo,vc,vp⟩) (hf:aE m.f) (hN:Nt w g bm K) (hK:K.length < 1099511627776):
 Calls Tryz.prog 57 #[.agg #[.int .i64 m.k,.int .i64 m.f,.int .i64 m.v,.int .i64 m.i,.int .i64 m.q,.int .i64 m.r,vb,vo,vc,vp],.pointer (some ⟨g,0,none⟩)] w (pQ K m g bm w):=by
 have o0:vb.oneCell'=true:=RdP.one hx.1
 have o1:vo.oneCell'=true:=RdP.one hx.2.1
 have o2:vc.oneCell'=true:=hx.2.2.1.one
 have o3:vp.oneCell'=true:=hx.2.2.2.one
 obtain⟨w0,hw0⟩:∃w0,w.alloc (.cells #[.int .i64 m.k,.int .i64 m.f,.int .i64 m.v,.int .i64 m.i,.int .i64 m.q,.int .i64 m.r,vb,vo,vc,vp] 56)=w0:=⟨_,rfl⟩
 have hb0:=ae w (.cells #[.int .i64 m.k,.int .i64 m.f,.int .i64 m.v,.int .i64 m.i,.int .i64 m.q,.int .i64 m.r,vb,vo,vc,vp] 56)
 have a:=tL w (.cells #[.int .i64 m.k,.int .i64 m.f,.int .i64 m.v,.int .i64 m.i,.int .i64 m.q,.int .i64 m.r,vb,vo,vc,vp] 56)
 rw[hw0] at hb0 a
 have HX:=tt (hx.keeps (Keeps.on hb0))
 have HB:=tt hb0
 have HC:=tt a
 have HN:=tt (hN.below hb0)
 have hlt:=(tz a).1
 have D:=hN.lt
 have x0:w0.cell? ⟨w.heap.size,0,none⟩=some (.int .i64 m.k):=by rw[cell_of_row _ _ 0 _ _ _ a];rfl
 have x1:w0.cell? ⟨w.heap.size,1,none⟩=some (.int .i64 m.f):=by rw[cell_of_row _ _ 1 _ _ _ a];rfl
 have x2:w0.cell? ⟨w.heap.size,2,none⟩=some (.int .i64 m.v):=by rw[cell_of_row _ _ 2 _ _ _ a];rfl
 have x3:w0.cell? ⟨w.heap.size,3,none⟩=some (.int .i64 m.i):=by rw[cell_of_row _ _ 3 _ _ _ a];rfl
 have x4:w0.cell? ⟨w.heap.size,4,none⟩=some (.int .i64 m.q):=by rw[cell_of_row _ _ 4 _ _ _ a];rfl
 have x5:w0.cell? ⟨w.heap.size,5,none⟩=some (.int .i64 m.r):=by rw[cell_of_row _ _ 5 _ _ _ a];rfl
 have x6:w0.cell? ⟨w.heap.size,6,none⟩=some vb:=by rw[cell_of_row _ _ 6 _ _ _ a];rfl
 have x7:w0.cell? ⟨w.heap.size,7,none⟩=some vo:=by rw[cell_of_row _ _ 7 _ _ _ a];rfl
 have x8:w0.cell? ⟨w.heap.size,8,none⟩=some vc:=by rw[cell_of_row _ _ 8 _ _ _ a];rfl
 have x9:w0.cell? ⟨w.heap.size,9,none⟩=some vp:=by rw[cell_of_row _ _ 9 _ _ _ a];rfl
 have Hf:=tt hf
 clear hx hb0 a hN hf
 go_enter Tryz.func57,Tryz.ntmps57
 go_wp2_with fail
 clear hw0 x0 x1 x2 x3 x4 x5 x6 x7 x8 x9
 refine (sG m vb vo vc vp w0 HX.out).mono ?_
 intro e w1 h
 obtain⟨A,c,rfl,hp,hb⟩:=Bytes.rdb h rfl rfl
 have o:=tt (HN.out.below hb)
 have p:=tt (Below.then HB.out hb HB.out.size)
 have B:=tt ((hb.block _ hlt).trans HC.out)
 have hz:=hb.size
 have HP:=tt hp
 clear h hp hb HN HB HC
 cases d:Psp.okB m with
 |false=>
  have Hk:Hid (okS K m=false∧sealK K m=K):=tt ⟨by unfold okS;rw[d];rfl,by unfold sealK;rw[d];rfl⟩
  clear d HP
  go_wp2_with fail
  go_ret2
  exact⟨_,bf _ Hk.out.1,by rw[Hk.out.1];exact World.ownsRow_nil _ _ _ _,by rw[Hk.out.2];exact o.out,Fp.of_below p.out _⟩
 |true=>
  have hl:=gl d
  have n:=rB Hf.out d
  have Hk:Hid (okS K m=okE (aV K (kM m)) (Psp.bu m)∧sealK K m=bi K (kM m)):=tt ⟨by unfold okS;rw[d];rfl,by unfold sealK;rw[d];rfl⟩
  have x1:w1.cell? ⟨w.heap.size,1,none⟩=some (.int .i64 m.f):=by rw[cell_of_row _ _ 1 _ _ _ B.out];rfl
  rw[d,dt] at HP
  have s:=tt n
  clear d n
  rw[dt]
  go_wp2_with fail
  refine (jU g bm K m.f (Psp.bu m) _ w1 _ o.out s.out hK HP.out).mono ?_
  rintro e w2 ⟨rfl,hn2,j⟩
  have x:=tt hn2
  have z:=tt j
  have C:=j.size
  have t:=tt ((HP.out.fp j (fun b (hb:w0.heap.size≤b) he=>by omega)).mono (P':=fun b=>b < w2.heap.size) fun b hb _=>hb)
  clear hn2 j x1
  go_wp2_with fail
  refine (qM (aV K (m.f,Psp.bu m)) (Psp.bu m) _ w2 t.out (by omega)).mono ?_
  intro e w3 h
  obtain⟨A3,c3,rfl,l,hb3⟩:=h.open_
  have u:=tt (x.out.below hb3)
  have y:=tt (((Fp.of_below p.out (fun b=>b=bm)).trans z.out (fun k hk=>Or.inl hk)).below hb3)
  have HO:=tt (bA l (base':=w.heap.size) (by omega))
  clear h l hb3
  go_wp2_with fail
  go_ret2
  exact⟨_,bf _ Hk.out.1,by rw[Hk.out.1];exact HO.out,by rw[Hk.out.2];exact u.out,y.out⟩
theorem lu (l:List Psp.Part) (x:Value) (S:Nat→Prop) (g:Nat) (out:List UInt8) (bad:Bool) (w:World) (hW:Wr 131 w S g out bad) (hx:RdA w (fun b=>¬S b) x l) (hb:out.length+808065030≤1099511627776):
 Calls Tryz.prog 69 #[.pointer (some ⟨g,0,none⟩),x] w (WrOk 131 (Psp.bw Psp.cP l) (Psp.okL Psp.okP l) 808065030 S g out bad w):=by
 obtain⟨L,rfl,h1,h2⟩:=hx
 exact mZ L L.length x S g out bad w hW rfl h1 h2 hb
theorem lX (m:Psp.Msg) (vb vo vc vp:Value) (w:World) (hx:MsgOk w (fun b=>b < w.heap.size) ⟨m,vb,vo,vc,vp⟩):
 Calls Tryz.prog 41 #[.agg #[.int .i64 m.k,.int .i64 m.f,.int .i64 m.v,.int .i64 m.i,.int .i64 m.q,.int .i64 m.r,vb,vo,vc,vp]] w (Bytes (Psp.bu m) (Psp.okB m) w):=by
 have o0:vb.oneCell'=true:=RdP.one hx.1
 have o1:vo.oneCell'=true:=RdP.one hx.2.1
 have o2:vc.oneCell'=true:=hx.2.2.1.one
 have o3:vp.oneCell'=true:=hx.2.2.2.one
 obtain⟨w1,hw1⟩:∃w1,w1=(w.alloc (.cells #[.int .i64 m.k,.int .i64 m.f,.int .i64 m.v,.int .i64 m.i,.int .i64 m.q,.int .i64 m.r,vb,vo,vc,vp] 56)).alloc (.cells #[.slice none 0 0,.bool false] 131):=⟨_,rfl⟩
 have u:Wr 131 w1 (fun k=>k=w.heap.size+1) (w.heap.size+1) [] false:=by rw[hw1];exact Wr.new (w.alloc (.cells #[.int .i64 m.k,.int .i64 m.f,.int .i64 m.v,.int .i64 m.i,.int .i64 m.q,.int .i64 m.r,vb,vo,vc,vp] 56)) _ _ (by simp)
 have x:w1.heap[w.heap.size]? =some (.cells #[.int .i64 m.k,.int .i64 m.f,.int .i64 m.v,.int .i64 m.i,.int .i64 m.q,.int .i64 m.r,vb,vo,vc,vp] 56 (0,0)):=by rw[hw1,(ae _ _).block _ (by simp)];exact tL w _
 have n:Below w.heap.size w w1:=by rw[hw1];exact (ae w _).trans ((ae _ _).mono (by simp))
 have U:w.heap.size+1 < w1.heap.size:=by rw[hw1];simp
 have hx1:MsgOk w1 (fun b=>¬b=w.heap.size+1) ⟨m,vb,vo,vc,vp⟩:=hx.keeps ⟨n.size,fun b hb hlt=>⟨n.block b hlt,by omega⟩⟩
 have HX:=tt hx1
 have S:=tt n
 have a:=tt x
 have HS:=tt (WrS.start u)
 have B:=hw1
 clear hx hx1 n x u hw1
 go_enter Tryz.func41,Tryz.ntmps41
 go_upto_region 2 with fail
 rw[←B]
 clear B
 have y0:w.heap.size < w1.heap.size:=by omega
 have hb0:=(HS.out.fp.block w.heap.size y0 (by show ¬w.heap.size=w.heap.size+1;omega)).trans a.out
 have x0:w1.cell? ⟨w.heap.size,0,none⟩=some (.int .i64 m.k):=by rw[cell_of_row _ _ 0 _ _ _ hb0];rfl
 have L:=HS.out.wrote.islen
 clear hb0
 go_wp2_with fail
 refine (ba m.k _ (w.heap.size+1) [] false w1 HS.out.wr (by have:=L;simp only[tD] at this ⊢;omega)).mono ?_
 intro e v0 hc
 obtain⟨rfl,S0,p0,q0,h2⟩:=HS.out.step hc
 replace HS:=tt h2
 clear h2 hc x0 L
 have hb1:=(HS.out.fp.block w.heap.size y0 (by show ¬w.heap.size=w.heap.size+1;omega)).trans a.out
 have x1:v0.cell? ⟨w.heap.size,1,none⟩=some (.int .i64 m.f):=by rw[cell_of_row _ _ 1 _ _ _ hb1];rfl
 have K:=HS.out.wrote.islen
 clear hb1
 go_wp2_with fail
 refine (ba m.f _ (w.heap.size+1) p0 q0 v0 HS.out.wr (by have:=K;simp only[tD] at this ⊢;omega)).mono ?_
 intro e v1 hc
 obtain⟨rfl,S1,p1,q1,h2⟩:=HS.out.step hc
 replace HS:=tt h2
 clear h2 hc x1 K
 have hb2:=(HS.out.fp.block w.heap.size y0 (by show ¬w.heap.size=w.heap.size+1;omega)).trans a.out
 have x2:v1.cell? ⟨w.heap.size,2,none⟩=some (.int .i64 m.v):=by rw[cell_of_row _ _ 2 _ _ _ hb2];rfl
 have J:=HS.out.wrote.islen
 clear hb2
 go_wp2_with fail
 refine (ba m.v _ (w.heap.size+1) p1 q1 v1 HS.out.wr (by have:=J;simp only[tD] at this ⊢;omega)).mono ?_
 intro e v2 hc
 obtain⟨rfl,S2,p2,q2,h2⟩:=HS.out.step hc
 replace HS:=tt h2
 clear h2 hc x2 J
 have hb3:=(HS.out.fp.block w.heap.size y0 (by show ¬w.heap.size=w.heap.size+1;omega)).trans a.out
 have x3:v2.cell? ⟨w.heap.size,3,none⟩=some (.int .i64 m.i):=by rw[cell_of_row _ _ 3 _ _ _ hb3];rfl
 have I:=HS.out.wrote.islen
 clear hb3
 go_wp2_with fail
 refine (ba m.i _ (w.heap.size+1) p2 q2 v2 HS.out.wr (by have:=I;simp only[tD] at this ⊢;omega)).mono ?_
 intro e v3 hc
 obtain⟨rfl,S3,p3,q3,h2⟩:=HS.out.step hc
 replace HS:=tt h2
 clear h2 hc x3 I
 have hb4:=(HS.out.fp.block w.heap.size y0 (by show ¬w.heap.size=w.heap.size+1;omega)).trans a.out
 have x4:v3.cell? ⟨w.heap.size,4,none⟩=some (.int .i64 m.q):=by rw[cell_of_row _ _ 4 _ _ _ hb4];rfl
 have H:=HS.out.wrote.islen
 clear hb4
 go_wp2_with fail
 refine (ba m.q _ (w.heap.size+1) p3 q3 v3 HS.out.wr (by have:=H;simp only[tD] at this ⊢;omega)).mono ?_
 intro e v4 hc
 obtain⟨rfl,S4,p4,q4,h2⟩:=HS.out.step hc
 replace HS:=tt h2
 clear h2 hc x4 H
 have hb5:=(HS.out.fp.block w.heap.size y0 (by show ¬w.heap.size=w.heap.size+1;omega)).trans a.out
 have x5:v4.cell? ⟨w.heap.size,5,none⟩=some (.int .i64 m.r):=by rw[cell_of_row _ _ 5 _ _ _ hb5];rfl
 have G:=HS.out.wrote.islen
 clear hb5
 go_wp2_with fail
 refine (fP m.r _ (w.heap.size+1) p4 q4 v4 HS.out.wr (by have:=G;simp only[tD] at this ⊢;omega)).mono ?_
 intro e v5 hc
 obtain⟨rfl,S5,p5,q5,h2⟩:=HS.out.step hc
 replace HS:=tt h2
 clear h2 hc x5 G
 have P:=(HS.out.fp.block w.heap.size y0 (by show ¬w.heap.size=w.heap.size+1;omega)).trans a.out
 have x6:v5.cell? ⟨w.heap.size,6,none⟩=some (vb):=by rw[cell_of_row _ _ 6 _ _ _ P];rfl
 have F:=HS.out.wrote.islen
 clear P
 go_wp2_with fail
 refine (ju m.b m.b.length vb _ (w.heap.size+1) p5 q5 v5 HS.out.wr rfl (HX.out.keeps HS.out.keeps).1 (by have:=F;simp only[tD] at this ⊢;omega)).mono ?_
 intro e v6 hc
 obtain⟨rfl,S6,p6,q6,h2⟩:=HS.out.step hc
 replace HS:=tt h2
 clear h2 hc x6 F
 have O:=(HS.out.fp.block w.heap.size y0 (by show ¬w.heap.size=w.heap.size+1;omega)).trans a.out
 have x7:v6.cell? ⟨w.heap.size,7,none⟩=some (vo):=by rw[cell_of_row _ _ 7 _ _ _ O];rfl
 have E:=HS.out.wrote.islen
 clear O
 go_wp2_with fail
 refine (gA m.o m.o.length vo _ (w.heap.size+1) p6 q6 v6 HS.out.wr rfl (HX.out.keeps HS.out.keeps).2.1 (by have:=E;simp only[tD] at this ⊢;omega)).mono ?_
 intro e v7 hc
 obtain⟨rfl,S7,p7,q7,h2⟩:=HS.out.step hc
 replace HS:=tt h2
 clear h2 hc x7 E
 have N:=(HS.out.fp.block w.heap.size y0 (by show ¬w.heap.size=w.heap.size+1;omega)).trans a.out
 have x8:v7.cell? ⟨w.heap.size,8,none⟩=some (vc):=by rw[cell_of_row _ _ 8 _ _ _ N];rfl
 have D:=HS.out.wrote.islen
 clear N
 go_wp2_with fail
 refine (iA m.c vc _ (w.heap.size+1) p7 q7 v7 HS.out.wr (HX.out.keeps HS.out.keeps).2.2.1 (by have:=D;simp only[tD] at this ⊢;omega)).mono ?_
 intro e v8 hc
 obtain⟨rfl,S8,p8,q8,h2⟩:=HS.out.step hc
 replace HS:=tt h2
 clear h2 hc x8 D
 have M:=(HS.out.fp.block w.heap.size y0 (by show ¬w.heap.size=w.heap.size+1;omega)).trans a.out
 have x9:v8.cell? ⟨w.heap.size,9,none⟩=some (vp):=by rw[cell_of_row _ _ 9 _ _ _ M];rfl
 have C:=HS.out.wrote.islen
 clear M
 go_wp2_with fail
 refine (lu m.p vp _ (w.heap.size+1) p8 q8 v8 HS.out.wr (HX.out.keeps HS.out.keeps).2.2.2 (by have:=C;simp only[tD] at this ⊢;omega)).mono ?_
 intro e v9 hc
 obtain⟨rfl,S9,p9,q9,h2⟩:=HS.out.step hc
 replace HS:=tt h2
 clear h2 hc x9 C
 have hl:=HS.out.wrote.islen
 have z:Below w.heap.size w v9:=S.out.trans (HS.out.fp.to_below (by omega) fun k _ hk=>by omega)
 have s:∀k,S9 k→w.heap.size≤k:=fun k hk=>by
  rcases HS.out.sub k hk with h|h
  ·omega
  ·omega
 have hG:q9= !Psp.okM m:=by
  rw[HS.out.wrote.isbad]
  unfold Psp.okM
  simp only[Bool.false_or,Bool.true_and,Bool.and_assoc]
 have hE:q9=false→p9=Psp.bu m:=fun h=>by
  rw[HS.out.wrote.isout h]
  unfold Psp.bu
  simp only[List.nil_append,List.append_assoc]
 have HG:=tt hG
 have HE:=tt hE
 have l:=tt z
 have Q:=tt s
 have HW:=tt HS.out.wr
 clear hl z s hG hE HS S a HX
 cases q9 with
 |true=>
  have T:Psp.okM m=false:=by have:=HG.out;cases h:Psp.okM m with
   |false=>rfl
   |true=>rw[h] at this;cases this
  have d:Psp.okB m=false:=by unfold Psp.okB;rw[T];rfl
  have g:=tt d
  clear d
  go_wp2_with fail
  refine (iP S9 (w.heap.size+1) p9 v9 HW.out).mono ?_
  rintro en w3 ⟨rfl,rfl⟩
  go_wp2_with fail
  go_ret2
  exact⟨_,bf _ g.out,by rw[g.out];exact World.ownsRow_nil _ _ _ _,l.out⟩
 |false=>
  have he:=HE.out rfl
  subst he
  have hm:Psp.okM m=true:=by have:=HG.out;cases h:Psp.okM m with
   |true=>rfl
   |false=>rw[h] at this;cases this
  go_wp2_with fail
  refine (gU S9 (w.heap.size+1) (Psp.bu m) v9 HW.out).mono ?_
  rintro en w3 ⟨⟨v,rfl,t,hS⟩,rfl⟩
  have j:=eh t fun b hb=>Q.out b (hS b hb)
  obtain⟨A,c,rfl,W,V,_⟩:=ao j
  have R:=tt j
  clear t j hS
  by_cases y:(Psp.bu m).length≤65536
  ·have d:Psp.okB m=true:=by unfold Psp.okB;rw[hm,tB y];rfl
   have g:=tt d
   have d1:decide (((Psp.bu m).length:Int) > 65536)=false:=by simp;omega
   clear d hm HE HG
   go_wp2_with fail
   go_ret2
   exact⟨_,bf _ g.out,by rw[g.out];exact R.out,l.out⟩
  ·have d:Psp.okB m=false:=by unfold Psp.okB;rw[tA y,Bool.and_false]
   have g:=tt d
   have d1:decide (((Psp.bu m).length:Int) > 65536)=true:=by simp;omega
   clear d hm HE HG
   go_wp2_with fail
   go_ret2
   exact⟨_,bf _ g.out,by rw[g.out];exact World.ownsRow_nil _ _ _ _,l.out⟩
section
variable {P:Program} {ops:Array Oper} {md:Region.Mode} {C:World→Prop}
def lK (K:Act→World→Prop) (Q:Exit→Act→World→Prop):Exit→Act→World→Prop
 | .normal,a,w=>K a w
 | .panic c,a,w=>Q (.panic c) a w
 |x,a,w=>Q x a w
def fO (md:Region.Mode) (ops:Array Oper) (g:Nat):Nat→Nat→Array Bool→Bool
 |0,k,listed=>Region.lexFrom md ops g k listed
 |m+1,k,listed=>decide (Region.ready md ops listed=[k])&&fO md ops g m (k+1) (listed.setIfInBounds k true)
theorem jN {m g k:Nat} {listed:Array Bool} (hm:0 < m) (h:fO md ops g m k listed=true):∀j∈Region.ready md ops listed,k≤j:=by
 cases m with
 |zero=>omega
 |succ m=>
  intro j hj
  simp only[fO,tI,decide_eq_true_eq] at h
  rw[h.1] at hj
  have:j=k:=by simpa using hj
  omega
theorem nP {o:Oper} {a:Act} {w:World} {K K2:Act→World→Prop} {Q:Exit→Act→World→Prop} (h:o.wp P a w K (lK K2 Q)):o.wp P a w K Q:=by
 unfold Oper.wp at *
 generalize (execOp a.eval o).run P w=r at *
 cases r with
 |ok n w'=>
  cases n <;> simp only[Oper.upon] at h ⊢ <;>
   first
    |exact h
    |exact Calls.mono h (fun e w'' he=>by cases e <;> exact he)
 |halt x w'=>cases x <;> simp only[Oper.upon] at h ⊢ <;> exact h
theorem iV {g:Nat} {K:Act→World→Prop} {Q:Exit→Act→World→Prop}:∀(l:List Oper) (k:Nat) (listed:Array Bool) (a:Act) (w:World),(∀j,j < l.length→l[j]? =ops[k+j]?)→
 fO md ops g l.length k listed=true→(∀listed a w,Region.lexFrom md ops g (k+l.length) listed=true→K a w→wpAny P md ops Q g listed a w)→
 wpList P ops (lK K Q) l a w→wpAny P md ops Q (l.length+g) listed a w
 | [],k,listed,a,w,_,hB,hK,h=>by
   simp only[tD,Nat.zero_add,Nat.add_zero] at *
   exact hK _ _ _ (by simpa [fO] using hB) h
 |o :: l,k,listed,a,w,hl,hB,hK,h=>by
  have h0:ops[k]? =some o:=by simpa using (hl 0 (by simp)).symm
  simp only[tC,fO,tI,decide_eq_true_eq] at hB
  rw[tC,show l.length+1+g=(l.length+g)+1 by omega]
  refine⟨fun h1=>(by rw[hB.1] at h1;cases h1),fun i hi=>?_⟩
  rw[hB.1] at hi
  have c:i=k:=by simpa using hi
  subst c
  have hw:wpOp P ops Q i (wpList P ops (lK K Q) l) a w:=by
   unfold wpOp
   simp only[h0]
   unfold wpList at h
   split
   ·rename_i b
    rw[if_pos b] at h
    exact h.imp nP fun⟨h1,a',w',h2⟩=>⟨h1,a',w',h2⟩
   ·rename_i b
    rw[if_neg b] at h
    exact h
  exact wpOp_mono (fun a' w' h'=>iV l (i+1) _ a' w' (fun j hj=>by have:=hl (j+1) (by simp;omega);simpa [Nat.add_assoc,Nat.add_comm 1 j] using this) hB.2
   (fun l1 a1 w1 h1 h2=>hK l1 a1 w1 (by rw[tC,show i+(l.length+1)=i+1+l.length by omega];exact h1) h2) h') hw
end
section
variable {P:Program} {ops:Array Oper} {md:Region.Mode} {S:World→Prop}
def eJ (K:Act→World→Prop):Exit→Act→World→Prop
 | .normal,a,w=>K a w
 |_,_,_=>False
def noQ:Exit→Act→World→Prop:=fun _ _ _=>False
theorem rF {o:Oper} {a:Act} {w:World} {K:Act→World→Prop} {Q:Exit→Act→World→Prop} (h:o.wp P a w K noQ):o.wp P a w K Q:=by
 unfold Oper.wp at *
 generalize (execOp a.eval o).run P w=r at *
 cases r with
 |ok n w'=>
  cases n <;> simp only[Oper.upon] at h ⊢ <;>
   first
    |exact h
    |exact Calls.mono h (fun e w'' he=>by
      cases e with
      |returned v=>exact he
      |panicked c=>exact absurd he id
      |outgrown=>exact absurd he (by rintro⟨_,_,h⟩;exact h))
 |halt x w'=>cases x <;> simp only[Oper.upon] at h ⊢ <;> first|exact absurd h id|exact h
theorem eZ {o:Oper} {a:Act} {w:World} {K K2:Act→World→Prop} (h:o.wp P a w K (eJ K2)):o.wp P a w K noQ:=by
 unfold Oper.wp at *
 generalize (execOp a.eval o).run P w=r at *
 cases r with
 |ok n w'=>
  cases n <;> simp only[Oper.upon] at h ⊢ <;>
   first
    |exact h
    |exact Calls.mono h (fun e w'' he=>by
      cases e with
      |returned v=>exact he
      |panicked c=>exact absurd he id
      |outgrown=>exact absurd he (by rintro⟨_,_,h⟩;exact h))
 |halt x w'=>cases x <;> simp only[Oper.upon] at h ⊢ <;> first|exact absurd h id|exact h
theorem ic {i:Nat} {a:Act} {w:World} {K K':Act→World→Prop} {Q:Exit→Act→World→Prop} (hK:∀a w,K a w→K' a w) (h:wpOp P ops noQ i K a w):wpOp P ops Q i K' a w:=by
 refine wpOp_mono hK ?_
 unfold wpOp at *
 split
 ·rename_i ho;simp only[ho] at h;exact h
 ·rename_i o ho
  simp only[ho] at h
  split
  ·rename_i hw
   simp only[hw,if_true] at h
   rcases h with h|⟨_,_,_,h⟩
   ·exact .inl (rF h)
   ·exact absurd h id
  ·rename_i hw;simp only[hw] at h;exact h
def phAny (P:Program) (md:Region.Mode) (ops:Array Oper) (S:World→Prop) (fl:List Nat) (L:Array Bool→Act→World→Prop):Nat→Array Bool→Act→World→Prop
 |0,listed,a,w=>L listed a w
 |f+1,listed,a,w=>Region.ready md ops listed≠[]∧∀i∈Region.ready md ops listed,i∈fl∧wpOp P ops noQ i (fun a' w'=>S w'∧phAny P md ops S fl L f (listed.setIfInBounds i true) a' w') a w
theorem phAny.any {g:Nat} {fl:List Nat} {L:Array Bool→Act→World→Prop} {Q:Exit→Act→World→Prop} (hL:∀listed a w,L listed a w→wpAny P md ops Q g listed a w):
 ∀(f:Nat) (listed:Array Bool) (a:Act) (w:World),phAny P md ops S fl L f listed a w→wpAny P md ops Q (f+g) listed a w
 |0,listed,a,w,h=>by rw[Nat.zero_add];exact hL _ _ _ h
 |f+1,listed,a,w,h=>by
  rw[show f+1+g=(f+g)+1 by omega]
  exact⟨fun h0=>absurd h0 h.1,fun i hi=>ic (fun a' w' h'=>phAny.any hL f _ a' w' h'.2) (h.2 i hi).2⟩
def closedL (md:Region.Mode) (ops:Array Oper) (listed:Array Bool):Prop:=∀j oj,ops[j]? =some oj→listed.getD j false=true→∀e∈oj.after,Region.binds md e=true→listed.getD e.on false=true
theorem closedL.set {listed:Array Bool} {i:Nat} (h:closedL md ops listed) (hi:i∈Region.ready md ops listed):closedL md ops (listed.setIfInBounds i true):=by
 intro j oj hj hl e he hb
 obtain⟨_,oi,c,b⟩:=mem_ready.1 hi
 by_cases a:i=j
 ·subst a
  obtain rfl:=Option.some.inj (hj.symm.trans c)
  exact getD_set_true (b e he hb)
 ·rw[getD_set_ne false a] at hl
  exact getD_set_true (h j oj hj hl e he hb)
theorem closedL.start (n:Nat):closedL md ops (Array.replicate n false):=fun j oj _ hl=>by rw[getD_replicate_false] at hl;cases hl
def waitAcc (md:Region.Mode) (r:Nat):List Oper→Nat→List Nat→List Nat
 | [],_,acc=>acc
 |o :: t,j,acc=>waitAcc md r t (j+1) (if j==r||o.after.any (fun e=>Region.binds md e&&acc.contains e.on) then j :: acc else acc)
def jX (md:Region.Mode) (ops:Array Oper) (listed:Array Bool) (r k:Nat):Prop:=listed.getD k false=false∧(k=r∨k∉Region.ready md ops listed)
theorem waitAcc.not {listed:Array Bool} {r:Nat} (h:closedL md ops listed) (hr:listed.getD r false=false):∀(t:List Oper) (j:Nat) (acc:List Nat),(∀i,t[i]? =ops[j+i]?)→
 (∀k∈acc,jX md ops listed r k)→∀k∈waitAcc md r t j acc,jX md ops listed r k
 | [],_,_,_,hacc=>hacc
 |o :: t,j,acc,ht,hacc=>by
  refine waitAcc.not h hr t (j+1) _ (fun i=>by have:=ht (i+1);simpa [Nat.add_assoc,Nat.add_comm 1 i] using this) ?_
  split
  ·rename_i hc
   intro k hk
   rcases List.mem_cons.1 hk with hk|hk
   ·subst hk
    have a:ops[k]? =some o:=by simpa using (ht 0).symm
    rw[Bool.or_eq_true] at hc
    rcases hc with hc|hc
    ·have:k=r:=by simpa using hc
     subst this
     exact⟨hr,.inl rfl⟩
    ·obtain⟨e,he,hb⟩:=Array.any_eq_true'.1 hc
     rw[tI] at hb
     have h2:=(hacc e.on (by simpa using hb.2)).1
     refine⟨?_,.inr fun c=>?_⟩
     ·cases hl:listed.getD k false with
      |false=>rfl
      |true=>have:=h k o a hl e he hb.1;rw[h2] at this;cases this
     ·obtain⟨_,o',d,b⟩:=mem_ready.1 c
      obtain rfl:=Option.some.inj (d.symm.trans a)
      have:=b e he hb.1
      rw[h2] at this;cases this
   ·exact hacc k hk
  ·exact hacc
theorem phAny.first {i:Nat} {oi:Oper} {v:Value} {fl:List Nat} {L:Array Bool→Act→World→Prop} (hi:ops[i]? =some oi) (p:∀(j:Nat) (o:Oper) cs b,ops[j]? =some o→o.op≠.select cs b)
 (x:i∈fl) (hw:∀j,j < ops.size→j∉fl→j∈waitAcc md i ops.toList 0 [])
 (s:∀listed a w,L listed a w→∀j∈Region.ready md ops listed,j∉fl):
 ∀(f:Nat) (listed:Array Bool) (a:Act) (w:World),closedL md ops listed→
  (∀j oj,ops[j]? =some oj→j≠i→listed.getD j true=false→(∀e∈oj.after,Region.binds md e=true→e.on≠i)→oi.apart ops oj=true)→
  i∈Region.ready md ops listed→YieldsIf P ops S oi v a→S w→
  phAny P md ops S fl L f (listed.setIfInBounds i true) (a.put oi.dst v) w→phAny P md ops S fl L (f+1) listed a w:=by
 intro f
 induction f with
 |zero=>
  intro listed a w hcl _ hr hy hS H
  have d:=(mem_ready.1 hr).1
  refine⟨fun h=>(by rw[h] at hr;cases hr),fun j hj=>?_⟩
  have m:j∈fl:=by
   by_cases h:j∈fl
   ·exact h
   ·obtain⟨_,oj,g,r⟩:=mem_ready.1 hj
    rcases (waitAcc.not hcl (getD_both d) ops.toList 0 [] (by simp) (fun k hk=>by cases hk) j (hw j (tz g).1 h)).2 with h2|h2
    ·subst h2;exact x
    ·exact absurd hj h2
  refine⟨m,?_⟩
  by_cases c:j=i
  ·subst c;exact hy.wpOp hi hS ⟨hS,H⟩
  ·exact absurd m (s _ _ _ H j (ready_mono hj c))
 |succ f ih=>
  intro listed a w hcl l hr hy hS H
  have d:=(mem_ready.1 hr).1
  refine⟨fun h=>(by rw[h] at hr;cases hr),fun j hj=>?_⟩
  obtain⟨q,oj,g,r⟩:=mem_ready.1 hj
  have m:j∈fl:=by
   by_cases h:j∈fl
   ·exact h
   ·rcases (waitAcc.not hcl (getD_both d) ops.toList 0 [] (by simp) (fun k hk=>by cases hk) j (hw j (tz g).1 h)).2 with h2|h2
    ·subst h2;exact x
    ·exact absurd hj h2
  refine⟨m,?_⟩
  by_cases c:j=i
  ·subst c;exact hy.wpOp hi hS ⟨hS,H⟩
  ·have h1:=(H.2 j (ready_mono hj c)).2
   have t:∀e∈oj.after,Region.binds md e=true→e.on≠i:=fun e he hb z=>by
    have h1:=r e he hb
    rw[z,getD_both d] at h1
    cases h1
   have h2:=wpOp_putIf g (l j oj g c q t) (fun cs b=>p i oi cs b hi) (fun cs b=>p j oj cs b g) (fun _ _ _ h=>h) hy h1
   have n:∀k ok,ops[k]? =some ok→k≠i→(listed.setIfInBounds j true).getD k true=false→
    (∀e∈ok.after,Region.binds md e=true→e.on≠i)→oi.apart ops ok=true:=fun k ok hk y d hno=>by
    refine l k ok hk y ?_ hno
    by_cases u:j=k
    ·subst u;exact q
    ·rw[getD_set_ne true u] at d;exact d
   refine wpOp_mono (fun a' w' h3=>⟨h3.2.1,ih (listed.setIfInBounds j true) a' w' (hcl.set hj) n (ready_mono hr (Ne.symm c)) h3.1 h3.2.1 ?_⟩) h2
   rw[Array.setIfInBounds_comm _ _ c]
   exact h3.2.2
def jp (o:Oper):Bool:=match o.op with
 | .move _| .assign _| .pick _ _ _| .load _ _| .fieldAddr _ _ _| .field _ _ _| .indexAddr _ _ _| .index _ _ _| .binOp _ _ _ _ _| .unOp _ _ _| .extract _ _| .build _ _| .nilCheck _=>true
 | .call c=>(match c.callee with| .builtin .len=>true|_=>false)
 |_=>false
theorem kO {α:Type} {r:Result α} (g:α→Value):(∃v w',(r.andThen fun a w'=>Sem.run P (pure (Next.value (g a))) w')= .ok (.value v) w')∨∃x w',(r.andThen fun a w'=>Sem.run P (pure (Next.value (g a))) w')= .halt x w':=by
 cases r with
 |ok x w2=>exact .inl ⟨g x,w2,by rw[Result.andThen_ok,Sem.run_pure]⟩
 |halt x w2=>exact .inr ⟨x,w2,rfl⟩
theorem mc {α:Type} {r:Result α} {g:α→World→Result Next} (h:∀a w,(∃v w',g a w= .ok (.value v) w')∨∃x w',g a w= .halt x w'):(∃v w',r.andThen g= .ok (.value v) w')∨∃x w',r.andThen g= .halt x w':=by
 cases r with
 |ok x w2=>exact h x w2
 |halt x w2=>exact .inr ⟨x,w2,rfl⟩
theorem oY {o:Oper} {ρ:Operand→Value} {w:World} {x:Operand} (he:o.op= .nilCheck x):(∃v w',(execOp ρ o).run P w= .ok (.value v) w')∨∃x w',(execOp ρ o).run P w= .halt x w':=by
 unfold execOp
 rw[he]
 dsimp only
 split
 ·exact .inr ⟨_,_,rfl⟩
 ·exact .inr ⟨_,_,rfl⟩
 ·exact .inr ⟨_,_,rfl⟩
 ·split
  ·exact .inr ⟨_,_,rfl⟩
  ·simp only[Sem.run_bind]
   refine mc fun a w=>mc fun b w=>?_
   split
   ·simp only[Sem.run_bind]
    exact .inr ⟨_,_,rfl⟩
   ·exact .inl ⟨_,_,Sem.run_pure _ _ _⟩
  ·exact .inl ⟨_,_,Sem.run_pure _ _ _⟩
 ·exact .inl ⟨_,_,Sem.run_pure _ _ _⟩
theorem pd {o:Oper} {ρ:Operand→Value} {w:World} {c:Call} (he:o.op= .call c) (hc:c.callee= .builtin .len):(∃v w',(execOp ρ o).run P w= .ok (.value v) w')∨∃x w',(execOp ρ o).run P w= .halt x w':=by
 unfold execOp
 rw[he]
 dsimp only
 unfold resolve
 rw[hc]
 dsimp only
 simp only[Sem.run_bind,Sem.run_pure,Result.andThen_ok]
 unfold invoke
 dsimp only
 unfold builtin
 dsimp only
 simp only[Sem.run_bind]
 cases (Sem.run P (Builtin.len_ c.argTypes o.type (c.args.map ρ)) w) with
 |ok x w2=>exact .inl ⟨_,_,by rw[Result.andThen_ok,Sem.run_pure]⟩
 |halt x w2=>exact .inr ⟨x,w2,rfl⟩
theorem jo {o:Oper} {ρ:Operand→Value} {w:World} (ho:jp o=true):(∃v w',(execOp ρ o).run P w= .ok (.value v) w')∨∃x w',(execOp ρ o).run P w= .halt x w':=by
 unfold jp at ho
 split at ho
 all_goals first
  |(exfalso;cases ho;done)
  |skip
 all_goals
  rename_i he
  first
   |exact oY he
   |(split at ho
     ·rename_i hc;exact pd he hc
     ·cases ho)
   |skip
 all_goals
  rename_i he
  unfold execOp
  rw[he]
  first
   |exact .inl ⟨_,_,Sem.run_pure _ _ _⟩
   |exact .inl ⟨_,_,by rw[Sem.run_pure]⟩
   |(simp only[Sem.run_bind];exact kO fun a=>a)
   |(simp only[Sem.run_bind];exact kO fun a=>if a=true then _ else _)
theorem cB {i:Nat} {o:Oper} {a:Act} {K:Act→Prop} (ho:jp o=true) (h:wpQuiet P ops S K [o] a):∃v,YieldsIf P ops S o v a∧K (a.put o.dst v):=by
 unfold wpQuiet at h
 by_cases hw:Region.wanted o (yielded ops a.tmps)=true
 ·rw[if_pos hw] at h
  obtain⟨v,h1,h2⟩:=h
  by_cases hS:∃w,S w
  ·refine⟨v,.inl ⟨hw,fun w b=>?_⟩,h2⟩
   have h3:=h1 w b
   unfold Oper.quietAt at h3
   cases hr:(execOp a.eval o).run P w with
   |ok n w'=>
    rw[hr] at h3
    cases n <;> simp only[Oper.quietUpon] at h3
    case value u=>rw[h3.1,h3.2]
    case skip=>rcases jo (P:=P) (ρ:=a.eval) (w:=w) ho with⟨v',w'',h⟩|⟨x,w'',h⟩ <;> (rw[hr] at h;cases h)
    case enter f args=>rcases jo (P:=P) (ρ:=a.eval) (w:=w) ho with⟨v',w'',h⟩|⟨x,w'',h⟩ <;> (rw[hr] at h;cases h)
   |halt x w'=>rw[hr] at h3;simp only[Oper.quietUpon] at h3
  ·exact⟨v,.inl ⟨hw,fun w b=>absurd ⟨w,b⟩ hS⟩,h2⟩
 ·rw[if_neg hw] at h
  exact⟨undef,.inr ⟨by simpa using hw,rfl⟩,h⟩
def phW (P:Program) (l:List Oper) (W:World) (E:Act→World→Prop):List (Bool×Nat)→Act→World→Prop
 | [],a,w=>E a w
 |(true,i) :: t,a,w=>wpQuiet P l.toArray (fun w'=>∃p:Later W,w'=p.W) (fun a'=>phW P l W E t a' w) (l[i]?).toList a
 |(false,i) :: t,a,w=>wpList P l.toArray (eJ fun a' w'=>(∃p:Later W,w'=p.W)∧phW P l W E t a' w') (l[i]?).toList a w
def phB (md:Region.Mode) (l:List Oper) (fin:Array Bool→Bool):List (Bool×Nat)→Array Bool→Bool
 | [],listed=>fin listed
 |(true,i) :: t,listed=>(match l[i]? with|some o=>jp o|none=>false)&&(Region.ready md l.toArray listed).contains i&&Region.free md l.toArray listed i&&phB md l fin t (listed.setIfInBounds i true)
 |(false,i) :: t,listed=>decide (Region.ready md l.toArray listed=[i])&&phB md l fin t (listed.setIfInBounds i true)
def nU (md:Region.Mode) (ops:Array Oper) (sch:List (Bool×Nat)):Bool:=
 sch.all fun p=>!p.1||(let acc:=waitAcc md p.2 ops.toList 0 [];(List.range ops.size).all fun j=>(sch.map (·.2)).contains j||acc.contains j)
theorem phAny.walk {l:List Oper} {W:World} {E:Act→World→Prop} {fin:Array Bool→Bool} {fl:List Nat} (d:Region.noSelect l.toArray=true)
 (e:∀listed,fin listed=true→∀j∈Region.ready md l.toArray listed,j∉fl)
 :
 ∀(t:List (Bool×Nat)) (listed:Array Bool) (a:Act) (w:World),(∀p∈t,p.2∈fl∧(p.1=true→∀j,j < l.toArray.size→j∉fl→j∈waitAcc md p.2 l.toArray.toList 0 []))→closedL md l.toArray listed→
  phB md l fin t listed=true→(∃p:Later W,w=p.W)→phW P l W E t a w→
  phAny P md l.toArray (fun w'=>∃p:Later W,w'=p.W) fl (fun listed a w=>fin listed=true∧E a w) t.length listed a w
 | [],listed,a,w,_,_,hB,_,h=>⟨by simpa [phB] using hB,h⟩
 |(true,i) :: t,listed,a,w,hp,hcl,hB,hS,h=>by
  simp only[phB,tI] at hB
  obtain⟨⟨⟨ho,hr⟩,hf⟩,n⟩:=hB
  have b:i∈Region.ready md l.toArray listed:=by simpa using hr
  obtain⟨_,o,c,_⟩:=mem_ready.1 b
  have f:l[i]? =some o:=by simpa using c
  rw[f] at ho
  have h':wpQuiet P l.toArray (fun w'=>∃p:Later W,w'=p.W) (fun a'=>phW P l W E t a' w) [o] a:=by
   have:=h
   unfold phW at this
   rw[f] at this
   exact this
  obtain⟨v,hy,hK⟩:=cB (i:=i) (by simpa using ho) h'
  obtain⟨h1,h2⟩:=hp (true,i) List.mem_cons_self
  exact phAny.first c (Region.noSelect_spec d) h1 (h2 rfl) (fun listed a w hL=>e listed hL.1) _ _ _ _ hcl (Region.free_spec c hf) b hy hS
   (phAny.walk d e t _ _ _ (fun p k=>hp p (by simp[k])) (hcl.set b) n hS hK)
 |(false,i) :: t,listed,a,w,hp,hcl,hB,hS,h=>by
  simp only[phB,tI,decide_eq_true_eq] at hB
  refine⟨by rw[hB.1];simp,fun j hj=>?_⟩
  rw[hB.1] at hj
  have m:j=i:=by simpa using hj
  subst m
  refine⟨(hp (false,j) List.mem_cons_self).1,?_⟩
  have b:j∈Region.ready md l.toArray listed:=by rw[hB.1];simp
  obtain⟨_,o,c,_⟩:=mem_ready.1 b
  have f:l[j]? =some o:=by simpa using c
  have h':wpList P l.toArray (eJ fun a' w'=>(∃p:Later W,w'=p.W)∧phW P l W E t a' w') [o] a w:=by
   have:=h
   unfold phW at this
   rw[f] at this
   exact this
  have h2:wpOp P l.toArray noQ j (fun a' w'=>(∃p:Later W,w'=p.W)∧phW P l W E t a' w') a w:=by
   unfold wpOp
   simp only[c]
   unfold wpList at h'
   split
   ·rename_i g
    rw[if_pos g] at h'
    rcases h' with h'|⟨_,_,_,h'⟩
    ·exact .inl (eZ (Oper.wp_mono (fun a w h=>h) h'))
    ·exact absurd h' id
   ·rename_i g
    rw[if_neg g] at h'
    exact h'
  exact wpOp_mono (fun a' w' h3=>⟨h3.1,phAny.walk d e t _ _ _ (fun p k=>hp p (by simp[k])) (hcl.set b) hB.2 h3.1 h3.2⟩) h2
theorem gz {md:Region.Mode} {a:List (Bool×Nat)} {ops:Array Oper} (h:nU md ops a=true):
 ∀p∈a,p.2∈a.map (·.2)∧(p.1=true→∀j,j < ops.size→j∉a.map (·.2)→j∈waitAcc md p.2 ops.toList 0 []):=by
 intro p hp
 refine⟨List.mem_map_of_mem hp,fun b j c hj=>?_⟩
 have h1:=List.all_eq_true.1 h p hp
 rw[b,Bool.not_true,Bool.false_or] at h1
 have h2:=List.all_eq_true.1 h1 j (List.mem_range.2 c)
 rw[Bool.or_eq_true] at h2
 rcases h2 with h2|h2
 ·exact absurd (by simpa using h2) hj
 ·simpa using h2
def im (md:Region.Mode) (l:List Oper) (sch:List (Bool×Nat)) (listed:Array Bool):Bool:=
 Region.seqB md l.toArray (l.length - sch.length) sch.length listed&&(sch.map (·.2)).all fun j=>decide (j < sch.length)
def iz (md:Region.Mode) (l:List Oper) (sch:List (Bool×Nat)):Bool:=
 Region.noSelect l.toArray&&decide (sch.length≤l.length)&&nU md l.toArray sch&&phB md l (im md l sch) sch (Array.replicate l.length false)
theorem bX {id:Nat} {Q:Exit→Act→World→Prop} {a:Act} {w:World} {l:List Oper} (b:List (Bool×Nat)) (hm:P.follows .mixedOrders=true) (hB:iz .any l b=true)
 (h:phW P l w.drew (fun a' w'=>wpList P l.toArray Q (l.drop b.length) a' w') b a w.drew):(Code.region id l.toArray true).wp P Q a w:=by
 simp only[iz,tI,decide_eq_true_eq] at hB
 obtain⟨⟨⟨d,f⟩,hw⟩,hP⟩:=hB
 have H:=phAny.walk (md:=.any) (fin:=im .any l b) (fl:=b.map (·.2)) d (fun listed hf j hj=>by
  simp only[im,tI] at hf
  intro hm
  have h1:=seqB_ready hf.1 j hj
  have h2:=of_decide_eq_true (List.all_eq_true.1 hf.2 j hm)
  omega) b _ a w.drew (gz hw) (closedL.start _) hP ⟨⟨w.drew,Below.refl _ _⟩,rfl⟩ h
 refine wp_region_any hm ?_
 have c:l.toArray.size=l.length:=by simp
 have:=phAny.any (Q:=Q) (g:=l.length - b.length) (fun listed a' w' hL=>by
  have h1:=hL.1
  simp only[im,tI] at h1
  have e:(l.drop b.length).length=l.length - b.length:=by simp
  have:=wpAny_of_seq (md:=.any) (Q':=Q) (l.drop b.length) b.length listed a' w' (fun j=>by simp[List.getElem?_drop]) (by rw[e];exact h1.1) hL.2
  rwa [e] at this) _ _ _ _ H
 rw[show b.length+(l.length - b.length)=l.toArray.size by rw[c];omega,←c] at this
 exact this
def lM (md:Region.Mode) (l:List Oper) (sch:List (Bool×Nat)) (m:Nat) (listed:Array Bool):Bool:=
 fO md l.toArray (l.length - (sch.length+m)) m sch.length listed&&(sch.map (·.2)).all fun j=>decide (j < sch.length)
def oO (md:Region.Mode) (l:List Oper) (sch:List (Bool×Nat)) (m:Nat):Bool:=
 Region.noSelect l.toArray&&decide (0 < m∧sch.length+m≤l.length)&&nU md l.toArray sch&&phB md l (lM md l sch m) sch (Array.replicate l.length false)
theorem aw {id:Nat} {Q:Exit→Act→World→Prop} {a:Act} {w:World} {l:List Oper} (b:List (Bool×Nat)) (m:Nat) (hm:P.follows .mixedOrders=true) (hB:oO .any l b m=true)
 (h:phW P l w.drew (fun a1 w1=>wpList P l.toArray (lK (fun a2 w2=>wpQuiet P l.toArray (fun w'=>∃p:Later w2,w'=p.W) (fun a3=>∀w3,(∃p:Later w2,w3=p.W)→Q .normal a3 w3) (l.drop (b.length+m)) a2) Q) ((l.drop b.length).take m) a1 w1) b a w.drew):
 (Code.region id l.toArray true).wp P Q a w:=by
 simp only[oO,tI,decide_eq_true_eq] at hB
 obtain⟨⟨⟨d,i,k⟩,hw⟩,hP⟩:=hB
 have H:=phAny.walk (md:=.any) (fin:=lM .any l b m) (fl:=b.map (·.2)) d (fun listed hf j hj=>by
  simp only[lM,tI] at hf
  intro hm
  have h1:=jN i hf.1 j hj
  have h2:=of_decide_eq_true (List.all_eq_true.1 hf.2 j hm)
  omega) b _ a w.drew (gz hw) (closedL.start _) hP ⟨⟨w.drew,Below.refl _ _⟩,rfl⟩ h
 refine wp_region_any hm ?_
 have e:l.toArray.size=l.length:=by simp
 have c:((l.drop b.length).take m).length=m:=by simp;omega
 have f:(l.drop (b.length+m)).length=l.length - (b.length+m):=by simp
 have:=phAny.any (Q:=Q) (g:=m+(l.length - (b.length+m))) (fun listed a' w' hL=>by
  have h1:=hL.1
  simp only[lM,tI] at h1
  have:=iV (md:=.any) (ops:=l.toArray) (g:=l.length - (b.length+m)) (Q:=Q) ((l.drop b.length).take m) b.length listed a' w' (fun j hj=>by
   rw[c] at hj
   simp[List.getElem?_take,List.getElem?_drop,hj]) (by rw[c];exact h1.1)
   (fun l1 a1 w1 h1 h2=>by
     rw[c] at h1
     have h3:=wpAnyQ_lex (C:=fun w'=>∃p:Later w1,w'=p.W) (md:=.any) d (l.drop (b.length+m)) (b.length+m) l1 a1 (fun j=>by simp[List.getElem?_drop]) (by rw[f];exact h1) h2
     rw[f] at h3
     exact wpAny_of_quiet (Q:=fun a3=>∀w3,(∃p:Later w1,w3=p.W)→Q .normal a3 w3) (fun _ w3 hw3 h=>h w3 hw3) _ _ _ _ ⟨⟨w1,Below.refl _ _⟩,rfl⟩ h3)
   hL.2
  rwa [c] at this) _ _ _ _ H
 rw[show b.length+(m+(l.length - (b.length+m)))=l.toArray.size by rw[e];omega,←e] at this
 exact this
end
end Go.Proofs.YtipmjleohadoeaaGreat
end
