import Derived.WalkKit
import Derived.Below
import Derived.Laws.OwnMore
import Derived.Deep.AppendLies
import Derived.Deep.Draws
import Derived.Maps.AppendAt
import Derived.Lib.Hide
import Derived.Test.YtipmjleohadoeaaGreatProg
import Derived.WalkSpells
set_option maxRecDepth 100000
set_option maxHeartbeats 16000000
set_option linter.unusedVariables false
set_option linter.unusedSimpArgs false
namespace Go.Proofs.YtipmjleohadoeaaGreat
open Go.RowKit
theorem tt {p:Prop} (h:p):Hid p:=h
theorem tu {α:Type} {a:α} {l:List α}:(a :: l)[0]? =some a:=List.getElem?_cons_zero
theorem tx {α:Type} {a:α} {i:Nat} {l:List α}:(a :: l)[i+1]? =l[i]?:=List.getElem?_cons_succ
theorem tz {α:Type} {xs:Array α} {i:Nat} {b:α} (h:xs[i]? =some b):∃h:i < xs.size,xs[i]=b:=Array.getElem?_eq_some_iff.1 h
theorem tA {p:Prop} [Decidable p] (h:¬p):decide p=false:=decide_eq_false h
theorem tB {p:Prop} [Decidable p] (h:p):decide p=true:=decide_eq_true h
theorem tC {α:Type} {a:α} {l:List α}:(a :: l).length=l.length+1:=List.length_cons
theorem tD {α:Type}:([]:List α).length=0:=List.length_nil
theorem tE {α:Type} {a:α} {l:List α} {i:Nat}:(a :: l).drop (i+1)=l.drop i:=List.drop_succ_cons
theorem tF {α:Type} (a:α) (l:List α) (h:0 < (a :: l).length):(a :: l)[0]=a:=List.getElem_cons_zero a l h
theorem tG {α:Type} (a:α) (l:List α) (i:Nat) (h:i+1 < (a :: l).length):(a :: l)[i+1]=l[i]'(Nat.lt_of_succ_lt_succ h):=List.getElem_cons_succ a l i h
theorem tH {α:Type} {a b:List α}:(a++b).length=a.length+b.length:=List.length_append
theorem tI (a b:Bool):((a&&b)=true)=(a=true∧b=true):=Bool.and_eq_true a b
theorem tJ (a:Nat):a≤a:=Nat.le_refl a
theorem tK {α:Type} {l:List α} {i:Nat} (h:i < l.length):l[i]? =some l[i]:=List.getElem?_eq_getElem h
theorem tL (w:World) (o:Obj):(w.alloc o).heap[w.heap.size]? =some o:=heap_alloc_new w o
end Go.Proofs.YtipmjleohadoeaaGreat
namespace Psp
theorem tu {α:Type} {a:α} {l:List α}:(a :: l)[0]? =some a:=List.getElem?_cons_zero
theorem tx {α:Type} {a:α} {i:Nat} {l:List α}:(a :: l)[i+1]? =l[i]?:=List.getElem?_cons_succ
theorem tz {α:Type} {xs:Array α} {i:Nat} {b:α} (h:xs[i]? =some b):∃h:i < xs.size,xs[i]=b:=Array.getElem?_eq_some_iff.1 h
theorem tA {p:Prop} [Decidable p] (h:¬p):decide p=false:=decide_eq_false h
theorem tB {p:Prop} [Decidable p] (h:p):decide p=true:=decide_eq_true h
theorem tC {α:Type} {a:α} {l:List α}:(a :: l).length=l.length+1:=List.length_cons
theorem tD {α:Type}:([]:List α).length=0:=List.length_nil
theorem tE {α:Type} {a:α} {l:List α} {i:Nat}:(a :: l).drop (i+1)=l.drop i:=List.drop_succ_cons
theorem tF {α:Type} (a:α) (l:List α) (h:0 < (a :: l).length):(a :: l)[0]=a:=List.getElem_cons_zero a l h
theorem tG {α:Type} (a:α) (l:List α) (i:Nat) (h:i+1 < (a :: l).length):(a :: l)[i+1]=l[i]'(Nat.lt_of_succ_lt_succ h):=List.getElem_cons_succ a l i h
theorem tH {α:Type} {a b:List α}:(a++b).length=a.length+b.length:=List.length_append
theorem tI (a b:Bool):((a&&b)=true)=(a=true∧b=true):=Bool.and_eq_true a b
theorem tJ (a:Nat):a≤a:=Nat.le_refl a
theorem tK {α:Type} {l:List α} {i:Nat} (h:i < l.length):l[i]? =some l[i]:=List.getElem?_eq_getElem h
end Psp
section
namespace Psp
def num (n:Nat):List UInt8:=if n < 128 then [UInt8.ofNat n] else UInt8.ofNat (n % 128+128) :: num (n / 128)
termination_by n
decreasing_by omega
def dk:(f:Nat)→(l:List UInt8)→(n m:Nat)→Option (Nat×Nat)
 |0,_,_,_=>none
 |_+1,[],_,_=>none
 |f+1,c :: r,n,m=>
  if 128≤c.toNat then dk f r (n+c.toNat % 128 * 128 ^ m) (m+1)
  else if (c.toNat=0∧1≤m)∨1099511627776≤n+c.toNat % 128 * 128 ^ m then none
  else some (n+c.toNat % 128 * 128 ^ m,m+1)
def take (l:List UInt8):Option (Nat×Nat):=dk 6 l 0 0
theorem dp {n:Nat} (h:n < 128):num n=[UInt8.ofNat n]:=by rw[num,if_pos h]
theorem eQ {n:Nat} (h:¬n < 128):num n=UInt8.ofNat (n % 128+128) :: num (n / 128):=by rw[num,if_neg h]
theorem rY (n:Nat):num n≠[]:=by
 by_cases h:n < 128
 ·rw[dp h];simp
 ·rw[eQ h];simp
theorem fy (n:Nat):1≤(num n).length:=by
 have:=rY n
 cases h:num n with
 |nil=>exact absurd h this
 |cons=>simp
theorem eI {n:Nat} (h:n < 256):(UInt8.ofNat n).toNat=n:=by
 rw[UInt8.toNat_ofNat'];exact Nat.mod_eq_of_lt (by omega)
theorem me:∀(k n:Nat),n < 128 ^ (k+1)→(num n).length≤k+1
 |0,n,h=>by
  have h':n < 128:=by simpa using h
  rw[dp h'];simp
 |k+1,n,h=>by
  by_cases hs:n < 128
  ·rw[dp hs];simp
  ·rw[eQ hs]
   have hp:n < 128 * 128 ^ (k+1):=by rw[Nat.pow_succ,Nat.mul_comm] at h;exact h
   have:=me k (n / 128) (by omega)
   simp only[tC];omega
theorem fc {n:Nat} (h:n < 1099511627776):(num n).length≤6:=
 me 5 n (by
  have:(128:Nat) ^ (5+1)=4398046511104:=by decide
  omega)
theorem kx (m v:Nat):(v % 128+128 * (v / 128)) * 128 ^ m=v % 128 * 128 ^ m+v / 128 * 128 ^ (m+1):=by
 rw[Nat.add_mul,Nat.pow_succ]
 congr 1
 rw[Nat.mul_comm 128,Nat.mul_assoc,Nat.mul_comm 128]
theorem jf (r:List UInt8):∀(f v n m:Nat),(num v).length≤f→(v=0→m=0)→n+v * 128 ^ m < 1099511627776→
 dk f (num v++r) n m=some (n+v * 128 ^ m,m+(num v).length)
 |0,v,_,_,h,_,_=>by have:=fy v;omega
 |f+1,v,n,m,h,hz,hlt=>by
  by_cases hs:v < 128
  ·rw[dp hs] at h ⊢
   have hv:(UInt8.ofNat v).toNat=v:=eI (by omega)
   have hm:v % 128=v:=Nat.mod_eq_of_lt hs
   simp only[List.cons_append,List.nil_append,dk,hv,hm,List.length_singleton]
   rw[if_neg (by omega),if_neg (by omega)]
  ·rw[eQ hs] at h ⊢
   have hv:(UInt8.ofNat (v % 128+128)).toNat=v % 128+128:=eI (by omega)
   have hm:(v % 128+128) % 128=v % 128:=by omega
   have hd:v % 128+128 * (v / 128)=v:=by omega
   have hp:=kx m v
   rw[hd] at hp
   simp only[tC] at h
   simp only[List.cons_append,dk,hv,hm]
   rw[if_pos (by omega),jf r f (v / 128) (n+v % 128 * 128 ^ m) (m+1) (by omega) (by omega) (by omega)]
   simp only[tC,Option.some.injEq,Prod.mk.injEq]
   omega
theorem nX (r:List UInt8) {n:Nat} (h:n < 1099511627776):take (num n++r)=some (n,(num n).length):=by
 have:=jf r 6 n 0 0 (fc h) (fun _=>rfl) (by simpa using h)
 simpa [take] using this
theorem il:∀(f:Nat) (l:List UInt8) (n m v k:Nat),dk f l n m=some (v,k)→
 v < 1099511627776∧∃x r,v=n+x * 128 ^ m∧k=m+(num x).length∧l=num x++r∧(x=0→m=0)
 |0,_,_,_,_,_,h=>by simp[dk] at h
 |f+1,[],_,_,_,_,h=>by simp[dk] at h
 |f+1,c :: r,n,m,v,k,h=>by
  have hc:c.toNat < 256:=c.toNat_lt
  simp only[dk] at h
  by_cases hb:128≤c.toNat
  ·rw[if_pos hb] at h
   obtain⟨hv,x,s,e1,e2,e3,e4⟩:=il f r _ _ v k h
   have hx:x≠0:=fun hx=>by have:=e4 hx;omega
   refine⟨hv,c.toNat % 128+128 * x,s,?_,?_,?_,by omega⟩
   ·have hp:=kx m (c.toNat % 128+128 * x)
    have h1:(c.toNat % 128+128 * x) % 128=c.toNat % 128:=by omega
    have h2:(c.toNat % 128+128 * x) / 128=x:=by omega
    rw[h1,h2] at hp
    rw[hp,e1];omega
   ·rw[eQ (by omega),tC]
    have h2:(c.toNat % 128+128 * x) / 128=x:=by omega
    rw[h2,e2];omega
   ·rw[eQ (by omega)]
    have h1:(c.toNat % 128+128 * x) % 128+128=c.toNat:=by omega
    have h2:(c.toNat % 128+128 * x) / 128=x:=by omega
    rw[h1,h2,List.cons_append,←e3,UInt8.ofNat_toNat]
  ·rw[if_neg hb] at h
   split at h
   ·cases h
   ·rename_i hn
    simp only[Option.some.injEq,Prod.mk.injEq] at h
    obtain⟨rfl,rfl⟩:=h
    have hm:c.toNat % 128=c.toNat:=by omega
    rw[hm] at hn ⊢
    refine⟨by omega,c.toNat,r,rfl,?_,?_,by omega⟩
    ·rw[dp (by omega)];simp
    ·rw[dp (by omega),UInt8.ofNat_toNat];rfl
theorem take_some {l:List UInt8} {v k:Nat} (h:take l=some (v,k)):v < 1099511627776∧k=(num v).length∧∃r,l=num v++r:=by
 obtain⟨hv,x,r,e1,e2,e3,_⟩:=il 6 l 0 0 v k h
 obtain rfl:v=x:=by simpa using e1
 exact⟨hv,by omega,r,e3⟩
theorem kV {l:List UInt8} {v k:Nat} (h:take l=some (v,k)):v < 1099511627776∧1≤k∧k≤l.length:=by
 obtain⟨hv,rfl,r,rfl⟩:=take_some h
 exact⟨hv,fy v,by simp⟩
theorem kW {f:Nat} {n m:Nat}:dk f [] n m=none:=by cases f <;> rfl
theorem kX {f:Nat} {c:UInt8} {r:List UInt8} {n m:Nat} (h:128≤c.toNat):dk (f+1) (c :: r) n m=dk f r (n+c.toNat % 128 * 128 ^ m) (m+1):=by
 simp only[dk];rw[if_pos h]
theorem mO {f:Nat} {c:UInt8} {r:List UInt8} {n m:Nat} (h:¬128≤c.toNat) (hb:(c.toNat=0∧1≤m)∨1099511627776≤n+c.toNat % 128 * 128 ^ m):dk (f+1) (c :: r) n m=none:=by
 simp only[dk];rw[if_neg h,if_pos hb]
theorem kY {f:Nat} {c:UInt8} {r:List UInt8} {n m:Nat} (h:¬128≤c.toNat) (hb:¬ ((c.toNat=0∧1≤m)∨1099511627776≤n+c.toNat % 128 * 128 ^ m)):
 dk (f+1) (c :: r) n m=some (n+c.toNat % 128 * 128 ^ m,m+1):=by
 simp only[dk];rw[if_neg h,if_neg hb]
theorem jB {l:List UInt8} {i:Nat} (h:i < l.length):l.drop i=l.getD i 0 :: l.drop (i+1):=by
 rw[List.drop_eq_getElem_cons h]
 simp[List.getD_eq_getElem?_getD,tK h]
theorem jS {k n d:Nat} (h:n < 128 ^ k) (hd:d < 128):n+d * 128 ^ k < 128 ^ (k+1):=by
 rw[Nat.pow_succ,Nat.mul_comm (128 ^ k) 128]
 have:d * 128 ^ k≤127 * 128 ^ k:=Nat.mul_le_mul_right _ (by omega)
 omega
theorem fw {k:Nat} (h:k≤6):128 ^ k≤4398046511104:=by
 have:(128:Nat) ^ k≤128 ^ 6:=Nat.pow_le_pow_right (by omega) h
 have e:(128:Nat) ^ 6=4398046511104:=by decide
 omega
def bS (v n:Int):Int:=if n < 1 then 0 else v % n
theorem gn (v n:Int):0≤bS v n:=by
 unfold bS
 split
 ·omega
 ·exact Int.emod_nonneg _ (by omega)
theorem gq (v n:Int) (h:1≤n):bS v n < n:=by
 unfold bS
 rw[if_neg (by omega)]
 exact Int.emod_lt_of_pos _ (by omega)
def may (f:Int):Bool:=decide (1≤f)&&decide (f≤4)
def aO (f:Int):Int:=if 1≤f∧f≤4 then 3 * f+1 else 0
def bU (f:Int):Int:=if 1≤f∧f≤4 then 2 * f+1 else 0
def dE (f:Int):Int:=if 1≤f∧f≤4 then f+1 else 0
def aP (f view inst:Int):Int:=
 if 1≤f∧f≤4∧0≤view∧view≤12∧0≤inst∧inst≤f then (view+inst) % (3 * f+1) else -1
theorem cd (f:Int):0≤aO f∧aO f≤13:=by unfold aO;split <;> omega
theorem fu (f:Int):0≤bU f∧bU f≤9:=by unfold bU;split <;> omega
def zig (n:Int):Int:=if n < -549755813888∨549755813888≤n then 0 else if n < 0 then -2 * n - 1 else 2 * n
def zag (n:Int):Int:=if n < 0∨1099511627776≤n then 0 else if n % 2=1 then -((n+1) / 2) else n / 2
theorem jF (n:Int):0≤zig n∧zig n < 1099511627776:=by unfold zig;split <;> (try split) <;> omega
theorem nO (n:Int): -549755813888≤zag n∧zag n < 549755813888:=by unfold zag;split <;> (try split) <;> omega
theorem pT {n:Int} (h0: -549755813888≤n) (h:n < 549755813888):zag (zig n)=n:=by
 unfold zig
 rw[if_neg (by omega)]
 split <;> unfold zag <;> rw[if_neg (by omega)] <;> split <;> omega
theorem pR {n:Int} (h0:0≤n) (h:n < 1099511627776):zig (zag n)=n:=by
 unfold zag
 rw[if_neg (by omega)]
 split <;> unfold zig <;> rw[if_neg (by omega)] <;> split <;> omega
end Psp
end
section
namespace Go.Proofs.YtipmjleohadoeaaGreat
open Go.RowKit
theorem aH {k:IntKind} {a b:Int} (h:a=b):Ending.returned (.int k a)= .returned (.int k b):=by rw[h]
theorem eg {a b:Bool} (h:a=b):Ending.returned (.bool a)= .returned (.bool b):=by rw[h]
def bv (c:UInt8):Value:=.int .u8 (c.toNat:Int)
def iv (n:Int):Value:=.int .i64 n
def Lies (w:World) (b o:Nat) (xs:List Value):Prop:=∀j u,xs[j]? =some u→w.cell? ⟨b,o+j,none⟩=some u
def Rd (w:World) (B k:Nat) (v:Value) (n:Nat) (xs:List Value):Prop:=
 xs.length=n * k∧∃A c,v= .slice A n c∧n≤c∧c≤maxLen∧(0 < n→∃b o,A=some ⟨b,o,none⟩∧b < B∧Lies w b o xs)
theorem Lies.nil (w:World) (b o:Nat):Lies w b o []:=by intro j u h;simp at h
theorem Lies.at_ {w:World} {b o:Nat} {xs:List Value} (h:Lies w b o xs) {j:Nat} (hj:j < xs.length):w.cell? ⟨b,o+j,none⟩=some xs[j]:=
 h j _ (tK hj)
theorem Lies.keep {w w':World} {b o:Nat} {xs:List Value} (h:Lies w b o xs) (hk:w'.heap[b]? =w.heap[b]?):Lies w' b o xs:=
 fun j u hu=>(World.cell?_of_block (w:=w) (a:=⟨b,o+j,none⟩) hk).trans (h j u hu)
theorem Lies.drop {w:World} {b o:Nat} {xs:List Value} (h:Lies w b o xs) (k:Nat):Lies w b (o+k) (xs.drop k):=by
 intro j u hu
 rw[List.getElem?_drop] at hu
 rw[Nat.add_assoc]
 exact h _ u hu
theorem Lies.take {w:World} {b o:Nat} {xs:List Value} (h:Lies w b o xs) (k:Nat):Lies w b o (xs.take k):=by
 intro j u hu
 rw[List.getElem?_take] at hu
 split at hu
 ·exact h _ u hu
 ·cases hu
section
variable {w w':World} {B B' k n:Nat} {v:Value} {xs:List Value}
theorem Rd.len (h:Rd w B k v n xs):xs.length=n * k:=h.1
theorem Rd.none_:Rd w B k (.slice none 0 0) 0 []:=⟨by simp,none,0,rfl,tJ _,Nat.zero_le _,fun h=>absurd h (by omega)⟩
theorem Rd.bd (h:Rd w B k v n xs):n≤9223372036854775807:=by
 obtain⟨_,A,c,_,h1,h2,_⟩:=h
 unfold maxLen at h2;omega
theorem Rd.keep (h:Rd w B k v n xs) (hk:∀b,b < B→w'.heap[b]? =w.heap[b]?):Rd w' B k v n xs:=by
 obtain⟨h1,A,c,h2,h3,h4,h5⟩:=h
 refine⟨h1,A,c,h2,h3,h4,fun hn=>?_⟩
 obtain⟨b,o,e,hb,hl⟩:=h5 hn
 exact⟨b,o,e,hb,hl.keep (hk b hb)⟩
theorem Rd.below (h:Rd w B k v n xs) (hb:Below B w w'):Rd w' B k v n xs:=h.keep hb.block
theorem Rd.more (h:Rd w B k v n xs) (hB:B≤B'):Rd w B' k v n xs:=by
 obtain⟨h1,A,c,h2,h3,h4,h5⟩:=h
 refine⟨h1,A,c,h2,h3,h4,fun hn=>?_⟩
 obtain⟨b,o,e,hb,hl⟩:=h5 hn
 exact⟨b,o,e,by omega,hl⟩
theorem Rd.of_own {base:Nat} {e:TypeId} (h:w.ownsRow base e k v n xs):Rd w w.heap.size k v n xs:=by
 refine⟨h.1,?_⟩
 rcases h.2 with⟨rfl,rfl⟩|⟨g,cap,a,rfl,hb,hg,hc,hm,hs,ht⟩
 ·exact⟨none,0,rfl,tJ _,Nat.zero_le _,fun hn=>absurd hn (by omega)⟩
 ·refine⟨_,cap,rfl,hc,hm,fun hn=>⟨g,0,rfl,(tz hg).1,fun j u hu=>?_⟩⟩
  have hj:j < n * k:=by
   have:=(List.getElem?_eq_some_iff.1 hu).1
   rw[h.1] at this;exact this
  rw[Nat.zero_add,cell_of_row w g j a e (0,0) hg]
  rw[←ht,List.getElem?_take,if_pos hj] at hu
  simpa using hu
end
theorem ak {B:Nat} {a w:World} (h:Below B a w) (n:Nat):Below B a (w.drewN n):=⟨h.os,h.tape,h.output,h.size,h.block⟩
structure Elem (P:Program) (t e:TypeId) (size bytes:Nat):Prop where
 under:P.underlying t=some (.slice e)
 info:(P.info? e).map (fun i=>(i.zero.map (·.cells.size),i.size,i.bytes))=some (some size,size,bytes)
 pos:0 < size
theorem Elem.parts {P:Program} {t e:TypeId} {size bytes:Nat} (E:Elem P t e size bytes):
 ∃i z,P.info? e=some i∧i.zero=some z∧i.size=size∧i.bytes=bytes∧z.cells.size=size:=by
 have h:=E.info
 cases hi:P.info? e with
 |none=>rw[hi] at h;simp at h
 |some i=>
  rw[hi] at h
  simp only[Option.map_some,Option.some.injEq,Prod.mk.injEq] at h
  obtain⟨h1,h2,h3⟩:=h
  cases hz:i.zero with
  |none=>rw[hz] at h1;simp at h1
  |some z=>rw[hz] at h1;exact⟨i,z,rfl,hz,h2,h3,by simpa using h1⟩
section
variable {P:Program} {t e:TypeId} {size bytes:Nat}
theorem qc (E:Elem P t e size bytes) (w:World) (base:Nat) (ty:TypeId) (v:Value) (n:Nat) (xs:List Value) (d:w.ownsRow base e size v n xs)
 (B:Nat) (y:Value) (m:Nat) (a:List Value) (hr:Rd w B size y m a) (h1:∀u∈a,u.oneCell'=true)
 (s:n+m≤maxLen) (l:(n+m) * bytes≤140737488355328) (p:base≤w.heap.size):
 ∃v' w',(Builtin.append_ #[t,t] ty #[v,y]).run P w= .ok v' w'∧w'.ownsRow base e size v' (n+m) (xs++a)∧w.grownBy w' v.ownBlock∧
  (v'.ownBlock=v.ownBlock∨v'.ownBlock=some w.heap.size):=by
 obtain⟨i,z,hi,hz,hs,hb,q⟩:=E.parts
 have ht:=E.under
 obtain⟨hl,A,c,rfl,hc,hm,f⟩:=hr
 cases A with
 |none=>
  have r:m=0:=by
   rcases Nat.eq_zero_or_pos m with h|h
   ·exact h
   ·obtain⟨_,_,h',_⟩:=f h
    cases h'
  subst r
  have hn:a=[]:=List.eq_nil_of_length_eq_zero (by simpa using hl)
  subst hn
  refine⟨v,w,?_,by simpa using d,World.grownBy.refl w _,.inl rfl⟩
  rcases d.2 with⟨rfl,rfl⟩|⟨g,cap,x,rfl,_,_,hnc,_⟩
  ·simp[Builtin.append_,run_underlying ht,sizeOf,typeInfo,hi,Builtin.lenOf,Builtin.firstCells]
  ·simp[Builtin.append_,run_underlying ht,sizeOf,typeInfo,hi,Builtin.lenOf,Builtin.firstCells,hnc,storeCells]
 |some ad=>
  have k:∀j u,a[j]? =some u→w.cell? (ad.add j)=some u:=by
   intro j u hu
   rcases Nat.eq_zero_or_pos m with h0|h0
   ·subst h0
    have hn:a=[]:=List.eq_nil_of_length_eq_zero (by simpa using hl)
    subst hn
    simp at hu
   ·obtain⟨b,o,h,_,hcl⟩:=f h0
    injection h with h
    subst h
    have:=hcl j u hu
    unfold Addr.add
    split
    ·rename_i hj;subst hj;simpa using this
    ·exact this
  obtain⟨v',w',h2,h3,h4,_,h5⟩:=run_append_own_at (P:=P) w base t ty e i z size bytes ht hi hz hs hb q E.pos v n xs d ad m c a hl k h1 s l p
  exact⟨v',w',h2,h3,h4,h5⟩
theorem rG (E:Elem P t e size bytes) {w:World} {o:Oper} {a:Act} {K:Act→World→Prop} {Q:Exit→Act→World→Prop} (s x:Operand)
 (ho:o.op= .call {callee:=.builtin .append,args:=#[s,x],argTypes:=#[t,t]})
 (base:Nat) (v:Value) (n:Nat) (xs:List Value) (hs:a.eval s=v) (g:w.ownsRow base e size v n xs)
 (B:Nat) (y:Value) (m:Nat) (b:List Value) (hx:a.eval x=y) (hr:Rd w B size y m b) (h1:∀u∈b,u.oneCell'=true)
 (i:n+m≤maxLen) (c:(n+m) * bytes≤140737488355328) (d:base≤w.heap.size)
 (h:∀v' w',w'.ownsRow base e size v' (n+m) (xs++b)→w.grownBy w' v.ownBlock→(v'.ownBlock=v.ownBlock∨v'.ownBlock=some w.heap.size)→K (a.put o.dst v') w'):o.wp P a w K Q:=by
 obtain⟨v',w',f,h2,h3,h4⟩:=qc (P:=P) E w base o.type v n xs g B y m b hr h1 i c d
 unfold Oper.wp execOp
 simp only[ho,resolve,invoke,builtin,Sem.run_bind,Sem.run_pure,Result.andThen_ok,List.map_toArray,List.map_cons,List.map_nil,hs,hx,f]
 exact h v' w' h2 h3 h4
theorem bk (E:Elem P t e size bytes) {w:World} {ops:Array Oper} {rest:List Oper} {o:Oper} {a:Act} {Q:Exit→Act→World→Prop} (g:o.guard=none) (s x:Operand)
 (ho:o.op= .call {callee:=.builtin .append,args:=#[s,x],argTypes:=#[t,t]})
 (base:Nat) (v:Value) (n:Nat) (xs:List Value) (hs:a.eval s=v) (f:w.ownsRow base e size v n xs)
 (B:Nat) (y:Value) (m:Nat) (b:List Value) (hx:a.eval x=y) (hr:Rd w B size y m b) (h1:∀u∈b,u.oneCell'=true)
 (i:n+m≤maxLen) (c:(n+m) * bytes≤140737488355328) (d:base≤w.heap.size)
 (h:∀v' w',w'.ownsRow base e size v' (n+m) (xs++b)→w.grownBy w' v.ownBlock→(v'.ownBlock=v.ownBlock∨v'.ownBlock=some w.heap.size)→wpList P ops Q rest (a.put o.dst v') w'):
 wpList P ops Q (o :: rest) a w:=
 wpList_plain g fun _ hK=>rG E s x ho base v n xs hs f B y m b hx hr h1 i c d fun v' w' h2 h3 h4=>hK _ _ (h v' w' h2 h3 h4)
theorem Rd.lit (w:World) (cs:Array Value) (e k:Nat) (hk:cs.size=k):Rd (w.alloc (.cells cs e)) (w.heap.size+1) k (.slice (some ⟨w.heap.size,0,none⟩) 1 1) 1 cs.toList:=by
 refine⟨by simpa using hk,_,1,rfl,tJ _,by simp[maxLen],fun _=>⟨w.heap.size,0,rfl,by omega,fun j u hu=>?_⟩⟩
 rw[Nat.zero_add,cell_of_row _ w.heap.size j cs e (0,0) (tL w _)]
 simpa using hu
theorem aW (E:Elem P t e size bytes) {w:World} {ops:Array Oper} {rest:List Oper} {o:Oper} {a:Act} {Q:Exit→Act→World→Prop} (f:o.guard=none) (s x:Operand)
 (ho:o.op= .call {callee:=.builtin .append,args:=#[s,x],argTypes:=#[t,t]})
 (base:Nat) (v:Value) (n:Nat) (xs:List Value) (hs:a.eval s=v) (c:w.ownsRow base e size v n xs)
 (cs:Array Value) (hx:a.eval x= .slice (some ⟨w.heap.size,0,none⟩) 1 1) (g:cs.size=size) (h1:∀u∈cs.toList,u.oneCell'=true)
 (hn:n≤2147483648) (b:bytes≤65535) (d:base≤w.heap.size)
 (h:∀v' w',w'.ownsRow base e size v' (n+1) (xs++cs.toList)→w.grownBy w' v.ownBlock→Below base w w'→(v'.ownBlock=v.ownBlock∨v'.ownBlock=some (w.heap.size+1))→wpList P ops Q rest (a.put o.dst v') w'):
 wpList P ops Q (o :: rest) a (w.alloc (.cells cs e)):=by
 have hb:(n+1) * bytes≤140737488355328:=by
  have h1:(n+1) * bytes≤2147483649 * 65535:=Nat.mul_le_mul (by omega) b
  omega
 refine bk E f s x ho base v n xs hs (c.alloc _) (w.heap.size+1) _ 1 cs.toList hx (Rd.lit w cs e size g) h1 (by unfold maxLen;omega) hb (by simp;omega) ?_
 intro v' w' h2 h3 h4
 have h5:w.grownBy w' v.ownBlock:=(World.grownBy_alloc w _ _).trans h3
 refine h v' w' h2 h5 ?_ (by simpa using h4)
 exact (Below.refl base w).grown h5 d (fun k hk=>(c.lt k hk).1)
end
def hop (J:Nat→Act→World→Prop) (Q:Exit→Act→World→Prop):Exit→Act→World→Prop
 | .goto l,a,w=>J l a w
 |e,a,w=>Q e a w
section
variable {J:Nat→Act→World→Prop} {Q:Exit→Act→World→Prop} {a:Act} {w:World}
@[go_sem] theorem hop_normal:hop J Q .normal a w=Q .normal a w:=rfl
@[go_sem] theorem hop_exit (i:Nat):hop J Q (.exit i) a w=Q (.exit i) a w:=rfl
@[go_sem] theorem hop_ret:hop J Q .ret a w=Q .ret a w:=rfl
@[go_sem] theorem hop_panic (c:List PanicEntry):hop J Q (.panic c) a w=Q (.panic c) a w:=rfl
@[go_sem] theorem hop_goto (l:Nat):hop J Q (.goto l) a w=J l a w:=rfl
theorem fE {P:Program} {c:Code} (J:Nat→Act→World→Prop) (μ:Nat→Act→World→Nat)
 (first:c.wp P (hop J Q) a w)
 (i:∀l a w,J l a w→∃rest,findLabel c l=some (.seq .skip rest)∧rest.wp P (hop (fun l' a' w'=>J l' a' w'∧μ l' a' w' < μ l a w) Q) a w):(Code.scope c).wp P Q a w:=by
 intro b k cs
 have m:∀n l a w,μ l a w=n→J l a w→∃rest e a' w',findLabel c l=some rest∧Q e a' w'∧Arrives P (lone (b.at a (.code rest :: .inScope c :: k)) cs w) b k cs e a' w':=by
  intro n
  induction n using Nat.strongRecOn with
  |_ n ih=>
   intro l a w hn hJ
   obtain⟨rest,hf,hw⟩:=i l a w hJ
   obtain⟨e,a₁,w₁,hq,h⟩:=hw b (.inScope c :: k) cs
   have d:Arrives P (lone (b.at a (.code (.seq .skip rest) :: .inScope c :: k)) cs w) b (.inScope c :: k) cs e a₁ w₁:=.of_steps (.head step_seq (.one step_skip)) h
   refine⟨.seq .skip rest,?_⟩
   cases e with
   |normal=>exact⟨.normal,a₁,w₁,hf,hq,Steps.trans d (.one step_inScope)⟩
   |exit id=>exact⟨.exit id,a₁,w₁,hf,hq,fun k' hk=>d k' (by simp[exitTo,hk])⟩
   |goto l'=>
    obtain⟨p,hlt⟩:=hq
    obtain⟨j,e₂,a₂,w₂,o,g,f⟩:=ih _ (by omega) l' a₁ w₁ rfl p
    exact⟨e₂,a₂,w₂,hf,g,.of_steps (d _ (by simp[gotoIn,o])) f⟩
   |ret=>exact⟨_,a₁,w₁,hf,hq,d⟩
   |panic ch=>exact⟨_,a₁,w₁,hf,hq,d⟩
   |outgrown=>exact⟨_,a₁,w₁,hf,hq,d⟩
 obtain⟨e,a₁,w₁,hq,d⟩:=first b (.inScope c :: k) cs
 cases e with
 |normal=>exact⟨.normal,a₁,w₁,hq,.head step_scope (Steps.trans d (.one step_inScope))⟩
 |exit id=>exact⟨.exit id,a₁,w₁,hq,fun k' hk=>.head step_scope (d k' (by simp[exitTo,hk]))⟩
 |goto l'=>
  obtain⟨rest,e₂,a₂,w₂,hf,g,f⟩:=m _ l' a₁ w₁ rfl hq
  exact⟨e₂,a₂,w₂,g,.of_steps (.head step_scope (d _ (by simp[gotoIn,hf]))) f⟩
 |ret=>exact⟨_,a₁,w₁,hq,.of_steps (.one step_scope) d⟩
 |panic ch=>exact⟨_,a₁,w₁,hq,.of_steps (.one step_scope) d⟩
 |outgrown=>exact⟨_,a₁,w₁,hq,.of_steps (.one step_scope) d⟩
theorem ce {P:Program} {c:Code} (J:Nat→Act→World→Prop) (μ:Nat→Act→World→Nat)
 (d:∀l a w,J l a w→∃rest,findLabel c l=some (.seq .skip rest)∧rest.wp P (hop (fun l' a' w'=>J l' a' w'∧μ l' a' w' < μ l a w) Q) a w)
 (first:(∀l a w,J l a w→∀rest,findLabel c l=some (.seq .skip rest)→rest.wp P (hop J Q) a w)→c.wp P (hop J Q) a w):(Code.scope c).wp P Q a w:=by
 refine fE J μ (first ?_) d
 intro l a w hJ rest hr
 obtain⟨f,b,hw⟩:=d l a w hJ
 rw[hr] at b
 injection b with b
 injection b with _ b
 subst b
 refine Code.wp_mono ?_ hw
 intro e a' w' hq
 cases e with
 |goto l'=>exact hq.1
 |normal=>exact hq
 |exit id=>exact hq
 |ret=>exact hq
 |panic ch=>exact hq
 |outgrown=>exact hq
end
theorem kS (v n:Int) (w:World) (f: -9223372036854775808≤v) (d:v≤9223372036854775807) (g: -9223372036854775808≤n) (hn2:n≤9223372036854775807):
 Calls Tryz.prog 8 #[.int .i64 v,.int .i64 n] w fun e w'=>e= .returned (.int .i64 (Psp.bS v n))∧w=w':=by
 by_cases h1:n < 1
 ·go_enter Tryz.func8,Tryz.ntmps8
  go_wp2
  go_ret
  exact⟨by simp[Psp.bS,h1],rfl⟩
 ·have i:v.tmod n < n:=Int.tmod_lt_of_pos v (by omega)
  have he:v.tmod n=if 0≤v∨v % n=0 then v % n else v % n - n:=by
   rw[Int.tmod_eq_emod]
   split
   ·rename_i h
    rw[if_pos (by rcases h with h|h;exact .inl h;exact .inr (Int.emod_eq_zero_of_dvd h))];omega
   ·rename_i h
    rw[if_neg (by intro hh;apply h;rcases hh with hh|hh;exact .inl hh;exact .inr (Int.dvd_of_emod_eq_zero hh))]
    rw[Int.natAbs_of_nonneg (by omega)]
  have c:=Int.emod_nonneg v (b:=n) (by omega)
  have a:=Int.emod_lt_of_pos v (b:=n) (by omega)
  have j: -n < v.tmod n:=by
   rw[he]
   split <;> omega
  by_cases h2:v.tmod n < 0
  ·have hf:v.tmod n+n=Psp.bS v n:=by
    unfold Psp.bS
    rw[if_neg h1]
    rw[he] at h2 ⊢
    split at h2
    ·omega
    ·rename_i h;rw[if_neg h];omega
   have Hf:=tt hf
   clear hf he c a
   go_enter Tryz.func8,Tryz.ntmps8
   go_wp2
   go_ret
   exact⟨aH Hf.out,rfl⟩
  ·have hf:v.tmod n=Psp.bS v n:=by
    unfold Psp.bS
    rw[if_neg h1]
    rw[he] at h2 ⊢
    split
    ·rfl
    ·rename_i h;rw[if_neg h] at h2;omega
   have Hf:=tt hf
   clear hf he c a
   go_enter Tryz.func8,Tryz.ntmps8
   go_wp2
   go_ret
   exact⟨aH Hf.out,rfl⟩
theorem jY (f:Int) (w:World):Calls Tryz.prog 63 #[.int .i64 f] w fun e w'=>e= .returned (.bool (Psp.may f))∧w=w':=by
 by_cases h1:1≤f <;> by_cases h2:f≤4 <;>
 (have H:=tt (show Psp.may f=Psp.may f from rfl)
  clear H
  go_enter Tryz.func63,Tryz.ntmps63
  go_wp2
  go_ret
  exact⟨eg (by simp[Psp.may];omega),rfl⟩)
theorem bg (f:Int) (w:World):Calls Tryz.prog 58 #[.int .i64 f] w fun e w'=>e= .returned (.int .i64 (Psp.aO f))∧w=w':=by
 by_cases h1:1≤f
 ·by_cases h2:f≤4
  ·have H:=tt (show 3 * f+1=Psp.aO f by rw[Psp.aO,if_pos ⟨h1,h2⟩])
   go_enter Tryz.func58,Tryz.ntmps58
   go_wp2
   go_ret
   exact⟨aH H.out,rfl⟩
  ·have H:=tt (show 0=Psp.aO f by rw[Psp.aO,if_neg (by omega)])
   go_enter Tryz.func58,Tryz.ntmps58
   go_wp2
   go_ret
   exact⟨aH H.out,rfl⟩
 ·have H:=tt (show 0=Psp.aO f by rw[Psp.aO,if_neg (by omega)])
  go_enter Tryz.func58,Tryz.ntmps58
  go_wp2
  go_ret
  exact⟨aH H.out,rfl⟩
theorem dT (f:Int) (w:World):Calls Tryz.prog 126 #[.int .i64 f] w fun e w'=>e= .returned (.int .i64 (Psp.bU f))∧w=w':=by
 by_cases h1:1≤f
 ·by_cases h2:f≤4
  ·have H:=tt (show 2 * f+1=Psp.bU f by rw[Psp.bU,if_pos ⟨h1,h2⟩])
   go_enter Tryz.func126,Tryz.ntmps126
   go_wp2
   go_ret
   exact⟨aH H.out,rfl⟩
  ·have H:=tt (show 0=Psp.bU f by rw[Psp.bU,if_neg (by omega)])
   go_enter Tryz.func126,Tryz.ntmps126
   go_wp2
   go_ret
   exact⟨aH H.out,rfl⟩
 ·have H:=tt (show 0=Psp.bU f by rw[Psp.bU,if_neg (by omega)])
  go_enter Tryz.func126,Tryz.ntmps126
  go_wp2
  go_ret
  exact⟨aH H.out,rfl⟩
theorem iU (f:Int) (w:World):Calls Tryz.prog 40 #[.int .i64 f] w fun e w'=>e= .returned (.int .i64 (Psp.dE f))∧w=w':=by
 by_cases h1:1≤f
 ·by_cases h2:f≤4
  ·have H:=tt (show f+1=Psp.dE f by rw[Psp.dE,if_pos ⟨h1,h2⟩])
   go_enter Tryz.func40,Tryz.ntmps40
   go_wp2
   go_ret
   exact⟨aH H.out,rfl⟩
  ·have H:=tt (show 0=Psp.dE f by rw[Psp.dE,if_neg (by omega)])
   go_enter Tryz.func40,Tryz.ntmps40
   go_wp2
   go_ret
   exact⟨aH H.out,rfl⟩
 ·have H:=tt (show 0=Psp.dE f by rw[Psp.dE,if_neg (by omega)])
  go_enter Tryz.func40,Tryz.ntmps40
  go_wp2
  go_ret
  exact⟨aH H.out,rfl⟩
theorem aM (f:Int) (w:World):Calls Tryz.prog 13 #[.int .i64 f] w fun e w'=>e= .returned (.int .i64 (Psp.aO f))∧w=w':=by
 by_cases h1:1≤f
 ·by_cases h2:f≤4
  ·have H:=tt (show 3 * f+1=Psp.aO f by rw[Psp.aO,if_pos ⟨h1,h2⟩])
   go_enter Tryz.func13,Tryz.ntmps13
   go_wp2
   go_ret
   exact⟨aH H.out,rfl⟩
  ·have H:=tt (show 0=Psp.aO f by rw[Psp.aO,if_neg (by omega)])
   go_enter Tryz.func13,Tryz.ntmps13
   go_wp2
   go_ret
   exact⟨aH H.out,rfl⟩
 ·have H:=tt (show 0=Psp.aO f by rw[Psp.aO,if_neg (by omega)])
  go_enter Tryz.func13,Tryz.ntmps13
  go_wp2
  go_ret
  exact⟨aH H.out,rfl⟩
theorem dK (f:Int) (w:World):Calls Tryz.prog 162 #[.int .i64 f] w fun e w'=>e= .returned (.int .i64 (Psp.bU f))∧w=w':=by
 by_cases h1:1≤f
 ·by_cases h2:f≤4
  ·have H:=tt (show 2 * f+1=Psp.bU f by rw[Psp.bU,if_pos ⟨h1,h2⟩])
   go_enter Tryz.func162,Tryz.ntmps162
   go_wp2
   go_ret
   exact⟨aH H.out,rfl⟩
  ·have H:=tt (show 0=Psp.bU f by rw[Psp.bU,if_neg (by omega)])
   go_enter Tryz.func162,Tryz.ntmps162
   go_wp2
   go_ret
   exact⟨aH H.out,rfl⟩
 ·have H:=tt (show 0=Psp.bU f by rw[Psp.bU,if_neg (by omega)])
  go_enter Tryz.func162,Tryz.ntmps162
  go_wp2
  go_ret
  exact⟨aH H.out,rfl⟩
theorem iw (f:Int) (w:World):Calls Tryz.prog 78 #[.int .i64 f] w fun e w'=>e= .returned (.int .i64 (Psp.dE f))∧w=w':=by
 by_cases h1:1≤f
 ·by_cases h2:f≤4
  ·have H:=tt (show f+1=Psp.dE f by rw[Psp.dE,if_pos ⟨h1,h2⟩])
   go_enter Tryz.func78,Tryz.ntmps78
   go_wp2
   go_ret
   exact⟨aH H.out,rfl⟩
  ·have H:=tt (show 0=Psp.dE f by rw[Psp.dE,if_neg (by omega)])
   go_enter Tryz.func78,Tryz.ntmps78
   go_wp2
   go_ret
   exact⟨aH H.out,rfl⟩
 ·have H:=tt (show 0=Psp.dE f by rw[Psp.dE,if_neg (by omega)])
  go_enter Tryz.func78,Tryz.ntmps78
  go_wp2
  go_ret
  exact⟨aH H.out,rfl⟩
theorem fL (f view a:Int) (w:World) (c: -9223372036854775808≤view) (b:view≤9223372036854775807) (g: -9223372036854775808≤a) (d:a≤9223372036854775807):
 Calls Tryz.prog 92 #[.int .i64 f,.int .i64 view,.int .i64 a] w fun e w'=>e= .returned (.int .i64 (Psp.aP f view a))∧w=w':=by
 by_cases h1:1≤f
 ·by_cases h2:f≤4
  ·by_cases h3:0≤view
   ·by_cases h4:view≤12
    ·by_cases h5:0≤a
     ·by_cases h6:a≤f
      ·have H:=tt (show (view+a) % (3 * f+1)=Psp.aP f view a by rw[Psp.aP,if_pos ⟨h1,h2,h3,h4,h5,h6⟩])
       have hz:(3 * f+1==0)=false:=by rw[beq_eq_false_iff_ne];omega
       go_enter Tryz.func92,Tryz.ntmps92
       go_wp2
       go_ret
       exact⟨aH H.out,rfl⟩
      ·have H:=tt (show -1=Psp.aP f view a by rw[Psp.aP,if_neg (by omega)])
       go_enter Tryz.func92,Tryz.ntmps92
       go_wp2
       go_ret
       exact⟨aH H.out,rfl⟩
     ·have H:=tt (show -1=Psp.aP f view a by rw[Psp.aP,if_neg (by omega)])
      go_enter Tryz.func92,Tryz.ntmps92
      go_wp2
      go_ret
      exact⟨aH H.out,rfl⟩
    ·have H:=tt (show -1=Psp.aP f view a by rw[Psp.aP,if_neg (by omega)])
     go_enter Tryz.func92,Tryz.ntmps92
     go_wp2
     go_ret
     exact⟨aH H.out,rfl⟩
   ·have H:=tt (show -1=Psp.aP f view a by rw[Psp.aP,if_neg (by omega)])
    go_enter Tryz.func92,Tryz.ntmps92
    go_wp2
    go_ret
    exact⟨aH H.out,rfl⟩
  ·have H:=tt (show -1=Psp.aP f view a by rw[Psp.aP,if_neg (by omega)])
   go_enter Tryz.func92,Tryz.ntmps92
   go_wp2
   go_ret
   exact⟨aH H.out,rfl⟩
 ·have H:=tt (show -1=Psp.aP f view a by rw[Psp.aP,if_neg (by omega)])
  go_enter Tryz.func92,Tryz.ntmps92
  go_wp2
  go_ret
  exact⟨aH H.out,rfl⟩
theorem fI (f view a:Int) (w:World) (c: -9223372036854775808≤view) (b:view≤9223372036854775807) (g: -9223372036854775808≤a) (d:a≤9223372036854775807):
 Calls Tryz.prog 136 #[.int .i64 f,.int .i64 view,.int .i64 a] w fun e w'=>e= .returned (.int .i64 (Psp.aP f view a))∧w=w':=by
 by_cases h1:1≤f
 ·by_cases h2:f≤4
  ·by_cases h3:0≤view
   ·by_cases h4:view≤12
    ·by_cases h5:0≤a
     ·by_cases h6:a≤f
      ·have H:=tt (show (view+a) % (3 * f+1)=Psp.aP f view a by rw[Psp.aP,if_pos ⟨h1,h2,h3,h4,h5,h6⟩])
       have hz:(3 * f+1==0)=false:=by rw[beq_eq_false_iff_ne];omega
       go_enter Tryz.func136,Tryz.ntmps136
       go_wp2
       go_ret
       exact⟨aH H.out,rfl⟩
      ·have H:=tt (show -1=Psp.aP f view a by rw[Psp.aP,if_neg (by omega)])
       go_enter Tryz.func136,Tryz.ntmps136
       go_wp2
       go_ret
       exact⟨aH H.out,rfl⟩
     ·have H:=tt (show -1=Psp.aP f view a by rw[Psp.aP,if_neg (by omega)])
      go_enter Tryz.func136,Tryz.ntmps136
      go_wp2
      go_ret
      exact⟨aH H.out,rfl⟩
    ·have H:=tt (show -1=Psp.aP f view a by rw[Psp.aP,if_neg (by omega)])
     go_enter Tryz.func136,Tryz.ntmps136
     go_wp2
     go_ret
     exact⟨aH H.out,rfl⟩
   ·have H:=tt (show -1=Psp.aP f view a by rw[Psp.aP,if_neg (by omega)])
    go_enter Tryz.func136,Tryz.ntmps136
    go_wp2
    go_ret
    exact⟨aH H.out,rfl⟩
  ·have H:=tt (show -1=Psp.aP f view a by rw[Psp.aP,if_neg (by omega)])
   go_enter Tryz.func136,Tryz.ntmps136
   go_wp2
   go_ret
   exact⟨aH H.out,rfl⟩
 ·have H:=tt (show -1=Psp.aP f view a by rw[Psp.aP,if_neg (by omega)])
  go_enter Tryz.func136,Tryz.ntmps136
  go_wp2
  go_ret
  exact⟨aH H.out,rfl⟩
theorem pS (n:Int) (w:World) (h1: -9223372036854775808≤n) (h2:n≤9223372036854775807):
 Calls Tryz.prog 142 #[.int .i64 n] w fun e w'=>e= .returned (.int .i64 (Psp.zig n))∧w=w':=by
 by_cases h3:n < -549755813888
 ·have H:=tt (show 0=Psp.zig n by rw[Psp.zig,if_pos (by omega)])
  go_enter Tryz.func142,Tryz.ntmps142
  go_wp2
  go_ret
  exact⟨aH H.out,rfl⟩
 ·by_cases h4:549755813888≤n
  ·have H:=tt (show 0=Psp.zig n by rw[Psp.zig,if_pos (by omega)])
   go_enter Tryz.func142,Tryz.ntmps142
   go_wp2
   go_ret
   exact⟨aH H.out,rfl⟩
  ·by_cases h5:n < 0
   ·have H:=tt (show -2 * n - 1=Psp.zig n by rw[Psp.zig,if_neg (by omega),if_pos h5])
    go_enter Tryz.func142,Tryz.ntmps142
    go_wp2
    go_ret
    exact⟨aH H.out,rfl⟩
   ·have H:=tt (show 2 * n=Psp.zig n by rw[Psp.zig,if_neg (by omega),if_neg h5])
    go_enter Tryz.func142,Tryz.ntmps142
    go_wp2
    go_ret
    exact⟨aH H.out,rfl⟩
theorem mY (n:Int) (w:World) (h1: -9223372036854775808≤n) (h2:n≤9223372036854775807):
 Calls Tryz.prog 98 #[.int .i64 n] w fun e w'=>e= .returned (.int .i64 (Psp.zig n))∧w=w':=by
 by_cases h3:n < -549755813888
 ·have H:=tt (show 0=Psp.zig n by rw[Psp.zig,if_pos (by omega)])
  go_enter Tryz.func98,Tryz.ntmps98
  go_wp2
  go_ret
  exact⟨aH H.out,rfl⟩
 ·by_cases h4:549755813888≤n
  ·have H:=tt (show 0=Psp.zig n by rw[Psp.zig,if_pos (by omega)])
   go_enter Tryz.func98,Tryz.ntmps98
   go_wp2
   go_ret
   exact⟨aH H.out,rfl⟩
  ·by_cases h5:n < 0
   ·have H:=tt (show -2 * n - 1=Psp.zig n by rw[Psp.zig,if_neg (by omega),if_pos h5])
    go_enter Tryz.func98,Tryz.ntmps98
    go_wp2
    go_ret
    exact⟨aH H.out,rfl⟩
   ·have H:=tt (show 2 * n=Psp.zig n by rw[Psp.zig,if_neg (by omega),if_neg h5])
    go_enter Tryz.func98,Tryz.ntmps98
    go_wp2
    go_ret
    exact⟨aH H.out,rfl⟩
theorem jG (n:Int) (w:World) (h1: -9223372036854775808≤n) (h2:n≤9223372036854775807):
 Calls Tryz.prog 116 #[.int .i64 n] w fun e w'=>e= .returned (.int .i64 (Psp.zag n))∧w=w':=by
 by_cases h3:n < 0
 ·have H:=tt (show 0=Psp.zag n by rw[Psp.zag,if_pos (by omega)])
  go_enter Tryz.func116,Tryz.ntmps116
  go_wp2
  go_ret
  exact⟨aH H.out,rfl⟩
 ·by_cases h4:1099511627776≤n
  ·have H:=tt (show 0=Psp.zag n by rw[Psp.zag,if_pos (by omega)])
   go_enter Tryz.func116,Tryz.ntmps116
   go_wp2
   go_ret
   exact⟨aH H.out,rfl⟩
  ·by_cases h5:n % 2=1
   ·have h6:(n % 2==1)=true:=by simpa using h5
    have H:=tt (show wrap64 (-(n+1).tdiv 2)=Psp.zag n by rw[Psp.zag,if_neg (by omega),if_pos h5,Int.tdiv_eq_ediv_of_nonneg (by omega)];unfold wrap64;omega)
    clear h5
    go_enter Tryz.func116,Tryz.ntmps116
    go_wp2
    go_ret
    exact⟨aH H.out,rfl⟩
   ·have h6:(n % 2==1)=false:=by simpa using h5
    have H:=tt (show n / 2=Psp.zag n by rw[Psp.zag,if_neg (by omega),if_neg h5])
    clear h5
    go_enter Tryz.func116,Tryz.ntmps116
    go_wp2
    go_ret
    exact⟨aH H.out,rfl⟩
theorem gy (n:Int) (w:World) (h1: -9223372036854775808≤n) (h2:n≤9223372036854775807):
 Calls Tryz.prog 128 #[.int .i64 n] w fun e w'=>e= .returned (.int .i64 (Psp.zag n))∧w=w':=by
 by_cases h3:n < 0
 ·have H:=tt (show 0=Psp.zag n by rw[Psp.zag,if_pos (by omega)])
  go_enter Tryz.func128,Tryz.ntmps128
  go_wp2
  go_ret
  exact⟨aH H.out,rfl⟩
 ·by_cases h4:1099511627776≤n
  ·have H:=tt (show 0=Psp.zag n by rw[Psp.zag,if_pos (by omega)])
   go_enter Tryz.func128,Tryz.ntmps128
   go_wp2
   go_ret
   exact⟨aH H.out,rfl⟩
  ·by_cases h5:n % 2=1
   ·have h6:(n % 2==1)=true:=by simpa using h5
    have H:=tt (show wrap64 (-(n+1).tdiv 2)=Psp.zag n by rw[Psp.zag,if_neg (by omega),if_pos h5,Int.tdiv_eq_ediv_of_nonneg (by omega)];unfold wrap64;omega)
    clear h5
    go_enter Tryz.func128,Tryz.ntmps128
    go_wp2
    go_ret
    exact⟨aH H.out,rfl⟩
   ·have h6:(n % 2==1)=false:=by simpa using h5
    have H:=tt (show n / 2=Psp.zag n by rw[Psp.zag,if_neg (by omega),if_neg h5])
    clear h5
    go_enter Tryz.func128,Tryz.ntmps128
    go_wp2
    go_ret
    exact⟨aH H.out,rfl⟩
theorem et:Elem Tryz.prog 49 5 1 1:=⟨Tryz.underlying49,by kernel_rfl,by decide⟩
def gJ (N:Nat) (B:Nat) (w0:World) (m:Int) (out:Value) (w:World):Prop:=
 ∃(pre:List UInt8),pre++Psp.num m.toNat=Psp.num N∧pre.length≤6∧w.ownsRow B 5 1 out pre.length (pre.map bv)∧Below B w0 w
def mG (base:Nat) (w0:World) (N:Nat) (e:Ending) (w:World):Prop:=
 ∃v,e= .returned (.tuple #[v,.bool true])∧w.ownsRow base 5 1 v (Psp.num N).length ((Psp.num N).map bv)∧Below base w0 w
theorem mg {N:Nat} {m:Int} {pre:List UInt8} {base:Nat} {w0 wr w':World} {v':Value} (h0:0≤m) (h:m < 128) (hp:pre++Psp.num m.toNat=Psp.num N) (hb:Below base w0 wr)
 (ho:w'.ownsRow base 5 1 v' (pre.length+1) (List.map bv pre++[Value.int .u8 m])) (a:Below base wr w'):mG base w0 N (.returned (.tuple #[v',.bool true])) w':=by
 refine⟨v',rfl,?_,hb.trans a⟩
 rw[Psp.dp (by omega)] at hp
 have he:Value.int .u8 m=bv (UInt8.ofNat m.toNat):=by
  unfold bv
  rw[Psp.eI (by omega)]
  congr 1
  omega
 rw[he] at ho
 rw[←hp]
 simpa using ho
theorem oT {N:Nat} {m:Int} {pre:List UInt8} {base:Nat} {w0 wr w':World} {v':Value} (h:¬m < 128) (hN:(Psp.num N).length≤6) (hp:pre++Psp.num m.toNat=Psp.num N) (hb:Below base w0 wr)
 (ho:w'.ownsRow base 5 1 v' (pre.length+1) (List.map bv pre++[Value.int .u8 (m % 128+128)])) (a:Below base wr w'):gJ N base w0 (m / 128) v' w':=by
 have h1:¬m.toNat < 128:=by omega
 rw[Psp.eQ h1] at hp
 have h2:(m / 128).toNat=m.toNat / 128:=by omega
 have he:Value.int .u8 (m % 128+128)=bv (UInt8.ofNat (m.toNat % 128+128)):=by
  unfold bv
  rw[Psp.eI (by omega)]
  congr 1
  omega
 rw[he] at ho
 refine⟨pre++[UInt8.ofNat (m.toNat % 128+128)],by rw[h2,←hp];simp,?_,by simpa using ho,hb.trans a⟩
 have:=congrArg List.length hp
 simp only[tH,tC] at this
 have h3:=Psp.fy (m.toNat / 128)
 simp only[tH,tC,tD]
 omega
theorem gC (x:Int) (w:World) (h0:0≤x) (h1:x < 1099511627776):
 Calls Tryz.prog 110 #[.int .i64 x] w (mG w.heap.size w x.toNat):=by
 have j:=Psp.fc (show x.toNat < 1099511627776 by omega)
 have h:gJ x.toNat w.heap.size w x (.slice none 0 0) w:=⟨[],rfl,by simp,World.ownsRow_nil _ _ _ _,Below.refl _ _⟩
 generalize x.toNat=N at *
 go_enter Tryz.func110,Tryz.ntmps110
 go_wp2
 go_loopw [0,4] (fun n out wr=>∃m:Int,n= .int .i64 m∧0≤m∧m < 1099511627776∧gJ N w.heap.size w m out wr) (fun n _ _=>(intOf n).toNat)
 case atStart=>exact⟨x,rfl,h0,h1,h⟩
 case round=>
  obtain⟨m,rfl,i,l,pre,e,k,c,d⟩:=hrel
  have f:=tt e
  clear e h
  have g:=d.size
  by_cases hlt:m < 128
  ·go_wp2_with (at_builtin;refine aW et rfl _ _ rfl w.heap.size u4 _ _ rfl c _ rfl rfl (by simp[Value.oneCell']) (by omega) (by omega) g ?_;intro v' w' a _ b _;clear c)
   go_ret2
   exact mg i hlt f.out d (by simpa using a) b
  ·go_wp2_with (at_builtin;refine aW et rfl _ _ rfl w.heap.size u4 _ _ rfl c _ rfl rfl (by simp[Value.oneCell']) (by omega) (by omega) g ?_;intro v' w' a _ b _;clear c)
   go_roundw
   case rel=>exact⟨_,rfl,by omega,by omega,oT hlt j f.out d (by simpa using a) b⟩
   case measure=>simp[intOf];omega
theorem jw (x:Int) (w:World) (h:x < 0∨1099511627776≤x):
 Calls Tryz.prog 110 #[.int .i64 x] w fun e w'=>e= .returned (.tuple #[.slice none 0 0,.bool false])∧w=w':=by
 by_cases h1:x < 0
 ·clear h
  go_enter Tryz.func110,Tryz.ntmps110
  go_wp2
  go_ret2
  exact⟨rfl,rfl⟩
 ·have h2:1099511627776≤x:=by omega
  clear h
  go_enter Tryz.func110,Tryz.ntmps110
  go_wp2
  go_ret2
  exact⟨rfl,rfl⟩
theorem qX (a b:Nat) (ha:a < 9223372036854775808) (hb:b < 9223372036854775808):bits .or .i64 (a:Int) (b:Int)=((a|||b:Nat):Int):=by
 have ho (x:Nat) (hx:x < 9223372036854775808):(BitVec.ofInt 64 (x:Int)).toNat=x:=by
  rw[BitVec.ofInt_natCast,BitVec.toNat_ofNat];exact Nat.mod_eq_of_lt (by omega)
 have hx:a|||b < 2 ^ 63:=Nat.or_lt_two_pow (by omega) (by omega)
 show IntKind.i64.wrap ((BitVec.ofInt 64 (a:Int)|||BitVec.ofInt 64 (b:Int)).toNat:Int)=_
 rw[BitVec.toNat_or,ho a ha,ho b hb,IntKind.wrap_i64]
 omega
theorem oQ {n d k:Nat} (h:n < 128 ^ k) (hd:d < 128) (hk:k≤5):bits .or .i64 (n:Int) ((d * 128 ^ k:Nat):Int)=((n+d * 128 ^ k:Nat):Int):=by
 have h1:=Psp.fw (k:=k) (by omega)
 have h2:=Psp.jS h hd
 have h3:=Psp.fw (k:=k+1) (by omega)
 rw[qX _ _ (by omega) (by omega)]
 have e:(128:Nat) ^ k=2 ^ (7 * k):=by rw[Nat.pow_mul]
 rw[e] at h ⊢
 have h4:=Nat.two_pow_add_eq_or_of_lt h d
 rw[Nat.mul_comm d,Nat.or_comm,←h4]
 congr 1
 omega
def eE (l:List UInt8) (at0:Nat) (R:Option (Nat×Nat)) (k:Nat) (n:Int):Prop:=
 0≤n∧k≤6∧n.toNat < 128 ^ k∧Psp.dk (6 - k) (l.drop (at0+k)) n.toNat k=R
def ib (at0:Nat) (R:Option (Nat×Nat)) (e:Ending):Prop:=
 match R with
 |none=>e= .returned (.tuple #[.int .i64 0,.int .i64 0,.bool false])
 |some (v,m)=>e= .returned (.tuple #[.int .i64 (v:Int),.int .i64 ((at0:Int)+(m:Int)),.bool true])
theorem sJ (c:UInt8):bits .and .u8 (c.toNat:Int) 127=((c.toNat % 128:Nat):Int):=by
 have h:=c.toNat_lt
 have:=u8_and_nat c.toNat 127 h (by omega)
 rw[show ((127:Nat):Int)=127 from rfl] at this
 rw[this,show (127:Nat)=2 ^ 7 - 1 from rfl,Nat.and_two_pow_sub_one_eq_mod]
theorem mL {n:Int} {k:Nat} (c:UInt8) (h0:0≤n) (hk:k≤5) (hn:n.toNat < 128 ^ k):
 bits .or .i64 n (wrap64 (wrap64 (bits .and .u8 (c.toNat:Int) 127) * 2 ^ (7 * k)))=((n.toNat+c.toNat % 128 * 128 ^ k:Nat):Int):=by
 have hd:c.toNat % 128 < 128:=Nat.mod_lt _ (by omega)
 have h1:=Psp.fw (k:=k) (by omega)
 have h2:=Psp.jS hn hd
 have h3:=Psp.fw (k:=k+1) (by omega)
 have hi:wrap64 ((c.toNat % 128:Nat):Int)=((c.toNat % 128:Nat):Int):=IntWalk.wrap64_in _ (by omega)
 rw[sJ,hi]
 have e:(((c.toNat % 128:Nat):Int) * 2 ^ (7 * k))=((c.toNat % 128 * 128 ^ k:Nat):Int):=by
  rw[Int.natCast_mul,show (128:Nat) ^ k=2 ^ (7 * k) by rw[Nat.pow_mul]]
  simp
 rw[e,IntWalk.wrap64_in _ (by omega)]
 have:=oQ hn hd hk
 rw[Int.toNat_of_nonneg h0] at this
 exact this
theorem je {l:List UInt8} {a k:Nat} {R:Option (Nat×Nat)} {n n2:Int} {ch:UInt8} (hI:eE l a R k n) (hk:k < 6) (hlt:a+k < l.length) (hc:l.getD (a+k) 0=ch)
 (hn2:n2=((n.toNat+ch.toNat % 128 * 128 ^ k:Nat):Int)) (hb:(128:Int)≤(ch.toNat:Int)):eE l a R (k+1) n2:=by
 obtain⟨h0,_,h1,h2⟩:=hI
 have hd:ch.toNat % 128 < 128:=Nat.mod_lt _ (by omega)
 have h3:=Psp.jS h1 hd
 have e:n2.toNat=n.toNat+ch.toNat % 128 * 128 ^ k:=by omega
 refine⟨by omega,by omega,by rw[e];exact h3,?_⟩
 rw[e,←h2,Psp.jB hlt,hc,show 6 - k=(6 - (k+1))+1 by omega,Psp.kX (by omega),Nat.add_assoc a k 1]
theorem fk {l:List UInt8} {a k:Nat} {R:Option (Nat×Nat)} {n:Int} (hI:eE l a R k n) (h:l.length≤a+k∨6≤k):R=none:=by
 obtain⟨h0,h3,h1,h2⟩:=hI
 rw[←h2]
 rcases h with h|h
 ·rw[List.drop_eq_nil_of_le h,Psp.kW]
 ·rw[show 6 - k=0 by omega];rfl
theorem kn {l:List UInt8} {a k:Nat} {R:Option (Nat×Nat)} {n n2:Int} {ch:UInt8} (hI:eE l a R k n) (hk:k < 6) (hlt:a+k < l.length) (hc:l.getD (a+k) 0=ch)
 (hn2:n2=((n.toNat+ch.toNat % 128 * 128 ^ k:Nat):Int)) (hb:¬ (128:Int)≤(ch.toNat:Int)):
 (((ch.toNat:Int)=0∧1≤k)∨1099511627776≤n2→R=none)∧(¬ (((ch.toNat:Int)=0∧1≤k)∨1099511627776≤n2)→R=some (n2.toNat,k+1)):=by
 obtain⟨h0,_,h1,h2⟩:=hI
 have e:n2.toNat=n.toNat+ch.toNat % 128 * 128 ^ k:=by omega
 rw[←h2,Psp.jB hlt,hc,show 6 - k=(6 - (k+1))+1 by omega]
 constructor
 ·intro h
  exact Psp.mO (by omega) (by omega)
 ·intro h
  rw[e]
  exact Psp.kY (by omega) (by omega)
theorem f9 {a k:Nat} {R:Option (Nat×Nat)} {n2:Int} (h:R=some (n2.toNat,k+1)) (h0:0≤n2):
 ib a R (.returned (.tuple #[.int .i64 n2,.int .i64 ((a:Int)+(k:Int)+1),.bool true])):=by
 subst h
 simp only[ib]
 rw[Int.toNat_of_nonneg h0]
 congr 5
theorem jd (A:Option Addr) (len c:Nat) (l:List UInt8) (a:Nat) (R:Option (Nat×Nat)) (w:World) (hR:Psp.take (l.drop a)=R)
 (hA:0 < len→∃b o,A=some ⟨b,o,none⟩∧Lies w b o (l.map bv)) (hlen:l.length=len) (a7:len≤9223372036854775807) (bb:a≤9223372036854775807):
 Calls Tryz.prog 59 #[.slice A len c,.int .i64 (a:Int)] w fun e w'=>ib a R e∧w=w':=by
 have al:eE l a R 0 0:=⟨by omega,by omega,by simp,by simpa [Psp.take] using hR⟩
 go_enter Tryz.func59,Tryz.ntmps59
 go_wp2
 refine ce (fun aa a' w'=>w'=w∧((aa=0∧R=none∧∃u0 u1 u2 u3 u4 u5 u6 u7 u8 u9 Z Y X W V U T S Q P O N M L K J I G F E D C B z y x v u t s r q p m i h g f d:Value,a'={tmps:=#[u0,u1,u2,u3,u4,u5,u6,u7,u8,u9,Z,Y,X,W,V,U,T,S,Q,P,O,N,M,L,K,J,I,G,F,E,D,C,B,z,y,x,v,u,t,s,r,q,p,m,i,h,g,f,d],defers:=[]})∨(aa=1∧∃(k:Nat) (n:Int) (u7 u9 Z Y X W V U T S Q P O N M L K J I G F E D C B z y x v u t s r q p m i h g f d:Value),a'={tmps:=#[.slice A len c,.int .i64 ((a+k:Nat):Int),undef,undef,.int .i64 n,.int .i64 0,.bool false,u7,.int .i64 ((7 * k:Nat):Int),u9,Z,Y,X,W,V,U,T,S,Q,P,O,N,M,L,K,J,I,G,F,E,D,C,B,z,y,x,v,u,t,s,r,q,p,m,i,h,g,f,d],defers:=[]}∧eE l a R k n)))
  (fun aa a' _=>if aa=0 then 0 else 100 - (intOf (a'.tmps.getD 8 undef)).toNat) ?_ ?_
 ·rintro aa a' w' ⟨rfl,⟨rfl,ac,u0,u1,u2,u3,u4,u5,u6,u7,u8,u9,Z,Y,X,W,V,U,T,S,Q,P,O,N,M,L,K,J,I,G,F,E,D,C,B,z,y,x,v,u,t,s,r,q,p,m,i,h,g,f,d,rfl⟩|⟨rfl,k,n,u7,u9,Z,Y,X,W,V,U,T,S,Q,P,O,N,M,L,K,J,I,G,F,E,D,C,B,z,y,x,v,u,t,s,r,q,p,m,i,h,g,f,d,rfl,hI⟩⟩
  ·refine⟨_,rfl,?_⟩
   subst ac
   go_wp2
   go_ret3
   exact⟨rfl,rfl⟩
  ·refine⟨_,rfl,?_⟩
   have a2:=hI.1
   have a8:=hI.2.1
   have HI:=tt hI
   clear hI al hR
   by_cases hlt:a+k < len
   ·by_cases hk:k < 6
    ·obtain⟨b,o,a5,hl⟩:=hA (by omega)
     clear hA
     subst a5
     have hc:=hl.at_ (j:=a+k) (by simp;omega)
     obtain⟨ch,hch⟩:∃ch,l.getD (a+k) 0=ch:=⟨_,rfl⟩
     have a9:w'.cell? ⟨b,o+(a+k),none⟩=some (.int .u8 (ch.toNat:Int)):=by
      rw[hc,←hch]
      simp[bv,List.getD_eq_getElem?_getD,tK (show a+k < l.length by omega)]
     clear hc hl
     obtain⟨n2,hn2⟩:∃n2:Int,n2=((n.toNat+ch.toNat % 128 * 128 ^ k:Nat):Int):=⟨_,rfl⟩
     have hs:=mL ch a2 (by omega) HI.out.2.2.1
     rw[←hn2] at hs
     have ad:0≤n2:=by omega
     have a0:=tt hn2
     have a1:=tt hch
     have a6:(ch.toNat:Int) < 256:=by have:=ch.toNat_lt;omega
     clear hn2 hch
     by_cases hb:(128:Int)≤(ch.toNat:Int)
     ·have HN:=tt (je HI.out hk (by omega) a1.out a0.out hb)
      go_wp2
      go_step3
      have e1:((a:Int)+(k:Int)+1)=((a+(k+1):Nat):Int):=by omega
      have e2:(7 * (k:Int)+7)=((7 * (k+1):Nat):Int):=by omega
      rw[e1,e2]
      exact⟨⟨rfl,.inr ⟨rfl,k+1,n2,_,_,_,_,_,_,_,_,_,_,_,_,_,_,_,_,_,_,_,_,_,_,_,_,_,_,_,_,_,_,_,_,_,_,_,_,_,_,_,_,_,rfl,HN.out⟩⟩,by simp[intOf];omega⟩
     ·have HN:=tt (kn HI.out hk (by omega) a1.out a0.out hb)
      by_cases a4:1099511627776≤n2
      ·have HB:=tt (HN.out.1 (.inr a4))
       by_cases hz:(ch.toNat:Int)=0
       ·have af:((ch.toNat:Int)==0)=true:=by simpa using hz
        clear hz
        go_wp2
        all_goals go_step3
        all_goals exact⟨⟨rfl,.inl ⟨rfl,HB.out,_,_,_,_,_,_,_,_,_,_,_,_,_,_,_,_,_,_,_,_,_,_,_,_,_,_,_,_,_,_,_,_,_,_,_,_,_,_,_,_,_,_,_,_,_,_,_,_,_,rfl⟩⟩,by simp[intOf];omega⟩
       ·have af:((ch.toNat:Int)==0)=false:=by simpa using hz
        clear hz
        go_wp2
        go_step3
        exact⟨⟨rfl,.inl ⟨rfl,HB.out,_,_,_,_,_,_,_,_,_,_,_,_,_,_,_,_,_,_,_,_,_,_,_,_,_,_,_,_,_,_,_,_,_,_,_,_,_,_,_,_,_,_,_,_,_,_,_,_,_,rfl⟩⟩,by simp[intOf];omega⟩
      ·by_cases hz:(ch.toNat:Int)=0
       ·have af:((ch.toNat:Int)==0)=true:=by simpa using hz
        by_cases a3:1≤k
        ·have HB:=tt (HN.out.1 (.inl ⟨hz,a3⟩))
         clear hz
         go_wp2
         go_step3
         exact⟨⟨rfl,.inl ⟨rfl,HB.out,_,_,_,_,_,_,_,_,_,_,_,_,_,_,_,_,_,_,_,_,_,_,_,_,_,_,_,_,_,_,_,_,_,_,_,_,_,_,_,_,_,_,_,_,_,_,_,_,_,rfl⟩⟩,by simp[intOf];omega⟩
        ·have HB:=tt (HN.out.2 (by omega))
         clear hz
         go_wp2
         go_ret3
         exact⟨f9 HB.out ad,rfl⟩
       ·have af:((ch.toNat:Int)==0)=false:=by simpa using hz
        have HB:=tt (HN.out.2 (by omega))
        clear hz
        go_wp2
        go_ret3
        exact⟨f9 HB.out ad,rfl⟩
    ·have ac:=tt (fk HI.out (.inr (by omega)))
     clear hA
     go_wp2
     go_step3
     exact⟨⟨rfl,.inl ⟨rfl,ac.out,_,_,_,_,_,_,_,_,_,_,_,_,_,_,_,_,_,_,_,_,_,_,_,_,_,_,_,_,_,_,_,_,_,_,_,_,_,_,_,_,_,_,_,_,_,_,_,_,_,rfl⟩⟩,by simp[intOf];omega⟩
   ·have ac:=tt (fk HI.out (.inl (by omega)))
    clear hA
    go_wp2
    go_step3
    exact⟨⟨rfl,.inl ⟨rfl,ac.out,_,_,_,_,_,_,_,_,_,_,_,_,_,_,_,_,_,_,_,_,_,_,_,_,_,_,_,_,_,_,_,_,_,_,_,_,_,_,_,_,_,_,_,_,_,_,_,_,_,rfl⟩⟩,by simp[intOf];omega⟩
 ·intro H
  have HI:=tt al
  have HH:=tt H
  clear H al hR hA
  go_wp2
  go_step3
  simp only[Exit.then]
  rename_i hK
  refine hK _ _ (HH.out 1 _ _ ⟨rfl,.inr ⟨rfl,0,0,_,_,_,_,_,_,_,_,_,_,_,_,_,_,_,_,_,_,_,_,_,_,_,_,_,_,_,_,_,_,_,_,_,_,_,_,_,_,_,_,_,rfl,HI.out⟩⟩ _ rfl)
def bT (l:List UInt8) (a:Int):Option (Nat×Nat):=if a < 0 then none else Psp.take (l.drop a.toNat)
theorem dW {l:List UInt8} {a:Int} {v m:Nat} (h:bT l a=some (v,m)):0≤a∧v < 1099511627776∧1≤m∧a+m≤l.length:=by
 unfold bT at h
 split at h
 ·cases h
 ·have:=Psp.kV h
  simp only[List.length_drop] at this
  omega
theorem gt (x:Value) (n:Nat) (l:List UInt8) (a:Int) (v m:Nat) (w:World) (hx:Rd w w.heap.size 1 x n (l.map bv)) (h2:a≤9223372036854775807) (h:bT l a=some (v,m)):
 Calls Tryz.prog 59 #[x,.int .i64 a] w fun e w'=>e= .returned (.tuple #[.int .i64 (v:Int),.int .i64 (a+(m:Int)),.bool true])∧w=w':=by
 have h0:=(dW h).1
 have hb:=hx.bd
 obtain⟨hl,A,c,rfl,_,_,hc⟩:=hx
 obtain⟨d,rfl⟩:=Int.eq_ofNat_of_zero_le h0
 have hR:Psp.take (l.drop d)=some (v,m):=by
  unfold bT at h
  rw[if_neg (by omega)] at h
  simpa using h
 refine (jd A n c l d _ w hR (fun hn=>by obtain⟨b,o,e,_,hh⟩:=hc hn;exact⟨b,o,e,hh⟩) (by simpa using hl) hb (by omega)).mono fun e w' ⟨h1,h2⟩=>?_
 exact⟨h1,h2⟩
theorem ij (x:Value) (n:Nat) (l:List UInt8) (a:Int) (w:World) (hx:Rd w w.heap.size 1 x n (l.map bv)) (h1: -9223372036854775808≤a) (h2:a≤9223372036854775807) (h:bT l a=none):
 Calls Tryz.prog 59 #[x,.int .i64 a] w fun e w'=>e= .returned (.tuple #[.int .i64 0,.int .i64 0,.bool false])∧w=w':=by
 have hb:=hx.bd
 obtain⟨hl,A,c,rfl,_,_,hc⟩:=hx
 by_cases h0:a < 0
 ·clear h hc hl
  go_enter Tryz.func59,Tryz.ntmps59
  go_wp2
  refine ce (fun Y a' w'=>w'=w∧Y=0∧∃u0 u1 u2 u3 u4 u5 u6 u7 u8 u9 X W V U T S R Q P O N M L K J I H G F E D C B z y v u t s r q p m k j i g f d:Value,a'={tmps:=#[u0,u1,u2,u3,u4,u5,u6,u7,u8,u9,X,W,V,U,T,S,R,Q,P,O,N,M,L,K,J,I,H,G,F,E,D,C,B,z,y,v,u,t,s,r,q,p,m,k,j,i,g,f,d],defers:=[]}) (fun _ _ _=>0) ?_ ?_
  ·rintro Y a' w' ⟨rfl,rfl,u0,u1,u2,u3,u4,u5,u6,u7,u8,u9,X,W,V,U,T,S,R,Q,P,O,N,M,L,K,J,I,H,G,F,E,D,C,B,z,y,v,u,t,s,r,q,p,m,k,j,i,g,f,d,rfl⟩
   refine⟨_,rfl,?_⟩
   go_wp2
   go_ret3
   exact⟨rfl,rfl⟩
  ·intro _
   go_wp2
   go_step3
   exact⟨rfl,rfl,_,_,_,_,_,_,_,_,_,_,_,_,_,_,_,_,_,_,_,_,_,_,_,_,_,_,_,_,_,_,_,_,_,_,_,_,_,_,_,_,_,_,_,_,_,_,_,_,_,rfl⟩
 ·obtain⟨Z,rfl⟩:=Int.eq_ofNat_of_zero_le (show 0≤a by omega)
  have hR:Psp.take (l.drop Z)=none:=by
   unfold bT at h
   rw[if_neg (by omega)] at h
   simpa using h
  refine (jd A n c l Z _ w hR (fun hn=>by obtain⟨b,o,e,_,hh⟩:=hc hn;exact⟨b,o,e,hh⟩) (by simpa using hl) hb (by omega)).mono fun e w' ⟨h1,h2⟩=>?_
  exact⟨h1,h2⟩
theorem mK (x:Value) (n:Nat) (l:List UInt8) (a:Int) (v m:Nat) (w:World) (hx:Rd w w.heap.size 1 x n (l.map bv)) (h2:a≤9223372036854775807) (h:bT l a=some (v,m)):
 Calls Tryz.prog 82 #[x,.int .i64 a] w fun e w'=>e= .returned (.tuple #[.int .i64 (Psp.zag (v:Int)),.int .i64 (a+(m:Int)),.bool true])∧w=w':=by
 have Hx:=tt hx
 have H:=tt h
 have hb:=dW h
 clear hx h
 go_enter Tryz.func82,Tryz.ntmps82
 go_wp2_with (first|(go_at_call 59;refine (gt _ n l a v m _ Hx.out h2 H.out).mono ?_;rintro e w' ⟨rfl,rfl⟩)|(go_at_call 116;refine (jG _ _ (by omega) (by omega)).mono ?_;rintro e w' ⟨rfl,rfl⟩))
 go_ret3
 exact⟨rfl,rfl⟩
theorem nW (x:Value) (n:Nat) (l:List UInt8) (a:Int) (w:World) (hx:Rd w w.heap.size 1 x n (l.map bv)) (h1: -9223372036854775808≤a) (h2:a≤9223372036854775807) (h:bT l a=none):
 Calls Tryz.prog 82 #[x,.int .i64 a] w fun e w'=>e= .returned (.tuple #[.int .i64 0,.int .i64 0,.bool false])∧w=w':=by
 have Hx:=tt hx
 have H:=tt h
 clear hx h
 go_enter Tryz.func82,Tryz.ntmps82
 go_wp2_with (first|(go_at_call 59;refine (ij _ n l a _ Hx.out h1 h2 H.out).mono ?_;rintro e w' ⟨rfl,rfl⟩)|(go_at_call 116;refine (jG _ _ (by omega) (by omega)).mono ?_;rintro e w' ⟨rfl,rfl⟩))
 go_ret3
 exact⟨rfl,rfl⟩
theorem jg (x:Int) (w:World) (h0: -549755813888≤x) (h1:x < 549755813888):
 Calls Tryz.prog 111 #[.int .i64 x] w (mG w.heap.size w (Psp.zig x).toNat):=by
 have hz:=Psp.jF x
 go_enter Tryz.func111,Tryz.ntmps111
 go_wp2_with (first|(go_at_call 142;refine (pS _ _ (by omega) (by omega)).mono ?_;rintro e w' ⟨rfl,rfl⟩)|(go_at_call 110;refine (gC _ _ hz.1 hz.2).mono ?_;rintro e w' ⟨v,rfl,a,b⟩))
 go_ret2
 exact⟨_,rfl,a,b⟩
theorem jh (x:Int) (w:World) (h:x < -549755813888∨549755813888≤x):
 Calls Tryz.prog 111 #[.int .i64 x] w fun e w'=>e= .returned (.tuple #[.slice none 0 0,.bool false])∧w=w':=by
 by_cases h1:x < -549755813888
 ·clear h
  go_enter Tryz.func111,Tryz.ntmps111
  go_wp2
  go_ret2
  exact⟨rfl,rfl⟩
 ·have h2:549755813888≤x:=by omega
  clear h
  go_enter Tryz.func111,Tryz.ntmps111
  go_wp2
  go_ret2
  exact⟨rfl,rfl⟩
theorem ls {N:Nat} {m:Int} {pre:List UInt8} {base:Nat} {w0 wr w':World} {v':Value} (h:¬m < 128) (hN:(Psp.num N).length≤6) (hp:pre++Psp.num m.toNat=Psp.num N) (hb:Below base w0 wr)
 (ho:w'.ownsRow base 5 1 v' (pre.length+1) (List.map bv pre++[Value.int .u8 (128+m % 128)])) (a:Below base wr w'):gJ N base w0 (m / 128) v' w':=by
 have h1:¬m.toNat < 128:=by omega
 rw[Psp.eQ h1] at hp
 have h2:(m / 128).toNat=m.toNat / 128:=by omega
 have he:Value.int .u8 (128+m % 128)=bv (UInt8.ofNat (m.toNat % 128+128)):=by
  unfold bv
  rw[Psp.eI (by omega)]
  congr 1
  omega
 rw[he] at ho
 refine⟨pre++[UInt8.ofNat (m.toNat % 128+128)],by rw[h2,←hp];simp,?_,by simpa using ho,hb.trans a⟩
 have:=congrArg List.length hp
 simp only[tH,tC] at this
 have h3:=Psp.fy (m.toNat / 128)
 simp only[tH,tC,tD]
 omega
theorem gN (x:Int) (w:World) (h0:0≤x) (h1:x < 1099511627776):
 Calls Tryz.prog 71 #[.int .i64 x] w (mG w.heap.size w x.toNat):=by
 have j:=Psp.fc (show x.toNat < 1099511627776 by omega)
 have h:gJ x.toNat w.heap.size w x (.slice none 0 0) w:=⟨[],rfl,by simp,World.ownsRow_nil _ _ _ _,Below.refl _ _⟩
 generalize x.toNat=N at *
 go_enter Tryz.func71,Tryz.ntmps71
 go_wp2
 go_loopw [0,4] (fun n out wr=>∃m:Int,n= .int .i64 m∧0≤m∧m < 1099511627776∧gJ N w.heap.size w m out wr) (fun n _ _=>(intOf n).toNat)
 case atStart=>exact⟨x,rfl,h0,h1,h⟩
 case round=>
  obtain⟨m,rfl,i,l,pre,e,k,c,d⟩:=hrel
  have f:=tt e
  clear e h
  have g:=d.size
  by_cases hlt:m < 128
  ·go_wp2_with (at_builtin;refine aW et rfl _ _ rfl w.heap.size u4 _ _ rfl c _ rfl rfl (by simp[Value.oneCell']) (by omega) (by omega) g ?_;intro v' w' a _ b _;clear c)
   go_ret2
   exact mg i hlt f.out d (by simpa using a) b
  ·go_wp2_with (at_builtin;refine aW et rfl _ _ rfl w.heap.size u4 _ _ rfl c _ rfl rfl (by simp[Value.oneCell']) (by omega) (by omega) g ?_;intro v' w' a _ b _;clear c)
   go_roundw
   case rel=>exact⟨_,rfl,by omega,by omega,ls hlt j f.out d (by simpa using a) b⟩
   case measure=>simp[intOf];omega
theorem gO (x:Int) (w:World) (h:x < 0∨1099511627776≤x):
 Calls Tryz.prog 71 #[.int .i64 x] w fun e w'=>e= .returned (.tuple #[.slice none 0 0,.bool false])∧w=w':=by
 by_cases h1:x < 0
 ·clear h
  go_enter Tryz.func71,Tryz.ntmps71
  go_wp2
  go_ret2
  exact⟨rfl,rfl⟩
 ·have h2:1099511627776≤x:=by omega
  clear h
  go_enter Tryz.func71,Tryz.ntmps71
  go_wp2
  go_ret2
  exact⟨rfl,rfl⟩
theorem oC {n one p:Int} {k c:Nat} (h0:0≤n) (a:one=((128 ^ k:Nat):Int)) (hp:p=((c:Int) % 128) * one):n+p=((n.toNat+c % 128 * 128 ^ k:Nat):Int):=by
 subst hp
 subst a
 have:((c:Int) % 128) * ((128 ^ k:Nat):Int)=((c % 128 * 128 ^ k:Nat):Int):=by
  rw[Int.natCast_mul,Int.natCast_emod];rfl
 rw[this]
 omega
theorem oD {one:Int} {k c:Nat} (a:one=((128 ^ k:Nat):Int)) (hk:k < 6):0≤((c:Int) % 128) * one∧((c:Int) % 128) * one≤4398046511104:=by
 subst a
 have h1:((c:Int) % 128) * ((128 ^ k:Nat):Int)=((c % 128 * 128 ^ k:Nat):Int):=by
  rw[Int.natCast_mul,Int.natCast_emod];rfl
 have h2:=Psp.jS (k:=k) (n:=0) (d:=c % 128) (Nat.pow_pos (by omega)) (Nat.mod_lt _ (by omega))
 have h3:=Psp.fw (k:=k+1) (by omega)
 rw[h1]
 omega
theorem gM (A:Option Addr) (len c:Nat) (l:List UInt8) (a:Nat) (R:Option (Nat×Nat)) (w:World) (hR:Psp.take (l.drop a)=R)
 (hA:0 < len→∃b o,A=some ⟨b,o,none⟩∧Lies w b o (l.map bv)) (hlen:l.length=len) (C:len≤9223372036854775807) (I:a≤9223372036854775807):
 Calls Tryz.prog 103 #[.slice A len c,.int .i64 (a:Int)] w fun e w'=>ib a R e∧w=w':=by
 have i:eE l a R 0 0:=⟨by omega,by omega,by simp,by simpa [Psp.take] using hR⟩
 go_enter Tryz.func103,Tryz.ntmps103
 go_wp2
 go_loopw [1,7,8,9] (fun p n one k wr=>∃(j:Nat) (x y:Int),p= .int .i64 ((a:Int)+(j:Int))∧n= .int .i64 x∧one= .int .i64 y∧k= .int .i64 (j:Int)∧0≤x∧x≤4398046511104∧1≤y∧y≤4398046511104∧j≤6∧Hid (y=((128 ^ j:Nat):Int))∧Hid (eE l a R j x)∧w=wr) (fun _ _ _ k _=>6 - (intOf k).toNat)
 case atStart=>exact⟨0,0,1,by simp,rfl,rfl,rfl,by omega,by omega,by omega,by omega,by omega,tt (by simp),tt i,rfl⟩
 case round=>
  obtain⟨k,n,one,rfl,rfl,rfl,rfl,s,F,ho0,ho1,G,f,HI,rfl⟩:=hrel
  clear i hR
  by_cases hk:k < 6
  ·by_cases hlt:a+k < len
   ·obtain⟨b,o,z,hl⟩:=hA (by omega)
    clear hA
    subst z
    have hc:=hl.at_ (j:=a+k) (by simp;omega)
    obtain⟨ch,hch⟩:∃ch,l.getD (a+k) 0=ch:=⟨_,rfl⟩
    have H:w.cell? ⟨b,o+(a+k),none⟩=some (.int .u8 (ch.toNat:Int)):=by
     rw[hc,←hch]
     simp[bv,List.getD_eq_getElem?_getD,tK (show a+k < l.length by omega)]
    clear hc hl
    have m:=oD (c:=ch.toNat) f.out hk
    obtain⟨p,hp⟩:∃p:Int,((ch.toNat:Int) % 128) * one=p:=⟨_,rfl⟩
    rw[hp] at m
    obtain⟨E,D⟩:=m
    have hn2:=oC (c:=ch.toNat) s f.out hp.symm
    have B:(ch.toNat:Int) < 256:=by have:=ch.toNat_lt;omega
    have q:=tt hch
    clear hch
    obtain⟨n2,hn2'⟩:∃n2:Int,n+p=n2:=⟨_,rfl⟩
    rw[hn2'] at hn2
    by_cases hb:(128:Int)≤(ch.toNat:Int)
    ·have HN:=tt (je HI.out hk (by omega) q.out hn2 hb)
     have h6:=HN.out.2.2.1
     have h7:=Psp.fw (k:=k+1) (by omega)
     have d:128 * one=((128 ^ (k+1):Nat):Int):=by rw[f.out,Nat.pow_succ];omega
     have hh:n2≤4398046511104:=by have:=HN.out.1;omega
     have u:0≤n2:=HN.out.1
     have HO:=tt d
     have ho2:128 * one≤4398046511104:=by omega
     clear d h6 h7 hn2
     go_wp2
     go_roundw
     case rel=>exact⟨k+1,n2,128 * one,by go_num,rfl,rfl,by go_num,u,hh,by omega,by omega,by omega,HO,HN,by trivial⟩
     case measure=>simp[intOf];omega
    ·have HN:=tt (kn HI.out hk (by omega) q.out hn2 hb)
     have g:0≤n2:=by omega
     clear hn2
     by_cases v:1099511627776≤n2
     ·have HB:=tt (HN.out.1 (.inr v))
      go_wp2
      go_ret3
      exact⟨by rw[HB.out];rfl,rfl⟩
     ·by_cases hz:(ch.toNat:Int)=0
      ·have r:((ch.toNat:Int)==0)=true:=by simpa using hz
       by_cases t:1≤k
       ·have HB:=tt (HN.out.1 (.inl ⟨hz,t⟩))
        clear hz
        go_wp2
        go_ret3
        exact⟨by rw[HB.out];rfl,rfl⟩
       ·have HB:=tt (HN.out.2 (by omega))
        clear hz
        go_wp2
        go_ret3
        exact⟨f9 HB.out g,rfl⟩
      ·have r:((ch.toNat:Int)==0)=false:=by simpa using hz
       have HB:=tt (HN.out.2 (by omega))
       clear hz
       go_wp2
       go_ret3
       exact⟨f9 HB.out g,rfl⟩
   ·have h:=tt (fk HI.out (.inl (by omega)))
    clear hA
    go_wp2
    go_ret3
    exact⟨by rw[h.out];rfl,rfl⟩
  ·have h:=tt (fk HI.out (.inr (by omega)))
   clear hA
   go_wp2
   go_ret3
   exact⟨by rw[h.out];rfl,rfl⟩
theorem gL (x:Value) (n:Nat) (l:List UInt8) (a:Int) (v m:Nat) (w:World) (hx:Rd w w.heap.size 1 x n (l.map bv)) (h2:a≤9223372036854775807) (h:bT l a=some (v,m)):
 Calls Tryz.prog 103 #[x,.int .i64 a] w fun e w'=>e= .returned (.tuple #[.int .i64 (v:Int),.int .i64 (a+(m:Int)),.bool true])∧w=w':=by
 have h0:=(dW h).1
 have hb:=hx.bd
 obtain⟨hl,A,c,rfl,_,_,hc⟩:=hx
 obtain⟨d,rfl⟩:=Int.eq_ofNat_of_zero_le h0
 have hR:Psp.take (l.drop d)=some (v,m):=by
  unfold bT at h
  rw[if_neg (by omega)] at h
  simpa using h
 refine (gM A n c l d _ w hR (fun hn=>by obtain⟨b,o,e,_,hh⟩:=hc hn;exact⟨b,o,e,hh⟩) (by simpa using hl) hb (by omega)).mono fun e w' ⟨h1,h2⟩=>?_
 exact⟨h1,h2⟩
theorem iy (x:Value) (n:Nat) (l:List UInt8) (a:Int) (w:World) (hx:Rd w w.heap.size 1 x n (l.map bv)) (h1: -9223372036854775808≤a) (h2:a≤9223372036854775807) (h:bT l a=none):
 Calls Tryz.prog 103 #[x,.int .i64 a] w fun e w'=>e= .returned (.tuple #[.int .i64 0,.int .i64 0,.bool false])∧w=w':=by
 have hb:=hx.bd
 obtain⟨hl,A,c,rfl,_,_,hc⟩:=hx
 by_cases h0:a < 0
 ·clear h hc hl
  go_enter Tryz.func103,Tryz.ntmps103
  go_wp2
  go_ret3
  exact⟨rfl,rfl⟩
 ·obtain⟨d,rfl⟩:=Int.eq_ofNat_of_zero_le (show 0≤a by omega)
  have hR:Psp.take (l.drop d)=none:=by
   unfold bT at h
   rw[if_neg (by omega)] at h
   simpa using h
  refine (gM A n c l d _ w hR (fun hn=>by obtain⟨b,o,e,_,hh⟩:=hc hn;exact⟨b,o,e,hh⟩) (by simpa using hl) hb (by omega)).mono fun e w' ⟨h1,h2⟩=>?_
  exact⟨h1,h2⟩
end Go.Proofs.YtipmjleohadoeaaGreat
end
