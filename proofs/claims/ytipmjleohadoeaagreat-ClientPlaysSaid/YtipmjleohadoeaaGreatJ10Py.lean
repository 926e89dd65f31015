import Derived.Test.YtipmjleohadoeaaGreatJ5Py
import Derived.Test.YtipmjleohadoeaaGreatJ9Py
import Derived.Test.YtipmjleohadoeaaGreatGgPy
import Derived.Test.YtipmjleohadoeaaGreatJ8Py
import Derived.BigRegion
import Derived.Deep.CutBlock
set_option maxRecDepth 100000
set_option maxHeartbeats 16000000
set_option linter.unusedVariables false
set_option linter.unusedSimpArgs false
section
namespace Go.Proofs.YtipmjleohadoeaaGreat
open Go.RowKit
section
variable {P:Program} {ops:Array Oper} {md:Region.Mode} {Q:Exit→Act→World→Prop}
structure AnyW where
 W:World
instance:Nonempty AnyW:=⟨⟨default⟩⟩
def fg (md:Region.Mode) (ops:Array Oper):Bool:=(List.range ops.size).all fun j=>match ops[j]? with
 |some o=>o.after.all fun e=>!Region.binds md e||decide (e.on < j)
 |none=>true
theorem ee {listed:Array Bool} (hB:fg md ops=true):∀(n i:Nat),i≤n→i < ops.size→listed.getD i true=false→Region.ready md ops listed≠[]
 |n,i,hin,hi,hl=>by
  intro h0
  by_cases hr:i∈Region.ready md ops listed
  ·rw[h0] at hr;cases hr
  ·obtain⟨o,ho⟩:∃o,ops[i]? =some o:=⟨ops[i],Array.getElem?_eq_getElem hi⟩
   have c:∃e∈o.after,Region.binds md e=true∧listed.getD e.on false≠true:=by
    by_cases hx:∃e∈o.after,Region.binds md e=true∧listed.getD e.on false≠true
    ·exact hx
    ·exfalso
     apply hr
     refine mem_ready.2 ⟨hl,o,ho,fun e he hb=>?_⟩
     by_cases h1:listed.getD e.on false=true
     ·exact h1
     ·exact absurd ⟨e,he,hb,h1⟩ hx
   obtain⟨e,he,hb,a⟩:=c
   have hj:=List.all_eq_true.1 hB i (List.mem_range.2 hi)
   rw[ho] at hj
   have hlt:e.on < i:=by
    have h1:=Array.all_eq_true_iff_forall_mem.1 hj e he
    rw[hb] at h1
    simpa using h1
   have d:i < listed.size:=by
    by_cases h:i < listed.size
    ·exact h
    ·rw[Array.getD_eq_getD_getElem?,Array.getElem?_eq_none (by omega)] at hl
     cases hl
   have b:listed.getD e.on true=false:=by
    have h2:e.on < listed.size:=by omega
    rw[Array.getD_eq_getD_getElem?,Array.getElem?_eq_getElem h2] at a ⊢
    simpa using a
   cases n with
   |zero=>omega
   |succ n=>exact ee hB n e.on (by omega) (by omega) b h0
theorem kQ {i:Nat} {oi:Oper} {v:Value} (hi:ops[i]? =some oi) (hE:fg md ops=true) (l:∀(j:Nat) (o:Oper) cs b,ops[j]? =some o→o.op≠.select cs b)
 (hQ:∀c a w,Q (.panic c) (a.put oi.dst v) w→Q (.panic c) a w):
 ∀(fuel:Nat) (listed:Array Bool) (a:Act) (w:World),
  (∀j oj,ops[j]? =some oj→j≠i→listed.getD j true=false→(∀e∈oj.after,Region.binds md e=true→e.on≠i)→oi.apart ops oj=true)→
  listed.getD i true=false→Yields P ops oi v a→
  wpAny P md ops Q fuel (listed.setIfInBounds i true) (a.put oi.dst v) w→wpAny P md ops Q (fuel+1) listed a w:=by
 intro fuel
 have n:i < ops.size:=(tz hi).1
 induction fuel with
 |zero=>
  intro listed a w _ hr hy H
  refine⟨fun h=>absurd h (ee hE i i (tJ _) n hr),fun j hj=>?_⟩
  by_cases d:j=i
  ·subst d;exact hy.wpOp hi H
  ·have:=ready_mono (i:=i) hj d
   rw[H.1] at this
   cases this
 |succ fuel ih=>
  intro listed a w f hr hy H
  refine⟨fun h=>absurd h (ee hE i i (tJ _) n hr),fun j hj=>?_⟩
  by_cases d:j=i
  ·subst d;exact hy.wpOp hi H
  ·have h1:=H.2 j (ready_mono hj d)
   obtain⟨m,oj,p,t⟩:=mem_ready.1 hj
   have r:∀e∈oj.after,Region.binds md e=true→e.on≠i:=fun e he hb x=>by
    have h1:=t e he hb
    rw[x] at h1
    rcases Nat.lt_or_ge i listed.size with h'|h'
    ·simp[h'] at hr h1;rw[hr] at h1;cases h1
    ·simp[Array.getElem?_eq_none h'] at h1
   have h2:=wpOp_put p (f j oj p d m r) (fun cs b=>l i oi cs b hi) (fun cs b=>l j oj cs b p) hQ hy h1
   have g:∀k ok,ops[k]? =some ok→k≠i→(listed.setIfInBounds j true).getD k true=false→
    (∀e∈ok.after,Region.binds md e=true→e.on≠i)→oi.apart ops ok=true:=fun k ok hk u q hno=>by
    refine f k ok hk u ?_ hno
    by_cases s:j=k
    ·subst s;exact m
    ·rw[getD_set_ne true s] at q;exact q
   refine wpOp_mono (fun a' w' h3=>ih (listed.setIfInBounds j true) a' w' g (by rw[getD_set_ne true d];exact hr) h3.1 ?_) h2
   rw[Array.setIfInBounds_comm _ _ d]
   exact h3.2
def preB (md:Region.Mode) (l:List Oper) (listed:Array Bool) (i:Nat):Bool:=
 Region.noSelect l.toArray&&fg md l.toArray&&(match l[i]? with|some o=>jp o|none=>false)&& !listed.getD i true&&Region.free md l.toArray listed i
theorem dU {l:List Oper} (i:Nat) {fuel:Nat} {listed:Array Bool} {a:Act} {w:World} (hB:preB md l listed i=true)
 (hQ:∀c d v a w,Q (.panic c) (Act.put a d v) w→Q (.panic c) a w)
 (h:wpQuiet P l.toArray (fun w'=>∃p:AnyW,w'=p.W) (fun a'=>wpAny P md l.toArray Q fuel (listed.setIfInBounds i true) a' w) (l[i]?).toList a):wpAny P md l.toArray Q (fuel+1) listed a w:=by
 unfold preB at hB
 simp only[tI,Bool.not_eq_true'] at hB
 obtain⟨⟨⟨⟨hs,hE⟩,ho⟩,hl⟩,hf⟩:=hB
 cases b:l[i]? with
 |none=>rw[b] at ho;cases ho
 |some o=>
  rw[b] at ho h
  have e:l.toArray[i]? =some o:=by simpa using b
  obtain⟨v,hy,hK⟩:=cB (i:=i) (o:=o) (by simpa using ho) h
  have f:Yields P l.toArray o v a:=by
   rcases hy with⟨h1,h2⟩|h1
   ·exact .inl ⟨h1,fun w=>h2 w ⟨⟨w⟩,rfl⟩⟩
   ·exact .inr h1
  exact kQ e hE (Region.noSelect_spec hs) (fun c a w=>hQ c _ _ a w) fuel listed a w (Region.free_spec e hf) hl f hK
def closedD (md:Region.Mode) (ops:Array Oper) (D:List Nat) (listed:Array Bool):Prop:=(∀j∈D,listed.getD j true=true)∧∀j oj,j∉D→ops[j]? =some oj→listed.getD j false=true→∀e∈oj.after,Region.binds md e=true→listed.getD e.on false=true
theorem closedD.set {D:List Nat} {listed:Array Bool} {i:Nat} (h:closedD md ops D listed) (hi:i∈Region.ready md ops listed):closedD md ops D (listed.setIfInBounds i true):=by
 refine⟨fun j hj=>?_,?_⟩
 ·by_cases a:i=j
  ·subst a
   have:=(mem_ready.1 hi).1
   rw[h.1 i hj] at this;cases this
  ·rw[getD_set_ne true a];exact h.1 j hj
 ·intro j oj d hj hl e he hb
  obtain⟨_,oi,c,b⟩:=mem_ready.1 hi
  by_cases a:i=j
  ·subst a
   obtain rfl:=Option.some.inj (hj.symm.trans c)
   exact getD_set_true (b e he hb)
  ·rw[getD_set_ne false a] at hl
   exact getD_set_true (h.2 j oj d hj hl e he hb)
def waitD (md:Region.Mode) (D:List Nat) (r:Nat):List Oper→Nat→List Nat→List Nat
 | [],_,acc=>acc
 |o :: t,j,acc=>waitD md D r t (j+1) (if j==r||(!D.contains j&&o.after.any (fun e=>Region.binds md e&&acc.contains e.on)) then j :: acc else acc)
theorem waitD.not {D:List Nat} {listed:Array Bool} {r:Nat} (h:closedD md ops D listed) (hr:listed.getD r false=false):∀(t:List Oper) (j:Nat) (acc:List Nat),(∀i,t[i]? =ops[j+i]?)→
 (∀k∈acc,jX md ops listed r k)→∀k∈waitD md D r t j acc,jX md ops listed r k
 | [],_,_,_,hacc=>hacc
 |o :: t,j,acc,ht,hacc=>by
  refine waitD.not h hr t (j+1) _ (fun i=>by have:=ht (i+1);simpa [Nat.add_assoc,Nat.add_comm 1 i] using this) ?_
  split
  ·rename_i hc
   intro k hk
   rcases List.mem_cons.1 hk with hk|hk
   ·subst hk
    have a:ops[k]? =some o:=by simpa using (ht 0).symm
    rw[Bool.or_eq_true] at hc
    rcases hc with hc|hc
    ·have:k=r:=by simpa using hc
     subst this
     exact⟨hr,.inl rfl⟩
    ·rw[tI] at hc
     have f:k∉D:=by simpa using hc.1
     obtain⟨e,he,hb⟩:=Array.any_eq_true'.1 hc.2
     rw[tI] at hb
     have h2:=(hacc e.on (by simpa using hb.2)).1
     refine⟨?_,.inr fun c=>?_⟩
     ·cases hl:listed.getD k false with
      |false=>rfl
      |true=>have:=h.2 k o f a hl e he hb.1;rw[h2] at this;cases this
     ·obtain⟨_,o',d,b⟩:=mem_ready.1 c
      obtain rfl:=Option.some.inj (d.symm.trans a)
      have:=b e he hb.1
      rw[h2] at this;cases this
   ·exact hacc k hk
  ·exact hacc
theorem phAny.firstD {S:World→Prop} {D:List Nat} {i:Nat} {oi:Oper} {v:Value} {fl:List Nat} {L:Array Bool→Act→World→Prop} (hi:ops[i]? =some oi) (p:∀(j:Nat) (o:Oper) cs b,ops[j]? =some o→o.op≠.select cs b)
 (x:i∈fl) (hw:∀j,j < ops.size→j∉fl→j∉D→j∈waitD md D i ops.toList 0 [])
 (s:∀listed a w,L listed a w→∀j∈Region.ready md ops listed,j∉fl):
 ∀(f:Nat) (listed:Array Bool) (a:Act) (w:World),closedD md ops D listed→
  (∀j oj,ops[j]? =some oj→j≠i→listed.getD j true=false→(∀e∈oj.after,Region.binds md e=true→e.on≠i)→oi.apart ops oj=true)→
  i∈Region.ready md ops listed→YieldsIf P ops S oi v a→S w→
  phAny P md ops S fl L f (listed.setIfInBounds i true) (a.put oi.dst v) w→phAny P md ops S fl L (f+1) listed a w:=by
 intro f
 induction f with
 |zero=>
  intro listed a w hcl _ hr hy hS H
  have d:=(mem_ready.1 hr).1
  refine⟨fun h=>(by rw[h] at hr;cases hr),fun j hj=>?_⟩
  have m:j∈fl:=by
   by_cases h:j∈fl
   ·exact h
   ·obtain⟨_,oj,g,r⟩:=mem_ready.1 hj
    rcases (waitD.not hcl (getD_both d) ops.toList 0 [] (by simp) (fun k hk=>by cases hk) j (hw j (tz g).1 h (fun hD=>by have:=hcl.1 j hD;rw[(mem_ready.1 hj).1] at this;cases this))).2 with h2|h2
    ·subst h2;exact x
    ·exact absurd hj h2
  refine⟨m,?_⟩
  by_cases c:j=i
  ·subst c;exact hy.wpOp hi hS ⟨hS,H⟩
  ·exact absurd m (s _ _ _ H j (ready_mono hj c))
 |succ f ih=>
  intro listed a w hcl l hr hy hS H
  have d:=(mem_ready.1 hr).1
  refine⟨fun h=>(by rw[h] at hr;cases hr),fun j hj=>?_⟩
  obtain⟨q,oj,g,r⟩:=mem_ready.1 hj
  have m:j∈fl:=by
   by_cases h:j∈fl
   ·exact h
   ·rcases (waitD.not hcl (getD_both d) ops.toList 0 [] (by simp) (fun k hk=>by cases hk) j (hw j (tz g).1 h (fun hD=>by have:=hcl.1 j hD;rw[(mem_ready.1 hj).1] at this;cases this))).2 with h2|h2
    ·subst h2;exact x
    ·exact absurd hj h2
  refine⟨m,?_⟩
  by_cases c:j=i
  ·subst c;exact hy.wpOp hi hS ⟨hS,H⟩
  ·have h1:=(H.2 j (ready_mono hj c)).2
   have t:∀e∈oj.after,Region.binds md e=true→e.on≠i:=fun e he hb z=>by
    have h1:=r e he hb
    rw[z,getD_both d] at h1
    cases h1
   have h2:=wpOp_putIf g (l j oj g c q t) (fun cs b=>p i oi cs b hi) (fun cs b=>p j oj cs b g) (fun _ _ _ h=>h) hy h1
   have n:∀k ok,ops[k]? =some ok→k≠i→(listed.setIfInBounds j true).getD k true=false→
    (∀e∈ok.after,Region.binds md e=true→e.on≠i)→oi.apart ops ok=true:=fun k ok hk y d hno=>by
    refine l k ok hk y ?_ hno
    by_cases u:j=k
    ·subst u;exact q
    ·rw[getD_set_ne true u] at d;exact d
   refine wpOp_mono (fun a' w' h3=>⟨h3.2.1,ih (listed.setIfInBounds j true) a' w' (hcl.set hj) n (ready_mono hr (Ne.symm c)) h3.1 h3.2.1 ?_⟩) h2
   rw[Array.setIfInBounds_comm _ _ c]
   exact h3.2.2
theorem phAny.walkD {D:List Nat} {l:List Oper} {W:World} {E:Act→World→Prop} {fin:Array Bool→Bool} {fl:List Nat} (d:Region.noSelect l.toArray=true)
 (e:∀listed,fin listed=true→∀j∈Region.ready md l.toArray listed,j∉fl)
 :
 ∀(t:List (Bool×Nat)) (listed:Array Bool) (a:Act) (w:World),(∀p∈t,p.2∈fl∧(p.1=true→∀j,j < l.toArray.size→j∉fl→j∉D→j∈waitD md D p.2 l.toArray.toList 0 []))→closedD md l.toArray D listed→
  phB md l fin t listed=true→(∃p:Later W,w=p.W)→phW P l W E t a w→
  phAny P md l.toArray (fun w'=>∃p:Later W,w'=p.W) fl (fun listed a w=>fin listed=true∧E a w) t.length listed a w
 | [],listed,a,w,_,_,hB,_,h=>⟨by simpa [phB] using hB,h⟩
 |(true,i) :: t,listed,a,w,hp,hcl,hB,hS,h=>by
  simp only[phB,tI] at hB
  obtain⟨⟨⟨ho,hr⟩,hf⟩,n⟩:=hB
  have b:i∈Region.ready md l.toArray listed:=by simpa using hr
  obtain⟨_,o,c,_⟩:=mem_ready.1 b
  have f:l[i]? =some o:=by simpa using c
  rw[f] at ho
  have h':wpQuiet P l.toArray (fun w'=>∃p:Later W,w'=p.W) (fun a'=>phW P l W E t a' w) [o] a:=by
   have:=h
   unfold phW at this
   rw[f] at this
   exact this
  obtain⟨v,hy,hK⟩:=cB (i:=i) (by simpa using ho) h'
  obtain⟨h1,h2⟩:=hp (true,i) List.mem_cons_self
  exact phAny.firstD c (Region.noSelect_spec d) h1 (h2 rfl) (fun listed a w hL=>e listed hL.1) _ _ _ _ hcl (Region.free_spec c hf) b hy hS
   (phAny.walkD d e t _ _ _ (fun p k=>hp p (by simp[k])) (hcl.set b) n hS hK)
 |(false,i) :: t,listed,a,w,hp,hcl,hB,hS,h=>by
  simp only[phB,tI,decide_eq_true_eq] at hB
  refine⟨by rw[hB.1];simp,fun j hj=>?_⟩
  rw[hB.1] at hj
  have m:j=i:=by simpa using hj
  subst m
  refine⟨(hp (false,j) List.mem_cons_self).1,?_⟩
  have b:j∈Region.ready md l.toArray listed:=by rw[hB.1];simp
  obtain⟨_,o,c,_⟩:=mem_ready.1 b
  have f:l[j]? =some o:=by simpa using c
  have h':wpList P l.toArray (eJ fun a' w'=>(∃p:Later W,w'=p.W)∧phW P l W E t a' w') [o] a w:=by
   have:=h
   unfold phW at this
   rw[f] at this
   exact this
  have h2:wpOp P l.toArray noQ j (fun a' w'=>(∃p:Later W,w'=p.W)∧phW P l W E t a' w') a w:=by
   unfold wpOp
   simp only[c]
   unfold wpList at h'
   split
   ·rename_i g
    rw[if_pos g] at h'
    rcases h' with h'|⟨_,_,_,h'⟩
    ·exact .inl (eZ (Oper.wp_mono (fun a w h=>h) h'))
    ·exact absurd h' id
   ·rename_i g
    rw[if_neg g] at h'
    exact h'
  exact wpOp_mono (fun a' w' h3=>⟨h3.1,phAny.walkD d e t _ _ _ (fun p k=>hp p (by simp[k])) (hcl.set b) hB.2 h3.1 h3.2⟩) h2
def rM (md:Region.Mode) (ops:Array Oper) (D:List Nat) (sch:List (Bool×Nat)):Bool:=
 sch.all fun p=>!p.1||(let acc:=waitD md D p.2 ops.toList 0 [];(List.range ops.size).all fun j=>(sch.map (·.2)).contains j||(D.contains j||acc.contains j))
def jC (sch:List (Bool×Nat)) (listed:Array Bool):Array Bool:=sch.foldl (fun x p=>x.setIfInBounds p.2 true) listed
def n6 (md:Region.Mode) (l:List Oper) (D:List Nat) (listed:Array Bool) (sch:List (Bool×Nat)):Bool:=
 Region.noSelect l.toArray&&rM md l.toArray D sch&&(Region.ready md l.toArray (jC sch listed)).all (fun j=>!(sch.map (·.2)).contains j)&&phB md l (fun x=>decide (x=jC sch listed)) sch listed&&
 (D.all (fun j=>listed.getD j true)&&(List.range l.length).all fun j=>match l[j]? with|some o=>D.contains j|| !listed.getD j false||o.after.all (fun e=>!Region.binds md e||listed.getD e.on false)|none=>true)
theorem kg {l:List Oper} (D:List Nat) (d:List (Bool×Nat)) (g:Nat) {listed:Array Bool} {a:Act} {w:World} (hB:n6 md l D listed d=true)
 (h:phW P l w (fun a' w'=>wpAny P md l.toArray Q g (jC d listed) a' w') d a w):wpAny P md l.toArray Q (d.length+g) listed a w:=by
 simp only[n6,tI] at hB
 obtain⟨⟨⟨⟨i,hw⟩,hr⟩,hP⟩,s,r⟩:=hB
 refine phAny.any (S:=fun w'=>∃p:Later w,w'=p.W) (fl:=d.map (·.2)) (L:=fun c a' w'=>decide (c=jC d listed)=true∧wpAny P md l.toArray Q g (jC d listed) a' w') (fun c a' w' hL=>by
  have h1:=of_decide_eq_true hL.1
  subst h1
  exact hL.2) _ _ _ _ ?_
 refine phAny.walkD (D:=D) (fin:=fun x=>decide (x=jC d listed)) i (fun c hf j hj=>?_) d listed a w (fun p hp=>⟨List.mem_map_of_mem hp,fun m j o hj f=>?_⟩) ⟨fun j hj=>?_,fun j oj f hj hl e he hb=>?_⟩ hP ⟨⟨w,Below.refl _ _⟩,rfl⟩ h
 ·have h1:=of_decide_eq_true hf
  subst h1
  have h2:=List.all_eq_true.1 hr j hj
  intro hm
  simp[List.contains_iff_mem] at h2
  obtain⟨⟨b,k⟩,hp,rfl⟩:=List.mem_map.1 hm
  cases b
  ·exact h2.1 hp
  ·exact h2.2 hp
 ·have h1:=List.all_eq_true.1 hw p hp
  rw[m,Bool.not_true,Bool.false_or] at h1
  have h2:=List.all_eq_true.1 h1 j (List.mem_range.2 o)
  rw[Bool.or_eq_true,Bool.or_eq_true] at h2
  rcases h2 with h2|h2|h2
  ·exact absurd (by simpa [List.contains_iff_mem] using h2) (by simpa using hj)
  ·exact absurd (by simpa using h2) f
  ·simpa using h2
 ·exact List.all_eq_true.1 s j hj
 ·have q:j < l.length:=by simpa using (tz hj).1
  have h1:=List.all_eq_true.1 r j (List.mem_range.2 q)
  have n:l[j]? =some oj:=by simpa using hj
  rw[n] at h1
  simp only[Bool.or_eq_true,Bool.not_eq_true'] at h1
  rcases h1 with (h1|h1)|h1
  ·exact absurd (by simpa using h1) f
  ·rw[hl] at h1;cases h1
  ·have h2:=Array.all_eq_true_iff_forall_mem.1 h1 e he
   rw[hb] at h2
   simpa using h2
theorem iZ {l:List Oper} (i:Nat) {fuel:Nat} {listed:Array Bool} {a:Act} {w:World} (hr:decide (Region.ready md l.toArray listed=[i])=true)
 (h:wpList P l.toArray (eJ fun a' w'=>wpAny P md l.toArray Q fuel (listed.setIfInBounds i true) a' w') (l[i]?).toList a w):wpAny P md l.toArray Q (fuel+1) listed a w:=by
 have hr:=of_decide_eq_true hr
 refine⟨by rw[hr];simp,fun j hj=>?_⟩
 rw[hr] at hj
 have f:j=i:=by simpa using hj
 subst f
 have d:j∈Region.ready md l.toArray listed:=by rw[hr];simp
 obtain⟨_,o,c,_⟩:=mem_ready.1 d
 have e:l[j]? =some o:=by simpa using c
 rw[e] at h
 have h':wpList P l.toArray (eJ fun a' w'=>wpAny P md l.toArray Q fuel (listed.setIfInBounds j true) a' w') [o] a w:=h
 have h2:wpOp P l.toArray noQ j (fun a' w'=>wpAny P md l.toArray Q fuel (listed.setIfInBounds j true) a' w') a w:=by
  unfold wpOp
  simp only[c]
  unfold wpList at h'
  split
  ·rename_i b
   rw[if_pos b] at h'
   rcases h' with h'|⟨_,_,_,h'⟩
   ·exact .inl (eZ (Oper.wp_mono (fun a w h=>h) h'))
   ·exact absurd h' id
  ·rename_i b
   rw[if_neg b] at h'
   exact h'
 exact ic (fun _ _ h=>h) h2
theorem mH {l:List Oper} {fuel:Nat} {listed:Array Bool} {a:Act} {w:World} (hr:decide (Region.ready md l.toArray listed=[])=true) (h:Q .normal a w):wpAny P md l.toArray Q fuel listed a w:=wpAny_done (of_decide_eq_true hr) h fuel
theorem eW {id:Nat} {a:Act} {w:World} {l:List Oper} (n:Nat) (hn:l.length=n) (hm:P.follows .mixedOrders=true) (h:wpAny P .any l.toArray Q n (Array.replicate n false) a w.drew):(Code.region id l.toArray true).wp P Q a w:=by
 subst hn
 refine wp_region_any hm ?_
 have b:l.toArray.size=l.length:=by simp
 rw[b]
 exact h
end
theorem aq {P:Program} {ops:Array Oper} {C:World→Prop} {Q:Act→Prop} {d:Option Nat} {op:Op} {t:TypeId} {ps:String} {af:Array Edge} {gd:Nat×Bool} {rest:List Oper} {a:Act} (hw:Region.wanted ⟨d,op,t,ps,af,some gd⟩ (yielded ops a.tmps)=true)
 (h:wpQuiet P ops C Q (⟨d,op,t,ps,af,none⟩ :: rest) a):wpQuiet P ops C Q (⟨d,op,t,ps,af,some gd⟩ :: rest) a:=by
 unfold wpQuiet at h ⊢
 rw[if_pos hw]
 rw[if_pos (by simp[Region.wanted])] at h
 exact h
theorem qg (n lo hi:Int) (w:World):Calls Tryz.prog 73 #[.int .i64 n,.int .i64 lo,.int .i64 hi] w fun e w'=>e= .returned (.bool (Psp.win n lo hi))∧w=w':=by
 by_cases h1:lo≤n
 ·have d1:decide (n≥lo)=true:=tB h1
  by_cases h2:n≤hi
  ·go_enter Tryz.func73,Tryz.ntmps73
   go_wp2_with fail
   go_ret
   exact⟨by simp[Psp.win,h1,h2],rfl⟩
  ·go_enter Tryz.func73,Tryz.ntmps73
   go_wp2_with fail
   go_ret
   exact⟨by simp[Psp.win,h2],rfl⟩
 ·have d1:decide (n≥lo)=false:=tA h1
  go_enter Tryz.func73,Tryz.ntmps73
  go_wp2_with fail
  go_ret
  exact⟨by rw[(Psp.dm n lo hi).2 (by omega)];rfl,rfl⟩
theorem lU (c:Cf) (w:World) (hc:c.ok=true):Calls Tryz.prog 46 #[.agg #[.int .i64 c.f,.int .i64 c.cl,.int .i64 c.c2,.int .i64 c.c3,.int .i64 c.c4,.int .i64 c.c5,.int .i64 c.c6,.int .i64 c.c7,.int .i64 c.c8,.int .i64 c.c9,.int .i64 c.c10,.int .i64 c.c11,.int .i64 c.c12,.int .i64 c.c13,.int .i64 c.re]] w fun e w'=>e= .returned (.bool true)∧Below w.heap.size w w':=by
 unfold Cf.ok at hc
 simp only[tI] at hc
 obtain⟨h0,h1,h2,h3,h4,h5,h6,h7,h8,h9,h,g,d,b,a⟩:=hc
 have Hb:=tt (ae w (.cells #[.int .i64 c.f,.int .i64 c.cl,.int .i64 c.c2,.int .i64 c.c3,.int .i64 c.c4,.int .i64 c.c5,.int .i64 c.c6,.int .i64 c.c7,.int .i64 c.c8,.int .i64 c.c9,.int .i64 c.c10,.int .i64 c.c11,.int .i64 c.c12,.int .i64 c.c13,.int .i64 c.re] 37))
 go_enter Tryz.func46,Tryz.ntmps46
 go_wp2_with (first|(go_at_call 73;refine (qg _ _ _ _).mono ?_;rintro e w' ⟨rfl,rfl⟩))
 go_ret
 exact⟨rfl,Hb.out⟩
theorem r9 (c:Cf) (id:Int) (g:Nat) (w:World) (hc:c.ok=true) (q:¬ (0≤id∧id < c.cl)):
 Calls Tryz.prog 10 #[.agg #[.int .i64 c.f,.int .i64 c.cl,.int .i64 c.c2,.int .i64 c.c3,.int .i64 c.c4,.int .i64 c.c5,.int .i64 c.c6,.int .i64 c.c7,.int .i64 c.c8,.int .i64 c.c9,.int .i64 c.c10,.int .i64 c.c11,.int .i64 c.c12,.int .i64 c.c13,.int .i64 c.re],.int .i64 id,.pointer (some ⟨g,0,none⟩)] w fun e w'=>e= .returned (.tuple #[.pointer none,.int .i64 1])∧Below w.heap.size w w':=by
 by_cases h0:id < 0
 case' pos=>
  have d1:decide (id < 0)=true:=tB h0
 case' neg=>
  have d1:decide (id < 0)=false:=tA h0
  have d2:decide (id≥c.cl)=true:=tB (by omega)
 all_goals
  have d:=ae w (.cells #[.int .i64 c.f,.int .i64 c.cl,.int .i64 c.c2,.int .i64 c.c3,.int .i64 c.c4,.int .i64 c.c5,.int .i64 c.c6,.int .i64 c.c7,.int .i64 c.c8,.int .i64 c.c9,.int .i64 c.c10,.int .i64 c.c11,.int .i64 c.c12,.int .i64 c.c13,.int .i64 c.re] 37)
  have a:=tL w (.cells #[.int .i64 c.f,.int .i64 c.cl,.int .i64 c.c2,.int .i64 c.c3,.int .i64 c.c4,.int .i64 c.c5,.int .i64 c.c6,.int .i64 c.c7,.int .i64 c.c8,.int .i64 c.c9,.int .i64 c.c10,.int .i64 c.c11,.int .i64 c.c12,.int .i64 c.c13,.int .i64 c.re] 37)
  go_enter Tryz.func10,Tryz.ntmps10
  go_upto_region 1 with fail
  obtain⟨W,hW⟩:∃W,w.alloc (.cells #[.int .i64 c.f,.int .i64 c.cl,.int .i64 c.c2,.int .i64 c.c3,.int .i64 c.c4,.int .i64 c.c5,.int .i64 c.c6,.int .i64 c.c7,.int .i64 c.c8,.int .i64 c.c9,.int .i64 c.c10,.int .i64 c.c11,.int .i64 c.c12,.int .i64 c.c13,.int .i64 c.re] 37)=W:=⟨_,rfl⟩
  rw[hW] at d a ⊢
  clear hW
  have hlt:=(tz a).1
  have h:=tt d
  have n:=tt a
  have q0:=am a 0 rfl
  have q1:=am a 1 rfl
  have q2:=am a 2 rfl
  have q3:=am a 3 rfl
  have q4:=am a 4 rfl
  have q5:=am a 5 rfl
  have q6:=am a 6 rfl
  have q7:=am a 7 rfl
  have q8:=am a 8 rfl
  have q9:=am a 9 rfl
  have m:=am a 10 rfl
  have l:=am a 11 rfl
  have k:=am a 12 rfl
  have j:=am a 13 rfl
  have i:=am a 14 rfl
  clear d a
  go_wp2_with fail
  clear q0 q1 q2 q3 q4 q5 q6 q7 q8 q9 m l k j i
  refine (pK c W hc).mono ?_
  rintro e w1 ⟨rfl,hb1⟩
  have b:=(hb1.block _ hlt).trans n.out
  have o:=tt (Below.then h.out hb1 h.out.size)
  have p:=hb1.size
  have f1:=am b 1 rfl
  have r:=tt b
  clear hb1 b
  go_wp2_with fail
  go_ret2
  exact⟨rfl,o.out⟩
theorem qf (c:Cf) (id:Int) (g:Nat) (w:World) (hc:c.ok=true) (q:¬ (0≤id∧id < c.cl)):
 Calls Tryz.prog 26 #[.agg #[.int .i64 c.f,.int .i64 c.cl,.int .i64 c.c2,.int .i64 c.c3,.int .i64 c.c4,.int .i64 c.c5,.int .i64 c.c6,.int .i64 c.c7,.int .i64 c.c8,.int .i64 c.c9,.int .i64 c.c10,.int .i64 c.c11,.int .i64 c.c12,.int .i64 c.c13,.int .i64 c.re],.int .i64 id,.pointer (some ⟨g,0,none⟩)] w fun e w'=>e= .returned (.tuple #[.pointer none,.int .i64 1])∧Below w.heap.size w w':=by
 by_cases h0:id < 0
 case' pos=>
  have d1:decide (id < 0)=true:=tB h0
 case' neg=>
  have d1:decide (id < 0)=false:=tA h0
  have d2:decide (id≥c.cl)=true:=tB (by omega)
 all_goals
  have d:=ae w (.cells #[.int .i64 c.f,.int .i64 c.cl,.int .i64 c.c2,.int .i64 c.c3,.int .i64 c.c4,.int .i64 c.c5,.int .i64 c.c6,.int .i64 c.c7,.int .i64 c.c8,.int .i64 c.c9,.int .i64 c.c10,.int .i64 c.c11,.int .i64 c.c12,.int .i64 c.c13,.int .i64 c.re] 37)
  have a:=tL w (.cells #[.int .i64 c.f,.int .i64 c.cl,.int .i64 c.c2,.int .i64 c.c3,.int .i64 c.c4,.int .i64 c.c5,.int .i64 c.c6,.int .i64 c.c7,.int .i64 c.c8,.int .i64 c.c9,.int .i64 c.c10,.int .i64 c.c11,.int .i64 c.c12,.int .i64 c.c13,.int .i64 c.re] 37)
  go_enter Tryz.func26,Tryz.ntmps26
  go_upto_region 1 with fail
  obtain⟨W,hW⟩:∃W,w.alloc (.cells #[.int .i64 c.f,.int .i64 c.cl,.int .i64 c.c2,.int .i64 c.c3,.int .i64 c.c4,.int .i64 c.c5,.int .i64 c.c6,.int .i64 c.c7,.int .i64 c.c8,.int .i64 c.c9,.int .i64 c.c10,.int .i64 c.c11,.int .i64 c.c12,.int .i64 c.c13,.int .i64 c.re] 37)=W:=⟨_,rfl⟩
  rw[hW] at d a ⊢
  clear hW
  have hlt:=(tz a).1
  have h:=tt d
  have n:=tt a
  have q0:=am a 0 rfl
  have q1:=am a 1 rfl
  have q2:=am a 2 rfl
  have q3:=am a 3 rfl
  have q4:=am a 4 rfl
  have q5:=am a 5 rfl
  have q6:=am a 6 rfl
  have q7:=am a 7 rfl
  have q8:=am a 8 rfl
  have q9:=am a 9 rfl
  have m:=am a 10 rfl
  have l:=am a 11 rfl
  have k:=am a 12 rfl
  have j:=am a 13 rfl
  have i:=am a 14 rfl
  clear d a
  go_wp2_with fail
  clear q0 q1 q2 q3 q4 q5 q6 q7 q8 q9 m l k j i
  refine (lU c W hc).mono ?_
  rintro e w1 ⟨rfl,hb1⟩
  have b:=(hb1.block _ hlt).trans n.out
  have o:=tt (Below.then h.out hb1 h.out.size)
  have p:=hb1.size
  have f1:=am b 1 rfl
  have r:=tt b
  clear hb1 b
  go_wp2_with fail
  go_ret2
  exact⟨rfl,o.out⟩
theorem ot (c:Cf) (id:Int) (h:Nat) (w:World) (hc:c.ok=true) (v:0≤id∧id < c.cl):
 Calls Tryz.prog 26 #[.agg #[.int .i64 c.f,.int .i64 c.cl,.int .i64 c.c2,.int .i64 c.c3,.int .i64 c.c4,.int .i64 c.c5,.int .i64 c.c6,.int .i64 c.c7,.int .i64 c.c8,.int .i64 c.c9,.int .i64 c.c10,.int .i64 c.c11,.int .i64 c.c12,.int .i64 c.c13,.int .i64 c.re],.int .i64 id,.pointer (some ⟨h,0,none⟩)] w fun e w'=>∃k,e= .returned (.tuple #[.pointer (some ⟨k,0,none⟩),.int .i64 0])∧Rcm w' (fun b=>b=k) k h c id rc0∧Below w.heap.size w w'∧w.heap.size≤k:=by
 have d1:decide (id < 0)=false:=tA (by omega)
 have d2:decide (id≥c.cl)=false:=tA (by omega)
 have g:=ae w (.cells #[.int .i64 c.f,.int .i64 c.cl,.int .i64 c.c2,.int .i64 c.c3,.int .i64 c.c4,.int .i64 c.c5,.int .i64 c.c6,.int .i64 c.c7,.int .i64 c.c8,.int .i64 c.c9,.int .i64 c.c10,.int .i64 c.c11,.int .i64 c.c12,.int .i64 c.c13,.int .i64 c.re] 37)
 have a:=tL w (.cells #[.int .i64 c.f,.int .i64 c.cl,.int .i64 c.c2,.int .i64 c.c3,.int .i64 c.c4,.int .i64 c.c5,.int .i64 c.c6,.int .i64 c.c7,.int .i64 c.c8,.int .i64 c.c9,.int .i64 c.c10,.int .i64 c.c11,.int .i64 c.c12,.int .i64 c.c13,.int .i64 c.re] 37)
 go_enter Tryz.func26,Tryz.ntmps26
 go_upto_region 1 with fail
 obtain⟨W,hW⟩:∃W,w.alloc (.cells #[.int .i64 c.f,.int .i64 c.cl,.int .i64 c.c2,.int .i64 c.c3,.int .i64 c.c4,.int .i64 c.c5,.int .i64 c.c6,.int .i64 c.c7,.int .i64 c.c8,.int .i64 c.c9,.int .i64 c.c10,.int .i64 c.c11,.int .i64 c.c12,.int .i64 c.c13,.int .i64 c.re] 37)=W:=⟨_,rfl⟩
 rw[hW] at g a ⊢
 clear hW
 have hlt:=(tz a).1
 have i:=tt g
 have r:=tt a
 have q0:=am a 0 rfl
 have q1:=am a 1 rfl
 have q2:=am a 2 rfl
 have q3:=am a 3 rfl
 have q4:=am a 4 rfl
 have q5:=am a 5 rfl
 have q6:=am a 6 rfl
 have q7:=am a 7 rfl
 have q8:=am a 8 rfl
 have q9:=am a 9 rfl
 have p:=am a 10 rfl
 have o:=am a 11 rfl
 have n:=am a 12 rfl
 have m:=am a 13 rfl
 have l:=am a 14 rfl
 clear g a
 go_wp2_with fail
 clear q0 q1 q2 q3 q4 q5 q6 q7 q8 q9 p o n m l
 refine (lU c W hc).mono ?_
 rintro e w1 ⟨rfl,hb1⟩
 have d:=(hb1.block _ hlt).trans r.out
 have j:=tt (Below.then i.out hb1 i.out.size)
 have u:=hb1.size
 have f1:=am d 1 rfl
 have s:=tt d
 clear hb1 d
 have t:Hid (w1.rangeAt w.heap.size 0 [.int .i64 c.f,.int .i64 c.cl,.int .i64 c.c2,.int .i64 c.c3,.int .i64 c.c4,.int .i64 c.c5,.int .i64 c.c6,.int .i64 c.c7,.int .i64 c.c8,.int .i64 c.c9,.int .i64 c.c10,.int .i64 c.c11,.int .i64 c.c12,.int .i64 c.c13,.int .i64 c.re]):=tt (aB s.out)
 go_wp2_with (refine aA rfl 37 (.tmp 3) rfl w.heap.size 0 rfl [.int .i64 c.f,.int .i64 c.cl,.int .i64 c.c2,.int .i64 c.c3,.int .i64 c.c4,.int .i64 c.c5,.int .i64 c.c6,.int .i64 c.c7,.int .i64 c.c8,.int .i64 c.c9,.int .i64 c.c10,.int .i64 c.c11,.int .i64 c.c12,.int .i64 c.c13,.int .i64 c.re] _ t.out Tryz.underlying37 rfl eO ?_)
 go_ret2
 have a2:=ae w1 (.cells (rcA c id h rc0 (.slice none 0 0) (.slice none 0 0) (.slice none 0 0) (.slice none 0 0)) 89)
 have r2:=tL w1 (.cells (rcA c id h rc0 (.slice none 0 0) (.slice none 0 0) (.slice none 0 0) (.slice none 0 0)) 89)
 have hz:=j.out.size
 have q:(w1.alloc (.cells (rcA c id h rc0 (.slice none 0 0) (.slice none 0 0) (.slice none 0 0) (.slice none 0 0)) 89)).heap.size=w1.heap.size+1:=by simp
 exact⟨w1.heap.size,rfl,⟨⟨_,_,_,_,[],r2,World.ownsRow_nil _ _ _ _,World.ownsRow_nil _ _ _ _,World.ownsRow_nil _ _ _ _,rfl,Outs.nil,fun b hb=>(by simp[Value.ownBlock] at hb),fun b hb=>(by simp[Value.ownBlock] at hb),fun b hb=>(by simp[Value.ownBlock] at hb),rfl,fun b hb=>by rw[hb];exact Nat.lt_of_lt_of_eq (Nat.lt_succ_self _) q.symm⟩⟩,j.out.trans (a2.mono hz),hz⟩
theorem oH (U:Nat→Prop) (k h:Nat) (c:Cf) (id:Int) (s:RC) (w:World) (H:Rcm w U k h c id s) (hf:1≤c.f∧c.f≤4) (aa:s.out.length≤1000000):
 Calls Tryz.prog 76 #[.pointer (some ⟨k,0,none⟩)] w fun e w'=>e= .returned (.tuple #[])∧∃U',Rcm w' U' k h c id {s with out:=s.out++bK (Psp.aO c.f).toNat s.bs}∧(∀b,U' b→U b∨w.heap.size≤b)∧Fp U w w':=by
 have HH:=tt H
 have hnn:=fd hf
 obtain⟨n,hn⟩:∃n,(Psp.aO c.f).toNat=n:=⟨_,rfl⟩
 have hnb:(n:Int)=Psp.aO c.f:=by omega
 have D:=tt hnb
 have X:n≤13:=by omega
 rw[hn]
 clear hn hnn hnb H
 go_enter Tryz.func76,Tryz.ntmps76
 go_upto_region 1 with fail
 go_loopw [2] (fun i wr=>∃(j:Nat) (U':Nat→Prop),i= .int .i64 (j:Int)∧j≤n∧Hid (Rcm wr U' k h c id {s with out:=s.out++bK j s.bs})∧Hid (∀b,U' b→U b∨w.heap.size≤b)∧Hid (Fp U w wr)) (fun i _=>n - (intOf i).toNat)
 case atStart=>exact⟨0,U,rfl,Nat.zero_le _,tt (by show Rcm w U k h c id {s with out:=s.out++[]};rw[List.append_nil];exact HH.out),tt fun b hb=>.inl hb,tt (Fp.refl _ _)⟩
 case round=>
  obtain⟨j,U',rfl,hj,HC,HU,HF⟩:=hrel
  obtain⟨Ab,cb,Ai,ci,Ac,cc,Ao,co,L,ho⟩:=HC.out.opens
  have HO:=tt ho
  have l:=ho.row
  have f0:wr.cell? ⟨k,0,none⟩=some (.int .i64 c.f):=am l 0 rfl
  by_cases hlt:j < n
  case neg=>
   have N:decide ((j:Int) < Psp.aO c.f)=false:=by rw[←D.out];simp;omega
   clear ho l
   go_wp2_with (go_at_call 13;refine (aM _ _).mono ?_;rintro e w' ⟨rfl,rfl⟩)
   go_end0
   have M:j=n:=by omega
   subst M
   exact⟨rfl,U',HC.out,HU.out,HF.out⟩
  case pos=>
   have N:decide ((j:Int) < Psp.aO c.f)=true:=by rw[←D.out];simp;omega
   have J:=aT (w:=wr.drew) (T:=fun b=>b≠k) (show wr.drew.cell? ⟨k,25,none⟩=some (.slice Ab s.bs.length cb) from am l 25 rfl) (fun hh=>hh rfl)
   have I:=aT (w:=wr.drew) (T:=fun b=>b≠k) (show wr.drew.cell? ⟨k,55,none⟩=some (.slice Ao L.length co) from am l 55 rfl) (fun hh=>hh rfl)
   clear ho l
   go_upto_region 3 with (go_at_call 13;refine (aM _ _).mono ?_;rintro e w' ⟨rfl,rfl⟩)
   have O:L.length=s.out.length+j:=by
    have h1:=congrArg List.length HO.out.om
    rw[List.length_map] at h1
    rw[h1]
    show (s.out++bK j s.bs).length=_
    rw[tH,ji]
   have ac:L.length≤2000000:=by omega
   clear O
   have K:k < wr.heap.size:=HO.out.lt k HO.out.uk
   have Z:w.heap.size≤wr.heap.size:=HF.out.size
   have F:Hid (Fp (fun b=>b≠k) wr.drew wr.drew):=tt (Fp.refl _ _)
   refine aU (fun b=>b≠k) [(true,0),(true,1),(true,2),(true,3),(true,4),(true,5),(true,6),(true,7),(true,8),(true,9),(true,10),(false,11),(false,12)] (by kernel_rfl) (by kernel_rfl) ?_
   simp only[phS,tu,tx,Option.toList,tC,tD,Nat.reduceAdd,tE,List.drop_zero]
   repeat (first|go_big_quiet_step (fail)|quiet_step (fail)|refine wpQuiet_nil ?_)
   clear J I f0
   go_wp2_with fail
   refine And.intro ⟨⟨_,F.out.alloc _⟩,rfl⟩ ?_
   have y:Below wr.heap.size wr wr.drew:=(Below.refl _ _).drew
   have S:=tt (bE HO.out.oo.own y)
   have q:∀b,(Value.slice Ao L.length co).ownBlock=some b→b≠k:=aC HO.out.oo.own HO.out.row (by decide)
   have r:=tt q
   have V:=tt y
   clear q y
   go_wp2_with (at_builtin;refine aW pY rfl _ _ rfl 0 (.slice Ao L.length co) L.length (L.flatMap sv) rfl S.out _ rfl rfl (by simp[Value.oneCell']) (by omega) (by decide) (Nat.zero_le _) ?_;intro v5 w5 g B _ z;have o:=tt g;have E:=tt B;have Q:=tt z;clear g B z;obtain⟨A5,c5,rfl,_,_,_⟩:=ao o.out)
   refine And.intro ⟨⟨w5,F.out.grown E.out (fun b hb=>Or.inl (r.out b hb))⟩,rfl⟩ ?_
   have d:Hid (Fp (fun b=>(Value.slice Ao L.length co).ownBlock=some b) wr w5):=tt ((Fp.of_below V.out _).grown E.out (fun b hb=>Or.inl hb))
   have a:=(d.out.block k K (fun hh=>r.out k hh rfl)).trans HO.out.row
   have R:=tt a
   have P:w5.cell? ⟨k,55,none⟩=some (.slice Ao L.length co):=am a 55 rfl
   have G:=frozen_of_row _ _ 55 _ _ a
   have Y:wr.heap.size≤w5.heap.size:=d.out.size
   clear a
   go_wp2_with fail
   clear P G
   have ho:=HO.out
   have t:∀x∈L,w5.ownsRow 0 5 1 x.v x.b.length (x.b.map bv):=fun x hx=>ar (ho.oo.ok x hx).1 fun b hb=>d.out.block b ((ho.oo.ok x hx).1.lt b hb).2 (bC (ho.oo.ok x hx).1 ho.oo.own (by decide) b hb)
   have hbs:w5.ownsRow 0 5 1 (.slice Ab s.bs.length cb) s.bs.length (s.bs.map bv):=ar ho.ob fun b hb=>d.out.block b (ho.ob.lt b hb).2 (bC ho.ob ho.oo.own (by decide) b hb)
   have A:Outs w5 (fun b=>U' b∨(wr.heap.size≤b∧b < w5.heap.size)) (.slice A5 (L.length+1) c5) (L++[⟨(j:Int),s.bs,.slice Ab s.bs.length cb⟩]):=⟨by rw[tH,List.flatMap_append];simpa [sv,iv] using o.out,fun b hb=>by
    rcases Q.out with h1|h1
    ·rw[h1] at hb;exact .inl (ho.oo.hu b hb)
    ·have h2:=(o.out.lt b hb).2
     rw[h1] at hb;injection hb with hb
     right;exact⟨by rw[←hb];show wr.heap.size≤wr.heap.size+1;omega,h2⟩,fun x hx=>by
    rcases List.mem_append.1 hx with hx|hx
    ·exact⟨t x hx,fun b hb=>.inl ((ho.oo.ok x hx).2 b hb)⟩
    ·rw[List.mem_singleton.1 hx]
     exact⟨hbs,fun b hb=>.inl (ho.ub b hb)⟩⟩
   have C:=(eK (W:=w5) (U:=fun b=>U' b∨(wr.heap.size≤b∧b < w5.heap.size)) (k:=k) (h:=h) (c:=c) (id:=id) (j:=55) (u:=(.slice A5 (L.length+1) c5)) (s':={s with out:=s.out++bK (j+1) s.bs}) (vo':=(.slice A5 (L.length+1) c5)) R.out rfl (.inl ho.uk) (fun b hb=>by
    rcases hb with hb|hb
    ·have:=ho.lt b hb;omega
    ·exact hb.2) hbs
    (ar ho.oi fun b hb=>d.out.block b (ho.oi.lt b hb).2 (bC ho.oi ho.oo.own (by decide) b hb)) (ar ho.oc fun b hb=>d.out.block b (ho.oc.lt b hb).2 (bC ho.oc ho.oo.own (by decide) b hb))
    (by rw[List.map_append,ho.om,io];show (s.out++bK j s.bs)++[((j:Int),s.bs)]=_;rw[List.append_assoc]) A (fun b hb=>.inl (ho.ub b hb)) (fun b hb=>.inl (ho.ui b hb)) (fun b hb=>.inl (ho.uc b hb))).m
   refine⟨⟨j+1,_,by go_num,by omega,tt C,tt fun b hb=>?_,tt ?_⟩,?_⟩
   ·rcases hb with hb|hb
    ·exact HU.out b hb
    ·right;omega
   ·have h1:Fp (fun b=>U' b) wr (w5.setCell ⟨k,55,none⟩ (.slice A5 (L.length+1) c5)):=(d.out.mono fun b _ hb=>ho.oo.hu b hb).setCell (p:=⟨k,55,none⟩) (Or.inl ho.uk) _
    exact HF.out.trans h1 fun b hb=>HU.out b hb
   ·simp[intOf];omega
theorem qd (U:Nat→Prop) (k h:Nat) (c:Cf) (id:Int) (s:RC) (w:World) (H:Rcm w U k h c id s) (hf:1≤c.f∧c.f≤4) (C:1≤c.re∧c.re≤64) (B:0≤s.tk∧s.tk≤2000000) (t:s.out.length≤1000000) (s2:RC) (l:s2=if s.wt=true then (if (s.tk+1) % c.re=0 then {s with tk:=s.tk+1,out:=s.out++bK (Psp.aO c.f).toNat s.bs} else {s with tk:=s.tk+1}) else s):
 Calls Tryz.prog 48 #[.pointer (some ⟨k,0,none⟩)] w fun e w'=>e= .returned (.tuple #[])∧∃U',Rcm w' U' k h c id s2∧(∀b,U' b→U b∨w.heap.size≤b)∧Fp U w w':=by
 have HH:=tt H
 have i:=tt l
 obtain⟨Ab,cb,Ai,ci,Ac,cc,Ao,co,L,ho⟩:=H.opens
 have HO:=tt ho
 have a:=ho.row
 clear H l ho
 cases hw:s.wt with
 |false=>
  have n:w.cell? ⟨k,18,none⟩=some (.bool false):=by rw[←hw];exact am a 18 rfl
  clear a
  go_enter Tryz.func48,Tryz.ntmps48
  go_wp2_with fail
  refine bodyPost_ret (results_none rfl _ _ _) rfl ?_
  rw[i.out,hw]
  exact⟨rfl,U,HH.out,fun b hb=>.inl hb,Fp.refl _ _⟩
 |true=>
  have n:w.cell? ⟨k,18,none⟩=some (.bool true):=by rw[←hw];exact am a 18 rfl
  have v:w.cell? ⟨k,26,none⟩=some (.int .i64 s.tk):=am a 26 rfl
  have p:=frozen_of_row _ _ 26 _ _ a
  have z:IntKind.i64.wrap (s.tk+1)=s.tk+1:=IntWalk.i64_in _ (by omega)
  have h1:Rco (w.setCell ⟨k,26,none⟩ (.int .i64 (s.tk+1))) U k h c id {s with tk:=s.tk+1} (.slice Ab s.bs.length cb) (.slice Ai s.iss.length ci) (.slice Ac s.acc.length cc) (.slice Ao L.length co) L:=HO.out.set rfl rfl rfl rfl rfl
  have h2:Fp U w (w.setCell ⟨k,26,none⟩ (.int .i64 (s.tk+1))):=iu w 26 _ HO.out.uk
  obtain⟨w1,hw1⟩:∃w1,w.setCell ⟨k,26,none⟩ (.int .i64 (s.tk+1))=w1:=⟨_,rfl⟩
  rw[hw1] at h1 h2
  have H1:=tt h1
  have H2:=tt h2
  have o:=tt hw1
  clear a h1 h2 hw1
  go_enter Tryz.func48,Tryz.ntmps48
  go_upto_region 2 with fail
  rw[o.out]
  clear n v p o
  have a:=H1.out.row
  have d:w1.cell? ⟨k,26,none⟩=some (.int .i64 (s.tk+1)):=am a 26 rfl
  have g:w1.cell? ⟨k,14,none⟩=some (.int .i64 c.re):=am a 14 rfl
  clear a
  have y:¬c.re=0:=by omega
  have A:(s.tk+1).tmod c.re=(s.tk+1) % c.re:=Int.tmod_eq_emod_of_nonneg (by omega)
  go_cut [24] from 14 (fun z_ wx=>z_= .bool (decide ((s.tk+1) % c.re=0))∧Hid (Below w1.heap.size w1 wx))
  case first=>
   have q:=ab (w:=w1) d
   have r:=ab (w:=w1) g
   refine ai (by kernel_rfl) (by kernel_rfl) ?_
   repeat ((with_reducible show wpQuiet _ _ _ _ _ _);first|go_big_quiet_step (fail)|quiet_step (fail))
   refine wpQuiet_nil ?_
   intro w3 j
   have hb3:=ay j
   have x:=tt hb3
   clear j hb3 q r d g
   go_wp2_with fail
   go_meet
   exact⟨rfl,x⟩
  case rest=>
   obtain⟨rfl,HB⟩:=hcut
   clear d g
   by_cases hz:(s.tk+1) % c.re=0
   case neg=>
    have u:decide ((s.tk+1) % c.re=0)=false:=tA hz
    go_wp2_with fail
    go_end0
    rw[i.out,if_pos hw,if_neg hz]
    exact⟨rfl,U,(H1.out.below HB.out).m,fun b hb=>.inl hb,H2.out.trans (Fp.of_below HB.out U) fun b hb=>.inl hb⟩
   case pos=>
    have u:decide ((s.tk+1) % c.re=0)=true:=tB hz
    go_wp2_with fail
    refine (oH U k h c id {s with tk:=s.tk+1} wc (H1.out.below HB.out).m hf t).mono ?_
    rintro e w5 ⟨rfl,U',h1,h2,h3⟩
    go_wp2_with fail
    go_end0
    rw[i.out,if_pos hw,if_pos hz]
    refine⟨rfl,U',h1,fun b hb=>?_,(H2.out.trans (Fp.of_below HB.out U) fun b hb=>.inl hb).trans h3 fun b hb=>.inl hb⟩
    rcases h2 b hb with h4|h4
    ·exact .inl h4
    ·have:=H2.out.size;have:=HB.out.size;right;omega
def rj (L:List Key) (m:Psp.Msg) (T:Nat→Prop) (h:Nat) (w:World) (e:Ending) (w':World):Prop:=
 ∃v T',e= .returned (.tuple #[v,.bool (okS L m)])∧w'.ownsRow w.heap.size 5 1 v (res (Psp.aK (aV L (kM m))++Psp.bu m) (okS L m)).length ((res (Psp.aK (aV L (kM m))++Psp.bu m) (okS L m)).map bv)∧
  Ntr w' T' h (sealK L m)∧(∀b,T' b→T b∨w.heap.size≤b)∧(∀b,T' b→b < w'.heap.size)∧(∀b,v.ownBlock=some b→¬T' b)∧Fp T w w'
theorem qe (m:Psp.Msg) (vb vo vc vp:Value) (T:Nat→Prop) (h:Nat) (L:List Key) (w:World) (hx:MsgOk w (fun b=>b < w.heap.size) ⟨m,vb,vo,vc,vp⟩) (hN:Ntr w T h L) (hT:∀b,T b→b < w.heap.size) (hL:L.length < 1099511627776):
 Calls Tryz.prog 75 #[.agg #[.int .i64 m.k,.int .i64 m.f,.int .i64 m.v,.int .i64 m.i,.int .i64 m.q,.int .i64 m.r,vb,vo,vc,vp],.pointer (some ⟨h,0,none⟩)] w (rj L m T h w):=by
 have o0:vb.oneCell'=true:=RdP.one hx.1
 have o1:vo.oneCell'=true:=RdP.one hx.2.1
 have o2:vc.oneCell'=true:=hx.2.2.1.one
 have o3:vp.oneCell'=true:=hx.2.2.2.one
 obtain⟨w0,hw0⟩:∃w0,w.alloc (.cells #[.int .i64 m.k,.int .i64 m.f,.int .i64 m.v,.int .i64 m.i,.int .i64 m.q,.int .i64 m.r,vb,vo,vc,vp] 56)=w0:=⟨_,rfl⟩
 have hb0:=ae w (.cells #[.int .i64 m.k,.int .i64 m.f,.int .i64 m.v,.int .i64 m.i,.int .i64 m.q,.int .i64 m.r,vb,vo,vc,vp] 56)
 have a:=tL w (.cells #[.int .i64 m.k,.int .i64 m.f,.int .i64 m.v,.int .i64 m.i,.int .i64 m.q,.int .i64 m.r,vb,vo,vc,vp] 56)
 rw[hw0] at hb0 a
 have HX:=tt (hx.keeps (Keeps.on hb0))
 have HB:=tt hb0
 have HC:=tt a
 have HN:=tt (hN.below hb0)
 have HT:=tt hT
 have hlt:=(tz a).1
 have x0:w0.cell? ⟨w.heap.size,0,none⟩=some (.int .i64 m.k):=by rw[cell_of_row _ _ 0 _ _ _ a];rfl
 have x1:w0.cell? ⟨w.heap.size,1,none⟩=some (.int .i64 m.f):=by rw[cell_of_row _ _ 1 _ _ _ a];rfl
 have x2:w0.cell? ⟨w.heap.size,2,none⟩=some (.int .i64 m.v):=by rw[cell_of_row _ _ 2 _ _ _ a];rfl
 have x3:w0.cell? ⟨w.heap.size,3,none⟩=some (.int .i64 m.i):=by rw[cell_of_row _ _ 3 _ _ _ a];rfl
 have x4:w0.cell? ⟨w.heap.size,4,none⟩=some (.int .i64 m.q):=by rw[cell_of_row _ _ 4 _ _ _ a];rfl
 have x5:w0.cell? ⟨w.heap.size,5,none⟩=some (.int .i64 m.r):=by rw[cell_of_row _ _ 5 _ _ _ a];rfl
 have x6:w0.cell? ⟨w.heap.size,6,none⟩=some (vb):=by rw[cell_of_row _ _ 6 _ _ _ a];rfl
 have x7:w0.cell? ⟨w.heap.size,7,none⟩=some (vo):=by rw[cell_of_row _ _ 7 _ _ _ a];rfl
 have x8:w0.cell? ⟨w.heap.size,8,none⟩=some (vc):=by rw[cell_of_row _ _ 8 _ _ _ a];rfl
 have x9:w0.cell? ⟨w.heap.size,9,none⟩=some (vp):=by rw[cell_of_row _ _ 9 _ _ _ a];rfl
 clear hx hb0 a hN hT
 go_enter Tryz.func75,Tryz.ntmps75
 go_wp2_with fail
 clear hw0 x0 x1 x2 x3 x4 x5 x6 x7 x8 x9
 refine (lX m vb vo vc vp w0 HX.out).mono ?_
 intro e w1 hh
 obtain⟨A,c,rfl,hp,hb⟩:=Bytes.rdb hh rfl rfl
 have o:=tt (HN.out.below hb)
 have l:=tt (Below.then HB.out hb HB.out.size)
 have z:=tt ((hb.block _ hlt).trans HC.out)
 have hz:=hb.size
 have HP:=tt hp
 clear hh hp hb HN HB HC
 cases d:Psp.okB m with
 |false=>
  have Hk:Hid (okS L m=false∧sealK L m=L):=tt ⟨by unfold okS;rw[d];rfl,by unfold sealK;rw[d];rfl⟩
  clear d HP
  go_wp2_with fail
  go_ret2
  exact⟨_,T,bf _ Hk.out.1,by rw[Hk.out.1];exact World.ownsRow_nil _ _ _ _,by rw[Hk.out.2];exact o.out,fun b hb=>.inl hb,fun b hb=>Nat.lt_of_lt_of_le (HT.out b hb) l.out.size,fun b hb=>(by simp[Value.ownBlock] at hb),Fp.of_below l.out _⟩
 |true=>
  have hl:=gl d
  have Hk:Hid (okS L m=okE (aV L (kM m)) (Psp.bu m)∧sealK L m=bi L (kM m)):=tt ⟨by unfold okS;rw[d];rfl,by unfold sealK;rw[d];rfl⟩
  have x1:w1.cell? ⟨w.heap.size,1,none⟩=some (.int .i64 m.f):=by rw[cell_of_row _ _ 1 _ _ _ z.out];rfl
  rw[d,dt] at HP
  clear d
  rw[dt]
  go_wp2_with fail
  have n:∀b,w0.heap.size≤b→¬T b:=fun b hb ht=>by have:=HT.out b ht;omega
  refine (jV T h L m.f (Psp.bu m) _ w1 _ o.out hL HP.out n).mono ?_
  rintro e w2 ⟨rfl,hn2,j⟩
  have u:=tt hn2
  have y:=tt j
  have D:=j.size
  have p:=tt ((HP.out.fp j n).mono (P':=fun b=>b < w2.heap.size) fun b hb _=>hb)
  clear hn2 j x1 n
  go_wp2_with fail
  refine (kw (aV L (m.f,Psp.bu m)) (Psp.bu m) _ w2 p.out (by omega)).mono ?_
  intro e w3 hh
  obtain⟨A3,c3,rfl,g,hb3⟩:=hh.open_
  have t:=tt (u.out.below hb3)
  have x:=tt (((Fp.of_below l.out T).trans y.out (fun k hk=>Or.inl hk)).below hb3)
  have HO:=tt (bA g (base':=w.heap.size) (by omega))
  have s:=tt (fun b (hb:(Value.slice A3 (res (Psp.aK (aV L (m.f,Psp.bu m))++Psp.bu m) (okE (aV L (m.f,Psp.bu m)) (Psp.bu m))).length c3).ownBlock=some b)=>(g.lt b hb).1)
  have C:=hb3.size
  have B:=l.out.size
  clear hh g hb3
  go_wp2_with fail
  go_ret2
  refine⟨_,_,bf _ Hk.out.1,by rw[Hk.out.1];exact HO.out,by rw[Hk.out.2];exact t.out,fun b hb=>?_,fun b hb=>?_,fun b hb ht=>?_,x.out⟩
  ·rcases hb with hb|hb
   ·exact .inl hb
   ·right;omega
  ·rcases hb with hb|hb
   ·have:=HT.out b hb;omega
   ·omega
  ·have h1:=s.out b hb
   rcases ht with ht|ht
   ·have:=HT.out b ht;omega
   ·omega
theorem iG (c t k y v:Int) (w:World):Below w.heap.size w (((w.alloc (.cells #[.int .i64 k,.int .i64 y,.int .i64 v] 40)).alloc (.cells #[.int .i64 0,.int .i64 0,.int .i64 0,.int .i64 0,.int .i64 0,.int .i64 0] 42)).alloc (.cells #[.int .i64 c,.int .i64 t,.int .i64 k,.int .i64 y,.int .i64 v,.int .i64 0] 42)):=
 ((ae w _).trans ((ae _ _).mono (by simp))).trans ((ae _ _).mono (by simp;omega))
theorem jx (c t k y v:Int) (w w1:World) (h:Below (((w.alloc (.cells #[.int .i64 k,.int .i64 y,.int .i64 v] 40)).alloc (.cells #[.int .i64 0,.int .i64 0,.int .i64 0,.int .i64 0,.int .i64 0,.int .i64 0] 42)).alloc (.cells #[.int .i64 c,.int .i64 t,.int .i64 k,.int .i64 y,.int .i64 v,.int .i64 0] 42)).heap.size (((w.alloc (.cells #[.int .i64 k,.int .i64 y,.int .i64 v] 40)).alloc (.cells #[.int .i64 0,.int .i64 0,.int .i64 0,.int .i64 0,.int .i64 0,.int .i64 0] 42)).alloc (.cells #[.int .i64 c,.int .i64 t,.int .i64 k,.int .i64 y,.int .i64 v,.int .i64 0] 42)) w1):
 w1.heap[w.heap.size+1]? =some (.cells #[.int .i64 0,.int .i64 0,.int .i64 0,.int .i64 0,.int .i64 0,.int .i64 0] 42 (0,0))∧w1.heap[w.heap.size+1+1]? =some (.cells #[.int .i64 c,.int .i64 t,.int .i64 k,.int .i64 y,.int .i64 v,.int .i64 0] 42 (0,0)):=by
 refine⟨(h.block _ (by simp)).trans (((ae _ _).block (w.heap.size+1) (by simp)).trans ?_),(h.block _ (by simp)).trans ?_⟩
 ·simpa using tL (w.alloc (.cells #[.int .i64 k,.int .i64 y,.int .i64 v] 40)) (.cells #[.int .i64 0,.int .i64 0,.int .i64 0,.int .i64 0,.int .i64 0,.int .i64 0] 42)
 ·simpa using tL ((w.alloc (.cells #[.int .i64 k,.int .i64 y,.int .i64 v] 40)).alloc (.cells #[.int .i64 0,.int .i64 0,.int .i64 0,.int .i64 0,.int .i64 0,.int .i64 0] 42)) (.cells #[.int .i64 c,.int .i64 t,.int .i64 k,.int .i64 y,.int .i64 v,.int .i64 0] 42)
theorem pb (g:Nat) (clients c t k y v:Int) (w:World) (hv:Psp.aZ ⟨c,t,k,y,v,0⟩ clients=false):
 Calls Tryz.prog 35 #[.pointer (some ⟨g,0,none⟩),.int .i64 clients,.int .i64 c,.int .i64 t,.agg #[.int .i64 k,.int .i64 y,.int .i64 v]] w fun e w'=>
  e= .returned (.tuple #[.agg #[.int .i64 0,.int .i64 0,.int .i64 0,.int .i64 0,.int .i64 0,.int .i64 0],.int .i64 1])∧Below w.heap.size w w':=by
 have b:=tt (iG c t k y v w)
 have HV:=tt hv
 clear hv
 go_enter Tryz.func35,Tryz.ntmps35
 go_wp2_with fail
 refine (gr ⟨c,t,k,y,v,0⟩ clients _).mono ?_
 rintro e w1 ⟨rfl,hb⟩
 rw[HV.out]
 have j:=tt (Below.then b.out hb b.out.size)
 obtain⟨a,f⟩:=jx c t k y v w w1 hb
 have d:=fs a
 obtain⟨s1,s2⟩:=ft a [.int .i64 0,.int .i64 0,.int .i64 0,.int .i64 0,.int .i64 0,.int .i64 0] rfl
 have i:=tt d
 have S1:=tt s1
 clear hb b a f d s1 s2
 go_wp2_with (refine wpList_store_mid rfl 42 (.tmp 10) (.tmp 23) rfl (w.heap.size+1) 0 #[.int .i64 0,.int .i64 0,.int .i64 0,.int .i64 0,.int .i64 0,.int .i64 0] rfl rfl i.out az (by simp[Value.oneCell']) ?_)
 refine bodyPost_ret (v:=.tuple #[.agg #[.int .i64 0,.int .i64 0,.int .i64 0,.int .i64 0,.int .i64 0,.int .i64 0],.int .i64 1]) ?_ rfl ?_
 ·exact aI Tryz.results35 _ _ (w.heap.size+1) _ _ _ _ rfl S1.out Tryz.underlying42 rfl az
 ·exact⟨rfl,((Fp.of_below j.out (fun _=>False)).setCells (Or.inr (Nat.le_succ _)) _).to_below (tJ _) fun _ _ h=>h.elim⟩
theorem pa (g bm:Nat) (l:List Key) (clients c t k y v:Int) (w:World) (hN:Nt w g bm l) (hl:l.length < 1099511627776) (hc:clients≤4611686018427387904) (hv:Psp.aZ ⟨c,t,k,y,v,0⟩ clients=true):
 Calls Tryz.prog 35 #[.pointer (some ⟨g,0,none⟩),.int .i64 clients,.int .i64 c,.int .i64 t,.agg #[.int .i64 k,.int .i64 y,.int .i64 v]] w fun e w'=>
  e= .returned (.tuple #[.agg #[.int .i64 c,.int .i64 t,.int .i64 k,.int .i64 y,.int .i64 v,.int .i64 (aV l (kR ⟨c,t,k,y,v,0⟩))],.int .i64 0])∧Nt w' g bm (bi l (kR ⟨c,t,k,y,v,0⟩))∧Fp (fun b=>b=bm) w w':=by
 have n:=tt (iG c t k y v w)
 have HV:=tt hv
 have HN:=tt hN
 have hlt:=hN.lt.2
 have F:0≤c∧c < 4611686018427387904:=by
  have:=of_decide_eq_true hv
  simp only at this
  omega
 obtain⟨c1,c2⟩:=F
 clear hv hN
 go_enter Tryz.func35,Tryz.ntmps35
 go_wp2_with fail
 refine (gr ⟨c,t,k,y,v,0⟩ clients _).mono ?_
 rintro e w1 ⟨rfl,hb⟩
 rw[HV.out]
 have m:=tt (Below.then n.out hb n.out.size)
 obtain⟨q,f⟩:=jx c t k y v w w1 hb
 have C:=tt q
 have z:=tt f
 have E:w.heap.size+1+1 < w1.heap.size:=(tz f).1
 obtain⟨x0,x1,x2,x3,x4,x5,x6⟩:=jl (r:=⟨c,t,k,y,v,0⟩) f
 clear hb n q f
 go_wp2_with fail
 refine (pM ⟨c,t,k,y,v,0⟩ w1).mono ?_
 intro e w2 h
 obtain⟨bb,hbb⟩:∃bb,bb=res (Psp.bR (gX ⟨c,t,k,y,v,0⟩)) (Psp.okR (gX ⟨c,t,k,y,v,0⟩)):=⟨_,rfl⟩
 obtain⟨ob,hob⟩:∃ob,ob=Psp.okR (gX ⟨c,t,k,y,v,0⟩):=⟨_,rfl⟩
 obtain⟨A,p1,rfl,hp,hb⟩:=Bytes.rd h hbb.symm hob.symm
 have s:kR ⟨c,t,k,y,v,0⟩=(100+c,bb):=by rw[hbb];rfl
 have hlb:bb.length≤36:=by rw[hbb];exact qr _
 have HK:Hid (KOk (100+c,bb)):=tt ⟨⟨by show -9223372036854775808≤100+c;omega,by show 100+c≤9223372036854775807;omega⟩,by show bb.length≤_;unfold maxLen;omega⟩
 have HP:=tt hp
 have D:=tt (Below.then m.out hb m.out.size)
 have B:=tt ((hb.block _ (by omega)).trans C.out)
 have x:=tt ((hb.block _ E).trans z.out)
 have M:w1.heap.size≤w2.heap.size:=hb.size
 have I:=tt s
 clear h hp hb m C z hbb hob s x0 x1 x2 x3 x4 x5 x6
 go_wp2_with fail
 refine (jU g bm l (100+c) bb _ w2 _ (HN.out.below D.out) HK.out hl HP.out).mono ?_
 rintro e w3 ⟨rfl,u,d⟩
 have j:=(d.block (w.heap.size+1) (by omega) (by omega)).trans B.out
 have i:=(d.block (w.heap.size+1+1) (by omega) (by omega)).trans x.out
 obtain⟨x0,x1,x2,x3,x4,x5,x6⟩:=jl (r:=⟨c,t,k,y,v,0⟩) i
 obtain⟨sn,hsn⟩:∃sn,aV l (100+c,bb)=sn:=⟨_,rfl⟩
 have H:=tt hsn
 have a:=(Below.heap_setCell w3 ⟨w.heap.size+1+1,5,none⟩ (.int .i64 sn) (w.heap.size+1) (by simp)).trans j
 have o:=fs a
 obtain⟨s1,s2⟩:=ft a [.int .i64 c,.int .i64 t,.int .i64 k,.int .i64 y,.int .i64 v,.int .i64 sn] rfl
 have G:=tt o
 have S1:=tt s1
 have S2:=tt s2
 have J:=tt u
 have K:=tt d
 have L:=d.size
 rw[hsn]
 clear hsn j i a o s1 s2 u d
 go_wp2_with (refine wpList_store_mid rfl 42 (.tmp 10) (.tmp 35) rfl (w.heap.size+1) 0 #[.int .i64 c,.int .i64 t,.int .i64 k,.int .i64 y,.int .i64 v,.int .i64 sn] rfl rfl G.out az (by simp[Value.oneCell']) ?_)
 refine bodyPost_ret (v:=.tuple #[.agg #[.int .i64 c,.int .i64 t,.int .i64 k,.int .i64 y,.int .i64 v,.int .i64 sn],.int .i64 0]) ?_ rfl ?_
 ·exact aI Tryz.results35 _ _ (w.heap.size+1) _ _ _ _ rfl S1.out Tryz.underlying42 rfl az
 ·rw[I.out,H.out]
  have hg:=HN.out.lt.1
  have k1:=(S2.out g (by omega)).trans (Below.heap_setCell w3 ⟨w.heap.size+1+1,5,none⟩ (.int .i64 sn) g (by simp;omega))
  have k2:=(S2.out bm (by omega)).trans (Below.heap_setCell w3 ⟨w.heap.size+1+1,5,none⟩ (.int .i64 sn) bm (by simp;omega))
  have f1:Fp (fun b=>b=bm) w w3:=(Fp.of_below D.out (fun b=>b=bm)).trans K.out (fun k h=>Or.inl h)
  exact⟨rfl,J.out.keep k1 k2,(f1.setCell (p:=⟨w.heap.size+1+1,5,none⟩) (Or.inr (by simp;omega)) _).setCells (Or.inr (Nat.le_succ _)) _⟩
theorem ku (U:Nat→Prop) (k h:Nat) (c:Cf) (id:Int) (s:RC) (kk y v:Int) (w:World) (H:Rcm w U k h c id s) (hw:s.wt=true):
 Calls Tryz.prog 47 #[.pointer (some ⟨k,0,none⟩),.agg #[.int .i64 kk,.int .i64 y,.int .i64 v]] w fun e w'=>e= .returned (.tuple #[.agg #[.int .i64 0,.int .i64 0,.int .i64 0,.int .i64 0,.int .i64 0,.int .i64 0],.int .i64 5])∧Below w.heap.size w w':=by
 have j:=ae w (.cells #[.int .i64 kk,.int .i64 y,.int .i64 v] 40)
 have i:=tL w (.cells #[.int .i64 kk,.int .i64 y,.int .i64 v] 40)
 have hbb:=ae (w.alloc (.cells #[.int .i64 kk,.int .i64 y,.int .i64 v] 40)) (.cells #[.int .i64 0,.int .i64 0,.int .i64 0,.int .i64 0,.int .i64 0,.int .i64 0] 42)
 have hcb:=tL (w.alloc (.cells #[.int .i64 kk,.int .i64 y,.int .i64 v] 40)) (.cells #[.int .i64 0,.int .i64 0,.int .i64 0,.int .i64 0,.int .i64 0,.int .i64 0] 42)
 have g:(w.alloc (.cells #[.int .i64 kk,.int .i64 y,.int .i64 v] 40)).heap.size=w.heap.size+1:=by simp
 have hsb:((w.alloc (.cells #[.int .i64 kk,.int .i64 y,.int .i64 v] 40)).alloc (.cells #[.int .i64 0,.int .i64 0,.int .i64 0,.int .i64 0,.int .i64 0,.int .i64 0] 42)).heap.size=w.heap.size+2:=by simp
 rw[g] at hcb
 have a:=(hbb.block w.heap.size (by omega)).trans i
 have b:=j.trans (hbb.mono (by omega))
 clear j i hbb
 have HN:=tt H
 clear H
 go_enter Tryz.func47,Tryz.ntmps47
 go_upto_region 1 with fail
 obtain⟨W,hW⟩:∃W,(w.alloc (.cells #[.int .i64 kk,.int .i64 y,.int .i64 v] 40)).alloc (.cells #[.int .i64 0,.int .i64 0,.int .i64 0,.int .i64 0,.int .i64 0,.int .i64 0] 42)=W:=⟨_,rfl⟩
 rw[hW] at a b hcb hsb ⊢
 obtain⟨Ab,cb,Ai,ci,Ac,cc,Ao,co,L,ho⟩:=(HN.out.below b).opens
 have HO:=tt ho
 have d:=ho.row
 have n:=tt b
 have l:=tt hcb
 have p:=tt a
 have o:W.cell? ⟨k,18,none⟩=some (.bool true):=by rw[←hw];exact am d 18 rfl
 clear hW a b hcb hsb g ho d
 have f:=au l.out
 obtain⟨s1,s2⟩:=aQ l.out [.int .i64 0,.int .i64 0,.int .i64 0,.int .i64 0,.int .i64 0,.int .i64 0] rfl
 have m:=tt f
 have S1:=tt s1
 clear f s1 s2
 go_wp2_with (first|(refine wpList_store_mid rfl 42 (.tmp 4) (.tmp 13) rfl (w.heap.size+1) 0 #[.int .i64 0,.int .i64 0,.int .i64 0,.int .i64 0,.int .i64 0,.int .i64 0] rfl rfl m.out az (by simp[Value.oneCell']) ?_))
 refine bodyPost_ret (v:=.tuple #[.agg #[.int .i64 0,.int .i64 0,.int .i64 0,.int .i64 0,.int .i64 0,.int .i64 0],.int .i64 5]) ?_ rfl ?_
 ·exact aI Tryz.results47 _ _ (w.heap.size+1) _ _ _ _ rfl S1.out Tryz.underlying42 rfl az
 ·exact⟨rfl,((Fp.of_below n.out (fun _=>False)).setCells (Or.inr (by omega)) _).to_below (tJ _) fun _ _ h=>h.elim⟩
theorem mS (U:Nat→Prop) (k h:Nat) (c:Cf) (id:Int) (s:RC) (kk y v:Int) (w:World) (H:Rcm w U k h c id s) (hw:s.wt=false) (hn:0≤s.n∧s.n≤1000000) (hv:Psp.aZ ⟨id,s.n+1,kk,y,v,0⟩ c.cl=false):
 Calls Tryz.prog 47 #[.pointer (some ⟨k,0,none⟩),.agg #[.int .i64 kk,.int .i64 y,.int .i64 v]] w fun e w'=>e= .returned (.tuple #[.agg #[.int .i64 0,.int .i64 0,.int .i64 0,.int .i64 0,.int .i64 0,.int .i64 0],.int .i64 1])∧Below w.heap.size w w':=by
 have E:=ae w (.cells #[.int .i64 kk,.int .i64 y,.int .i64 v] 40)
 have D:=tL w (.cells #[.int .i64 kk,.int .i64 y,.int .i64 v] 40)
 have hbb:=ae (w.alloc (.cells #[.int .i64 kk,.int .i64 y,.int .i64 v] 40)) (.cells #[.int .i64 0,.int .i64 0,.int .i64 0,.int .i64 0,.int .i64 0,.int .i64 0] 42)
 have hcb:=tL (w.alloc (.cells #[.int .i64 kk,.int .i64 y,.int .i64 v] 40)) (.cells #[.int .i64 0,.int .i64 0,.int .i64 0,.int .i64 0,.int .i64 0,.int .i64 0] 42)
 have A:(w.alloc (.cells #[.int .i64 kk,.int .i64 y,.int .i64 v] 40)).heap.size=w.heap.size+1:=by simp
 have hsb:((w.alloc (.cells #[.int .i64 kk,.int .i64 y,.int .i64 v] 40)).alloc (.cells #[.int .i64 0,.int .i64 0,.int .i64 0,.int .i64 0,.int .i64 0,.int .i64 0] 42)).heap.size=w.heap.size+2:=by simp
 rw[A] at hcb
 have f:=(hbb.block w.heap.size (by omega)).trans D
 have g:=E.trans (hbb.mono (by omega))
 clear E D hbb
 have HN:=tt H
 clear H
 go_enter Tryz.func47,Tryz.ntmps47
 go_upto_region 1 with fail
 obtain⟨W,hW⟩:∃W,(w.alloc (.cells #[.int .i64 kk,.int .i64 y,.int .i64 v] 40)).alloc (.cells #[.int .i64 0,.int .i64 0,.int .i64 0,.int .i64 0,.int .i64 0,.int .i64 0] 42)=W:=⟨_,rfl⟩
 rw[hW] at f g hcb hsb ⊢
 obtain⟨Ab,cb,Ai,ci,Ac,cc,Ao,co,L,ho⟩:=(HN.out.below g).opens
 have HO:=tt ho
 have b:=ho.row
 have N:=tt g
 have Y:=tt hcb
 have t:=tt f
 have T:w.heap.size+2=W.heap.size:=hsb.symm
 have V:W.cell? ⟨k,18,none⟩=some (.bool false):=by rw[←hw];exact am b 18 rfl
 clear hW f g hcb hsb A ho
 go_upto_region 3 with fail
 clear V
 have J:W.cell? ⟨k,15,none⟩=some (.int .i64 id):=am b 15 rfl
 have G:W.cell? ⟨k,17,none⟩=some (.int .i64 s.n):=am b 17 rfl
 have o0:W.cell? ⟨w.heap.size,0,none⟩=some (.int .i64 kk):=am t.out 0 rfl
 have o1:W.cell? ⟨w.heap.size,1,none⟩=some (.int .i64 y):=am t.out 1 rfl
 have o2:W.cell? ⟨w.heap.size,2,none⟩=some (.int .i64 v):=am t.out 2 rfl
 have d:Below W.heap.size W (W.alloc (.cells #[.int .i64 0,.int .i64 0,.int .i64 0,.int .i64 0,.int .i64 0,.int .i64 0] 42)):=ae W _
 have Q:(W.alloc (.cells #[.int .i64 0,.int .i64 0,.int .i64 0,.int .i64 0,.int .i64 0,.int .i64 0] 42)).drew.cell? ⟨w.heap.size,0,none⟩=some (.int .i64 kk):=(World.cell?_of_block (a:=⟨w.heap.size,0,none⟩) (d.drew.block _ (show w.heap.size < W.heap.size by omega))).trans o0
 have P:(W.alloc (.cells #[.int .i64 0,.int .i64 0,.int .i64 0,.int .i64 0,.int .i64 0,.int .i64 0] 42)).drew.cell? ⟨w.heap.size,1,none⟩=some (.int .i64 y):=(World.cell?_of_block (a:=⟨w.heap.size,1,none⟩) (d.drew.block _ (show w.heap.size < W.heap.size by omega))).trans o1
 have O:(W.alloc (.cells #[.int .i64 0,.int .i64 0,.int .i64 0,.int .i64 0,.int .i64 0,.int .i64 0] 42)).drew.cell? ⟨w.heap.size,2,none⟩=some (.int .i64 v):=(World.cell?_of_block (a:=⟨w.heap.size,2,none⟩) (d.drew.block _ (show w.heap.size < W.heap.size by omega))).trans o2
 have B:k < W.heap.size:=HO.out.lt k HO.out.uk
 have I:(W.alloc (.cells #[.int .i64 0,.int .i64 0,.int .i64 0,.int .i64 0,.int .i64 0,.int .i64 0] 42)).drew.cell? ⟨k,15,none⟩=some (.int .i64 id):=(World.cell?_of_block (a:=⟨k,15,none⟩) (d.drew.block _ B)).trans J
 have F:(W.alloc (.cells #[.int .i64 0,.int .i64 0,.int .i64 0,.int .i64 0,.int .i64 0,.int .i64 0] 42)).drew.cell? ⟨k,17,none⟩=some (.int .i64 s.n):=(World.cell?_of_block (a:=⟨k,17,none⟩) (d.drew.block _ B)).trans G
 have S:IntKind.i64.wrap (s.n+1)=s.n+1:=IntWalk.i64_in _ (by omega)
 clear d
 go_region
 obtain⟨W3,hW3⟩:∃W3,(W.alloc (.cells #[.int .i64 id,.int .i64 (s.n+1),.int .i64 kk,.int .i64 y,.int .i64 v,.int .i64 0] 42)).drew=W3:=⟨_,rfl⟩
 have hb3:Below W.heap.size W W3:=by rw[←hW3];exact (ae W _).drew
 have o:W3.heap[W.heap.size]? =some (.cells #[.int .i64 id,.int .i64 (s.n+1),.int .i64 kk,.int .i64 y,.int .i64 v,.int .i64 0] 42 (0,0)):=by rw[←hW3];exact tL W _
 have R:W3.heap.size=W.heap.size+1:=by rw[←hW3];simp[World.drew]
 obtain⟨jb,hjb⟩:∃jb,W.heap.size=jb:=⟨_,rfl⟩
 rw[hW3]
 rw[hjb] at o R T ⊢
 have u:=tt (Below.then N.out hb3 N.out.size)
 have q:=tt o
 have r:=tt (HO.out.below hb3)
 have j:=(hb3.block (w.heap.size+1) (by omega)).trans Y.out
 have m:=tt j
 have C:jb < W3.heap.size:=by omega
 clear hW3 hb3 o J G o0 o1 o2 Q P O I F S j b hjb
 have l1:=ab (w:=W3) (show W3.cell? ⟨k,1,none⟩=some (.int .i64 c.cl) from am r.out.row 1 rfl)
 have M:Hid (∀w':World,(∃p:Later W3,w'=p.W)→w'.rangeAt jb 0 [.int .i64 id,.int .i64 (s.n+1),.int .i64 kk,.int .i64 y,.int .i64 v,.int .i64 0]):=tt (by rintro w' ⟨p,rfl⟩;exact aB ((p.h.block _ C).trans q.out))
 have i:=tt fun p:Later W3=>ef ⟨id,s.n+1,kk,y,v,0⟩ c.cl p.W
 rw[hv] at i
 go_upto_region 4 with fail
 refine ai (by kernel_rfl) (by kernel_rfl) ?_
 repeat ((with_reducible show wpQuiet _ _ _ _ _ _);first|(refine aj (by simp[Region.wanted,yielded]) 42 (.tmp 6) (by rfl) jb 0 (by rfl) [.int .i64 id,.int .i64 (s.n+1),.int .i64 kk,.int .i64 y,.int .i64 v,.int .i64 0] _ M.out Tryz.underlying42 rfl az ?_;intro K hK;go_simp;refine hK _ ?_;clear hK K)|go_big_quiet_step ((go_at_call 19;exact ag _ (i.out _)))|quiet_step ((go_at_call 19;exact ag _ (i.out _))))
 refine wpQuiet_nil ?_
 intro w4 x
 have hb4:=ay x
 have Z:=tt (Below.then u.out hb4 u.out.size)
 have aa:=tt ((hb4.block _ C).trans q.out)
 have ad:=tt (r.out.below hb4)
 have l:=tt ((hb4.block (w.heap.size+1) (by omega)).trans m.out)
 have ac:=hb4.size
 clear x hb4 l1 M i u q r m
 have z:=au l.out
 obtain⟨s1,s2⟩:=aQ l.out [.int .i64 0,.int .i64 0,.int .i64 0,.int .i64 0,.int .i64 0,.int .i64 0] rfl
 have X:=tt z
 have S1:=tt s1
 clear z s1 s2
 go_wp2_with (first|(refine wpList_store_mid rfl 42 (.tmp 4) (.tmp 33) rfl (w.heap.size+1) 0 #[.int .i64 0,.int .i64 0,.int .i64 0,.int .i64 0,.int .i64 0,.int .i64 0] rfl rfl X.out az (by simp[Value.oneCell']) ?_))
 refine bodyPost_ret (v:=.tuple #[.agg #[.int .i64 0,.int .i64 0,.int .i64 0,.int .i64 0,.int .i64 0,.int .i64 0],.int .i64 1]) ?_ rfl ?_
 ·exact aI Tryz.results47 _ _ (w.heap.size+1) _ _ _ _ rfl S1.out Tryz.underlying42 rfl az
 ·exact⟨rfl,((Fp.of_below Z.out (fun _=>False)).setCells (Or.inr (by omega)) _).to_below (tJ _) fun _ _ h=>h.elim⟩
theorem nw {W:World} {g o n:Nat} {zs:Array Value} {T:TypeId} (h:W.heap[g]? =some (.cells zs T (0,0))) (hn:o+n≤zs.size):W.there g o n:=fun j hj=>by
 refine⟨?_,frozen_of_row W _ (o+j) _ _ h⟩
 rw[cell_of_row W _ (o+j) _ _ _ h]
 simp;omega
def noH (f:Nat→Bool):Nat→Bool:=fun n=>if n < 13 then false else f n
theorem Rco.zero {W:World} {U:Nat→Prop} {k h:Nat} {c:Cf} {id:Int} {s:RC} {vb vi va vo:Value} {L:List SendV} (H:Rco W U k h c id s vb vi va vo L):Rco (W.setCells k 40 [.bool false,.bool false,.bool false,.bool false,.bool false,.bool false,.bool false,.bool false,.bool false,.bool false,.bool false,.bool false,.bool false]) U k h c id {s with has:=noH s.has} vb vi va vo L:=by
 have h1:=H.set (j:=40) (u:=.bool false) (s':={s with has:=fun n=>if n < 1 then false else s.has n}) rfl rfl rfl rfl rfl
 have h2:=h1.set (j:=41) (u:=.bool false) (s':={s with has:=fun n=>if n < 2 then false else s.has n}) rfl rfl rfl rfl rfl
 have h3:=h2.set (j:=42) (u:=.bool false) (s':={s with has:=fun n=>if n < 3 then false else s.has n}) rfl rfl rfl rfl rfl
 have h4:=h3.set (j:=43) (u:=.bool false) (s':={s with has:=fun n=>if n < 4 then false else s.has n}) rfl rfl rfl rfl rfl
 have h5:=h4.set (j:=44) (u:=.bool false) (s':={s with has:=fun n=>if n < 5 then false else s.has n}) rfl rfl rfl rfl rfl
 have h6:=h5.set (j:=45) (u:=.bool false) (s':={s with has:=fun n=>if n < 6 then false else s.has n}) rfl rfl rfl rfl rfl
 have h7:=h6.set (j:=46) (u:=.bool false) (s':={s with has:=fun n=>if n < 7 then false else s.has n}) rfl rfl rfl rfl rfl
 have h8:=h7.set (j:=47) (u:=.bool false) (s':={s with has:=fun n=>if n < 8 then false else s.has n}) rfl rfl rfl rfl rfl
 have h9:=h8.set (j:=48) (u:=.bool false) (s':={s with has:=fun n=>if n < 9 then false else s.has n}) rfl rfl rfl rfl rfl
 have e:=h9.set (j:=49) (u:=.bool false) (s':={s with has:=fun n=>if n < 10 then false else s.has n}) rfl rfl rfl rfl rfl
 have d:=e.set (j:=50) (u:=.bool false) (s':={s with has:=fun n=>if n < 11 then false else s.has n}) rfl rfl rfl rfl rfl
 have b:=d.set (j:=51) (u:=.bool false) (s':={s with has:=fun n=>if n < 12 then false else s.has n}) rfl rfl rfl rfl rfl
 have a:=b.set (j:=52) (u:=.bool false) (s':={s with has:=fun n=>if n < 13 then false else s.has n}) rfl rfl rfl rfl rfl
 exact a
theorem Rco.setq {W:World} {U:Nat→Prop} {k h:Nat} {c:Cf} {id:Int} {s:RC} {vb vi va vo:Value} {L:List SendV} (H:Rco W U k h c id s vb vi va vo L) (q:Psp.Req):Rco ((((((W.setCell ⟨k,19,none⟩ (.int .i64 q.c)).setCell ⟨k,20,none⟩ (.int .i64 q.t)).setCell ⟨k,21,none⟩ (.int .i64 q.k)).setCell ⟨k,22,none⟩ (.int .i64 q.y)).setCell ⟨k,23,none⟩ (.int .i64 q.v)).setCell ⟨k,24,none⟩ (.int .i64 q.s)) U k h c id {s with q:=q} vb vi va vo L:=by
 have h1:=H.set (j:=19) (u:=.int .i64 q.c) (s':={s with q:={s.q with c:=q.c}}) rfl rfl rfl rfl rfl
 have h2:=h1.set (j:=20) (u:=.int .i64 q.t) (s':={s with q:=⟨q.c,q.t,s.q.k,s.q.y,s.q.v,s.q.s⟩}) rfl rfl rfl rfl rfl
 have h3:=h2.set (j:=21) (u:=.int .i64 q.k) (s':={s with q:=⟨q.c,q.t,q.k,s.q.y,s.q.v,s.q.s⟩}) rfl rfl rfl rfl rfl
 have h4:=h3.set (j:=22) (u:=.int .i64 q.y) (s':={s with q:=⟨q.c,q.t,q.k,q.y,s.q.v,s.q.s⟩}) rfl rfl rfl rfl rfl
 have h5:=h4.set (j:=23) (u:=.int .i64 q.v) (s':={s with q:=⟨q.c,q.t,q.k,q.y,q.v,s.q.s⟩}) rfl rfl rfl rfl rfl
 exact h5.set (j:=24) (u:=.int .i64 q.s) (s':={s with q:=q}) rfl rfl rfl rfl rfl
structure Rdone (T U:Nat→Prop) (k h:Nat) (L':List Key) (c:Cf) (id:Int) (s':RC) (w w':World):Prop where
 ex:∃T' U':Nat→Prop,Ntr w' T' h L'∧Rcm w' U' k h c id s'∧(∀b,T' b→¬U' b)∧(∀b,T' b→b < w'.heap.size)∧(∀b,T' b→T b∨w.heap.size≤b)∧(∀b,U' b→U b∨w.heap.size≤b)∧Fp (fun b=>T b∨U b) w w'
theorem pZ:(Tryz.prog.info? 45).map (·.size)=some 13:=by kernel_rfl
theorem lm (T U:Nat→Prop) (k h:Nat) (L0:List Key) (c:Cf) (id:Int) (s:RC) (kk y v:Int) (q:Psp.Req) (bs:List UInt8) (w:World) (H:Rcm w U k h c id s) (kf:Ntr w T h L0) (b5:∀b,T b→¬U b) (a6:∀b,T b→b < w.heap.size) (hf:1≤c.f∧c.f≤4) (mF:0≤id∧id < 4) (hw:s.wt=false) (hn:0≤s.n∧s.n≤1000000) (mw:s.iss.length≤1000000) (kc:s.out.length≤1000000) (hL:L0.length≤1000000) (hv:Psp.aZ ⟨id,s.n+1,kk,y,v,0⟩ c.cl=true)
 (hq:q=⟨id,s.n+1,kk,y,v,aV L0 (kR ⟨id,s.n+1,kk,y,v,0⟩)⟩) (al:okS (bi L0 (kR ⟨id,s.n+1,kk,y,v,0⟩)) (b7 id q)=true) (hbs:bs=cX (bi L0 (kR ⟨id,s.n+1,kk,y,v,0⟩)) (b7 id q)):
 Calls Tryz.prog 47 #[.pointer (some ⟨k,0,none⟩),.agg #[.int .i64 kk,.int .i64 y,.int .i64 v]] w fun e w'=>e= .returned (.tuple #[.agg #[.int .i64 q.c,.int .i64 q.t,.int .i64 q.k,.int .i64 q.y,.int .i64 q.v,.int .i64 q.s],.int .i64 0])∧Rdone T U k h (sealK (bi L0 (kR ⟨id,s.n+1,kk,y,v,0⟩)) (b7 id q)) c id ⟨s.n+1,true,q,bs,0,s.rep,noH s.has,s.iss++[q],s.acc,s.out++bK (Psp.aO c.f).toNat bs⟩ w w':=by
 have lc:=tt kf
 have k9:=tt al
 have lk:=tt hbs
 clear al hbs
 have b1:=ae w (.cells #[.int .i64 kk,.int .i64 y,.int .i64 v] 40)
 have a3:=tL w (.cells #[.int .i64 kk,.int .i64 y,.int .i64 v] 40)
 have hbb:=ae (w.alloc (.cells #[.int .i64 kk,.int .i64 y,.int .i64 v] 40)) (.cells #[.int .i64 0,.int .i64 0,.int .i64 0,.int .i64 0,.int .i64 0,.int .i64 0] 42)
 have hcb:=tL (w.alloc (.cells #[.int .i64 kk,.int .i64 y,.int .i64 v] 40)) (.cells #[.int .i64 0,.int .i64 0,.int .i64 0,.int .i64 0,.int .i64 0,.int .i64 0] 42)
 have ha:(w.alloc (.cells #[.int .i64 kk,.int .i64 y,.int .i64 v] 40)).heap.size=w.heap.size+1:=by simp
 have hsb:((w.alloc (.cells #[.int .i64 kk,.int .i64 y,.int .i64 v] 40)).alloc (.cells #[.int .i64 0,.int .i64 0,.int .i64 0,.int .i64 0,.int .i64 0,.int .i64 0] 42)).heap.size=w.heap.size+2:=by simp
 rw[ha] at hcb
 have cs:=(hbb.block w.heap.size (by omega)).trans a3
 have d7:=b1.trans (hbb.mono (by omega))
 clear b1 a3 hbb
 have HN:=tt H
 clear H
 go_enter Tryz.func47,Tryz.ntmps47
 go_upto_region 1 with fail
 obtain⟨W,hW⟩:∃W,(w.alloc (.cells #[.int .i64 kk,.int .i64 y,.int .i64 v] 40)).alloc (.cells #[.int .i64 0,.int .i64 0,.int .i64 0,.int .i64 0,.int .i64 0,.int .i64 0] 42)=W:=⟨_,rfl⟩
 rw[hW] at cs d7 hcb hsb ⊢
 obtain⟨Ab,cb,Ai,ci,Ac,cc,Ao,co,L,ho⟩:=(HN.out.below d7).opens
 have HO:=tt ho
 have g:=ho.row
 have hY:=tt d7
 have lh:=tt hcb
 have g3:=tt cs
 have kb:w.heap.size+2=W.heap.size:=hsb.symm
 have f8:W.cell? ⟨k,18,none⟩=some (.bool false):=by rw[←hw];exact am g 18 rfl
 clear hW cs d7 hcb hsb ha ho
 go_upto_region 3 with fail
 clear f8
 have hE:W.cell? ⟨k,15,none⟩=some (.int .i64 id):=am g 15 rfl
 have d8:W.cell? ⟨k,17,none⟩=some (.int .i64 s.n):=am g 17 rfl
 have o0:W.cell? ⟨w.heap.size,0,none⟩=some (.int .i64 kk):=am g3.out 0 rfl
 have o1:W.cell? ⟨w.heap.size,1,none⟩=some (.int .i64 y):=am g3.out 1 rfl
 have o2:W.cell? ⟨w.heap.size,2,none⟩=some (.int .i64 v):=am g3.out 2 rfl
 have b3:Below W.heap.size W (W.alloc (.cells #[.int .i64 0,.int .i64 0,.int .i64 0,.int .i64 0,.int .i64 0,.int .i64 0] 42)):=ae W _
 have i4:(W.alloc (.cells #[.int .i64 0,.int .i64 0,.int .i64 0,.int .i64 0,.int .i64 0,.int .i64 0] 42)).drew.cell? ⟨w.heap.size,0,none⟩=some (.int .i64 kk):=(World.cell?_of_block (a:=⟨w.heap.size,0,none⟩) (b3.drew.block _ (show w.heap.size < W.heap.size by omega))).trans o0
 have i3:(W.alloc (.cells #[.int .i64 0,.int .i64 0,.int .i64 0,.int .i64 0,.int .i64 0,.int .i64 0] 42)).drew.cell? ⟨w.heap.size,1,none⟩=some (.int .i64 y):=(World.cell?_of_block (a:=⟨w.heap.size,1,none⟩) (b3.drew.block _ (show w.heap.size < W.heap.size by omega))).trans o1
 have i2:(W.alloc (.cells #[.int .i64 0,.int .i64 0,.int .i64 0,.int .i64 0,.int .i64 0,.int .i64 0] 42)).drew.cell? ⟨w.heap.size,2,none⟩=some (.int .i64 v):=(World.cell?_of_block (a:=⟨w.heap.size,2,none⟩) (b3.drew.block _ (show w.heap.size < W.heap.size by omega))).trans o2
 have hi:k < W.heap.size:=HO.out.lt k HO.out.uk
 have hD:(W.alloc (.cells #[.int .i64 0,.int .i64 0,.int .i64 0,.int .i64 0,.int .i64 0,.int .i64 0] 42)).drew.cell? ⟨k,15,none⟩=some (.int .i64 id):=(World.cell?_of_block (a:=⟨k,15,none⟩) (b3.drew.block _ hi)).trans hE
 have hC:(W.alloc (.cells #[.int .i64 0,.int .i64 0,.int .i64 0,.int .i64 0,.int .i64 0,.int .i64 0] 42)).drew.cell? ⟨k,17,none⟩=some (.int .i64 s.n):=(World.cell?_of_block (a:=⟨k,17,none⟩) (b3.drew.block _ hi)).trans d8
 have fv:IntKind.i64.wrap (s.n+1)=s.n+1:=IntWalk.i64_in _ (by omega)
 clear b3
 go_region
 obtain⟨W3,hW3⟩:∃W3,(W.alloc (.cells #[.int .i64 id,.int .i64 (s.n+1),.int .i64 kk,.int .i64 y,.int .i64 v,.int .i64 0] 42)).drew=W3:=⟨_,rfl⟩
 have hb3:Below W.heap.size W W3:=by rw[←hW3];exact (ae W _).drew
 have f6:W3.heap[W.heap.size]? =some (.cells #[.int .i64 id,.int .i64 (s.n+1),.int .i64 kk,.int .i64 y,.int .i64 v,.int .i64 0] 42 (0,0)):=by rw[←hW3];exact tL W _
 have i8:W3.heap.size=W.heap.size+1:=by rw[←hW3];simp[World.drew]
 obtain⟨jb,hjb⟩:∃jb,W.heap.size=jb:=⟨_,rfl⟩
 rw[hW3]
 rw[hjb] at f6 i8 kb ⊢
 have g5:=tt (Below.then hY.out hb3 hY.out.size)
 have gc:=tt f6
 have gg:=tt (HO.out.below hb3)
 have ex:=(hb3.block (w.heap.size+1) (by omega)).trans lh.out
 have fn:=tt ex
 have hm:jb < W3.heap.size:=by omega
 clear hW3 hb3 f6 hE d8 o0 o1 o2 i4 i3 i2 hD hC fv ex g hjb
 have l1:=ab (w:=W3) (show W3.cell? ⟨k,1,none⟩=some (.int .i64 c.cl) from am gg.out.row 1 rfl)
 have J:Hid (∀w':World,(∃p:Later W3,w'=p.W)→w'.rangeAt jb 0 [.int .i64 id,.int .i64 (s.n+1),.int .i64 kk,.int .i64 y,.int .i64 v,.int .i64 0]):=tt (by rintro w' ⟨p,rfl⟩;exact aB ((p.h.block _ hm).trans gc.out))
 have ec:=tt fun p:Later W3=>ef ⟨id,s.n+1,kk,y,v,0⟩ c.cl p.W
 rw[hv] at ec
 go_upto_region 4 with fail
 refine ai (by kernel_rfl) (by kernel_rfl) ?_
 repeat ((with_reducible show wpQuiet _ _ _ _ _ _);first|(refine aj (by simp[Region.wanted,yielded]) 42 (.tmp 6) (by rfl) jb 0 (by rfl) [.int .i64 id,.int .i64 (s.n+1),.int .i64 kk,.int .i64 y,.int .i64 v,.int .i64 0] _ J.out Tryz.underlying42 rfl az ?_;intro K hK;go_simp;refine hK _ ?_;clear hK K)|go_big_quiet_step ((go_at_call 19;exact ag _ (ec.out _)))|quiet_step ((go_at_call 19;exact ag _ (ec.out _))))
 refine wpQuiet_nil ?_
 intro w4 g8
 have hb4:=ay g8
 have hZ:=tt (Below.then g5.out hb4 g5.out.size)
 have e1:=tt ((hb4.block _ hm).trans gc.out)
 have lb:=tt (gg.out.below hb4)
 have hV:=tt ((hb4.block (w.heap.size+1) (by omega)).trans fn.out)
 have mk:=hb4.size
 clear g8 hb4 l1 J ec g5 gc gg fn
 have eX:Hid (w4.rangeAt jb 0 [.int .i64 id,.int .i64 (s.n+1),.int .i64 kk,.int .i64 y,.int .i64 v,.int .i64 0]):=tt (aB e1.out)
 go_wp2_with (refine aA rfl 42 (.tmp 6) rfl jb 0 rfl [.int .i64 id,.int .i64 (s.n+1),.int .i64 kk,.int .i64 y,.int .i64 v,.int .i64 0] _ eX.out Tryz.underlying42 rfl az ?_)
 refine (mW ⟨id,s.n+1,kk,y,v,0⟩ w4).mono ?_
 intro e w6 hh
 obtain⟨A6,c6,rfl,hd,b2⟩:=Bytes.rdb hh rfl rfl
 have hN:=tt hd
 have g4:=tt (Below.then hZ.out b2 hZ.out.size)
 have hl:jb < w4.heap.size:=by omega
 have hJ:=tt ((b2.block _ hl).trans e1.out)
 have gd:=tt (lb.out.below b2)
 have hU:=tt ((b2.block (w.heap.size+1) (by omega)).trans hV.out)
 have mi:=b2.size
 clear hh hd b2 eX
 obtain⟨bq,hbq⟩:∃bq,res (Psp.bR (gX ⟨id,s.n+1,kk,y,v,0⟩)) (Psp.okR (gX ⟨id,s.n+1,kk,y,v,0⟩))=bq:=⟨_,rfl⟩
 rw[hbq] at hN ⊢
 have ep:kR ⟨id,s.n+1,kk,y,v,0⟩=(100+id,bq):=by unfold kR;rw[hbq]
 have e6:=tt ep
 clear hbq ep
 have hQ:=tt (lc.out.below g4.out)
 have hk:¬T k:=fun ht=>b5 k ht HN.out.uk
 have hp:¬T jb:=fun ht=>by have:=a6 jb ht;omega
 go_upto_region 7 with fail
 have fr:=aT (w:=w6.drew) (T:=T) (show w6.drew.cell? ⟨k,15,none⟩=some (.int .i64 id) from am gd.out.row 15 rfl) hk
 have fq:=aT (w:=w6.drew) (T:=T) (show w6.drew.cell? ⟨k,16,none⟩=some (.pointer (some ⟨h,0,none⟩)) from am gd.out.row 16 rfl) hk
 have f0:IntKind.i64.wrap (100+id)=100+id:=IntWalk.i64_in _ (by omega)
 refine aU T [(true,0),(true,1),(true,2),(true,3),(true,4),(true,5),(true,6),(true,7),(true,8),(true,9),(false,10)] (by kernel_rfl) (by kernel_rfl) ?_
 simp only[phS,tu,tx,Option.toList,tC,tD,Nat.reduceAdd,tE,List.drop_zero]
 repeat (first|go_big_quiet_step (fail)|quiet_step (fail)|refine wpQuiet_nil ?_)
 clear fr fq f0
 go_wp2_with fail
 have hy:∀b,w4.heap.size≤b→¬T b:=fun b hb ht=>by have:=a6 b ht;omega
 have bd:Below w6.heap.size w6 w6.drew:=(Below.refl _ _).drew
 refine (jV T h L0 (100+id) bq _ w6.drew _ (hQ.out.below bd) (by omega) (hN.out.below bd) hy).mono ?_
 rintro e w7 ⟨rfl,f2,f4⟩
 obtain⟨T7,hT7⟩:∃T7:Nat→Prop,(fun b=>T b∨(w6.drew.heap.size≤b∧b < w7.heap.size))=T7:=⟨_,rfl⟩
 rw[hT7] at f2
 have er:∀b,T7 b→T b∨(w6.heap.size≤b∧b < w7.heap.size):=fun b hb=>by rw[←hT7] at hb;exact hb
 have aa:=tt er
 have c8:=tt f2
 have le:=tt f4
 have N:Fp T w6 w7:=(Fp.of_below bd T).trans f4 fun b hb=>.inl hb
 have es:Fp T w w7:=(Fp.of_below g4.out T).trans N fun b hb=>.inl hb
 have e9:=tt es
 have i6:w6.heap.size≤w7.heap.size:=N.size
 have bp:=tt ((N.block jb (by omega) hp).trans hJ.out)
 have fm:=tt ((N.block (w.heap.size+1) (by omega) (fun ht=>by have:=a6 _ ht;omega)).trans hU.out)
 have hP:=tt (gd.out.fp N fun b hb ht=>b5 b ht hb)
 clear hT7 er f2 f4 N es bd hy
 obtain⟨sN,hsN⟩:∃sN,aV L0 (100+id,bq)=sN:=⟨_,rfl⟩
 obtain⟨L1,hL1⟩:∃L1,bi L0 (100+id,bq)=L1:=⟨_,rfl⟩
 have l8:L1.length≤L0.length+1:=by rw[←hL1];exact fo _ _
 have hq':q=⟨id,s.n+1,kk,y,v,sN⟩:=by rw[hq,e6.out,hsN]
 clear hq
 rw[hL1] at c8
 rw[hsN]
 have hT:Hid (bi L0 (kR ⟨id,s.n+1,kk,y,v,0⟩)=L1):=tt (by rw[e6.out];exact hL1)
 clear hsN hL1
 go_wp2_with fail
 refine And.intro ⟨⟨w7,le.out⟩,rfl⟩ ?_
 have ki:w7.cell? ⟨jb,5,none⟩=some (.int .i64 0):=am bp.out 5 rfl
 have h3:=frozen_of_row _ _ 5 _ _ bp.out
 go_upto_region 8 with fail
 clear ki h3
 have mt:jb≠k:=fun he=>by have:=HN.out.lt k HN.out.uk;omega
 have a1:Fp (fun b=>b=jb) w7 (w7.setCell ⟨jb,5,none⟩ (.int .i64 sN)):=(Fp.refl (fun b=>b=jb) w7).setCell (p:=⟨jb,5,none⟩) (Or.inl (show jb=jb from rfl)) _
 have f5:(w7.setCell ⟨jb,5,none⟩ (.int .i64 sN)).heap[jb]? =some (.cells #[.int .i64 id,.int .i64 (s.n+1),.int .i64 kk,.int .i64 y,.int .i64 v,.int .i64 sN] 42 (0,0)):=by rw[heap_setCell_same w7 jb 5 _ _ _ bp.out];rfl
 obtain⟨w8,hw8⟩:∃w8,w7.setCell ⟨jb,5,none⟩ (.int .i64 sN)=w8:=⟨_,rfl⟩
 rw[hw8] at a1 f5 ⊢
 have b0:∀b,U b→¬b=jb:=fun b hb he=>by have:=HN.out.lt b hb;omega
 have cp:∀b,T7 b→¬b=jb:=fun b hb he=>by
  rcases aa.out b hb with h1|h1
  ·exact hp (he▸h1)
  ·omega
 have e0:=tt f5
 have c4:=tt (hP.out.fp a1 b0)
 have e5:=tt (c8.out.fp a1 cp)
 have fl:=tt ((a1.block (w.heap.size+1) (by omega) (by omega)).trans fm.out)
 have e8:Hid (Fp T w w8):=tt (e9.out.trans a1 fun b hb=>by right;omega)
 have md:w7.heap.size≤w8.heap.size:=a1.size
 clear a1 f5 hw8 hP c8 bp fm e9
 have d8:w8.cell? ⟨k,17,none⟩=some (.int .i64 s.n):=am c4.out.row 17 rfl
 have i1:=frozen_of_row _ _ 17 _ _ c4.out.row
 have fv:IntKind.i64.wrap (s.n+1)=s.n+1:=IntWalk.i64_in _ (by omega)
 go_upto_region 9 with fail
 have f1:=c4.out.set (j:=17) (u:=.int .i64 (s.n+1)) (s':={s with n:=s.n+1}) rfl rfl rfl rfl rfl
 have a2:=iu w8 17 (.int .i64 (s.n+1)) c4.out.uk
 obtain⟨w9,hw9⟩:∃w9,w8.setCell ⟨k,17,none⟩ (.int .i64 (s.n+1))=w9:=⟨_,rfl⟩
 rw[hw9] at f1 a2 ⊢
 have ct:∀b,T7 b→¬U b:=fun b hb hu=>by
  rcases aa.out b hb with h1|h1
  ·exact b5 b h1 hu
  ·have:=HN.out.lt b hu;omega
 have Y:=tt ct
 have E:=tt f1
 have e4:=tt (e5.out.fp a2 ct)
 have cZ:=tt ((a2.block jb (by omega) (fun hu=>b0 jb hu rfl)).trans e0.out)
 have fi:=tt ((a2.block (w.heap.size+1) (by omega) (fun hu=>by have:=HN.out.lt _ hu;omega)).trans fl.out)
 have e7:Hid (Fp (fun b=>T b∨U b) w w9):=tt ((e8.out.mono fun b _ hb=>.inl hb).trans a2 fun b hb=>.inl (.inr hb))
 have l9:w8.heap.size≤w9.heap.size:=a2.size
 clear f1 a2 hw9 d8 i1 fv c4 e5 e0 fl e8 ct
 have g:=E.out.row
 have f8:w9.cell? ⟨k,18,none⟩=some (.bool s.wt):=am g 18 rfl
 have i0:=frozen_of_row _ _ 18 _ _ g
 have k7:w9.cell? ⟨k,19,none⟩=some (.int .i64 s.q.c):=am g 19 rfl
 have ix:=frozen_of_row _ _ 19 _ _ g
 have k6:w9.cell? ⟨k,20,none⟩=some (.int .i64 s.q.t):=am g 20 rfl
 have it:=frozen_of_row _ _ 20 _ _ g
 have k5:w9.cell? ⟨k,21,none⟩=some (.int .i64 s.q.k):=am g 21 rfl
 have ih:=frozen_of_row _ _ 21 _ _ g
 have k4:w9.cell? ⟨k,22,none⟩=some (.int .i64 s.q.y):=am g 22 rfl
 have h9:=frozen_of_row _ _ 22 _ _ g
 have k3:w9.cell? ⟨k,23,none⟩=some (.int .i64 s.q.v):=am g 23 rfl
 have h8:=frozen_of_row _ _ 23 _ _ g
 have k2:w9.cell? ⟨k,24,none⟩=some (.int .i64 s.q.s):=am g 24 rfl
 have h7:=frozen_of_row _ _ 24 _ _ g
 have k0:w9.cell? ⟨k,26,none⟩=some (.int .i64 s.tk):=am g 26 rfl
 have h5:=frozen_of_row _ _ 26 _ _ g
 have af:=cZ.out
 have j0:w9.cell? ⟨jb,0,none⟩=some (.int .i64 id):=am af 0 rfl
 have j1:w9.cell? ⟨jb,1,none⟩=some (.int .i64 (s.n+1)):=am af 1 rfl
 have j2:w9.cell? ⟨jb,2,none⟩=some (.int .i64 kk):=am af 2 rfl
 have j3:w9.cell? ⟨jb,3,none⟩=some (.int .i64 y):=am af 3 rfl
 have j4:w9.cell? ⟨jb,4,none⟩=some (.int .i64 v):=am af 4 rfl
 have j5:w9.cell? ⟨jb,5,none⟩=some (.int .i64 sN):=am af 5 rfl
 clear g af
 go_region
 subst hq'
 clear f8 i0 k7 ix k6 it k5 ih k4 h9 k3 h8 k2 h7 k0 h5 j0 j1 j2 j3 j4 j5
 have bc:=((E.out.set (j:=18) (u:=.bool true) (s':={s with n:=s.n+1,wt:=true}) rfl rfl rfl rfl rfl).setq ⟨id,s.n+1,kk,y,v,sN⟩).set (j:=26) (u:=.int .i64 0) (s':={s with n:=s.n+1,wt:=true,q:=⟨id,s.n+1,kk,y,v,sN⟩,tk:=0}) rfl rfl rfl rfl rfl
 have cq:Fp U w9 ((((((((w9.setCell ⟨k,18,none⟩ (.bool true)).setCell ⟨k,19,none⟩ (.int .i64 id)).setCell ⟨k,20,none⟩ (.int .i64 (s.n+1))).setCell ⟨k,21,none⟩ (.int .i64 kk)).setCell ⟨k,22,none⟩ (.int .i64 y)).setCell ⟨k,23,none⟩ (.int .i64 v)).setCell ⟨k,24,none⟩ (.int .i64 sN)).setCell ⟨k,26,none⟩ (.int .i64 0)):=((((((((Fp.refl U w9).setCell (p:=⟨k,18,none⟩) (Or.inl E.out.uk) _).setCell (p:=⟨k,19,none⟩) (Or.inl E.out.uk) _).setCell (p:=⟨k,20,none⟩) (Or.inl E.out.uk) _).setCell (p:=⟨k,21,none⟩) (Or.inl E.out.uk) _).setCell (p:=⟨k,22,none⟩) (Or.inl E.out.uk) _).setCell (p:=⟨k,23,none⟩) (Or.inl E.out.uk) _).setCell (p:=⟨k,24,none⟩) (Or.inl E.out.uk) _).setCell (p:=⟨k,26,none⟩) (Or.inl E.out.uk) _
 obtain⟨bQ,hx10⟩:∃bQ,((((((((w9.setCell ⟨k,18,none⟩ (.bool true)).setCell ⟨k,19,none⟩ (.int .i64 id)).setCell ⟨k,20,none⟩ (.int .i64 (s.n+1))).setCell ⟨k,21,none⟩ (.int .i64 kk)).setCell ⟨k,22,none⟩ (.int .i64 y)).setCell ⟨k,23,none⟩ (.int .i64 v)).setCell ⟨k,24,none⟩ (.int .i64 sN)).setCell ⟨k,26,none⟩ (.int .i64 0))=bQ:=⟨_,rfl⟩
 dsimp only at bc
 rw[hx10] at bc cq ⊢
 have bm:Below bQ.heap.size bQ bQ.drew:=(Below.refl _ _).drew
 obtain⟨G,hw10⟩:∃G,bQ.drew=G:=⟨_,rfl⟩
 rw[hw10] at bm ⊢
 have M:Fp U w9 G:=cq.trans (Fp.of_below bm U) fun b hb=>.inl hb
 have bO:=tt (bc.below bm)
 have dj:=tt (e4.out.fp M Y.out)
 have c2:=tt ((M.block jb (by omega) (fun hu=>b0 jb hu rfl)).trans cZ.out)
 have d5:=tt ((M.block (w.heap.size+1) (by omega) (fun hu=>by have:=HN.out.lt _ hu;omega)).trans fi.out)
 have d0:Hid (Fp (fun b=>T b∨U b) w G):=tt (e7.out.trans M fun b hb=>.inl (.inr hb))
 have l6:w9.heap.size≤G.heap.size:=M.size
 clear bc cq hx10 bm hw10 M E e4 cZ fi e7
 have b4:=nw (o:=40) (n:=13) bO.out.row (by show 40+13≤56;decide)
 have d9:=tt b4
 have ch:=bO.out.zero
 have C:Fp U G (G.setCells k 40 [.bool false,.bool false,.bool false,.bool false,.bool false,.bool false,.bool false,.bool false,.bool false,.bool false,.bool false,.bool false,.bool false]):=(Fp.refl U G).setCells (Or.inl bO.out.uk) _
 clear b4
 go_upto_region 11 with (first|(refine wpList_store_mid rfl 45 (.tmp 71) (.tmp 69) rfl k 40 #[.bool false,.bool false,.bool false,.bool false,.bool false,.bool false,.bool false,.bool false,.bool false,.bool false,.bool false,.bool false,.bool false] rfl rfl d9.out pZ (by simp[Value.oneCell']) ?_))
 obtain⟨l,hw11⟩:∃l,G.setCells k 40 [.bool false,.bool false,.bool false,.bool false,.bool false,.bool false,.bool false,.bool false,.bool false,.bool false,.bool false,.bool false,.bool false]=l:=⟨_,rfl⟩
 rw[hw11] at ch C ⊢
 have r:=tt ch
 have di:=tt (dj.out.fp C Y.out)
 have a8:=tt ((C.block jb (by omega) (fun hu=>b0 jb hu rfl)).trans c2.out)
 have d4:=tt ((C.block (w.heap.size+1) (by omega) (fun hu=>by have:=HN.out.lt _ hu;omega)).trans d5.out)
 have dO:Hid (Fp (fun b=>T b∨U b) w l):=tt (d0.out.trans C fun b hb=>.inl (.inr hb))
 have l5:G.heap.size≤l.heap.size:=C.size
 clear ch C hw11 d9 bO dj c2 d5 d0
 have i5:=aT (w:=l.drew) (T:=fun b=>b≠k∧b≠jb) (show l.drew.cell? ⟨k,53,none⟩=some (.slice Ai s.iss.length ci) from am r.out.row 53 rfl) (fun hh=>hh.1 rfl)
 have cm:jb < l.heap.size:=by omega
 have J:Hid (∀w':World,(∃p:LaterF l.drew (fun b=>b≠k∧b≠jb),w'=p.W)→w'.rangeAt jb 0 [.int .i64 id,.int .i64 (s.n+1),.int .i64 kk,.int .i64 y,.int .i64 v,.int .i64 sN]):=tt (by rintro w' ⟨p,rfl⟩;exact aB ((p.h.block _ (show jb < l.heap.size from cm) (fun hh=>hh.2 rfl)).trans a8.out))
 have hO:=tt (show l.drew.ownsRow 0 42 6 _ _ _ from r.out.oi)
 have c3:=tt (aC r.out.oi r.out.row (by decide))
 have e2:Hid (∀b,(Value.slice Ai s.iss.length ci).ownBlock=some b→b≠jb):=tt fun b hb he=>b0 b (r.out.ui b hb) he
 refine aU (fun b=>b≠k∧b≠jb) [(true,0),(true,1),(true,2),(true,3),(true,4),(true,5),(false,6),(false,7)] (by kernel_rfl) (by kernel_rfl) ?_
 simp only[phS,tu,tx,Option.toList,tC,tD,Nat.reduceAdd,tE,List.drop_zero]
 repeat (first|go_big_quiet_step (fail)|(refine aj (by simp[Region.wanted,yielded]) 42 (.tmp 6) (by rfl) jb 0 (by rfl) [.int .i64 id,.int .i64 (s.n+1),.int .i64 kk,.int .i64 y,.int .i64 v,.int .i64 sN] _ J.out Tryz.underlying42 rfl az ?_;intro K hK;go_simp;refine hK _ ?_;clear hK K)|quiet_step (fail)|refine wpQuiet_nil ?_)
 clear i5 J
 go_wp2_with fail
 refine And.intro ⟨⟨_,(Fp.refl _ l.drew).alloc _⟩,rfl⟩ ?_
 go_wp2_with (at_builtin;refine aW mU rfl _ _ rfl 0 (.slice Ai s.iss.length ci) s.iss.length (s.iss.flatMap rq) rfl hO.out _ rfl rfl (by simp[Value.oneCell']) (by omega) (by decide) (Nat.zero_le _) ?_;intro v5 w5 cf hr _ g9;have bN:=tt cf;have gs:=tt hr;have hG:=tt g9;clear cf hr g9;obtain⟨A5,c5,rfl,_,_,_⟩:=ao bN.out)
 refine And.intro ⟨⟨w5,(Fp.refl _ l.drew).grown gs.out (fun b hb=>Or.inl ⟨c3.out b hb,e2.out b hb⟩)⟩,rfl⟩ ?_
 have a9:Hid (Fp (fun b=>(Value.slice Ai s.iss.length ci).ownBlock=some b) l w5):=tt ((Fp.of_below (show Below l.heap.size l l.drew from (Below.refl _ _).drew) _).grown gs.out (fun b hb=>Or.inl hb))
 have cj:k < l.heap.size:=r.out.lt k r.out.uk
 have R:=(a9.out.block k cj (fun hh=>c3.out k hh rfl)).trans r.out.row
 have hM:=tt R
 have kq:w5.cell? ⟨k,53,none⟩=some (.slice Ai s.iss.length ci):=am R 53 rfl
 have h4:=frozen_of_row _ _ 53 _ _ R
 have i7:l.heap.size≤w5.heap.size:=a9.out.size
 clear R
 go_upto_region 12 with fail
 clear kq h4
 have ho:=r.out
 have z:=eK (W:=w5) (U:=fun b=>U b∨(l.heap.size≤b∧b < w5.heap.size)) (k:=k) (h:=h) (c:=c) (id:=id) (j:=53) (u:=(.slice A5 (s.iss.length+1) c5)) (s':={s with n:=s.n+1,wt:=true,q:=⟨id,s.n+1,kk,y,v,sN⟩,tk:=0,has:=noH s.has,iss:=s.iss++[⟨id,s.n+1,kk,y,v,sN⟩]}) (vb':=(.slice Ab s.bs.length cb)) (vi':=(.slice A5 (s.iss.length+1) c5)) (va':=(.slice Ac s.acc.length cc)) (vo':=(.slice Ao L.length co)) (L':=L) hM.out rfl (.inl ho.uk) (fun b hb=>by
  rcases hb with hb|hb
  ·have:=ho.lt b hb;omega
  ·exact hb.2) (ar ho.ob fun b hb=>a9.out.block b (ho.ob.lt b hb).2 (bC ho.ob ho.oi (by decide) b hb))
  (by rw[tH,List.flatMap_append];simpa [rq,iv] using bN.out) (ar ho.oc fun b hb=>a9.out.block b (ho.oc.lt b hb).2 (bC ho.oc ho.oi (by decide) b hb)) ho.om
  (ho.oo.keep fun b hb hlt hg=>⟨a9.out.block b hlt (by rcases hg with h1|⟨x,hx,h1⟩;exact bC ho.oo.own ho.oi (by decide) b h1;exact bC (ho.oo.ok x hx).1 ho.oi (by decide) b h1),.inl hb⟩)
  (fun b hb=>.inl (ho.ub b hb)) (fun b hb=>by
    rcases hG.out with h1|h1
    ·rw[h1] at hb;exact .inl (ho.ui b hb)
    ·have h2:=(bN.out.lt b hb).2
     rw[h1] at hb;injection hb with hb
     right;exact⟨by rw[←hb];show l.heap.size≤l.heap.size+1;omega,h2⟩) (fun b hb=>.inl (ho.uc b hb))
 have B:Fp U l (w5.setCell ⟨k,53,none⟩ (.slice A5 (s.iss.length+1) c5)):=(a9.out.mono fun b _ hb=>ho.ui b hb).setCell (p:=⟨k,53,none⟩) (Or.inl ho.uk) _
 have b6:(w5.setCell ⟨k,53,none⟩ (.slice A5 (s.iss.length+1) c5)).heap.size=w5.heap.size:=by simp
 obtain⟨i,hw12⟩:∃i,w5.setCell ⟨k,53,none⟩ (.slice A5 (s.iss.length+1) c5)=i:=⟨_,rfl⟩
 rw[hw12] at z B b6 ⊢
 rw[←b6] at z
 have ac:=tt z
 have dc:=tt (di.out.fp B Y.out)
 have a7:=tt ((B.block jb (by omega) (fun hu=>b0 jb hu rfl)).trans a8.out)
 have d3:=tt ((B.block (w.heap.size+1) (by omega) (fun hu=>by have:=HN.out.lt _ hu;omega)).trans d4.out)
 have dv:Hid (Fp (fun b=>T b∨U b) w i):=tt (dO.out.trans B fun b hb=>.inl (.inr hb))
 have l4:l.heap.size≤i.heap.size:=B.size
 clear z B b6 hw12 ho hO c3 e2 bN gs hG a9 hM r di a8 d4 dO cm cj i7
 obtain⟨D,hU12⟩:∃D:Nat→Prop,(fun b=>U b∨(l.heap.size≤b∧b < i.heap.size))=D:=⟨_,rfl⟩
 rw[hU12] at ac
 have a5:∀b,D b→U b∨(l.heap.size≤b∧b < i.heap.size):=fun b hb=>by rw[←hU12] at hb;exact hb
 have Z:=tt a5
 have lr:w6.heap.size≤w7.heap.size:=i6
 have cy:∀b,T7 b→¬D b:=fun b hb hu=>by
  rcases a5 b hu with h1|h1
  ·exact Y.out b hb h1
  ·rcases aa.out b hb with h2|h2
   ·have:=a6 b h2;omega
   ·omega
 have cQ:=tt cy
 have eq:∀b,T7 b→b < i.heap.size:=fun b hb=>by
  rcases aa.out b hb with h2|h2
  ·have:=a6 b h2;omega
  ·omega
 have l7:¬T7 k:=fun ht=>Y.out k ht HN.out.uk
 have f3:¬T7 jb:=fun ht=>cp jb ht rfl
 clear hU12 a5 cy
 have fr:=ab (w:=i.drew) (show i.drew.cell? ⟨k,15,none⟩=some (.int .i64 id) from am ac.out.row 15 rfl)
 have fq:=ab (w:=i.drew) (show i.drew.cell? ⟨k,16,none⟩=some (.pointer (some ⟨h,0,none⟩)) from am ac.out.row 16 rfl)
 have ck:jb < i.heap.size:=by omega
 have J:Hid (∀w':World,(∃p:Later i.drew,w'=p.W)→w'.rangeAt jb 0 [.int .i64 id,.int .i64 (s.n+1),.int .i64 kk,.int .i64 y,.int .i64 v,.int .i64 sN]):=tt (by rintro w' ⟨p,rfl⟩;exact aB ((p.h.block _ (show jb < i.heap.size from ck)).trans a7.out))
 have f0:IntKind.i64.wrap (100+id)=100+id:=IntWalk.i64_in _ (by omega)
 refine eW 20 (by kernel_rfl) (by kernel_rfl) ?_
 refine dU 0 (by kernel_rfl) (fun _ d _ _ _ h=>by cases d <;> exact h) ?_
 simp only[tu,tx,Option.toList]
 repeat (first|go_big_quiet_step (fail)|quiet_step (fail)|refine wpQuiet_nil ?_)
 refine kg [0] [(true,1),(true,2),(true,3),(true,4),(true,5),(true,6),(true,9),(true,10),(true,11),(true,12),(false,7),(true,8)] 7 (by kernel_rfl) ?_
 simp only[phW,tu,tx,Option.toList,tC,tD,Nat.reduceAdd,tE,List.drop_zero]
 repeat (first|go_big_quiet_step (fail)|(refine aj (by simp[Region.wanted,yielded]) 42 (.tmp 6) (by rfl) jb 0 (by rfl) [.int .i64 id,.int .i64 (s.n+1),.int .i64 kk,.int .i64 y,.int .i64 v,.int .i64 sN] _ J.out Tryz.underlying42 rfl az ?_;intro K hK;go_simp;refine hK _ ?_;clear hK K)|quiet_step (fail)|refine wpQuiet_nil ?_)
 clear fr fq f0 J
 go_wp2_with fail
 refine And.intro ⟨⟨_,(Below.refl _ _).alloc (tJ _) _⟩,rfl⟩ ?_
 repeat (first|go_big_quiet_step (fail)|quiet_step (fail)|refine wpQuiet_nil ?_)
 refine iZ 13 (by kernel_rfl) ?_
 simp only[tu,tx,Option.toList]
 have b1:Below i.heap.size i (i.alloc (.cells #[.int .i64 id,.int .i64 (s.n+1),.int .i64 kk,.int .i64 y,.int .i64 v,.int .i64 sN] 42)).drew:=(ae i _).drew
 have a3:(i.alloc (.cells #[.int .i64 id,.int .i64 (s.n+1),.int .i64 kk,.int .i64 y,.int .i64 v,.int .i64 sN] 42)).drew.heap[i.heap.size]? =some (.cells #[.int .i64 id,.int .i64 (s.n+1),.int .i64 kk,.int .i64 y,.int .i64 v,.int .i64 sN] 42 (0,0)):=tL i _
 go_wp2_with fail
 obtain⟨w13,hw13⟩:∃W_,(i.alloc (.cells #[.int .i64 id,.int .i64 (s.n+1),.int .i64 kk,.int .i64 y,.int .i64 v,.int .i64 sN] 42)).drew=W_:=⟨_,rfl⟩
 rw[hw13] at b1 a3 ⊢
 have a0:=(tz a3).1
 have Q:Below i.heap.size i w13:=b1
 have g7:i.heap.size < w13.heap.size:=a0
 have hc:RdP w13 (fun b=>b < w13.heap.size) 6 (.slice (some ⟨i.heap.size,0,none⟩) 1 1) 1 ([(⟨id,s.n+1,kk,y,v,sN⟩:Psp.Req)].flatMap rq):=⟨rfl,some ⟨i.heap.size,0,none⟩,1,rfl,tJ _,by unfold maxLen;omega,fun _=>⟨i.heap.size,0,rfl,a0,a0,fun j u hj=>by
  rw[Nat.zero_add]
  rw[cell_of_row _ _ j _ _ _ a3,List.getElem?_toArray]
  simpa [rq,iv] using hj⟩⟩
 have k8:=tt hc
 have da:=tt (dc.out.below Q)
 have e3:=tt (ac.out.below Q)
 have c1:=tt ((Q.block jb ck).trans a7.out)
 have d2:=tt ((Q.block (w.heap.size+1) (by omega)).trans d3.out)
 have ds:Hid (Fp (fun b=>T b∨U b) w w13):=tt (dv.out.trans (Fp.of_below Q (fun b=>T b∨U b)) fun b hb=>.inl hb)
 have hI:=tt fun b hb=>Nat.lt_trans (eq b hb) g7
 clear hw13 b1 a3 hc Q eq ac dc a7 d3 dv
 refine (qe (b7 id ⟨id,s.n+1,kk,y,v,sN⟩) _ _ _ _ T7 h L1 w13 ⟨k8.out,RdP.none_,RdC.nil,RdA.nil⟩ da.out hI.out (by omega)).mono ?_
 rintro e F ⟨vq,T8,rfl,bb,en,hB,hA,hz,P⟩
 have al:=k9.out
 have hbs:=lk.out
 rw[hT.out] at al hbs
 have em:res (Psp.aK (aV L1 (kM (b7 id ⟨id,s.n+1,kk,y,v,sN⟩)))++Psp.bu (b7 id ⟨id,s.n+1,kk,y,v,sN⟩)) (okS L1 (b7 id ⟨id,s.n+1,kk,y,v,sN⟩))=bs:=by rw[al,hbs];rfl
 rw[em] at bb
 obtain⟨Av,I,rfl,_,_,_⟩:=ao bb
 rw[al]
 clear al hbs
 have HV:=tt bb
 have c9:=tt en
 have g6:=tt hB
 have h0:=tt hA
 have lo:=tt hz
 have c7:=tt (e3.out.fp P fun b hb ht=>cQ.out b ht hb)
 have c0:=tt ((P.block jb (by omega) f3).trans c1.out)
 have d1:=tt ((P.block (w.heap.size+1) (by omega) (fun ht=>cp _ ht (by rcases aa.out _ ht with h2|h2;(have:=a6 _ h2;omega);omega))).trans d2.out)
 have dr:Hid (Fp (fun b=>T b∨U b) w F):=tt (ds.out.trans P fun b hb=>by
  rcases aa.out b hb with h2|h2
  ·exact .inl (.inl h2)
  ·right;have:=g4.out.size;omega)
 have l3:w13.heap.size≤F.heap.size:=P.size
 clear bb en hB hA hz P em e3 da c1 d2 ds
 go_wp2_with fail
 refine dU 14 (by kernel_rfl) (fun _ d _ _ _ h=>by cases d <;> exact h) ?_
 simp only[tu,tx,Option.toList]
 repeat (first|go_big_quiet_step (fail)|quiet_step (fail)|refine wpQuiet_nil ?_)
 refine dU 15 (by kernel_rfl) (fun _ d _ _ _ h=>by cases d <;> exact h) ?_
 simp only[tu,tx,Option.toList]
 repeat (first|go_big_quiet_step (fail)|quiet_step (fail)|refine wpQuiet_nil ?_)
 refine dU 16 (by kernel_rfl) (fun _ d _ _ _ h=>by cases d <;> exact h) ?_
 simp only[tu,tx,Option.toList]
 repeat (first|go_big_quiet_step (fail)|quiet_step (fail)|refine wpQuiet_nil ?_)
 refine dU 17 (by kernel_rfl) (fun _ d _ _ _ h=>by cases d <;> exact h) ?_
 simp only[tu,tx,Option.toList]
 repeat (first|go_big_quiet_step (fail)|quiet_step (fail)|refine wpQuiet_nil ?_)
 refine dU 18 (by kernel_rfl) (fun _ d _ _ _ h=>by cases d <;> exact h) ?_
 simp only[tu,tx,Option.toList]
 repeat (first|go_big_quiet_step (fail)|quiet_step (fail)|refine wpQuiet_nil ?_)
 refine iZ 19 (by kernel_rfl) ?_
 simp only[tu,tx,Option.toList]
 have S:=c7.out.row
 have k1:F.cell? ⟨k,25,none⟩=some (.slice Ab s.bs.length cb):=am S 25 rfl
 have h6:=frozen_of_row _ _ 25 _ _ S
 clear S
 go_wp2_with fail
 refine mH (by kernel_rfl) ?_
 clear k1 h6
 have ho:=c7.out
 have f7:∀b,(Value.slice Av bs.length I).ownBlock=some b→w13.heap.size≤b∧b < F.heap.size:=fun b hb=>HV.out.lt b hb
 have z:=eK (W:=F) (U:=fun b=>D b∨(Value.slice Av bs.length I).ownBlock=some b) (k:=k) (h:=h) (c:=c) (id:=id) (j:=25) (u:=(.slice Av bs.length I)) (s':={s with n:=s.n+1,wt:=true,q:=⟨id,s.n+1,kk,y,v,sN⟩,tk:=0,bs:=bs,has:=noH s.has,iss:=s.iss++[⟨id,s.n+1,kk,y,v,sN⟩]}) (vb':=(.slice Av bs.length I)) (vi':=(.slice A5 (s.iss.length+1) c5)) (va':=(.slice Ac s.acc.length cc)) (vo':=(.slice Ao L.length co)) (L':=L) ho.row rfl (.inl ho.uk) (fun b hb=>by
  rcases hb with hb|hb
  ·exact ho.lt b hb
  ·exact (f7 b hb).2) (bA HV.out (Nat.zero_le _)) ho.oi ho.oc ho.om (ho.oo.keep fun b hb hlt hg=>⟨rfl,.inl hb⟩) (fun b hb=>.inr hb) (fun b hb=>.inl (ho.ui b hb)) (fun b hb=>.inl (ho.uc b hb))
 have A:Fp D F (F.setCell ⟨k,25,none⟩ (.slice Av bs.length I)):=iu F 25 _ ho.uk
 obtain⟨ad,hw15⟩:∃ad,F.setCell ⟨k,25,none⟩ (.slice Av bs.length I)=ad:=⟨_,rfl⟩
 rw[hw15] at z A ⊢
 have V:∀b,D b→b≠jb∧b≠w.heap.size+1:=fun b hb=>by
  rcases Z.out b hb with h1|h1
  ·have:=HN.out.lt b h1;omega
  ·omega
 have cA:∀b,T8 b→¬ (D b∨(Value.slice Av bs.length I).ownBlock=some b):=fun b hb hu=>by
  rcases hu with hu|hu
  ·rcases g6.out b hb with h1|h1
   ·exact cQ.out b h1 hu
   ·rcases Z.out b hu with h2|h2
    ·have:=HN.out.lt b h2;omega
    ·omega
  ·exact lo.out b hu hb
 have hS:Hid (Rcm ad (fun b=>D b∨(Value.slice Av bs.length I).ownBlock=some b) k h c id {s with n:=s.n+1,wt:=true,q:=⟨id,s.n+1,kk,y,v,sN⟩,tk:=0,bs:=bs,has:=noH s.has,iss:=s.iss++[⟨id,s.n+1,kk,y,v,sN⟩]}):=tt z.m
 have gp:=tt (c9.out.fp A fun b hb hu=>cA b hb (.inl hu))
 have gb:=tt ((A.block jb (by omega) (fun hu=>(V jb hu).1 rfl)).trans c0.out)
 have g2:=tt ((A.block (w.heap.size+1) (by omega) (fun hu=>(V _ hu).2 rfl)).trans d1.out)
 have g1:Hid (Fp (fun b=>T b∨U b) w ad):=tt (dr.out.trans A fun b hb=>by
  rcases Z.out b hb with h2|h2
  ·exact .inl (.inr h2)
  ·right;omega)
 have eb:=tt f7
 have eS:=tt cA
 have cW:=tt V
 have l2:F.heap.size≤ad.heap.size:=A.size
 clear z A hw15 ho f7 cA V c7 c9 c0 d1 dr
 go_wp2_with fail
 refine (oH _ k h c id {s with n:=s.n+1,wt:=true,q:=⟨id,s.n+1,kk,y,v,sN⟩,tk:=0,bs:=bs,has:=noH s.has,iss:=s.iss++[⟨id,s.n+1,kk,y,v,sN⟩]} ad hS.out hf kc).mono ?_
 rintro e X ⟨rfl,hF,eo,el,O⟩
 have cn:¬ (D jb∨(Value.slice Av bs.length I).ownBlock=some jb):=by
  rintro (h1|h1)
  ·exact (cW.out jb h1).1 rfl
  ·have:=eb.out jb h1;omega
 have ca:¬ (D (w.heap.size+1)∨(Value.slice Av bs.length I).ownBlock=some (w.heap.size+1)):=by
  rintro (h1|h1)
  ·exact (cW.out _ h1).2 rfl
  ·have:=eb.out _ h1;omega
 have hR:=tt eo
 have eG:=tt el
 have go:=tt (gp.out.fp O fun b hb hu=>eS.out b hb hu)
 have b9:=(O.block jb (by omega) cn).trans gb.out
 have a4:=(O.block (w.heap.size+1) (by omega) ca).trans g2.out
 have g0:Hid (Fp (fun b=>T b∨U b) w X):=tt (g1.out.trans O fun b hb=>by
  rcases hb with hb|hb
  ·rcases Z.out b hb with h2|h2
   ·exact .inl (.inr h2)
   ·right;omega
  ·have:=eb.out b hb;right;omega)
 have l0:ad.heap.size≤X.heap.size:=O.size
 have J:Hid (X.rangeAt jb 0 [.int .i64 id,.int .i64 (s.n+1),.int .i64 kk,.int .i64 y,.int .i64 v,.int .i64 sN]):=tt (aB b9)
 have b4:=au a4
 obtain⟨s1,s2⟩:=aQ a4 [.int .i64 id,.int .i64 (s.n+1),.int .i64 kk,.int .i64 y,.int .i64 v,.int .i64 sN] rfl
 have d9:=tt b4
 have S1:=tt s1
 clear eo el O b9 a4 b4 s1 s2 cn ca
 go_wp2_with (first|(refine aA rfl 42 (.tmp 6) rfl jb 0 rfl [.int .i64 id,.int .i64 (s.n+1),.int .i64 kk,.int .i64 y,.int .i64 v,.int .i64 sN] _ J.out Tryz.underlying42 rfl az ?_)|(refine wpList_store_mid rfl 42 (.tmp 4) (.tmp 103) rfl (w.heap.size+1) 0 #[.int .i64 id,.int .i64 (s.n+1),.int .i64 kk,.int .i64 y,.int .i64 v,.int .i64 sN] rfl rfl d9.out az (by simp[Value.oneCell']) ?_))
 refine bodyPost_ret (v:=.tuple #[.agg #[.int .i64 id,.int .i64 (s.n+1),.int .i64 kk,.int .i64 y,.int .i64 v,.int .i64 sN],.int .i64 0]) ?_ rfl ?_
 ·exact aI Tryz.results47 _ _ (w.heap.size+1) _ _ _ _ rfl S1.out Tryz.underlying42 rfl az
 have d6:Fp (fun b=>b=w.heap.size+1) X (X.setCells (w.heap.size+1) 0 [.int .i64 id,.int .i64 (s.n+1),.int .i64 kk,.int .i64 y,.int .i64 v,.int .i64 sN]):=(Fp.refl (fun b=>b=w.heap.size+1) X).setCells (Or.inl rfl) _
 have hs:∀b,T8 b→b≠w.heap.size+1:=fun b hb=>by
  rcases g6.out b hb with h1|h1
  ·rcases aa.out b h1 with h2|h2
   ·have:=a6 b h2;omega
   ·omega
  ·omega
 have cz:∀b,hF b→(U b∨(l.heap.size≤b∧b < i.heap.size))∨w13.heap.size≤b:=fun b hb=>by
  rcases eG.out b hb with h1|h1
  ·rcases h1 with h1|h1
   ·exact .inl (Z.out b h1)
   ·right;exact (eb.out b h1).1
  ·right;omega
 refine⟨rfl,⟨⟨T8,hF,?_,?_,fun b hb hu=>?_,fun b hb=>?_,fun b hb=>?_,fun b hb=>?_,?_⟩⟩⟩
 ·rw[hT.out];exact go.out.fp d6 hs
 ·exact hR.out.fp d6 fun b hb he=>by
   rcases cz b hb with h1|h1
   ·rcases h1 with h1|h1
    ·have:=HN.out.lt b h1;omega
    ·omega
   ·omega
 ·rcases eG.out b hu with h1|h1
  ·exact eS.out b hb h1
  ·have:=h0.out b hb;omega
 ·have h1:=h0.out b hb
  have h2:X.heap.size≤(X.setCells (w.heap.size+1) 0 [.int .i64 id,.int .i64 (s.n+1),.int .i64 kk,.int .i64 y,.int .i64 v,.int .i64 sN]).heap.size:=d6.size
  omega
 ·rcases g6.out b hb with h1|h1
  ·rcases aa.out b h1 with h2|h2
   ·exact .inl h2
   ·right;omega
  ·right;omega
 ·rcases cz b hb with h1|h1
  ·rcases h1 with h1|h1
   ·exact .inl h1
   ·right;omega
  ·right;omega
 ·exact g0.out.trans d6 fun b hb=>by right;omega
end Go.Proofs.YtipmjleohadoeaaGreat
end
