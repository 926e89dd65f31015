import Derived.Test.YtipmjleohadoeaaGreatJ1Py
import Derived.Laws.Strings
import Derived.Test.YtipmjleohadoeaaGreatJ6Py
import Derived.Test.YtipmjleohadoeaaGreatJ7Py
set_option maxRecDepth 100000
set_option maxHeartbeats 16000000
set_option linter.unusedVariables false
set_option linter.unusedSimpArgs false
section
namespace Go.Proofs.YtipmjleohadoeaaGreat
open Go.RowKit
def nB (s:ByteArray) (c:UInt8):Bool:=s.data.toList.contains c
theorem pj {s:ByteArray} {c:UInt8} {n:Nat} (hn:s.size=n) (h:∀j,j < n→s.data.toList.getD j 0≠c):nB s c=false:=by
 unfold nB
 rw[Bool.eq_false_iff]
 intro hc
 obtain⟨j,hj,he⟩:=List.getElem_of_mem (List.contains_iff_mem.1 hc)
 have a:j < n:=by rw[←hn];simpa using hj
 refine h j a ?_
 rw[List.getD_eq_getElem?_getD,tK hj]
 exact he
theorem qH (s:ByteArray) (c:UInt8) (n:Nat) (w:World) (hn:s.size=n) (h9:n≤9):
 Calls Tryz.prog 159 #[.string s,.int .u8 (c.toNat:Int)] w fun e w'=>e= .returned (.bool (nB s c))∧w=w':=by
 go_enter Tryz.func159,Tryz.ntmps159
 go_wp2_with fail
 go_loopw [5] (fun i wr=>∃k:Nat,i= .int .i64 (k:Int)∧k≤n∧wr=w∧Hid (∀j,j < k→s.data.toList.getD j 0≠c)) (fun i _=>n - (intOf i).toNat)
 case atStart=>exact⟨0,rfl,Nat.zero_le _,rfl,tt fun j h=>by omega⟩
 case round=>
  obtain⟨k,rfl,hk,rfl,HI⟩:=hrel
  by_cases hlt:k < n
  ·have a:k < s.size:=by omega
   have hg:s.data.toList.getD k 0=s[k]:=by
    rw[List.getD_eq_getElem?_getD,tK (by simpa using a)];rfl
   by_cases he:s[k]=c
   ·have e1:(((s[k]'a).toNat:Int)==(c.toNat:Int))=true:=by rw[he];simp
    have Hf:Hid (nB s c=true):=tt (List.contains_iff_mem.2 (by rw[←he,←hg,List.getD_eq_getElem?_getD,tK (by simpa using a)];exact List.getElem_mem _))
    clear HI hg he
    go_wp2_with fail
    go_ret
    exact⟨by rw[Hf.out];rfl,rfl⟩
   ·have e1:(((s[k]'a).toNat:Int)==(c.toNat:Int))=false:=by
     rw[beq_eq_false_iff_ne];intro h;exact he (UInt8.toNat_inj.1 (by omega))
    have d:Hid (∀j,j < k+1→s.data.toList.getD j 0≠c):=tt fun j hj=>by
     by_cases b:j=k
     ·subst b;rw[hg];exact he
     ·exact HI.out j (by omega)
    clear HI hg he
    go_wp2_with fail
    refine⟨⟨k+1,by go_num,by omega,trivial,d⟩,?_⟩
    simp[intOf];omega
  ·obtain rfl:k=n:=by omega
   have Hf:Hid (nB s c=false):=tt (pj hn HI.out)
   clear HI
   go_wp2_with fail
   go_ret
   exact⟨by rw[Hf.out];rfl,rfl⟩
def bJ (s:ByteArray) (cn:Int):Bool:=nB s (UInt8.ofNat cn.toNat)
theorem fT (s:ByteArray) (n:Nat) (hn:s.size=n) (h9:n≤9) (cn:Int) (h:cn=118∨cn=105∨cn=115∨cn=114∨cn=98∨cn=111∨cn=99∨cn=112) (w:World):
 Calls Tryz.prog 159 #[.string s,.int .u8 cn] w fun e w'=>e= .returned (.bool (bJ s cn))∧w=w':=by
 rcases h with rfl|rfl|rfl|rfl|rfl|rfl|rfl|rfl <;> exact qH s _ n w hn h9
def bx (hv hi hs hr hb ho hc hp:Bool) (v i q r:Int) (nb no nc np:Nat):Bool:=
 (hv||v==0)&&((hi||i==0)&&((hs||q==0)&&((hr||r==0)&&((hb||decide (nb=0))&&((ho||decide (no=0))&&((hc||decide (nc=0))&&(hp||decide (np=0))))))))
theorem mD (k f v i q r:Int) (Ab Ao Ac Ap:Option Addr) (nb no nc np cb co cc cp:Nat) (w:World):
 Calls Tryz.prog 133 #[.agg #[.int .i64 k,.int .i64 f,.int .i64 v,.int .i64 i,.int .i64 q,.int .i64 r,.slice Ab nb cb,.slice Ao no co,.slice Ac nc cc,.slice Ap np cp],.string {data:=#[98]}] w fun e w'=>e= .returned (.bool (bx false false false false true false false false v i q r nb no nc np))∧Below w.heap.size w w':=by
 obtain⟨s,hs⟩:∃s:ByteArray,s={data:=#[98]}:=⟨_,rfl⟩
 rw[←hs]
 have HH:=tt (fT s 1 (by rw[hs];rfl) (by omega))
 have Nv:bJ s 118=false:=by rw[hs];decide
 have Ni:bJ s 105=false:=by rw[hs];decide
 have Ns:bJ s 115=false:=by rw[hs];decide
 have Nr:bJ s 114=false:=by rw[hs];decide
 have Nb:bJ s 98=true:=by rw[hs];decide
 have No:bJ s 111=false:=by rw[hs];decide
 have Nc:bJ s 99=false:=by rw[hs];decide
 have Np:bJ s 112=false:=by rw[hs];decide
 have a:=tt (And.intro Nv (And.intro Ni (And.intro Ns (And.intro Nr (And.intro Nb (And.intro No (And.intro Nc Np)))))))
 clear hs Nv Ni Ns Nr Nb No Nc Np
 by_cases h0:v=0
 case' neg=>have d0:(v==0)=false:=beq_eq_false_iff_ne.2 h0
 case' pos=>
  subst h0
  by_cases h1:i=0
  case' neg=>have d1:(i==0)=false:=beq_eq_false_iff_ne.2 h1
  case' pos=>
   subst h1
   by_cases h2:q=0
   case' neg=>have d2:(q==0)=false:=beq_eq_false_iff_ne.2 h2
   case' pos=>
    subst h2
    by_cases h3:r=0
    case' neg=>have d3:(r==0)=false:=beq_eq_false_iff_ne.2 h3
    case' pos=>
     subst h3
     by_cases h4:no=0
     case' neg=>have d4:(((no:Nat):Int)==0)=false:=by rw[beq_eq_false_iff_ne];omega
     case' pos=>
      subst h4
      by_cases h5:nc=0
      case' neg=>have d5:(((nc:Nat):Int)==0)=false:=by rw[beq_eq_false_iff_ne];omega
      case' pos=>
       subst h5
       by_cases h6:np=0
       case' neg=>have d6:(((np:Nat):Int)==0)=false:=by rw[beq_eq_false_iff_ne];omega
       case' pos=>
        subst h6
 all_goals
  go_enter Tryz.func133,Tryz.ntmps133
  simp only[List.append_eq,List.cons_append,List.nil_append]
  go_wp2_with (go_at_call 159;refine (HH.out _ (by decide) _).mono ?_;rintro e w' ⟨rfl,rfl⟩;obtain⟨Nv,Ni,Ns,Nr,Nb,No,Nc,Np⟩:=a.out;simp only[Nv,Ni,Ns,Nr,Nb,No,Nc,Np];clear Nv Ni Ns Nr Nb No Nc Np)
  go_ret
  refine⟨?_,by first|exact ae w _|exact ak (ae w _) _⟩
  simp[bx, *]
theorem fX (k f v i q r:Int) (Ab Ao Ac Ap:Option Addr) (nb no nc np cb co cc cp:Nat) (w:World):
 Calls Tryz.prog 133 #[.agg #[.int .i64 k,.int .i64 f,.int .i64 v,.int .i64 i,.int .i64 q,.int .i64 r,.slice Ab nb cb,.slice Ao no co,.slice Ac nc cc,.slice Ap np cp],.string {data:=#[118,105,115,98]}] w fun e w'=>e= .returned (.bool (bx true true true false true false false false v i q r nb no nc np))∧Below w.heap.size w w':=by
 obtain⟨s,hs⟩:∃s:ByteArray,s={data:=#[118,105,115,98]}:=⟨_,rfl⟩
 rw[←hs]
 have HH:=tt (fT s 4 (by rw[hs];rfl) (by omega))
 have Nv:bJ s 118=true:=by rw[hs];decide
 have Ni:bJ s 105=true:=by rw[hs];decide
 have Ns:bJ s 115=true:=by rw[hs];decide
 have Nr:bJ s 114=false:=by rw[hs];decide
 have Nb:bJ s 98=true:=by rw[hs];decide
 have No:bJ s 111=false:=by rw[hs];decide
 have Nc:bJ s 99=false:=by rw[hs];decide
 have Np:bJ s 112=false:=by rw[hs];decide
 have a:=tt (And.intro Nv (And.intro Ni (And.intro Ns (And.intro Nr (And.intro Nb (And.intro No (And.intro Nc Np)))))))
 clear hs Nv Ni Ns Nr Nb No Nc Np
 by_cases h0:r=0
 case' neg=>have d0:(r==0)=false:=beq_eq_false_iff_ne.2 h0
 case' pos=>
  subst h0
  by_cases h1:no=0
  case' neg=>have d1:(((no:Nat):Int)==0)=false:=by rw[beq_eq_false_iff_ne];omega
  case' pos=>
   subst h1
   by_cases h2:nc=0
   case' neg=>have d2:(((nc:Nat):Int)==0)=false:=by rw[beq_eq_false_iff_ne];omega
   case' pos=>
    subst h2
    by_cases h3:np=0
    case' neg=>have d3:(((np:Nat):Int)==0)=false:=by rw[beq_eq_false_iff_ne];omega
    case' pos=>
     subst h3
 all_goals
  go_enter Tryz.func133,Tryz.ntmps133
  simp only[List.append_eq,List.cons_append,List.nil_append]
  go_wp2_with (go_at_call 159;refine (HH.out _ (by decide) _).mono ?_;rintro e w' ⟨rfl,rfl⟩;obtain⟨Nv,Ni,Ns,Nr,Nb,No,Nc,Np⟩:=a.out;simp only[Nv,Ni,Ns,Nr,Nb,No,Nc,Np];clear Nv Ni Ns Nr Nb No Nc Np)
  go_ret
  refine⟨?_,by first|exact ae w _|exact ak (ae w _) _⟩
  simp[bx, *]
theorem qV (k f v i q r:Int) (Ab Ao Ac Ap:Option Addr) (nb no nc np cb co cc cp:Nat) (w:World):
 Calls Tryz.prog 133 #[.agg #[.int .i64 k,.int .i64 f,.int .i64 v,.int .i64 i,.int .i64 q,.int .i64 r,.slice Ab nb cb,.slice Ao no co,.slice Ac nc cc,.slice Ap np cp],.string {data:=#[118]}] w fun e w'=>e= .returned (.bool (bx true false false false false false false false v i q r nb no nc np))∧Below w.heap.size w w':=by
 obtain⟨s,hs⟩:∃s:ByteArray,s={data:=#[118]}:=⟨_,rfl⟩
 rw[←hs]
 have HH:=tt (fT s 1 (by rw[hs];rfl) (by omega))
 have Nv:bJ s 118=true:=by rw[hs];decide
 have Ni:bJ s 105=false:=by rw[hs];decide
 have Ns:bJ s 115=false:=by rw[hs];decide
 have Nr:bJ s 114=false:=by rw[hs];decide
 have Nb:bJ s 98=false:=by rw[hs];decide
 have No:bJ s 111=false:=by rw[hs];decide
 have Nc:bJ s 99=false:=by rw[hs];decide
 have Np:bJ s 112=false:=by rw[hs];decide
 have a:=tt (And.intro Nv (And.intro Ni (And.intro Ns (And.intro Nr (And.intro Nb (And.intro No (And.intro Nc Np)))))))
 clear hs Nv Ni Ns Nr Nb No Nc Np
 by_cases h0:i=0
 case' neg=>have d0:(i==0)=false:=beq_eq_false_iff_ne.2 h0
 case' pos=>
  subst h0
  by_cases h1:q=0
  case' neg=>have d1:(q==0)=false:=beq_eq_false_iff_ne.2 h1
  case' pos=>
   subst h1
   by_cases h2:r=0
   case' neg=>have d2:(r==0)=false:=beq_eq_false_iff_ne.2 h2
   case' pos=>
    subst h2
    by_cases h3:nb=0
    case' neg=>have d3:(((nb:Nat):Int)==0)=false:=by rw[beq_eq_false_iff_ne];omega
    case' pos=>
     subst h3
     by_cases h4:no=0
     case' neg=>have d4:(((no:Nat):Int)==0)=false:=by rw[beq_eq_false_iff_ne];omega
     case' pos=>
      subst h4
      by_cases h5:nc=0
      case' neg=>have d5:(((nc:Nat):Int)==0)=false:=by rw[beq_eq_false_iff_ne];omega
      case' pos=>
       subst h5
       by_cases h6:np=0
       case' neg=>have d6:(((np:Nat):Int)==0)=false:=by rw[beq_eq_false_iff_ne];omega
       case' pos=>
        subst h6
 all_goals
  go_enter Tryz.func133,Tryz.ntmps133
  simp only[List.append_eq,List.cons_append,List.nil_append]
  go_wp2_with (go_at_call 159;refine (HH.out _ (by decide) _).mono ?_;rintro e w' ⟨rfl,rfl⟩;obtain⟨Nv,Ni,Ns,Nr,Nb,No,Nc,Np⟩:=a.out;simp only[Nv,Ni,Ns,Nr,Nb,No,Nc,Np];clear Nv Ni Ns Nr Nb No Nc Np)
  go_ret
  refine⟨?_,by first|exact ae w _|exact ak (ae w _) _⟩
  simp[bx, *]
theorem nK (k f v i q r:Int) (Ab Ao Ac Ap:Option Addr) (nb no nc np cb co cc cp:Nat) (w:World):
 Calls Tryz.prog 133 #[.agg #[.int .i64 k,.int .i64 f,.int .i64 v,.int .i64 i,.int .i64 q,.int .i64 r,.slice Ab nb cb,.slice Ao no co,.slice Ac nc cc,.slice Ap np cp],.string {data:=#[118,111,99]}] w fun e w'=>e= .returned (.bool (bx true false false false false true true false v i q r nb no nc np))∧Below w.heap.size w w':=by
 obtain⟨s,hs⟩:∃s:ByteArray,s={data:=#[118,111,99]}:=⟨_,rfl⟩
 rw[←hs]
 have HH:=tt (fT s 3 (by rw[hs];rfl) (by omega))
 have Nv:bJ s 118=true:=by rw[hs];decide
 have Ni:bJ s 105=false:=by rw[hs];decide
 have Ns:bJ s 115=false:=by rw[hs];decide
 have Nr:bJ s 114=false:=by rw[hs];decide
 have Nb:bJ s 98=false:=by rw[hs];decide
 have No:bJ s 111=true:=by rw[hs];decide
 have Nc:bJ s 99=true:=by rw[hs];decide
 have Np:bJ s 112=false:=by rw[hs];decide
 have a:=tt (And.intro Nv (And.intro Ni (And.intro Ns (And.intro Nr (And.intro Nb (And.intro No (And.intro Nc Np)))))))
 clear hs Nv Ni Ns Nr Nb No Nc Np
 by_cases h0:i=0
 case' neg=>have d0:(i==0)=false:=beq_eq_false_iff_ne.2 h0
 case' pos=>
  subst h0
  by_cases h1:q=0
  case' neg=>have d1:(q==0)=false:=beq_eq_false_iff_ne.2 h1
  case' pos=>
   subst h1
   by_cases h2:r=0
   case' neg=>have d2:(r==0)=false:=beq_eq_false_iff_ne.2 h2
   case' pos=>
    subst h2
    by_cases h3:nb=0
    case' neg=>have d3:(((nb:Nat):Int)==0)=false:=by rw[beq_eq_false_iff_ne];omega
    case' pos=>
     subst h3
     by_cases h4:np=0
     case' neg=>have d4:(((np:Nat):Int)==0)=false:=by rw[beq_eq_false_iff_ne];omega
     case' pos=>
      subst h4
 all_goals
  go_enter Tryz.func133,Tryz.ntmps133
  simp only[List.append_eq,List.cons_append,List.nil_append]
  go_wp2_with (go_at_call 159;refine (HH.out _ (by decide) _).mono ?_;rintro e w' ⟨rfl,rfl⟩;obtain⟨Nv,Ni,Ns,Nr,Nb,No,Nc,Np⟩:=a.out;simp only[Nv,Ni,Ns,Nr,Nb,No,Nc,Np];clear Nv Ni Ns Nr Nb No Nc Np)
  go_ret
  refine⟨?_,by first|exact ae w _|exact ak (ae w _) _⟩
  simp[bx, *]
theorem nL (k f v i q r:Int) (Ab Ao Ac Ap:Option Addr) (nb no nc np cb co cc cp:Nat) (w:World):
 Calls Tryz.prog 133 #[.agg #[.int .i64 k,.int .i64 f,.int .i64 v,.int .i64 i,.int .i64 q,.int .i64 r,.slice Ab nb cb,.slice Ao no co,.slice Ac nc cc,.slice Ap np cp],.string {data:=#[118,105,112]}] w fun e w'=>e= .returned (.bool (bx true true false false false false false true v i q r nb no nc np))∧Below w.heap.size w w':=by
 obtain⟨s,hs⟩:∃s:ByteArray,s={data:=#[118,105,112]}:=⟨_,rfl⟩
 rw[←hs]
 have HH:=tt (fT s 3 (by rw[hs];rfl) (by omega))
 have Nv:bJ s 118=true:=by rw[hs];decide
 have Ni:bJ s 105=true:=by rw[hs];decide
 have Ns:bJ s 115=false:=by rw[hs];decide
 have Nr:bJ s 114=false:=by rw[hs];decide
 have Nb:bJ s 98=false:=by rw[hs];decide
 have No:bJ s 111=false:=by rw[hs];decide
 have Nc:bJ s 99=false:=by rw[hs];decide
 have Np:bJ s 112=true:=by rw[hs];decide
 have a:=tt (And.intro Nv (And.intro Ni (And.intro Ns (And.intro Nr (And.intro Nb (And.intro No (And.intro Nc Np)))))))
 clear hs Nv Ni Ns Nr Nb No Nc Np
 by_cases h0:q=0
 case' neg=>have d0:(q==0)=false:=beq_eq_false_iff_ne.2 h0
 case' pos=>
  subst h0
  by_cases h1:r=0
  case' neg=>have d1:(r==0)=false:=beq_eq_false_iff_ne.2 h1
  case' pos=>
   subst h1
   by_cases h2:nb=0
   case' neg=>have d2:(((nb:Nat):Int)==0)=false:=by rw[beq_eq_false_iff_ne];omega
   case' pos=>
    subst h2
    by_cases h3:no=0
    case' neg=>have d3:(((no:Nat):Int)==0)=false:=by rw[beq_eq_false_iff_ne];omega
    case' pos=>
     subst h3
     by_cases h4:nc=0
     case' neg=>have d4:(((nc:Nat):Int)==0)=false:=by rw[beq_eq_false_iff_ne];omega
     case' pos=>
      subst h4
 all_goals
  go_enter Tryz.func133,Tryz.ntmps133
  simp only[List.append_eq,List.cons_append,List.nil_append]
  go_wp2_with (go_at_call 159;refine (HH.out _ (by decide) _).mono ?_;rintro e w' ⟨rfl,rfl⟩;obtain⟨Nv,Ni,Ns,Nr,Nb,No,Nc,Np⟩:=a.out;simp only[Nv,Ni,Ns,Nr,Nb,No,Nc,Np];clear Nv Ni Ns Nr Nb No Nc Np)
  go_ret
  refine⟨?_,by first|exact ae w _|exact ak (ae w _) _⟩
  simp[bx, *]
theorem qW (k f v i q r:Int) (Ab Ao Ac Ap:Option Addr) (nb no nc np cb co cc cp:Nat) (w:World):
 Calls Tryz.prog 133 #[.agg #[.int .i64 k,.int .i64 f,.int .i64 v,.int .i64 i,.int .i64 q,.int .i64 r,.slice Ab nb cb,.slice Ao no co,.slice Ac nc cc,.slice Ap np cp],.string {data:=#[99]}] w fun e w'=>e= .returned (.bool (bx false false false false false false true false v i q r nb no nc np))∧Below w.heap.size w w':=by
 obtain⟨s,hs⟩:∃s:ByteArray,s={data:=#[99]}:=⟨_,rfl⟩
 rw[←hs]
 have HH:=tt (fT s 1 (by rw[hs];rfl) (by omega))
 have Nv:bJ s 118=false:=by rw[hs];decide
 have Ni:bJ s 105=false:=by rw[hs];decide
 have Ns:bJ s 115=false:=by rw[hs];decide
 have Nr:bJ s 114=false:=by rw[hs];decide
 have Nb:bJ s 98=false:=by rw[hs];decide
 have No:bJ s 111=false:=by rw[hs];decide
 have Nc:bJ s 99=true:=by rw[hs];decide
 have Np:bJ s 112=false:=by rw[hs];decide
 have a:=tt (And.intro Nv (And.intro Ni (And.intro Ns (And.intro Nr (And.intro Nb (And.intro No (And.intro Nc Np)))))))
 clear hs Nv Ni Ns Nr Nb No Nc Np
 by_cases h0:v=0
 case' neg=>have d0:(v==0)=false:=beq_eq_false_iff_ne.2 h0
 case' pos=>
  subst h0
  by_cases h1:i=0
  case' neg=>have d1:(i==0)=false:=beq_eq_false_iff_ne.2 h1
  case' pos=>
   subst h1
   by_cases h2:q=0
   case' neg=>have d2:(q==0)=false:=beq_eq_false_iff_ne.2 h2
   case' pos=>
    subst h2
    by_cases h3:r=0
    case' neg=>have d3:(r==0)=false:=beq_eq_false_iff_ne.2 h3
    case' pos=>
     subst h3
     by_cases h4:nb=0
     case' neg=>have d4:(((nb:Nat):Int)==0)=false:=by rw[beq_eq_false_iff_ne];omega
     case' pos=>
      subst h4
      by_cases h5:no=0
      case' neg=>have d5:(((no:Nat):Int)==0)=false:=by rw[beq_eq_false_iff_ne];omega
      case' pos=>
       subst h5
       by_cases h6:np=0
       case' neg=>have d6:(((np:Nat):Int)==0)=false:=by rw[beq_eq_false_iff_ne];omega
       case' pos=>
        subst h6
 all_goals
  go_enter Tryz.func133,Tryz.ntmps133
  simp only[List.append_eq,List.cons_append,List.nil_append]
  go_wp2_with (go_at_call 159;refine (HH.out _ (by decide) _).mono ?_;rintro e w' ⟨rfl,rfl⟩;obtain⟨Nv,Ni,Ns,Nr,Nb,No,Nc,Np⟩:=a.out;simp only[Nv,Ni,Ns,Nr,Nb,No,Nc,Np];clear Nv Ni Ns Nr Nb No Nc Np)
  go_ret
  refine⟨?_,by first|exact ae w _|exact ak (ae w _) _⟩
  simp[bx, *]
theorem nM (k f v i q r:Int) (Ab Ao Ac Ap:Option Addr) (nb no nc np cb co cc cp:Nat) (w:World):
 Calls Tryz.prog 133 #[.agg #[.int .i64 k,.int .i64 f,.int .i64 v,.int .i64 i,.int .i64 q,.int .i64 r,.slice Ab nb cb,.slice Ao no co,.slice Ac nc cc,.slice Ap np cp],.string {data:=#[105,115,114]}] w fun e w'=>e= .returned (.bool (bx false true true true false false false false v i q r nb no nc np))∧Below w.heap.size w w':=by
 obtain⟨s,hs⟩:∃s:ByteArray,s={data:=#[105,115,114]}:=⟨_,rfl⟩
 rw[←hs]
 have HH:=tt (fT s 3 (by rw[hs];rfl) (by omega))
 have Nv:bJ s 118=false:=by rw[hs];decide
 have Ni:bJ s 105=true:=by rw[hs];decide
 have Ns:bJ s 115=true:=by rw[hs];decide
 have Nr:bJ s 114=true:=by rw[hs];decide
 have Nb:bJ s 98=false:=by rw[hs];decide
 have No:bJ s 111=false:=by rw[hs];decide
 have Nc:bJ s 99=false:=by rw[hs];decide
 have Np:bJ s 112=false:=by rw[hs];decide
 have a:=tt (And.intro Nv (And.intro Ni (And.intro Ns (And.intro Nr (And.intro Nb (And.intro No (And.intro Nc Np)))))))
 clear hs Nv Ni Ns Nr Nb No Nc Np
 by_cases h0:v=0
 case' neg=>have d0:(v==0)=false:=beq_eq_false_iff_ne.2 h0
 case' pos=>
  subst h0
  by_cases h1:nb=0
  case' neg=>have d1:(((nb:Nat):Int)==0)=false:=by rw[beq_eq_false_iff_ne];omega
  case' pos=>
   subst h1
   by_cases h2:no=0
   case' neg=>have d2:(((no:Nat):Int)==0)=false:=by rw[beq_eq_false_iff_ne];omega
   case' pos=>
    subst h2
    by_cases h3:nc=0
    case' neg=>have d3:(((nc:Nat):Int)==0)=false:=by rw[beq_eq_false_iff_ne];omega
    case' pos=>
     subst h3
     by_cases h4:np=0
     case' neg=>have d4:(((np:Nat):Int)==0)=false:=by rw[beq_eq_false_iff_ne];omega
     case' pos=>
      subst h4
 all_goals
  go_enter Tryz.func133,Tryz.ntmps133
  simp only[List.append_eq,List.cons_append,List.nil_append]
  go_wp2_with (go_at_call 159;refine (HH.out _ (by decide) _).mono ?_;rintro e w' ⟨rfl,rfl⟩;obtain⟨Nv,Ni,Ns,Nr,Nb,No,Nc,Np⟩:=a.out;simp only[Nv,Ni,Ns,Nr,Nb,No,Nc,Np];clear Nv Ni Ns Nr Nb No Nc Np)
  go_ret
  refine⟨?_,by first|exact ae w _|exact ak (ae w _) _⟩
  simp[bx, *]
theorem fW {W W':World} {g:Nat} {o:Obj} (h:W.heap[g]? =some o) (hb:Below W.heap.size W W'):W'.heap[g]? =some o:=
 (hb.block g (tz h).1).trans h
theorem eP (v i q f:Int) (w:World):Calls Tryz.prog 134 #[.int .i64 v,.int .i64 i,.int .i64 q,.int .i64 f] w fun e w'=>e= .returned (.bool (Psp.cH v i q f))∧w=w':=by
 have hP:Psp.cH v i q f=decide (0≤v∧v≤12∧0≤i∧i≤f∧1≤q∧q≤16):=by
  unfold Psp.cH Psp.win;rw[Bool.eq_iff_iff];simp;omega
 rw[hP]
 have HP:=tt hP
 clear hP HP
 by_cases h1:0≤v
 case' neg=>have d1:decide (v≥0)=false:=tA h1;have hr:decide (0≤v∧v≤12∧0≤i∧i≤f∧1≤q∧q≤16)=false:=tA (by omega)
 case' pos=>
  have d1:decide (v≥0)=true:=tB h1
  by_cases h2:v≤12
  case' neg=>have d2:decide (v≤12)=false:=tA h2;have hr:decide (0≤v∧v≤12∧0≤i∧i≤f∧1≤q∧q≤16)=false:=tA (by omega)
  case' pos=>
   have d2:decide (v≤12)=true:=tB h2
   by_cases h3:0≤i
   case' neg=>have d3:decide (i≥0)=false:=tA h3;have hr:decide (0≤v∧v≤12∧0≤i∧i≤f∧1≤q∧q≤16)=false:=tA (by omega)
   case' pos=>
    have d3:decide (i≥0)=true:=tB h3
    by_cases h4:i≤f
    case' neg=>have d4:decide (i≤f)=false:=tA h4;have hr:decide (0≤v∧v≤12∧0≤i∧i≤f∧1≤q∧q≤16)=false:=tA (by omega)
    case' pos=>
     have d4:decide (i≤f)=true:=tB h4
     by_cases h5:1≤q
     case' neg=>have d5:decide (q≥1)=false:=tA h5;have hr:decide (0≤v∧v≤12∧0≤i∧i≤f∧1≤q∧q≤16)=false:=tA (by omega)
     case' pos=>
      have d5:decide (q≥1)=true:=tB h5
      by_cases h6:q≤16
      case' neg=>have d6:decide (q≤16)=false:=tA h6;have hr:decide (0≤v∧v≤12∧0≤i∧i≤f∧1≤q∧q≤16)=false:=tA (by omega)
      case' pos=>have d6:decide (q≤16)=true:=tB h6;have hr:decide (0≤v∧v≤12∧0≤i∧i≤f∧1≤q∧q≤16)=true:=decide_eq_true ⟨h1,h2,h3,h4,h5,h6⟩
 all_goals
  have Hr:=tt hr
  clear hr
  go_enter Tryz.func134,Tryz.ntmps134
  go_wp2_with fail
  go_ret
  first|exact⟨rfl,rfl⟩|exact⟨by rw[Hr.out];rfl,rfl⟩
theorem kr (l:List Psp.Vote) (n:Nat) (x:Value) (w:World) (P:Nat→Prop) (hx:RdP w P 2 x n (l.flatMap vt)) (hn:l.length=n):
 Calls Tryz.prog 161 #[x] w fun e w'=>e= .returned (.bool (Psp.eF l))∧w=w':=by
 obtain⟨_,A,c,rfl,m,h,_⟩:=hx.parts
 have HX:=tt hx
 have Hn:=tt hn
 clear hx hn
 go_enter Tryz.func161,Tryz.ntmps161
 go_wp2_with fail
 go_loopw [3] (fun i wr=>∃k:Nat,i= .int .i64 (k:Int)∧k≤n∧wr=w∧Hid (∀(j:Nat) (y:Psp.Vote),j < k→l[j]? =some y→Psp.eA y.s=true)) (fun i _=>n - (intOf i).toNat)
 case atStart=>exact⟨0,rfl,Nat.zero_le _,rfl,tt fun j y hj=>by omega⟩
 case round=>
  obtain⟨k,rfl,hk,rfl,HI⟩:=hrel
  by_cases hlt:k < n
  ·obtain⟨b0,o0,c0,y,he,hb0,hb1,hy,a⟩:=cw (f:=vt) (k:=2) (fun _=>rfl) (by omega) HX.out Hn.out hlt
   injection he with g _ d
   subst g d
   have hq:=a wr rfl
   have kc:wr.cell? ⟨b0,o0+k * 2+1,none⟩=some (.int .i64 y.s):=hq 1 (iv y.s) rfl
   have Hy:=tt hy
   have d0:decide ((k:Int) < (n:Int))=true:=by simp;omega
   have hS:Psp.eA y.s=decide (0≤y.s∧y.s < 1099511627776):=by unfold Psp.eA Psp.win;rw[Bool.eq_iff_iff];simp;omega
   have HS:=tt hS
   clear a hy hq hS
   by_cases hs:0≤y.s∧y.s < 1099511627776
   ·obtain⟨s0,s1⟩:=hs
    have d1:decide (y.s < 0)=false:=tA (by omega)
    have d2:decide (y.s≥1099511627776)=false:=tA (by omega)
    have b:Hid (∀(j:Nat) (z:Psp.Vote),j < k+1→l[j]? =some z→Psp.eA z.s=true):=tt fun j z hj hz=>by
     by_cases he:j=k
     ·subst he;have e1:=Hy.out.symm.trans hz;injection e1 with e1;subst e1;rw[HS.out];exact decide_eq_true ⟨s0,s1⟩
     ·exact HI.out j z (by omega) hz
    clear HI
    go_wp2_with fail
    first
     |(go_roundw
       case rel=>exact⟨k+1,by go_num,by omega,(by first|rfl|trivial),b⟩
       case measure=>simp[intOf];omega)
     |(refine⟨⟨k+1,by go_num,by omega,(by first|rfl|trivial),b⟩,?_⟩
       simp[intOf];omega)
   ·have Hf:Hid (Psp.eF l=false):=tt (by unfold Psp.eF;exact Psp.eU (p:=fun v:Psp.Vote=>Psp.eA v.s) Hy.out (by rw[HS.out];exact tA hs))
    clear HI
    by_cases h0:y.s < 0
    ·have d1:decide (y.s < 0)=true:=tB h0
     clear hs
     go_wp2_with fail
     go_ret
     exact⟨by rw[Hf.out];rfl,rfl⟩
    ·have d1:decide (y.s < 0)=false:=tA h0
     have d2:decide (y.s≥1099511627776)=true:=tB (by omega)
     clear hs
     go_wp2_with fail
     go_ret
     exact⟨by rw[Hf.out];rfl,rfl⟩
  ·obtain rfl:k=n:=by omega
   have d0:decide ((k:Int) < (k:Int))=false:=by simp
   have Hf:Hid (Psp.eF l=true):=tt (by unfold Psp.eF;exact Psp.eu fun j hj y hy=>HI.out j y (by rw[←Hn.out];exact hj) hy)
   clear HI
   go_wp2_with fail
   go_ret
   exact⟨by rw[Hf.out];rfl,rfl⟩
theorem gh (l:List Psp.Req) (n:Nat) (x:Value) (cl:Int) (w:World) (P:Nat→Prop) (hx:RdP w P 6 x n (l.flatMap rq)) (hn:l.length=n):
 Calls Tryz.prog 135 #[x,.int .i64 cl] w fun e w'=>e= .returned (.bool (Psp.bn l cl 0 4))∧Below w.heap.size w w':=by
 obtain⟨_,A,c,rfl,q,o,_⟩:=hx.parts
 have HX:=tt hx
 have Hn:=tt hn
 clear hx hn
 go_enter Tryz.func135,Tryz.ntmps135
 by_cases h4:4 < n
 ·have d4:decide ((n:Int) > 4)=true:=by simp;omega
  have Hf:Hid (Psp.bn l cl 0 4=false):=tt (by unfold Psp.bn;rw[Hn.out,(Psp.dm _ _ _).2 (by omega),Bool.and_false])
  go_wp2_with fail
  go_ret
  exact⟨by rw[Hf.out];rfl,Below.refl _ _⟩
 have d4:decide ((n:Int) > 4)=false:=by simp;omega
 go_wp2_with fail
 go_loopw [5] (fun i wr=>∃k:Nat,i= .int .i64 (k:Int)∧k≤n∧Hid (∀(j:Nat) (y:Psp.Req),j < k→l[j]? =some y→Psp.aZ y cl=true)∧Hid (Below w.heap.size w wr)) (fun i _=>n - (intOf i).toNat)
 case atStart=>exact⟨0,rfl,Nat.zero_le _,tt fun j y hj=>by omega,tt (Below.refl _ _)⟩
 case round=>
  obtain⟨k,rfl,hk,HI,HB⟩:=hrel
  by_cases hlt:k < n
  ·obtain⟨b0,o0,c0,y,he,hb0,hb1,hy,b⟩:=cw (f:=rq) (k:=6) (fun _=>rfl) (by omega) HX.out Hn.out hlt
   injection he with m _ h
   subst m h
   have HQ:=tt (b wr (HB.out.block b0 hb1))
   have Hy:=tt hy
   have d1:decide ((k:Int) < (n:Int))=true:=by simp;omega
   clear b hy
   obtain⟨sb,hsb⟩:∃sb,Psp.aZ y cl=sb:=⟨_,rfl⟩
   go_wp2_with (first|(refine aA rfl 42 (.tmp 17) rfl b0 (o0+k * 6) rfl (rq y) _ HQ.out Tryz.underlying42 rfl az ?_))
   refine (ef y cl wr).mono ?_
   rw[hsb]
   rintro e w2 ⟨rfl,hb2⟩
   have a:=tt (Below.then HB.out hb2 HB.out.size)
   have d:=tt hsb
   clear hb2 hsb HQ
   cases sb with
   |true=>
    have g:Hid (∀(j:Nat) (z:Psp.Req),j < k+1→l[j]? =some z→Psp.aZ z cl=true):=tt fun j z hj hz=>by
     by_cases he:j=k
     ·subst he;have e1:=Hy.out.symm.trans hz;injection e1 with e1;subst e1;exact d.out
     ·exact HI.out j z (by omega) hz
    clear HI
    go_wp2_with fail
    first
     |(go_roundw
       case rel=>exact⟨k+1,by go_num,by omega,g,a⟩
       case measure=>simp[intOf];omega)
     |(refine⟨⟨k+1,by go_num,by omega,g,a⟩,?_⟩
       simp[intOf];omega)
   |false=>
    have Hf:Hid (Psp.bn l cl 0 4=false):=tt (by unfold Psp.bn Psp.fj;rw[Psp.eU (p:=fun r=>Psp.aZ r cl) Hy.out d.out];rfl)
    clear HI
    go_wp2_with fail
    go_ret
    exact⟨by rw[Hf.out];rfl,a.out⟩
  ·obtain rfl:k=n:=by omega
   have d1:decide ((k:Int) < (k:Int))=false:=by simp
   have Hf:Hid (Psp.bn l cl 0 4=true):=tt (by
    unfold Psp.bn Psp.fj
    rw[Psp.eu (p:=fun r=>Psp.aZ r cl) (l:=l) fun j hj y hy=>HI.out j y (by rw[←Hn.out];exact hj) hy,Hn.out,(Psp.aN _ _ _).2 ⟨by omega,by omega⟩];rfl)
   clear HI
   go_wp2_with fail
   go_ret
   exact⟨by rw[Hf.out];rfl,HB.out⟩
theorem lV (c:Psp.Cert) (vb vo:Value) (f cl:Int) (w:World) (P:Nat→Prop) (hx:CertOk w P ⟨c,vb,vo⟩) (hw:∀v∈c.o,ea v):
 Calls Tryz.prog 139 #[.agg #[.int .i64 c.v,.int .i64 c.i,.int .i64 c.q,vb,vo],.int .i64 f,.int .i64 cl] w fun e w'=>e= .returned (.bool (Psp.cT c f cl))∧Below w.heap.size w w':=by
 obtain⟨_,A1,c1,e1,_⟩:=RdP.parts hx.1
 obtain⟨_,A2,c2,e2,_⟩:=RdP.parts hx.2
 dsimp only at e1 e2
 subst e1 e2
 have HX:=tt hx
 have Hw:=tt hw
 have hb0:=ae w (.cells #[.int .i64 c.v,.int .i64 c.i,.int .i64 c.q,.slice A1 c.b.length c1,.slice A2 c.o.length c2] 162)
 have a:=tL w (.cells #[.int .i64 c.v,.int .i64 c.i,.int .i64 c.q,.slice A1 c.b.length c1,.slice A2 c.o.length c2] 162)
 clear hx hw
 obtain⟨b1,hb1⟩:∃x,Psp.cH c.v c.i c.q f=x:=⟨_,rfl⟩
 obtain⟨b2,hb2⟩:∃x,Psp.bn c.b cl 0 4=x:=⟨_,rfl⟩
 obtain⟨b3,hb3⟩:∃x,Psp.dF (c.o.map (·.n)) f=x:=⟨_,rfl⟩
 obtain⟨b4,hb4⟩:∃x,Psp.eF c.o=x:=⟨_,rfl⟩
 have Hr:Hid (Psp.cT c f cl=(b1&&(b2&&(b4&&b3)))):=tt (by unfold Psp.cT Psp.ed;rw[hb1,hb2,hb3,hb4])
 go_enter Tryz.func139,Tryz.ntmps139
 go_wp2_with fail
 obtain⟨W0,hW0⟩:∃W,w.alloc (.cells #[.int .i64 c.v,.int .i64 c.i,.int .i64 c.q,.slice A1 c.b.length c1,.slice A2 c.o.length c2] 162)=W:=⟨_,rfl⟩
 rw[hW0] at hb0 a ⊢
 have g:=tt hb0
 have k:=tt a
 have hlt:=(tz a).1
 clear hW0 hb0 a
 refine (eP c.v c.i c.q f W0).mono ?_
 rw[hb1]
 rintro e w1 ⟨rfl,rfl⟩
 have m:=tt hb1
 clear hb1
 cases b1 with
 |false=>
  go_wp2_with fail
  go_ret
  exact⟨by rw[Hr.out];rfl,g.out⟩
 |true=>
  have kc:W0.cell? ⟨w.heap.size,3,none⟩=some (.slice A1 c.b.length c1):=by rw[cell_of_row _ _ 3 _ _ _ k.out];rfl
  go_wp2_with fail
  clear kc
  refine (gh c.b c.b.length (.slice A1 c.b.length c1) cl W0 _ (HX.out.1.keeps (Keeps.below g.out)) rfl).mono ?_
  rw[hb2]
  rintro e w2 ⟨rfl,hb⟩
  have d:=tt (Below.then g.out hb g.out.size)
  have j:=tt (fW k.out hb)
  clear hb hb2
  cases b2 with
  |false=>
   go_wp2_with fail
   go_ret
   exact⟨by rw[Hr.out];rfl,d.out⟩
  |true=>
   have kc:w2.cell? ⟨w.heap.size,4,none⟩=some (.slice A2 c.o.length c2):=by rw[cell_of_row _ _ 4 _ _ _ j.out];rfl
   go_wp2_with fail
   clear kc
   refine (jm c.o c.o.length (.slice A2 c.o.length c2) f w2 _ (HX.out.2.keeps (Keeps.below d.out)) rfl Hw.out).mono ?_
   rw[hb3]
   rintro e w3 ⟨rfl,hb⟩
   have h:=tt (Below.then d.out hb d.out.size)
   have l:=tt (fW j.out hb)
   clear hb hb3
   cases b3 with
   |false=>
    go_wp2_with fail
    go_ret
    exact⟨by rw[Hr.out];simp,h.out⟩
   |true=>
    have kc:w3.cell? ⟨w.heap.size,4,none⟩=some (.slice A2 c.o.length c2):=by rw[cell_of_row _ _ 4 _ _ _ l.out];rfl
    go_wp2_with fail
    clear kc
    refine (kr c.o c.o.length (.slice A2 c.o.length c2) w3 _ (HX.out.2.keeps (Keeps.below h.out)) rfl).mono ?_
    rw[hb4]
    rintro e w4 ⟨rfl,rfl⟩
    clear hb4
    go_wp2_with fail
    go_ret
    exact⟨by rw[Hr.out];simp,h.out⟩
theorem jt (view:Int) (lo:List Psp.Vote) (lc:List Psp.Cert) (vo vc:Value) (f cl:Int) (w:World) (P:Nat→Prop) (hx:RdV w P vo lo) (hc:RdC w P vc lc) (hw:∀v∈lo,ea v) (N:∀c∈lc,ig c):
 Calls Tryz.prog 137 #[.int .i64 view,vo,vc,.int .i64 f,.int .i64 cl] w fun e w'=>e= .returned (.bool (Psp.cx view lo lc f cl))∧Below w.heap.size w w':=by
 obtain⟨L,hL,hr,R⟩:=hc
 obtain⟨n,hn⟩:∃n,L.length=n:=⟨_,rfl⟩
 rw[hn] at hr
 obtain⟨_,Ac,cc,rfl,af,ad,_⟩:=hr.parts
 obtain⟨_,Ao,co,rfl,_⟩:=RdP.parts (show RdP _ _ 2 vo lo.length (lo.flatMap vt) from hx)
 have HX:=tt hx
 have HR:=tt hr
 have ac:=tt R
 have Hn:=tt hn
 have B:=tt hL
 have Hw:=tt hw
 have aa:=tt N
 obtain⟨b2,hb2⟩:∃x,Psp.dF (lo.map (·.n)) f=x:=⟨_,rfl⟩
 obtain⟨b3,hb3⟩:∃x,Psp.eF lo=x:=⟨_,rfl⟩
 have A:Hid (Psp.cx view lo lc f cl=(Psp.win view 1 12&&((b3&&b2)&&Psp.dG view lc f cl))):=tt (by unfold Psp.cx Psp.ed;rw[hb2,hb3])
 clear hx hr R hn hL hw N
 go_enter Tryz.func137,Tryz.ntmps137
 by_cases s:view < 1
 ·have T:decide (view < 1)=true:=tB s
  have Hr:Hid (Psp.cx view lo lc f cl=false):=tt (by rw[A.out,(Psp.dm _ _ _).2 (by omega)];rfl)
  go_wp2_with fail
  go_ret
  exact⟨by rw[Hr.out];rfl,Below.refl _ _⟩
 by_cases G:12 < view
 ·have T:decide (view < 1)=false:=tA s
  have Z:decide (view > 12)=true:=tB G
  have Hr:Hid (Psp.cx view lo lc f cl=false):=tt (by rw[A.out,(Psp.dm _ _ _).2 (by omega)];rfl)
  go_wp2_with fail
  go_ret
  exact⟨by rw[Hr.out];rfl,Below.refl _ _⟩
 have T:decide (view < 1)=false:=tA s
 have Z:decide (view > 12)=false:=tA G
 have Hr:Hid (Psp.cx view lo lc f cl=((b3&&b2)&&Psp.dG view lc f cl)):=tt (by rw[A.out,(Psp.aN _ _ _).2 ⟨by omega,by omega⟩];rfl)
 clear A s G
 go_wp2_with fail
 refine (jm lo lo.length (.slice Ao lo.length co) f w _ HX.out rfl Hw.out).mono ?_
 rw[hb2]
 rintro e w1 ⟨rfl,hb⟩
 have m:=tt hb
 clear hb hb2
 cases b2 with
 |false=>
  go_wp2_with fail
  go_ret
  exact⟨by rw[Hr.out,Bool.and_false];rfl,m.out⟩
 |true=>
  go_wp2_with fail
  refine (kr lo lo.length (.slice Ao lo.length co) w1 _ (RdP.keeps HX.out (Keeps.below m.out)) rfl).mono ?_
  rw[hb3]
  rintro e w2 ⟨rfl,rfl⟩
  clear hb3
  cases b3 with
  |false=>
   go_wp2_with fail
   go_ret
   exact⟨by rw[Hr.out];rfl,m.out⟩
  |true=>
   go_wp2_with fail
   go_loopw [11] (fun i wr=>∃k:Nat,i= .int .i64 (k:Int)∧k≤n∧Hid (∀(j:Nat) (y:Psp.Cert),j < k→lc[j]? =some y→(Psp.cT y f cl&&decide (y.v < view))=true)∧Hid (∀(j:Nat) (x y:Psp.Cert),j+1 < k→lc[j]? =some x→lc[j+1]? =some y→Psp.ltC x y=true)∧Hid (Below w.heap.size w wr)) (fun i _=>n - (intOf i).toNat)
   case atStart=>exact⟨0,rfl,Nat.zero_le _,tt fun j y hj=>by omega,tt fun j x y hj=>by omega,m⟩
   case round=>
    clear m
    obtain⟨k,rfl,hk,HI,HJ,HL⟩:=hrel
    by_cases hlt:k < n
    ·obtain⟨b0,o0,c0,y,he,hb0,hb1,hy,d⟩:=cw (f:=cv) (k:=5) (fun _=>rfl) (by omega) HR.out Hn.out hlt
     injection he with h _ I
     subst h I
     have u:=ac.out y (List.mem_of_getElem? hy)
     obtain⟨cy,yb,yo⟩:=y
     obtain⟨_,A1,c1,e1,_⟩:=RdP.parts u.1
     obtain⟨_,A2,c2,e2,_⟩:=RdP.parts u.2
     dsimp only at e1 e2
     subst e1 e2
     have hq:wr.rangeAt b0 (o0+k * 5) [.int .i64 cy.v,.int .i64 cy.i,.int .i64 cy.q,.slice A1 cy.b.length c1,.slice A2 cy.o.length c2]:=d wr (HL.out.block b0 hb1)
     have HQ:=tt hq
     have F:lc[k]? =some cy:=by have:=dQ (g:=CertV.c) hy;rwa [B.out] at this
     have Hy:=tt F
     have W:=tt (show CertOk w P ⟨cy,.slice A1 cy.b.length c1,.slice A2 cy.o.length c2⟩ from u)
     have U:=tt (aa.out cy (List.mem_of_getElem? F)).2.2.2.2
     have d1:decide ((k:Int) < (n:Int))=true:=by simp;omega
     clear d F u hq
     go_upto_region 7 with (first|(refine aA rfl 162 (.tmp 38) rfl b0 (o0+k * 5) rfl [.int .i64 cy.v,.int .i64 cy.i,.int .i64 cy.q,.slice A1 cy.b.length c1,.slice A2 cy.o.length c2] _ HQ.out Tryz.underlying162 rfl dI ?_)|(refine bj rfl 162 (.tmp 12) (.tmp 39) rfl _ _ [.int .i64 cy.v,.int .i64 cy.i,.int .i64 cy.q,.slice A1 cy.b.length c1,.slice A2 cy.o.length c2] rfl rfl rfl dI (by simp[Value.oneCell']) ?_;intro w1 S O hs1))
     have C:=tt (Below.then HL.out S HL.out.size)
     have K:=tt O
     have D:wr.heap.size < w1.heap.size:=by omega
     clear S O HQ hs1
     go_wp2_with (first|(refine aA rfl 162 (.tmp 12) rfl wr.heap.size 0 rfl [.int .i64 cy.v,.int .i64 cy.i,.int .i64 cy.q,.slice A1 cy.b.length c1,.slice A2 cy.o.length c2] _ K.out Tryz.underlying162 rfl dI ?_))
     refine (lV cy _ _ f cl w1 _ (W.out.keeps (Keeps.below C.out)) U.out).mono ?_
     obtain⟨sb,hsb⟩:∃sb,Psp.cT cy f cl=sb:=⟨_,rfl⟩
     rw[hsb]
     rintro e w2 ⟨rfl,hb2⟩
     have a:=tt (Below.then C.out hb2 C.out.size)
     have J:=tt (cM K.out (hb2.block _ D))
     have V:=tt hsb
     clear hb2 C K D hsb W U
     cases sb with
     |false=>
      have Hf:=tt (eT (view:=view) Hy.out (by rw[V.out];rfl))
      clear HI HJ
      go_wp2_with fail
      go_ret
      exact⟨by rw[Hr.out,Hf.out];rfl,a.out⟩
     |true=>
      have kv:w2.cell? ⟨wr.heap.size,0,none⟩=some (.int .i64 cy.v):=by have:=J.out 0 _ rfl;simpa using this
      by_cases hv:cy.v < view
      case' neg=>
       have dv:decide (cy.v≥view)=true:=by simp;omega
       have Hf:=tt (eT (view:=view) (f:=f) (cl:=cl) Hy.out (by rw[tA hv,Bool.and_false]))
       clear HI HJ hv
       go_wp2_with fail
       go_ret
       exact⟨by rw[Hr.out,Hf.out];rfl,a.out⟩
      case' pos=>
       have dv:decide (cy.v≥view)=false:=by simp;omega
       have ki:w2.cell? ⟨wr.heap.size,1,none⟩=some (.int .i64 cy.i):=by have:=J.out 1 _ rfl;simpa using this
       have kq:w2.cell? ⟨wr.heap.size,2,none⟩=some (.int .i64 cy.q):=by have:=J.out 2 _ rfl;simpa using this
       have M:Hid (∀(j:Nat) (z:Psp.Cert),j < k+1→lc[j]? =some z→(Psp.cT z f cl&&decide (z.v < view))=true):=tt fun j z hj hz=>by
        by_cases he:j=k
        ·subst he;have e1:=Hy.out.symm.trans hz;injection e1 with e1;subst e1;rw[V.out,tB hv];rfl
        ·exact HI.out j z (by omega) hz
       clear HI
       by_cases Q:k=0
       ·subst Q
        have d2:decide ((0:Int) < ((0:Nat):Int))=false:=by simp
        have r:Hid (∀(j:Nat) (x z:Psp.Cert),j+1 < 0+1→lc[j]? =some x→lc[j+1]? =some z→Psp.ltC x z=true):=tt fun j x z hj=>by omega
        clear HJ
        go_wp2_with fail
        go_quiet (fail)
        go_wp2_with fail
        go_roundw
        case rel=>exact⟨0+1,by go_num,by omega,M,r,(by first|exact a|exact tt (ak a.out _))⟩
        case measure=>simp[intOf];omega
       ·obtain⟨p,rfl⟩:∃p,k=p+1:=⟨k - 1,by omega⟩
        obtain⟨b3,o3,c3,z,he,_,_,hz,d⟩:=cw (f:=cv) (k:=5) (fun _=>rfl) (by omega) HR.out Hn.out (show p < n by omega)
        injection he with h _ I
        injection h with h
        injection h with Y X
        subst Y X I
        have H:=d w2 (a.out.block b0 hb1)
        have pi:w2.cell? ⟨b0,o0+p * 5+1,none⟩=some (.int .i64 z.c.i):=H 1 _ rfl
        have pq:w2.cell? ⟨b0,o0+p * 5+2,none⟩=some (.int .i64 z.c.q):=H 2 _ rfl
        have E:lc[p]? =some z.c:=by have:=dQ (g:=CertV.c) hz;rwa [B.out] at this
        obtain⟨cz,hcz⟩:∃cz,z.c=cz:=⟨_,rfl⟩
        rw[hcz] at pi pq E
        have Hz:=tt E
        have d2:decide ((0:Int) < ((p+1:Nat):Int))=true:=by rw[decide_eq_true_eq];omega
        have z1:((p+1:Nat):Int) - 1=(p:Int):=by omega
        clear d H hz E hcz Q
        by_cases h1:cy.i < cz.i
        ·have d3:decide (cy.i < cz.i)=true:=tB h1
         have Hf:=tt (eD (view:=view) (f:=f) (cl:=cl) Hz.out Hy.out (by unfold Psp.ltC;rw[decide_eq_false_iff_not];omega))
         clear HJ
         go_wp2_with fail
         go_quiet (fail)
         go_wp2_with fail
         go_ret
         exact⟨by rw[Hr.out,Hf.out];rfl,by first|exact a.out|exact ak a.out _⟩
        ·have d3:decide (cy.i < cz.i)=false:=tA h1
         by_cases h2:cy.i=cz.i
         ·have d4:(cy.i==cz.i)=true:=beq_iff_eq.2 h2
          by_cases h3:cy.q≤cz.q
          ·have d5:decide (cy.q≤cz.q)=true:=tB h3
           have Hf:=tt (eD (view:=view) (f:=f) (cl:=cl) Hz.out Hy.out (by unfold Psp.ltC;rw[decide_eq_false_iff_not];omega))
           clear HJ
           go_wp2_with fail
           go_quiet (fail)
           go_wp2_with fail
           go_ret
           exact⟨by rw[Hr.out,Hf.out];rfl,by first|exact a.out|exact ak a.out _⟩
          ·have d5:decide (cy.q≤cz.q)=false:=tA h3
           have l:Hid (Psp.ltC cz cy=true):=tt (by unfold Psp.ltC;rw[decide_eq_true_eq];omega)
           have r:Hid (∀(j:Nat) (x t:Psp.Cert),j+1 < p+1+1→lc[j]? =some x→lc[j+1]? =some t→Psp.ltC x t=true):=tt fun j x t hj hx ht=>by
            by_cases he:j=p
            ·subst he
             have e1:=Hz.out.symm.trans hx
             have e2:=Hy.out.symm.trans ht
             injection e1 with e1
             injection e2 with e2
             subst e1 e2
             exact l.out
            ·exact HJ.out j x t (by omega) hx ht
           clear HJ l
           go_wp2_with fail
           go_quiet (fail)
           go_wp2_with fail
           go_roundw
           case rel=>exact⟨p+1+1,by go_num,by omega,M,r,(by first|exact a|exact tt (ak a.out _))⟩
           case measure=>simp[intOf];omega
         ·have d4:(cy.i==cz.i)=false:=beq_eq_false_iff_ne.2 h2
          have l:Hid (Psp.ltC cz cy=true):=tt (by unfold Psp.ltC;rw[decide_eq_true_eq];omega)
          have r:Hid (∀(j:Nat) (x t:Psp.Cert),j+1 < p+1+1→lc[j]? =some x→lc[j+1]? =some t→Psp.ltC x t=true):=tt fun j x t hj hx ht=>by
           by_cases he:j=p
           ·subst he
            have e1:=Hz.out.symm.trans hx
            have e2:=Hy.out.symm.trans ht
            injection e1 with e1
            injection e2 with e2
            subst e1 e2
            exact l.out
           ·exact HJ.out j x t (by omega) hx ht
          clear HJ l
          go_wp2_with fail
          go_quiet (fail)
          go_wp2_with fail
          go_roundw
          case rel=>exact⟨p+1+1,by go_num,by omega,M,r,(by first|exact a|exact tt (ak a.out _))⟩
          case measure=>simp[intOf];omega
    ·obtain rfl:k=n:=by omega
     have Hf:Hid (Psp.dG view lc f cl=true):=tt (iS (fun j x hx=>HI.out j x (by have:=(List.getElem?_eq_some_iff.1 hx).1;rw[←B.out,List.length_map,Hn.out] at this;exact this) hx) (fun j x y hx hy=>HJ.out j x y (by have:=(List.getElem?_eq_some_iff.1 hy).1;rw[←B.out,List.length_map,Hn.out] at this;exact this) hx hy))
     clear HI HJ
     go_wp2_with fail
     go_ret
     exact⟨by rw[Hr.out,Hf.out];rfl,HL.out⟩
structure Mk (w0 W:World) (cs:Array Value):Prop where
 box:W.heap[w0.heap.size]? =some (.cells cs 56 (0,0))
 be:Below w0.heap.size w0 W
theorem Mk.new (w:World) (cs:Array Value):Mk w (w.alloc (.cells cs 56)) cs:=⟨tL w _,ae w _⟩
theorem Mk.below {w0 W W':World} {cs:Array Value} (h:Mk w0 W cs) (hb:Below W.heap.size W W'):Mk w0 W' cs:=⟨fW h.box hb,Below.then h.be hb h.be.size⟩
theorem Mk.cell {w0 W:World} {cs:Array Value} (h:Mk w0 W cs) {j:Nat} {u:Value} (hj:cs[j]? =some u):W.cell? ⟨w0.heap.size,j,none⟩=some u:=by
 rw[cell_of_row _ _ j _ _ _ h.box];exact hj
theorem oh (m:Psp.Msg) (vb vo vc vp:Value) (f cl:Int) (w:World) (P:Nat→Prop) (hx:MsgOk w P ⟨m,vb,vo,vc,vp⟩) (Y:∀c∈m.p,jH c):
 Calls Tryz.prog 138 #[.agg #[.int .i64 m.k,.int .i64 m.f,.int .i64 m.v,.int .i64 m.i,.int .i64 m.q,.int .i64 m.r,vb,vo,vc,vp],.int .i64 f,.int .i64 cl] w fun e w'=>e= .returned (.bool (Psp.cN m.v m.p f cl))∧Below w.heap.size w w':=by
 obtain⟨view,hview⟩:∃v,m.v=v:=⟨_,rfl⟩
 have o0:vb.oneCell'=true:=RdP.one hx.1
 have o1:vo.oneCell'=true:=RdP.one hx.2.1
 have o2:vc.oneCell'=true:=hx.2.2.1.one
 obtain⟨l,hl⟩:∃l,m.p=l:=⟨_,rfl⟩
 obtain⟨L,hL,hr,a9⟩:=hx.2.2.2
 dsimp only at hL hr
 rw[hl] at hL Y
 rw[hl,hview]
 obtain⟨n,hn⟩:∃n,L.length=n:=⟨_,rfl⟩
 rw[hn] at hr
 obtain⟨_,Ac,cc,rfl,ca,b9,_⟩:=hr.parts
 have HR:=tt hr
 have b5:=tt a9
 have Hn:=tt hn
 have bd:=tt hL
 have b2:=tt Y
 obtain⟨Ab,cb0,eb⟩:∃A c,vb= .slice A m.b.length c:=by obtain⟨_,A,c,e,_⟩:=hx.1;exact⟨A,c,e⟩
 obtain⟨Ao,co0,eo⟩:∃A c,vo= .slice A m.o.length c:=by obtain⟨_,A,c,e,_⟩:=hx.2.1;exact⟨A,c,e⟩
 obtain⟨a2,U,al,ec⟩:=hx.2.2.1.form
 subst eb eo
 dsimp only at ec
 subst ec
 have F:=tt (Mk.new w #[.int .i64 m.k,.int .i64 m.f,.int .i64 m.v,.int .i64 m.i,.int .i64 m.q,.int .i64 m.r,.slice Ab m.b.length cb0,.slice Ao m.o.length co0,.slice a2 U al,.slice Ac n cc])
 have S:Hid (l.length=n):=tt (by rw[←hL,List.length_map,hn])
 obtain⟨q,hq⟩:∃q,Psp.bU f=q:=⟨_,rfl⟩
 obtain⟨bp,bm⟩:=Psp.fu f
 rw[hq] at bp bm
 have HB:Hid (∀W:World,Calls Tryz.prog 162 #[.int .i64 f] W fun e w'=>e= .returned (.int .i64 q)∧W=w'):=tt fun W=>by rw[←hq];exact dK f W
 have Hq:=tt hq
 obtain⟨nn,hnn⟩:∃x,Psp.aO f=x:=⟨_,rfl⟩
 have b6:Hid (∀x,Psp.bB x f=Psp.win x 0 (nn - 1)):=tt fun x=>by unfold Psp.bB;rw[hnn]
 obtain⟨bs,bq⟩:=Psp.cd f
 rw[hnn] at bs bq
 have HN:Hid (∀W:World,Calls Tryz.prog 13 #[.int .i64 f] W fun e w'=>e= .returned (.int .i64 nn)∧W=w'):=tt fun W=>by rw[←hnn];exact aM f W
 clear hr a9 hn hL Y hq hnn hx hl
 go_enter Tryz.func138,Tryz.ntmps138
 go_wp2_with fail
 rw[hview] at F
 obtain⟨W0,hW0⟩:∃W,w.alloc (.cells #[.int .i64 m.k,.int .i64 m.f,.int .i64 view,.int .i64 m.i,.int .i64 m.q,.int .i64 m.r,.slice Ab m.b.length cb0,.slice Ao m.o.length co0,.slice a2 U al,.slice Ac n cc] 56)=W:=⟨_,rfl⟩
 rw[hW0] at F ⊢
 clear hW0 hview
 have m9:=ab (show W0.cell? ⟨w.heap.size,9,none⟩=some (.slice Ac n cc) from F.out.cell (j:=9) rfl)
 have T:Hid (∀p:Later W0,Calls Tryz.prog 162 #[.int .i64 f] p.W fun e w'=>e= .returned (.int .i64 q)∧p.W=w'):=tt fun p=>HB.out _
 by_cases I:(n:Int)=q
 case' neg=>
  have d0:((n:Int) != q)=true:=by rw[bne_iff_ne];exact I
  have Hf:Hid (Psp.cN view l f cl=false):=tt (by unfold Psp.cN;rw[tA (by rw[S.out,Hq.out];exact I)];rfl)
  refine ai (by kernel_rfl) (by kernel_rfl) ?_
  repeat (first|go_big_quiet_step ((go_at_call 162;exact ah _ (T.out _)))|quiet_step ((go_at_call 162;exact ah _ (T.out _))))
  refine wpQuiet_nil ?_
  intro w2 a
  obtain⟨⟨wq,hbq⟩,a⟩:=a
  have hb2:Below W0.heap.size W0 w2:=by rw[a];exact hbq
  clear a hbq
  have C:=tt (F.out.below hb2)
  clear hb2 m9
  go_wp2_with fail
  go_ret
  exact⟨by rw[Hf.out];rfl,C.out.be⟩
 have d0:((n:Int) != q)=false:=by rw[I];simp
 have b4:=tt I
 clear I
 refine ai (by kernel_rfl) (by kernel_rfl) ?_
 repeat (first|go_big_quiet_step ((go_at_call 162;exact ah _ (T.out _)))|quiet_step ((go_at_call 162;exact ah _ (T.out _))))
 refine wpQuiet_nil ?_
 intro w2 a
 obtain⟨⟨wq,hbq⟩,a⟩:=a
 have hb2:Below W0.heap.size W0 w2:=by rw[a];exact hbq
 clear a hbq
 have C:=tt (F.out.below hb2)
 clear hb2 m9
 go_wp2_with fail
 clear d0
 go_loopw [7] (fun i wr=>∃k:Nat,i= .int .i64 (k:Int)∧k≤n∧Hid (∀(j:Nat) (y:Psp.Part),j < k→l[j]? =some y→Psp.dJ view y f cl=true)∧Hid (∀(j:Nat) (x y:Psp.Part),j+1 < k→l[j]? =some x→l[j+1]? =some y→x.f < y.f)∧Hid (Mk w wr #[.int .i64 m.k,.int .i64 m.f,.int .i64 view,.int .i64 m.i,.int .i64 m.q,.int .i64 m.r,.slice Ab m.b.length cb0,.slice Ao m.o.length co0,.slice a2 U al,.slice Ac n cc])) (fun i _=>n - (intOf i).toNat)
 case atStart=>exact⟨0,rfl,Nat.zero_le _,tt fun j y hj=>by omega,tt fun j x y hj=>by omega,C⟩
 case round=>
  clear F C
  obtain⟨k,rfl,hk,HI,HJ,HL⟩:=hrel
  have m9:wr.cell? ⟨w.heap.size,9,none⟩=some (.slice Ac n cc):=HL.out.cell (j:=9) rfl
  by_cases hlt:k < n
  ·obtain⟨b0,O,c0,y,he,hb0,hb1,hy,J⟩:=cw (f:=pv) (k:=4) (fun _=>rfl) (by omega) HR.out Hn.out hlt
   injection he with K _ ac
   subst K ac
   have Q:=b5.out y (List.mem_of_getElem? hy)
   obtain⟨py,yo,yc⟩:=y
   obtain⟨_,A1,c1,e1,_⟩:=RdP.parts Q.1
   obtain⟨Lc,a7,Z,a6⟩:=Q.2
   obtain⟨_,A2,c2,e2,_⟩:=RdP.parts Z
   dsimp only at e1 e2
   subst e1 e2
   have hq:wr.rangeAt b0 (O+k * 4) [.int .i64 py.f,.slice A1 py.o.length c1,.slice A2 Lc.length c2,.int .i64 py.s]:=J wr (HL.out.be.block b0 hb1)
   have HQ:=tt hq
   have X:l[k]? =some py:=by have:=dQ (g:=PartV.p) hy;rwa [bd.out] at this
   have Hy:=tt X
   have a1:=tt (show RdV w P (.slice A1 py.o.length c1) py.o∧RdC w P (.slice A2 Lc.length c2) py.c from⟨Q.1,⟨Lc,a7,Z,a6⟩⟩)
   have a3:=b2.out py (List.mem_of_getElem? X)
   have a0:=tt a3
   have d1:decide ((k:Int) < (n:Int))=true:=by simp;omega
   clear J X Q hq a7 Z a6 a3
   go_upto_region 7 with (first|(refine aA rfl 168 (.tmp 25) rfl b0 (O+k * 4) rfl [.int .i64 py.f,.slice A1 py.o.length c1,.slice A2 Lc.length c2,.int .i64 py.s] _ HQ.out Tryz.underlying168 rfl fa ?_)|(refine bj rfl 168 (.tmp 8) (.tmp 26) rfl _ _ [.int .i64 py.f,.slice A1 py.o.length c1,.slice A2 Lc.length c2,.int .i64 py.s] rfl rfl rfl fa (by simp[Value.oneCell']) ?_;intro w1 bb H hs1))
   clear m9
   have C:=tt (HL.out.below bb)
   have v9:=ab (show w1.cell? ⟨w.heap.size,9,none⟩=some (.slice (some ⟨b0,O,none⟩) n cc) from C.out.cell (j:=9) rfl)
   have v2:=ab (show w1.cell? ⟨w.heap.size,2,none⟩=some (.int .i64 view) from C.out.cell (j:=2) rfl)
   have x0:=ab (show w1.cell? ⟨wr.heap.size,0,none⟩=some (.int .i64 py.f) by have:=H 0 _ rfl;simpa using this)
   have x1:=ab (show w1.cell? ⟨wr.heap.size,1,none⟩=some (.slice A1 py.o.length c1) by have:=H 1 _ rfl;simpa using this)
   have x2:=ab (show w1.cell? ⟨wr.heap.size,2,none⟩=some (.slice A2 Lc.length c2) by have:=H 2 _ rfl;simpa using this)
   have x3:=ab (show w1.cell? ⟨wr.heap.size,3,none⟩=some (.int .i64 py.s) by have:=H 3 _ rfl;simpa using this)
   obtain⟨cb,hcb⟩:∃x,Psp.cx view py.o py.c f cl=x:=⟨_,rfl⟩
   have u:Hid (∀p:Later w1,Calls Tryz.prog 13 #[.int .i64 f] p.W fun e w'=>e= .returned (.int .i64 nn)∧p.W=w'):=tt fun p=>HN.out _
   have B:Hid (∀p:Later w1,Calls Tryz.prog 137 #[.int .i64 view,.slice A1 py.o.length c1,.slice A2 Lc.length c2,.int .i64 f,.int .i64 cl] p.W fun e w'=>e= .returned (.bool cb)∧Below p.W.heap.size p.W w'):=tt fun p=>by
    rw[←hcb]
    have hb:=(C.out.below p.h).be
    exact jt view py.o py.c _ _ f cl p.W P (RdV.keeps' a1.out.1 (Keeps.below hb)) (a1.out.2.keeps (Keeps.below hb)) a0.out.2.1 a0.out.2.2.1
   have R:Hid (Psp.dJ view py f cl=(Psp.win py.f 0 (nn - 1)&&(Psp.win py.s 0 1099511627775&&cb))):=tt (by unfold Psp.dJ Psp.eA;rw[b6.out,hcb])
   clear bb H HQ hs1 hcb a1 a0 HL
   by_cases aa:py.f < 0
   ·have b1:decide (py.f < 0)=true:=tB aa
    have Hf:=tt (bG (view:=view) Hy.out (by rw[R.out,(Psp.dm _ _ _).2 (by omega)];rfl))
    clear HI HJ
    refine ai (by kernel_rfl) (by kernel_rfl) ?_
    repeat (first|go_big_quiet_step (first|(go_at_call 13;exact ah _ (u.out _))|(go_at_call 137;exact ag _ (B.out _)))|quiet_step (first|(go_at_call 13;exact ah _ (u.out _))|(go_at_call 137;exact ag _ (B.out _))))
    refine wpQuiet_nil ?_
    intro w2 a
    obtain⟨⟨wq,hbq⟩,a⟩:=a
    have hb2:Below w1.heap.size w1 w2:=by rw[a];exact hbq
    clear a hbq
    have d:=tt (C.out.below hb2)
    clear hb2
    go_wp2_with fail
    go_ret
    exact⟨by rw[Hf.out];rfl,d.out.be⟩
   have b1:decide (py.f < 0)=false:=tA aa
   by_cases hf1:nn≤py.f
   ·have bQ:decide (py.f≥nn)=true:=tB hf1
    have Hf:=tt (bG (view:=view) Hy.out (by rw[R.out,(Psp.dm _ _ _).2 (by omega)];rfl))
    clear HI HJ
    refine ai (by kernel_rfl) (by kernel_rfl) ?_
    repeat (first|go_big_quiet_step (first|(go_at_call 13;exact ah _ (u.out _))|(go_at_call 137;exact ag _ (B.out _)))|quiet_step (first|(go_at_call 13;exact ah _ (u.out _))|(go_at_call 137;exact ag _ (B.out _))))
    refine wpQuiet_nil ?_
    intro w2 a
    obtain⟨⟨wq,hbq⟩,a⟩:=a
    have hb2:Below w1.heap.size w1 w2:=by rw[a];exact hbq
    clear a hbq
    have d:=tt (C.out.below hb2)
    clear hb2
    go_wp2_with fail
    go_ret
    exact⟨by rw[Hf.out];rfl,d.out.be⟩
   have bQ:decide (py.f≥nn)=false:=tA (by omega)
   have a4:=(Psp.aN py.f 0 (nn - 1)).2 ⟨by omega,by omega⟩
   have D:Hid (Psp.dJ view py f cl=(Psp.win py.s 0 1099511627775&&cb)):=tt (by rw[R.out,a4];rfl)
   clear a4 R aa hf1
   by_cases a8:k=0
   ·subst a8
    have d2:decide (((0:Nat):Int) > 0)=false:=by simp
    have M:Hid (∀(j:Nat) (x y:Psp.Part),j+1 < 0+1→l[j]? =some x→l[j+1]? =some y→x.f < y.f):=tt fun j x z hj=>by omega
    clear HJ
    by_cases G:py.s < 0
    ·have af:decide (py.s < 0)=true:=tB G
     have Hf:=tt (bG (view:=view) Hy.out (by rw[D.out,(Psp.dm _ _ _).2 (by omega)];rfl))
     refine ai (by kernel_rfl) (by kernel_rfl) ?_
     repeat (first|go_big_quiet_step (first|(go_at_call 13;exact ah _ (u.out _))|(go_at_call 137;exact ag _ (B.out _)))|quiet_step (first|(go_at_call 13;exact ah _ (u.out _))|(go_at_call 137;exact ag _ (B.out _))))
     refine wpQuiet_nil ?_
     intro w2 a
     obtain⟨⟨wq,hbq⟩,a⟩:=a
     have hb2:Below w1.heap.size w1 w2:=by rw[a];exact hbq
     clear a hbq
     have d:=tt (C.out.below hb2)
     clear hb2
     go_wp2_with fail
     go_ret
     exact⟨by rw[Hf.out];rfl,d.out.be⟩
    have af:decide (py.s < 0)=false:=tA G
    by_cases hs1:1099511627776≤py.s
    ·have ad:decide (py.s≥1099511627776)=true:=tB hs1
     have Hf:=tt (bG (view:=view) Hy.out (by rw[D.out,(Psp.dm _ _ _).2 (by omega)];rfl))
     refine ai (by kernel_rfl) (by kernel_rfl) ?_
     repeat (first|go_big_quiet_step (first|(go_at_call 13;exact ah _ (u.out _))|(go_at_call 137;exact ag _ (B.out _)))|quiet_step (first|(go_at_call 13;exact ah _ (u.out _))|(go_at_call 137;exact ag _ (B.out _))))
     refine wpQuiet_nil ?_
     intro w2 a
     obtain⟨⟨wq,hbq⟩,a⟩:=a
     have hb2:Below w1.heap.size w1 w2:=by rw[a];exact hbq
     clear a hbq
     have d:=tt (C.out.below hb2)
     clear hb2
     go_wp2_with fail
     go_ret
     exact⟨by rw[Hf.out];rfl,d.out.be⟩
    have ad:decide (py.s≥1099511627776)=false:=tA (by omega)
    have E:=(Psp.aN py.s 0 1099511627775).2 ⟨by omega,by omega⟩
    cases cb with
    |false=>
     have Hf:=tt (bG (view:=view) Hy.out (by rw[D.out,E];rfl))
     clear E
     refine ai (by kernel_rfl) (by kernel_rfl) ?_
     repeat (first|go_big_quiet_step (first|(go_at_call 13;exact ah _ (u.out _))|(go_at_call 137;exact ag _ (B.out _)))|quiet_step (first|(go_at_call 13;exact ah _ (u.out _))|(go_at_call 137;exact ag _ (B.out _))))
     refine wpQuiet_nil ?_
     intro w2 a
     obtain⟨⟨wq,hbq⟩,a⟩:=a
     have hb2:Below w1.heap.size w1 w2:=by rw[a];exact hbq
     clear a hbq
     have d:=tt (C.out.below hb2)
     clear hb2
     go_wp2_with fail
     go_ret
     exact⟨by rw[Hf.out];rfl,d.out.be⟩
    |true=>
     have N:Hid (∀(j:Nat) (z:Psp.Part),j < 0+1→l[j]? =some z→Psp.dJ view z f cl=true):=tt fun j z hj hz=>by
      by_cases he:j=0
      ·subst he;have e1:=Hy.out.symm.trans hz;injection e1 with e1;subst e1;rw[D.out,E];rfl
      ·exact HI.out j z (by omega) hz
     clear HI E
     refine ai (by kernel_rfl) (by kernel_rfl) ?_
     repeat (first|go_big_quiet_step (first|(go_at_call 13;exact ah _ (u.out _))|(go_at_call 137;exact ag _ (B.out _)))|quiet_step (first|(go_at_call 13;exact ah _ (u.out _))|(go_at_call 137;exact ag _ (B.out _))))
     refine wpQuiet_nil ?_
     intro w2 a
     obtain⟨⟨wq,hbq⟩,a⟩:=a
     have hb2:Below w1.heap.size w1 w2:=by rw[a];exact hbq
     clear a hbq
     have d:=tt (C.out.below hb2)
     clear hb2
     go_wp2_with fail
     first
      |(go_roundw
        case rel=>exact⟨0+1,by go_num,by omega,N,M,d⟩
        case measure=>simp[intOf];omega)
      |(refine⟨⟨0+1,by go_num,by omega,N,M,d⟩,?_⟩
        simp[intOf];omega)
   ·obtain⟨p,rfl⟩:∃p,k=p+1:=⟨k - 1,by omega⟩
    obtain⟨b3,o3,c3,z,he,_,_,hz,J⟩:=cw (f:=pv) (k:=4) (fun _=>rfl) (by omega) HR.out Hn.out (show p < n by omega)
    injection he with K _ ac
    injection K with K
    injection K with bO bN
    subst bO bN ac
    have a5:=J w1 (C.out.be.block b0 hb1)
    have pf:=ab (show w1.cell? ⟨b0,O+p * 4,none⟩=some (.int .i64 z.p.f) from a5 0 _ rfl)
    have V:l[p]? =some z.p:=by have:=dQ (g:=PartV.p) hz;rwa [bd.out] at this
    obtain⟨cz,hcz⟩:∃cz,z.p=cz:=⟨_,rfl⟩
    rw[hcz] at pf V
    have Hz:=tt V
    have d2:decide (((p+1:Nat):Int) > 0)=true:=by rw[decide_eq_true_eq];omega
    have z1:((p+1:Nat):Int) - 1=(p:Int):=by omega
    clear J a5 hz V hcz a8
    by_cases h1:py.f≤cz.f
    ·have d3:decide (py.f≤cz.f)=true:=tB h1
     have Hf:=tt (gP (view:=view) (f:=f) (cl:=cl) Hz.out Hy.out (by omega))
     clear HJ
     refine ai (by kernel_rfl) (by kernel_rfl) ?_
     repeat (first|go_big_quiet_step (first|(go_at_call 13;exact ah _ (u.out _))|(go_at_call 137;exact ag _ (B.out _)))|quiet_step (first|(go_at_call 13;exact ah _ (u.out _))|(go_at_call 137;exact ag _ (B.out _))))
     refine wpQuiet_nil ?_
     intro w2 a
     obtain⟨⟨wq,hbq⟩,a⟩:=a
     have hb2:Below w1.heap.size w1 w2:=by rw[a];exact hbq
     clear a hbq
     have d:=tt (C.out.below hb2)
     clear hb2
     go_wp2_with fail
     go_ret
     exact⟨by rw[Hf.out];rfl,d.out.be⟩
    ·have d3:decide (py.f≤cz.f)=false:=tA h1
     have bc:Hid (cz.f < py.f):=tt (by omega)
     have M:Hid (∀(j:Nat) (x t:Psp.Part),j+1 < p+1+1→l[j]? =some x→l[j+1]? =some t→x.f < t.f):=tt fun j x t hj hx ht=>by
      by_cases he:j=p
      ·subst he
       have e1:=Hz.out.symm.trans hx
       have e2:=Hy.out.symm.trans ht
       injection e1 with e1
       injection e2 with e2
       subst e1 e2
       exact bc.out
      ·exact HJ.out j x t (by omega) hx ht
     clear HJ bc
     by_cases G:py.s < 0
     ·have af:decide (py.s < 0)=true:=tB G
      have Hf:=tt (bG (view:=view) Hy.out (by rw[D.out,(Psp.dm _ _ _).2 (by omega)];rfl))
      refine ai (by kernel_rfl) (by kernel_rfl) ?_
      repeat (first|go_big_quiet_step (first|(go_at_call 13;exact ah _ (u.out _))|(go_at_call 137;exact ag _ (B.out _)))|quiet_step (first|(go_at_call 13;exact ah _ (u.out _))|(go_at_call 137;exact ag _ (B.out _))))
      refine wpQuiet_nil ?_
      intro w2 a
      obtain⟨⟨wq,hbq⟩,a⟩:=a
      have hb2:Below w1.heap.size w1 w2:=by rw[a];exact hbq
      clear a hbq
      have d:=tt (C.out.below hb2)
      clear hb2
      go_wp2_with fail
      go_ret
      exact⟨by rw[Hf.out];rfl,d.out.be⟩
     have af:decide (py.s < 0)=false:=tA G
     by_cases hs1:1099511627776≤py.s
     ·have ad:decide (py.s≥1099511627776)=true:=tB hs1
      have Hf:=tt (bG (view:=view) Hy.out (by rw[D.out,(Psp.dm _ _ _).2 (by omega)];rfl))
      refine ai (by kernel_rfl) (by kernel_rfl) ?_
      repeat (first|go_big_quiet_step (first|(go_at_call 13;exact ah _ (u.out _))|(go_at_call 137;exact ag _ (B.out _)))|quiet_step (first|(go_at_call 13;exact ah _ (u.out _))|(go_at_call 137;exact ag _ (B.out _))))
      refine wpQuiet_nil ?_
      intro w2 a
      obtain⟨⟨wq,hbq⟩,a⟩:=a
      have hb2:Below w1.heap.size w1 w2:=by rw[a];exact hbq
      clear a hbq
      have d:=tt (C.out.below hb2)
      clear hb2
      go_wp2_with fail
      go_ret
      exact⟨by rw[Hf.out];rfl,d.out.be⟩
     have ad:decide (py.s≥1099511627776)=false:=tA (by omega)
     have E:=(Psp.aN py.s 0 1099511627775).2 ⟨by omega,by omega⟩
     cases cb with
     |false=>
      have Hf:=tt (bG (view:=view) Hy.out (by rw[D.out,E];rfl))
      clear E
      refine ai (by kernel_rfl) (by kernel_rfl) ?_
      repeat (first|go_big_quiet_step (first|(go_at_call 13;exact ah _ (u.out _))|(go_at_call 137;exact ag _ (B.out _)))|quiet_step (first|(go_at_call 13;exact ah _ (u.out _))|(go_at_call 137;exact ag _ (B.out _))))
      refine wpQuiet_nil ?_
      intro w2 a
      obtain⟨⟨wq,hbq⟩,a⟩:=a
      have hb2:Below w1.heap.size w1 w2:=by rw[a];exact hbq
      clear a hbq
      have d:=tt (C.out.below hb2)
      clear hb2
      go_wp2_with fail
      go_ret
      exact⟨by rw[Hf.out];rfl,d.out.be⟩
     |true=>
      have N:Hid (∀(j:Nat) (z:Psp.Part),j < (p+1)+1→l[j]? =some z→Psp.dJ view z f cl=true):=tt fun j z hj hz=>by
       by_cases he:j=(p+1)
       ·subst he;have e1:=Hy.out.symm.trans hz;injection e1 with e1;subst e1;rw[D.out,E];rfl
       ·exact HI.out j z (by omega) hz
      clear HI E
      refine ai (by kernel_rfl) (by kernel_rfl) ?_
      repeat (first|go_big_quiet_step (first|(go_at_call 13;exact ah _ (u.out _))|(go_at_call 137;exact ag _ (B.out _)))|quiet_step (first|(go_at_call 13;exact ah _ (u.out _))|(go_at_call 137;exact ag _ (B.out _))))
      refine wpQuiet_nil ?_
      intro w2 a
      obtain⟨⟨wq,hbq⟩,a⟩:=a
      have hb2:Below w1.heap.size w1 w2:=by rw[a];exact hbq
      clear a hbq
      have d:=tt (C.out.below hb2)
      clear hb2
      go_wp2_with fail
      first
       |(go_roundw
         case rel=>exact⟨(p+1)+1,by go_num,by omega,N,M,d⟩
         case measure=>simp[intOf];omega)
       |(refine⟨⟨(p+1)+1,by go_num,by omega,N,M,d⟩,?_⟩
         simp[intOf];omega)
  ·obtain rfl:k=n:=by omega
   have Hf:Hid (Psp.cN view l f cl=true):=tt (iB (by rw[S.out,Hq.out];exact b4.out) (fun j x hx=>HI.out j x (by have:=(List.getElem?_eq_some_iff.1 hx).1;rwa [S.out] at this) hx) (fun j x y hx hy=>HJ.out j x y (by have:=(List.getElem?_eq_some_iff.1 hy).1;rwa [S.out] at this) hx hy))
   clear HI HJ
   go_wp2_with fail
   go_ret
   exact⟨by rw[Hf.out];rfl,HL.out.be⟩
def iL (l:List Psp.Req) (cl:Int):Bool:=match l with| []=>false|r :: _=>Psp.aZ r cl
theorem jz {l:List Psp.Req} {cl:Int} {y:Psp.Req} (h:l[0]? =some y):iL l cl=Psp.aZ y cl:=by
 cases l with
 |nil=>cases h
 |cons a l=>injection h with h;subst h;rfl
theorem jE (l:List Psp.Req) (cl:Int):Psp.bn l cl 1 1=(((l.length:Int)==1)&&iL l cl):=by
 unfold Psp.bn Psp.fj
 rcases l with _|⟨a,_|⟨b,l⟩⟩
 ·rfl
 ·simp[iL,Psp.win]
 ·have h1:Psp.win ((a :: b :: l).length:Int) 1 1=false:=(Psp.dm _ _ _).2 (by simp;omega)
  have h2:(((a :: b :: l).length:Int)==1)=false:=by rw[beq_eq_false_iff_ne];simp;omega
  rw[h1,h2,Bool.and_false,Bool.false_and]
theorem qo (m:Psp.Msg) (vb vo vc vp:Value) (f cl:Int) (w:World) (P:Nat→Prop) (hx:MsgOk w P ⟨m,vb,vo,vc,vp⟩) (hw:cr m) (hf:Psp.may f=true) (hk:m.k=2):
 Calls Tryz.prog 105 #[.agg #[.int .i64 m.k,.int .i64 m.f,.int .i64 m.v,.int .i64 m.i,.int .i64 m.q,.int .i64 m.r,vb,vo,vc,vp],.int .i64 f,.int .i64 cl] w fun e w'=>e= .returned (.bool (Psp.aF m f cl))∧Below w.heap.size w w':=by
 obtain⟨Ab,Ao,Ac,Ap,cb,co,cc,cp,rfl,rfl,rfl,rfl⟩:=aG hx
 obtain⟨lb,hlb⟩:∃n,m.b.length=n:=⟨_,rfl⟩
 rw[hlb] at hx ⊢
 have I:=tt hlb
 have K:Hid (RdP w P 6 (.slice Ab lb cb) lb (m.b.flatMap rq)):=tt (by have h:=hx.1;unfold RdR at h;rw[hlb] at h;exact h)
 have HX:=tt hx
 have Hw:=tt hw
 obtain⟨nn,hnn⟩:∃q,Psp.aO f=q:=⟨_,rfl⟩
 have L:(nn==0)=false:=by rw[←hnn,bl,hf];rfl
 have HN:Hid (∀W:World,Calls Tryz.prog 13 #[.int .i64 f] W fun e w'=>e= .returned (.int .i64 nn)∧W=w'):=tt fun W=>by rw[←hnn];exact aM f W
 obtain⟨D,C⟩:=Psp.cd f
 rw[hnn] at D C
 obtain⟨g0,hg0⟩:∃x,decide (m.f < 0)=x:=⟨_,rfl⟩
 obtain⟨g1,hg1⟩:∃x,decide (m.f≥nn)=x:=⟨_,rfl⟩
 have hnb:Psp.bB m.f f=(!g0&& !g1):=by unfold Psp.bB;rw[hnn,←hg0,←hg1,Bool.eq_iff_iff,Psp.aN];simp;omega
 obtain⟨t0,ht0⟩:∃x,bx false false false false true false false false m.v m.i m.q m.r lb m.o.length m.c.length m.p.length=x:=⟨_,rfl⟩
 obtain⟨t1,ht1⟩:∃x,((lb:Int)==1)=x:=⟨_,rfl⟩
 obtain⟨t2,ht2⟩:∃x,iL m.b cl=x:=⟨_,rfl⟩
 have u:Hid (Psp.aF m f cl=((!g0&& !g1)&&(t0&&(t1&&(t2))))):=tt (by
  unfold Psp.aF
  rw[hf,Bool.true_and,←hnb,hk]
  simp only[Int.reduceEq,if_false,if_true,true_or,or_true]
  congr 1
  rw[←ht0,←ht1,←ht2]
  rw[←hlb]
  simp only[Psp.noB,Psp.bZ,bx,List.all_cons,List.all_nil,Bool.false_or,Bool.true_or,Bool.true_and,Bool.and_true]
  first
   |rfl
   |(rw[jE];simp[and_assoc,Bool.and_assoc])
   |(rw[Bool.eq_iff_iff];simp[and_assoc];omega)
   |(rw[Bool.eq_iff_iff];simp[and_assoc,and_left_comm,and_comm];try omega))
 have H:=tt ht0
 have G:=tt ht2
 clear hlb hx hw hnn hf hnb ht0 ht2
 have Hk:=tt hk
 rw[hk]
 have A:=tt (Mk.new w #[.int .i64 2,.int .i64 m.f,.int .i64 m.v,.int .i64 m.i,.int .i64 m.q,.int .i64 m.r,.slice Ab lb cb,.slice Ao m.o.length co,.slice Ac m.c.length cc,.slice Ap m.p.length cp])
 go_enter Tryz.func105,Tryz.ntmps105
 go_wp2_with fail
 obtain⟨W0,hW0⟩:∃W,w.alloc (.cells #[.int .i64 2,.int .i64 m.f,.int .i64 m.v,.int .i64 m.i,.int .i64 m.q,.int .i64 m.r,.slice Ab lb cb,.slice Ao m.o.length co,.slice Ac m.c.length cc,.slice Ap m.p.length cp] 56)=W:=⟨_,rfl⟩
 rw[hW0] at A ⊢
 clear hW0 hk
 refine (HN.out _).mono ?_
 rintro e w' ⟨rfl,rfl⟩
 have y0:W0.cell? ⟨w.heap.size,0,none⟩=some (.int .i64 2):=A.out.cell (j:=0) rfl
 go_wp2_with fail
 have y1:=ab (show W0.cell? ⟨w.heap.size,1,none⟩=some (.int .i64 m.f) from A.out.cell (j:=1) rfl)
 have z:Hid (∀p:Later W0,Calls Tryz.prog 13 #[.int .i64 f] p.W fun e w'=>e= .returned (.int .i64 nn)∧p.W=w'):=tt fun p=>HN.out _
 cases g0 with
 |true=>
  refine ai (by kernel_rfl) (by kernel_rfl) ?_
  repeat (first|go_big_quiet_step ((go_at_call 13;exact ah _ (z.out _)))|quiet_step ((go_at_call 13;exact ah _ (z.out _))))
  refine wpQuiet_nil ?_
  intro w2 d
  obtain⟨⟨wq,hbq⟩,d⟩:=d
  have hb2:Below W0.heap.size W0 w2:=by rw[d];exact hbq
  clear d hbq
  have a:=tt (A.out.below hb2)
  clear hb2 y0 y1
  have y0:w2.cell? ⟨w.heap.size,0,none⟩=some (.int .i64 2):=a.out.cell (j:=0) rfl
  go_wp2_with fail
  go_ret
  exact⟨by rw[u.out];rfl,a.out.be⟩
 |false=>
  cases g1 with
  |true=>
   refine ai (by kernel_rfl) (by kernel_rfl) ?_
   repeat (first|go_big_quiet_step ((go_at_call 13;exact ah _ (z.out _)))|quiet_step ((go_at_call 13;exact ah _ (z.out _))))
   refine wpQuiet_nil ?_
   intro w2 d
   obtain⟨⟨wq,hbq⟩,d⟩:=d
   have hb2:Below W0.heap.size W0 w2:=by rw[d];exact hbq
   clear d hbq
   have a:=tt (A.out.below hb2)
   clear hb2 y0 y1
   have y0:w2.cell? ⟨w.heap.size,0,none⟩=some (.int .i64 2):=a.out.cell (j:=0) rfl
   go_wp2_with fail
   go_ret
   exact⟨by rw[u.out];rfl,a.out.be⟩
  |false=>
   refine ai (by kernel_rfl) (by kernel_rfl) ?_
   repeat (first|go_big_quiet_step ((go_at_call 13;exact ah _ (z.out _)))|quiet_step ((go_at_call 13;exact ah _ (z.out _))))
   refine wpQuiet_nil ?_
   intro w2 d
   obtain⟨⟨wq,hbq⟩,d⟩:=d
   have hb2:Below W0.heap.size W0 w2:=by rw[d];exact hbq
   clear d hbq
   have a:=tt (A.out.below hb2)
   clear hb2 y0 y1
   have y0:w2.cell? ⟨w.heap.size,0,none⟩=some (.int .i64 2):=a.out.cell (j:=0) rfl
   have y1:w2.cell? ⟨w.heap.size,1,none⟩=some (.int .i64 m.f):=a.out.cell (j:=1) rfl
   have y2:w2.cell? ⟨w.heap.size,2,none⟩=some (.int .i64 m.v):=a.out.cell (j:=2) rfl
   have y3:w2.cell? ⟨w.heap.size,3,none⟩=some (.int .i64 m.i):=a.out.cell (j:=3) rfl
   have y4:w2.cell? ⟨w.heap.size,4,none⟩=some (.int .i64 m.q):=a.out.cell (j:=4) rfl
   have y5:w2.cell? ⟨w.heap.size,5,none⟩=some (.int .i64 m.r):=a.out.cell (j:=5) rfl
   have y6:w2.cell? ⟨w.heap.size,6,none⟩=some (.slice Ab lb cb):=a.out.cell (j:=6) rfl
   have y7:w2.cell? ⟨w.heap.size,7,none⟩=some (.slice Ao m.o.length co):=a.out.cell (j:=7) rfl
   have y8:w2.cell? ⟨w.heap.size,8,none⟩=some (.slice Ac m.c.length cc):=a.out.cell (j:=8) rfl
   have y9:w2.cell? ⟨w.heap.size,9,none⟩=some (.slice Ap m.p.length cp):=a.out.cell (j:=9) rfl
   go_wp2_with fail
   clear y0 y1 y2 y3 y4 y5 y6 y7 y8 y9
   refine (mD _ _ _ _ _ _ _ _ _ _ _ _ _ _ _ _ _ _ w2).mono ?_
   rw[H.out]
   rintro e v0 ⟨rfl,hb⟩
   have g:=tt (a.out.below hb)
   clear hb
   have y0:v0.cell? ⟨w.heap.size,0,none⟩=some (.int .i64 2):=g.out.cell (j:=0) rfl
   have y1:v0.cell? ⟨w.heap.size,1,none⟩=some (.int .i64 m.f):=g.out.cell (j:=1) rfl
   have y2:v0.cell? ⟨w.heap.size,2,none⟩=some (.int .i64 m.v):=g.out.cell (j:=2) rfl
   have y3:v0.cell? ⟨w.heap.size,3,none⟩=some (.int .i64 m.i):=g.out.cell (j:=3) rfl
   have y4:v0.cell? ⟨w.heap.size,4,none⟩=some (.int .i64 m.q):=g.out.cell (j:=4) rfl
   have y5:v0.cell? ⟨w.heap.size,5,none⟩=some (.int .i64 m.r):=g.out.cell (j:=5) rfl
   have y6:v0.cell? ⟨w.heap.size,6,none⟩=some (.slice Ab lb cb):=g.out.cell (j:=6) rfl
   have y7:v0.cell? ⟨w.heap.size,7,none⟩=some (.slice Ao m.o.length co):=g.out.cell (j:=7) rfl
   have y8:v0.cell? ⟨w.heap.size,8,none⟩=some (.slice Ac m.c.length cc):=g.out.cell (j:=8) rfl
   have y9:v0.cell? ⟨w.heap.size,9,none⟩=some (.slice Ap m.p.length cp):=g.out.cell (j:=9) rfl
   cases t0 with
   |false=>
    go_wp2_with fail
    go_ret
    exact⟨by rw[u.out];rfl,g.out.be⟩
   |true=>
    cases t1 with
    |false=>
     go_wp2_with fail
     go_ret
     exact⟨by rw[u.out];rfl,g.out.be⟩
    |true=>
     have M:1≤lb:=by have h:=ht1;simp at h;omega
     obtain⟨b0,o0,c0,y,he,hb0,hb1,hy,B⟩:=cw (f:=rq) (k:=6) (fun _=>rfl) (by omega) K.out I.out (show 0 < lb by omega)
     injection he with F _ E
     subst F E
     have hq:=B v0 (g.out.be.block b0 hb1)
     have e0:v0.cell? ⟨b0,o0,none⟩=some (.int .i64 y.c):=by have:=hq 0 _ rfl;simpa [iv] using this
     have e1:v0.cell? ⟨b0,o0+1,none⟩=some (.int .i64 y.t):=by have:=hq 1 _ rfl;simpa [iv] using this
     have e2:v0.cell? ⟨b0,o0+2,none⟩=some (.int .i64 y.k):=by have:=hq 2 _ rfl;simpa [iv] using this
     have e3:v0.cell? ⟨b0,o0+3,none⟩=some (.int .i64 y.y):=by have:=hq 3 _ rfl;simpa [iv] using this
     have e4:v0.cell? ⟨b0,o0+4,none⟩=some (.int .i64 y.v):=by have:=hq 4 _ rfl;simpa [iv] using this
     have e5:v0.cell? ⟨b0,o0+5,none⟩=some (.int .i64 y.s):=by have:=hq 5 _ rfl;simpa [iv] using this
     have J:Hid (Psp.aZ y cl=t2):=tt (by rw[←G.out];exact (jz hy).symm)
     clear hq B hy hb0
     go_wp2_with fail
     clear y0 y1 y2 y3 y4 y5 y6 y7 y8 y9 ht1 e0 e1 e2 e3 e4 e5
     refine (ef y cl v0).mono ?_
     rw[J.out]
     rintro e v2 ⟨rfl,hb⟩
     have l:=tt (g.out.below hb)
     clear hb
     have y0:v2.cell? ⟨w.heap.size,0,none⟩=some (.int .i64 2):=l.out.cell (j:=0) rfl
     have y1:v2.cell? ⟨w.heap.size,1,none⟩=some (.int .i64 m.f):=l.out.cell (j:=1) rfl
     have y2:v2.cell? ⟨w.heap.size,2,none⟩=some (.int .i64 m.v):=l.out.cell (j:=2) rfl
     have y3:v2.cell? ⟨w.heap.size,3,none⟩=some (.int .i64 m.i):=l.out.cell (j:=3) rfl
     have y4:v2.cell? ⟨w.heap.size,4,none⟩=some (.int .i64 m.q):=l.out.cell (j:=4) rfl
     have y5:v2.cell? ⟨w.heap.size,5,none⟩=some (.int .i64 m.r):=l.out.cell (j:=5) rfl
     have y6:v2.cell? ⟨w.heap.size,6,none⟩=some (.slice (some ⟨b0,o0,none⟩) lb cb):=l.out.cell (j:=6) rfl
     have y7:v2.cell? ⟨w.heap.size,7,none⟩=some (.slice Ao m.o.length co):=l.out.cell (j:=7) rfl
     have y8:v2.cell? ⟨w.heap.size,8,none⟩=some (.slice Ac m.c.length cc):=l.out.cell (j:=8) rfl
     have y9:v2.cell? ⟨w.heap.size,9,none⟩=some (.slice Ap m.p.length cp):=l.out.cell (j:=9) rfl
     cases t2 with
     |false=>
      go_wp2_with fail
      go_ret
      exact⟨by rw[u.out];rfl,l.out.be⟩
     |true=>
      go_wp2_with fail
      go_ret
      exact⟨by rw[u.out];rfl,l.out.be⟩
theorem nF {l:List Psp.Req} {y:Psp.Req} (h:l[0]? =some y):Psp.iM l=y.c:=by
 cases l with
 |nil=>cases h
 |cons a l=>injection h with h;subst h;rfl
theorem qp (m:Psp.Msg) (vb vo vc vp:Value) (f cl:Int) (w:World) (P:Nat→Prop) (hx:MsgOk w P ⟨m,vb,vo,vc,vp⟩) (hw:cr m) (hf:Psp.may f=true) (hk:m.k=1):
 Calls Tryz.prog 105 #[.agg #[.int .i64 m.k,.int .i64 m.f,.int .i64 m.v,.int .i64 m.i,.int .i64 m.q,.int .i64 m.r,vb,vo,vc,vp],.int .i64 f,.int .i64 cl] w fun e w'=>e= .returned (.bool (Psp.aF m f cl))∧Below w.heap.size w w':=by
 obtain⟨Ab,Ao,Ac,Ap,cb,co,cc,cp,rfl,rfl,rfl,rfl⟩:=aG hx
 obtain⟨lb,hlb⟩:∃n,m.b.length=n:=⟨_,rfl⟩
 rw[hlb] at hx ⊢
 have I:=tt hlb
 have L:Hid (RdP w P 6 (.slice Ab lb cb) lb (m.b.flatMap rq)):=tt (by have h:=hx.1;unfold RdR at h;rw[hlb] at h;exact h)
 have Hw:=tt hw
 have M:m.f≤9223372036854775807:=hw.2.1.2
 obtain⟨nn,hnn⟩:∃q,Psp.aO f=q:=⟨_,rfl⟩
 have N:(nn==0)=false:=by rw[←hnn,bl,hf];rfl
 have HN:Hid (∀W:World,Calls Tryz.prog 13 #[.int .i64 f] W fun e w'=>e= .returned (.int .i64 nn)∧W=w'):=tt fun W=>by rw[←hnn];exact aM f W
 obtain⟨t0,ht0⟩:∃x,bx false false false false true false false false m.v m.i m.q m.r lb m.o.length m.c.length m.p.length=x:=⟨_,rfl⟩
 obtain⟨t1,ht1⟩:∃x,((lb:Int)==1)=x:=⟨_,rfl⟩
 obtain⟨t2,ht2⟩:∃x,iL m.b cl=x:=⟨_,rfl⟩
 obtain⟨t3,ht3⟩:∃x,decide (m.f≥100)=x:=⟨_,rfl⟩
 obtain⟨t4,ht4⟩:∃x,(m.f - 100==Psp.iM m.b)=x:=⟨_,rfl⟩
 have u:Hid (Psp.aF m f cl=(t0&&(t1&&(t2&&(t3&&t4))))):=tt (by
  unfold Psp.aF
  rw[hf,Bool.true_and,hk]
  simp only[if_true]
  rw[←ht0,←ht1,←ht2,←ht3,←ht4,←hlb,jE]
  simp only[Psp.noB,Psp.bZ,bx,List.all_cons,List.all_nil,Bool.false_or,Bool.true_or,Bool.true_and,Bool.and_true]
  rw[Bool.eq_iff_iff];simp[and_assoc])
 have H:=tt ht0
 have G:=tt ht2
 have F:=tt ht4
 clear hlb hx hw hnn hf ht0 ht2 ht4
 rw[hk]
 have d:=tt (Mk.new w #[.int .i64 1,.int .i64 m.f,.int .i64 m.v,.int .i64 m.i,.int .i64 m.q,.int .i64 m.r,.slice Ab lb cb,.slice Ao m.o.length co,.slice Ac m.c.length cc,.slice Ap m.p.length cp])
 go_enter Tryz.func105,Tryz.ntmps105
 go_wp2_with fail
 obtain⟨W0,hW0⟩:∃W,w.alloc (.cells #[.int .i64 1,.int .i64 m.f,.int .i64 m.v,.int .i64 m.i,.int .i64 m.q,.int .i64 m.r,.slice Ab lb cb,.slice Ao m.o.length co,.slice Ac m.c.length cc,.slice Ap m.p.length cp] 56)=W:=⟨_,rfl⟩
 rw[hW0] at d ⊢
 clear hW0 hk
 refine (HN.out _).mono ?_
 rintro e w' ⟨rfl,rfl⟩
 have y0:W0.cell? ⟨w.heap.size,0,none⟩=some (.int .i64 1):=d.out.cell (j:=0) rfl
 go_wp2_with fail
 clear y0
 have g:Hid (∀p:Later W0,Calls Tryz.prog 133 #[.agg #[.int .i64 1,.int .i64 m.f,.int .i64 m.v,.int .i64 m.i,.int .i64 m.q,.int .i64 m.r,.slice Ab lb cb,.slice Ao m.o.length co,.slice Ac m.c.length cc,.slice Ap m.p.length cp],.string {data:=#[98]}] p.W fun e w'=>e= .returned (.bool t0)∧Below p.W.heap.size p.W w'):=tt fun p=>by rw[←H.out];exact mD _ _ _ _ _ _ _ _ _ _ _ _ _ _ _ _ _ _ p.W
 have A:Hid (∀w':World,(∃p:Later W0,w'=p.W)→w'.rangeAt w.heap.size 0 [.int .i64 1,.int .i64 m.f,.int .i64 m.v,.int .i64 m.i,.int .i64 m.q,.int .i64 m.r,.slice Ab lb cb,.slice Ao m.o.length co,.slice Ac m.c.length cc,.slice Ap m.p.length cp]):=tt (by rintro w' ⟨p,rfl⟩;exact aB (d.out.below p.h).box)
 have y1:=ab (show W0.cell? ⟨w.heap.size,1,none⟩=some (.int .i64 m.f) from d.out.cell (j:=1) rfl)
 have y2:=ab (show W0.cell? ⟨w.heap.size,2,none⟩=some (.int .i64 m.v) from d.out.cell (j:=2) rfl)
 have y3:=ab (show W0.cell? ⟨w.heap.size,3,none⟩=some (.int .i64 m.i) from d.out.cell (j:=3) rfl)
 have y4:=ab (show W0.cell? ⟨w.heap.size,4,none⟩=some (.int .i64 m.q) from d.out.cell (j:=4) rfl)
 have y5:=ab (show W0.cell? ⟨w.heap.size,5,none⟩=some (.int .i64 m.r) from d.out.cell (j:=5) rfl)
 have y6:=ab (show W0.cell? ⟨w.heap.size,6,none⟩=some (.slice Ab lb cb) from d.out.cell (j:=6) rfl)
 have y7:=ab (show W0.cell? ⟨w.heap.size,7,none⟩=some (.slice Ao m.o.length co) from d.out.cell (j:=7) rfl)
 have y8:=ab (show W0.cell? ⟨w.heap.size,8,none⟩=some (.slice Ac m.c.length cc) from d.out.cell (j:=8) rfl)
 have y9:=ab (show W0.cell? ⟨w.heap.size,9,none⟩=some (.slice Ap m.p.length cp) from d.out.cell (j:=9) rfl)
 cases t0 with
 |false=>
  refine ai (by kernel_rfl) (by kernel_rfl) ?_
  repeat (first|go_big_quiet_step (first|(go_at_call 133;exact ag _ (g.out _)))|(refine aj (by simp[Region.wanted,yielded]) 56 (.tmp 3) (by rfl) w.heap.size (0) (by rfl) [.int .i64 1,.int .i64 m.f,.int .i64 m.v,.int .i64 m.i,.int .i64 m.q,.int .i64 m.r,.slice Ab lb cb,.slice Ao m.o.length co,.slice Ac m.c.length cc,.slice Ap m.p.length cp] _ A.out Tryz.underlying56 rfl ax ?_;intro K hK;go_simp;refine hK _ ?_;clear hK K)|quiet_step (first|(go_at_call 133;exact ag _ (g.out _))))
  refine wpQuiet_nil ?_
  intro w3 a
  obtain⟨⟨wq,hbq⟩,a⟩:=a
  have hb2:Below W0.heap.size W0 w3:=by rw[a];exact hbq
  clear a hbq
  have l:=tt (d.out.below hb2)
  clear hb2
  go_wp2_with fail
  go_ret
  exact⟨by rw[u.out];rfl,l.out.be⟩
 |true=>
  cases t1 with
  |false=>
   refine ai (by kernel_rfl) (by kernel_rfl) ?_
   repeat (first|go_big_quiet_step (first|(go_at_call 133;exact ag _ (g.out _)))|(refine aj (by simp[Region.wanted,yielded]) 56 (.tmp 3) (by rfl) w.heap.size (0) (by rfl) [.int .i64 1,.int .i64 m.f,.int .i64 m.v,.int .i64 m.i,.int .i64 m.q,.int .i64 m.r,.slice Ab lb cb,.slice Ao m.o.length co,.slice Ac m.c.length cc,.slice Ap m.p.length cp] _ A.out Tryz.underlying56 rfl ax ?_;intro K hK;go_simp;refine hK _ ?_;clear hK K)|quiet_step (first|(go_at_call 133;exact ag _ (g.out _))))
   refine wpQuiet_nil ?_
   intro w3 a
   obtain⟨⟨wq,hbq⟩,a⟩:=a
   have hb2:Below W0.heap.size W0 w3:=by rw[a];exact hbq
   clear a hbq
   have l:=tt (d.out.below hb2)
   clear hb2
   go_wp2_with fail
   go_ret
   exact⟨by rw[u.out];rfl,l.out.be⟩
  |true=>
   have O:1≤lb:=by have h:=ht1;simp at h;omega
   obtain⟨b0,o0,c0,y,he,hb0,hb1,hy,C⟩:=cw (f:=rq) (k:=6) (fun _=>rfl) (by omega) L.out I.out (show 0 < lb by omega)
   injection he with E _ D
   subst E D
   have hq:=C W0 (d.out.be.block b0 hb1)
   have B:b0 < W0.heap.size:=Nat.lt_of_lt_of_le hb1 d.out.be.size
   have e0:=ab (show W0.cell? ⟨b0,o0,none⟩=some (.int .i64 y.c) by have:=hq 0 _ rfl;simpa [iv] using this)
   have e1:=ab (show W0.cell? ⟨b0,o0+1,none⟩=some (.int .i64 y.t) by have:=hq 1 _ rfl;simpa [iv] using this)
   have e2:=ab (show W0.cell? ⟨b0,o0+2,none⟩=some (.int .i64 y.k) by have:=hq 2 _ rfl;simpa [iv] using this)
   have e3:=ab (show W0.cell? ⟨b0,o0+3,none⟩=some (.int .i64 y.y) by have:=hq 3 _ rfl;simpa [iv] using this)
   have e4:=ab (show W0.cell? ⟨b0,o0+4,none⟩=some (.int .i64 y.v) by have:=hq 4 _ rfl;simpa [iv] using this)
   have e5:=ab (show W0.cell? ⟨b0,o0+5,none⟩=some (.int .i64 y.s) by have:=hq 5 _ rfl;simpa [iv] using this)
   have J:Hid (Psp.aZ y cl=t2):=tt (by rw[←G.out];exact (jz hy).symm)
   have z:Hid (∀p:Later W0,Calls Tryz.prog 19 #[.agg #[.int .i64 y.c,.int .i64 y.t,.int .i64 y.k,.int .i64 y.y,.int .i64 y.v,.int .i64 y.s],.int .i64 cl] p.W fun e w'=>e= .returned (.bool t2)∧Below p.W.heap.size p.W w'):=tt fun p=>by rw[←J.out];exact ef y cl p.W
   have ht4:(m.f - 100==y.c)=t4:=by rw[←F.out,nF hy]
   clear hq C hy hb0 B
   cases t2 with
   |false=>
    refine ai (by kernel_rfl) (by kernel_rfl) ?_
    repeat (first|go_big_quiet_step (first|(go_at_call 133;exact ag _ (g.out _))|(go_at_call 19;exact ag _ (z.out _)))|(refine aj (by simp[Region.wanted,yielded]) 56 (.tmp 3) (by rfl) w.heap.size (0) (by rfl) [.int .i64 1,.int .i64 m.f,.int .i64 m.v,.int .i64 m.i,.int .i64 m.q,.int .i64 m.r,.slice (some ⟨b0,o0,none⟩) lb cb,.slice Ao m.o.length co,.slice Ac m.c.length cc,.slice Ap m.p.length cp] _ A.out Tryz.underlying56 rfl ax ?_;intro K hK;go_simp;refine hK _ ?_;clear hK K)|quiet_step (first|(go_at_call 133;exact ag _ (g.out _))|(go_at_call 19;exact ag _ (z.out _))))
    refine wpQuiet_nil ?_
    intro w3 a
    obtain⟨⟨wq,hbq⟩,a⟩:=a
    have hb2:Below W0.heap.size W0 w3:=by rw[a];exact hbq
    clear a hbq
    have l:=tt (d.out.below hb2)
    clear hb2
    go_wp2_with fail
    go_ret
    exact⟨by rw[u.out];rfl,l.out.be⟩
   |true=>
    cases t3 with
    |false=>
     refine ai (by kernel_rfl) (by kernel_rfl) ?_
     repeat (first|go_big_quiet_step (first|(go_at_call 133;exact ag _ (g.out _))|(go_at_call 19;exact ag _ (z.out _)))|(refine aj (by simp[Region.wanted,yielded]) 56 (.tmp 3) (by rfl) w.heap.size (0) (by rfl) [.int .i64 1,.int .i64 m.f,.int .i64 m.v,.int .i64 m.i,.int .i64 m.q,.int .i64 m.r,.slice (some ⟨b0,o0,none⟩) lb cb,.slice Ao m.o.length co,.slice Ac m.c.length cc,.slice Ap m.p.length cp] _ A.out Tryz.underlying56 rfl ax ?_;intro K hK;go_simp;refine hK _ ?_;clear hK K)|quiet_step (first|(go_at_call 133;exact ag _ (g.out _))|(go_at_call 19;exact ag _ (z.out _))))
     refine wpQuiet_nil ?_
     intro w3 a
     obtain⟨⟨wq,hbq⟩,a⟩:=a
     have hb2:Below W0.heap.size W0 w3:=by rw[a];exact hbq
     clear a hbq
     have l:=tt (d.out.below hb2)
     clear hb2
     go_wp2_with fail
     go_ret
     exact⟨by rw[u.out];rfl,l.out.be⟩
    |true=>
     have Q:100≤m.f:=of_decide_eq_true ht3
     cases t4 with
     |false=>
      refine ai (by kernel_rfl) (by kernel_rfl) ?_
      repeat (first|go_big_quiet_step (first|(go_at_call 133;exact ag _ (g.out _))|(go_at_call 19;exact ag _ (z.out _)))|(refine aj (by simp[Region.wanted,yielded]) 56 (.tmp 3) (by rfl) w.heap.size (0) (by rfl) [.int .i64 1,.int .i64 m.f,.int .i64 m.v,.int .i64 m.i,.int .i64 m.q,.int .i64 m.r,.slice (some ⟨b0,o0,none⟩) lb cb,.slice Ao m.o.length co,.slice Ac m.c.length cc,.slice Ap m.p.length cp] _ A.out Tryz.underlying56 rfl ax ?_;intro K hK;go_simp;refine hK _ ?_;clear hK K)|quiet_step (first|(go_at_call 133;exact ag _ (g.out _))|(go_at_call 19;exact ag _ (z.out _))))
      refine wpQuiet_nil ?_
      intro w3 a
      obtain⟨⟨wq,hbq⟩,a⟩:=a
      have hb2:Below W0.heap.size W0 w3:=by rw[a];exact hbq
      clear a hbq
      have l:=tt (d.out.below hb2)
      clear hb2
      go_wp2_with fail
      go_ret
      exact⟨by rw[u.out];rfl,l.out.be⟩
     |true=>
      refine ai (by kernel_rfl) (by kernel_rfl) ?_
      repeat (first|go_big_quiet_step (first|(go_at_call 133;exact ag _ (g.out _))|(go_at_call 19;exact ag _ (z.out _)))|(refine aj (by simp[Region.wanted,yielded]) 56 (.tmp 3) (by rfl) w.heap.size (0) (by rfl) [.int .i64 1,.int .i64 m.f,.int .i64 m.v,.int .i64 m.i,.int .i64 m.q,.int .i64 m.r,.slice (some ⟨b0,o0,none⟩) lb cb,.slice Ao m.o.length co,.slice Ac m.c.length cc,.slice Ap m.p.length cp] _ A.out Tryz.underlying56 rfl ax ?_;intro K hK;go_simp;refine hK _ ?_;clear hK K)|quiet_step (first|(go_at_call 133;exact ag _ (g.out _))|(go_at_call 19;exact ag _ (z.out _))))
      refine wpQuiet_nil ?_
      intro w3 a
      obtain⟨⟨wq,hbq⟩,a⟩:=a
      have hb2:Below W0.heap.size W0 w3:=by rw[a];exact hbq
      clear a hbq
      have l:=tt (d.out.below hb2)
      clear hb2
      go_wp2_with fail
      go_ret
      exact⟨by rw[u.out];rfl,l.out.be⟩
theorem qn (m:Psp.Msg) (vb vo vc vp:Value) (f cl:Int) (w:World) (P:Nat→Prop) (hx:MsgOk w P ⟨m,vb,vo,vc,vp⟩) (hw:cr m) (hf:Psp.may f=true) (hk:m.k=3):
 Calls Tryz.prog 105 #[.agg #[.int .i64 m.k,.int .i64 m.f,.int .i64 m.v,.int .i64 m.i,.int .i64 m.q,.int .i64 m.r,vb,vo,vc,vp],.int .i64 f,.int .i64 cl] w fun e w'=>e= .returned (.bool (Psp.aF m f cl))∧Below w.heap.size w w':=by
 obtain⟨Ab,Ao,Ac,Ap,cb,co,cc,cp,rfl,rfl,rfl,rfl⟩:=aG hx
 obtain⟨lb,hlb⟩:∃n,m.b.length=n:=⟨_,rfl⟩
 rw[hlb] at hx ⊢
 have C:=tt hlb
 have HX:=tt hx
 have Hw:=tt hw
 obtain⟨nn,hnn⟩:∃q,Psp.aO f=q:=⟨_,rfl⟩
 have N:(nn==0)=false:=by rw[←hnn,bl,hf];rfl
 have HN:Hid (∀W:World,Calls Tryz.prog 13 #[.int .i64 f] W fun e w'=>e= .returned (.int .i64 nn)∧W=w'):=tt fun W=>by rw[←hnn];exact aM f W
 obtain⟨G,F⟩:=Psp.cd f
 rw[hnn] at G F
 obtain⟨g0,hg0⟩:∃x,decide (m.f < 0)=x:=⟨_,rfl⟩
 obtain⟨g1,hg1⟩:∃x,decide (m.f≥nn)=x:=⟨_,rfl⟩
 have hnb:Psp.bB m.f f=(!g0&& !g1):=by unfold Psp.bB;rw[hnn,←hg0,←hg1,Bool.eq_iff_iff,Psp.aN];simp;omega
 obtain⟨t0,ht0⟩:∃x,bx true true true false true false false false m.v m.i m.q m.r lb m.o.length m.c.length m.p.length=x:=⟨_,rfl⟩
 obtain⟨t1,ht1⟩:∃x,Psp.cH m.v m.i m.q f=x:=⟨_,rfl⟩
 obtain⟨t2,ht2⟩:∃x,Psp.bn m.b cl 0 4=x:=⟨_,rfl⟩
 obtain⟨t3,ht3⟩:∃x,decide ((lb:Int) > 0)=x:=⟨_,rfl⟩
 obtain⟨t4,ht4⟩:∃x,(m.f==Psp.aP f m.v m.i)=x:=⟨_,rfl⟩
 have g:Hid (Psp.aF m f cl=((!g0&& !g1)&&(t0&&(t1&&(t2&&(t3&&(t4))))))):=tt (by
  unfold Psp.aF
  rw[hf,Bool.true_and,←hnb,hk]
  simp only[Int.reduceEq,if_false,if_true,true_or,or_true]
  congr 1
  rw[←ht0,←ht1,←ht2,←ht3,←ht4]
  rw[←hlb]
  simp only[Psp.noB,Psp.bZ,bx,Psp.win,Psp.bn,List.all_cons,List.all_nil,Bool.false_or,Bool.true_or,Bool.true_and,Bool.and_true]
  first
   |rfl
   |(rw[Bool.eq_iff_iff];simp[and_assoc];omega)
   |(rw[Bool.eq_iff_iff];simp[and_assoc,and_left_comm,and_comm];try omega))
 have L:=tt ht0
 have J:=tt ht1
 have I:=tt ht2
 have E:decide (0 < lb)=t3:=by simp[←ht3]
 have D:decide ((0:Int) < (lb:Int))=t3:=by simp[←ht3]
 clear hlb hx hw hnn hf hnb ht0 ht1 ht2
 obtain⟨pr,hpr⟩:∃x,Psp.aP f m.v m.i=x:=⟨_,rfl⟩
 have M:Hid (∀W:World,Calls Tryz.prog 136 #[.int .i64 f,.int .i64 m.v,.int .i64 m.i] W fun e w'=>e= .returned (.int .i64 pr)∧W=w'):=tt fun W=>by rw[←hpr];exact fI f m.v m.i W Hw.out.2.2.1.1 Hw.out.2.2.1.2 Hw.out.2.2.2.1.1 Hw.out.2.2.2.1.2
 rw[hpr] at ht4
 clear hpr
 have Hk:=tt hk
 rw[hk]
 have B:=tt (Mk.new w #[.int .i64 3,.int .i64 m.f,.int .i64 m.v,.int .i64 m.i,.int .i64 m.q,.int .i64 m.r,.slice Ab lb cb,.slice Ao m.o.length co,.slice Ac m.c.length cc,.slice Ap m.p.length cp])
 go_enter Tryz.func105,Tryz.ntmps105
 go_wp2_with fail
 obtain⟨W0,hW0⟩:∃W,w.alloc (.cells #[.int .i64 3,.int .i64 m.f,.int .i64 m.v,.int .i64 m.i,.int .i64 m.q,.int .i64 m.r,.slice Ab lb cb,.slice Ao m.o.length co,.slice Ac m.c.length cc,.slice Ap m.p.length cp] 56)=W:=⟨_,rfl⟩
 rw[hW0] at B ⊢
 clear hW0 hk
 refine (HN.out _).mono ?_
 rintro e w' ⟨rfl,rfl⟩
 have y0:W0.cell? ⟨w.heap.size,0,none⟩=some (.int .i64 3):=B.out.cell (j:=0) rfl
 go_wp2_with fail
 have y1:=ab (show W0.cell? ⟨w.heap.size,1,none⟩=some (.int .i64 m.f) from B.out.cell (j:=1) rfl)
 have A:Hid (∀p:Later W0,Calls Tryz.prog 13 #[.int .i64 f] p.W fun e w'=>e= .returned (.int .i64 nn)∧p.W=w'):=tt fun p=>HN.out _
 cases g0 with
 |true=>
  refine ai (by kernel_rfl) (by kernel_rfl) ?_
  repeat (first|go_big_quiet_step ((go_at_call 13;exact ah _ (A.out _)))|quiet_step ((go_at_call 13;exact ah _ (A.out _))))
  refine wpQuiet_nil ?_
  intro w2 a
  obtain⟨⟨wq,hbq⟩,a⟩:=a
  have hb2:Below W0.heap.size W0 w2:=by rw[a];exact hbq
  clear a hbq
  have d:=tt (B.out.below hb2)
  clear hb2 y0 y1
  have y0:w2.cell? ⟨w.heap.size,0,none⟩=some (.int .i64 3):=d.out.cell (j:=0) rfl
  go_wp2_with fail
  go_ret
  exact⟨by rw[g.out];rfl,d.out.be⟩
 |false=>
  cases g1 with
  |true=>
   refine ai (by kernel_rfl) (by kernel_rfl) ?_
   repeat (first|go_big_quiet_step ((go_at_call 13;exact ah _ (A.out _)))|quiet_step ((go_at_call 13;exact ah _ (A.out _))))
   refine wpQuiet_nil ?_
   intro w2 a
   obtain⟨⟨wq,hbq⟩,a⟩:=a
   have hb2:Below W0.heap.size W0 w2:=by rw[a];exact hbq
   clear a hbq
   have d:=tt (B.out.below hb2)
   clear hb2 y0 y1
   have y0:w2.cell? ⟨w.heap.size,0,none⟩=some (.int .i64 3):=d.out.cell (j:=0) rfl
   go_wp2_with fail
   go_ret
   exact⟨by rw[g.out];rfl,d.out.be⟩
  |false=>
   refine ai (by kernel_rfl) (by kernel_rfl) ?_
   repeat (first|go_big_quiet_step ((go_at_call 13;exact ah _ (A.out _)))|quiet_step ((go_at_call 13;exact ah _ (A.out _))))
   refine wpQuiet_nil ?_
   intro w2 a
   obtain⟨⟨wq,hbq⟩,a⟩:=a
   have hb2:Below W0.heap.size W0 w2:=by rw[a];exact hbq
   clear a hbq
   have d:=tt (B.out.below hb2)
   clear hb2 y0 y1
   have y0:w2.cell? ⟨w.heap.size,0,none⟩=some (.int .i64 3):=d.out.cell (j:=0) rfl
   go_wp2_with fail
   clear y0
   have u:Hid (∀p:Later w2,Calls Tryz.prog 133 #[.agg #[.int .i64 3,.int .i64 m.f,.int .i64 m.v,.int .i64 m.i,.int .i64 m.q,.int .i64 m.r,.slice Ab lb cb,.slice Ao m.o.length co,.slice Ac m.c.length cc,.slice Ap m.p.length cp],.string {data:=#[118,105,115,98]}] p.W fun e w'=>e= .returned (.bool t0)∧Below p.W.heap.size p.W w'):=tt fun p=>by rw[←L.out];have H:=Hk.out;rw[←H];exact fX _ _ _ _ _ _ _ _ _ _ _ _ _ _ _ _ _ _ p.W
   have t:Hid (∀p:Later w2,Calls Tryz.prog 134 #[.int .i64 m.v,.int .i64 m.i,.int .i64 m.q,.int .i64 f] p.W fun e w'=>e= .returned (.bool t1)∧p.W=w'):=tt fun p=>by rw[←J.out];exact eP m.v m.i m.q f p.W
   have s:Hid (∀p:Later w2,Calls Tryz.prog 135 #[.slice Ab lb cb,.int .i64 cl] p.W fun e w'=>e= .returned (.bool t2)∧Below p.W.heap.size p.W w'):=tt fun p=>by rw[←I.out];exact gh m.b lb (.slice Ab lb cb) cl p.W _ (by have h:=(HX.out.keeps (Keeps.below (d.out.below p.h).be)).1;unfold RdR at h;rw[C.out] at h;exact h) C.out
   have l:Hid (∀p:Later w2,Calls Tryz.prog 136 #[.int .i64 f,.int .i64 m.v,.int .i64 m.i] p.W fun e w'=>e= .returned (.int .i64 pr)∧p.W=w'):=tt fun p=>M.out _
   have z:Hid (∀w':World,(∃p:Later w2,w'=p.W)→w'.rangeAt w.heap.size 0 [.int .i64 3,.int .i64 m.f,.int .i64 m.v,.int .i64 m.i,.int .i64 m.q,.int .i64 m.r,.slice Ab lb cb,.slice Ao m.o.length co,.slice Ac m.c.length cc,.slice Ap m.p.length cp]):=tt (by rintro w' ⟨p,rfl⟩;exact aB (d.out.below p.h).box)
   have y1:=ab (show w2.cell? ⟨w.heap.size,1,none⟩=some (.int .i64 m.f) from d.out.cell (j:=1) rfl)
   have y2:=ab (show w2.cell? ⟨w.heap.size,2,none⟩=some (.int .i64 m.v) from d.out.cell (j:=2) rfl)
   have y3:=ab (show w2.cell? ⟨w.heap.size,3,none⟩=some (.int .i64 m.i) from d.out.cell (j:=3) rfl)
   have y4:=ab (show w2.cell? ⟨w.heap.size,4,none⟩=some (.int .i64 m.q) from d.out.cell (j:=4) rfl)
   have y5:=ab (show w2.cell? ⟨w.heap.size,5,none⟩=some (.int .i64 m.r) from d.out.cell (j:=5) rfl)
   have y6:=ab (show w2.cell? ⟨w.heap.size,6,none⟩=some (.slice Ab lb cb) from d.out.cell (j:=6) rfl)
   have y7:=ab (show w2.cell? ⟨w.heap.size,7,none⟩=some (.slice Ao m.o.length co) from d.out.cell (j:=7) rfl)
   have y8:=ab (show w2.cell? ⟨w.heap.size,8,none⟩=some (.slice Ac m.c.length cc) from d.out.cell (j:=8) rfl)
   have y9:=ab (show w2.cell? ⟨w.heap.size,9,none⟩=some (.slice Ap m.p.length cp) from d.out.cell (j:=9) rfl)
   cases t0 with
   |false=>
    refine ai (by kernel_rfl) (by kernel_rfl) ?_
    repeat (first|go_big_quiet_step (first|(go_at_call 133;exact ag _ (u.out _))|(go_at_call 134;exact ah _ (t.out _))|(go_at_call 135;exact ag _ (s.out _))|(go_at_call 136;exact ah _ (l.out _)))|(refine aj (by simp[Region.wanted,yielded]) 56 (.tmp 3) (by rfl) w.heap.size (0) (by rfl) [.int .i64 3,.int .i64 m.f,.int .i64 m.v,.int .i64 m.i,.int .i64 m.q,.int .i64 m.r,.slice Ab lb cb,.slice Ao m.o.length co,.slice Ac m.c.length cc,.slice Ap m.p.length cp] _ z.out Tryz.underlying56 rfl ax ?_;intro K hK;go_simp;refine hK _ ?_;clear hK K)|quiet_step (first|(go_at_call 133;exact ag _ (u.out _))|(go_at_call 134;exact ah _ (t.out _))|(go_at_call 135;exact ag _ (s.out _))|(go_at_call 136;exact ah _ (l.out _))))
    refine wpQuiet_nil ?_
    intro w3 a
    obtain⟨⟨wq,hbq⟩,a⟩:=a
    have hb2:Below w2.heap.size w2 w3:=by rw[a];exact hbq
    clear a hbq
    have y:=tt (d.out.below hb2)
    clear hb2
    go_wp2_with fail
    go_ret
    exact⟨by rw[g.out];rfl,y.out.be⟩
   |true=>
    cases t1 with
    |false=>
     refine ai (by kernel_rfl) (by kernel_rfl) ?_
     repeat (first|go_big_quiet_step (first|(go_at_call 133;exact ag _ (u.out _))|(go_at_call 134;exact ah _ (t.out _))|(go_at_call 135;exact ag _ (s.out _))|(go_at_call 136;exact ah _ (l.out _)))|(refine aj (by simp[Region.wanted,yielded]) 56 (.tmp 3) (by rfl) w.heap.size (0) (by rfl) [.int .i64 3,.int .i64 m.f,.int .i64 m.v,.int .i64 m.i,.int .i64 m.q,.int .i64 m.r,.slice Ab lb cb,.slice Ao m.o.length co,.slice Ac m.c.length cc,.slice Ap m.p.length cp] _ z.out Tryz.underlying56 rfl ax ?_;intro K hK;go_simp;refine hK _ ?_;clear hK K)|quiet_step (first|(go_at_call 133;exact ag _ (u.out _))|(go_at_call 134;exact ah _ (t.out _))|(go_at_call 135;exact ag _ (s.out _))|(go_at_call 136;exact ah _ (l.out _))))
     refine wpQuiet_nil ?_
     intro w3 a
     obtain⟨⟨wq,hbq⟩,a⟩:=a
     have hb2:Below w2.heap.size w2 w3:=by rw[a];exact hbq
     clear a hbq
     have y:=tt (d.out.below hb2)
     clear hb2
     go_wp2_with fail
     go_ret
     exact⟨by rw[g.out];rfl,y.out.be⟩
    |true=>
     cases t2 with
     |false=>
      refine ai (by kernel_rfl) (by kernel_rfl) ?_
      repeat (first|go_big_quiet_step (first|(go_at_call 133;exact ag _ (u.out _))|(go_at_call 134;exact ah _ (t.out _))|(go_at_call 135;exact ag _ (s.out _))|(go_at_call 136;exact ah _ (l.out _)))|(refine aj (by simp[Region.wanted,yielded]) 56 (.tmp 3) (by rfl) w.heap.size (0) (by rfl) [.int .i64 3,.int .i64 m.f,.int .i64 m.v,.int .i64 m.i,.int .i64 m.q,.int .i64 m.r,.slice Ab lb cb,.slice Ao m.o.length co,.slice Ac m.c.length cc,.slice Ap m.p.length cp] _ z.out Tryz.underlying56 rfl ax ?_;intro K hK;go_simp;refine hK _ ?_;clear hK K)|quiet_step (first|(go_at_call 133;exact ag _ (u.out _))|(go_at_call 134;exact ah _ (t.out _))|(go_at_call 135;exact ag _ (s.out _))|(go_at_call 136;exact ah _ (l.out _))))
      refine wpQuiet_nil ?_
      intro w3 a
      obtain⟨⟨wq,hbq⟩,a⟩:=a
      have hb2:Below w2.heap.size w2 w3:=by rw[a];exact hbq
      clear a hbq
      have y:=tt (d.out.below hb2)
      clear hb2
      go_wp2_with fail
      go_ret
      exact⟨by rw[g.out];rfl,y.out.be⟩
     |true=>
      cases t3 with
      |false=>
       refine ai (by kernel_rfl) (by kernel_rfl) ?_
       repeat (first|go_big_quiet_step (first|(go_at_call 133;exact ag _ (u.out _))|(go_at_call 134;exact ah _ (t.out _))|(go_at_call 135;exact ag _ (s.out _))|(go_at_call 136;exact ah _ (l.out _)))|(refine aj (by simp[Region.wanted,yielded]) 56 (.tmp 3) (by rfl) w.heap.size (0) (by rfl) [.int .i64 3,.int .i64 m.f,.int .i64 m.v,.int .i64 m.i,.int .i64 m.q,.int .i64 m.r,.slice Ab lb cb,.slice Ao m.o.length co,.slice Ac m.c.length cc,.slice Ap m.p.length cp] _ z.out Tryz.underlying56 rfl ax ?_;intro K hK;go_simp;refine hK _ ?_;clear hK K)|quiet_step (first|(go_at_call 133;exact ag _ (u.out _))|(go_at_call 134;exact ah _ (t.out _))|(go_at_call 135;exact ag _ (s.out _))|(go_at_call 136;exact ah _ (l.out _))))
       refine wpQuiet_nil ?_
       intro w3 a
       obtain⟨⟨wq,hbq⟩,a⟩:=a
       have hb2:Below w2.heap.size w2 w3:=by rw[a];exact hbq
       clear a hbq
       have y:=tt (d.out.below hb2)
       clear hb2
       go_wp2_with fail
       go_ret
       exact⟨by rw[g.out];rfl,y.out.be⟩
      |true=>
       cases t4 with
       |false=>
        refine ai (by kernel_rfl) (by kernel_rfl) ?_
        repeat (first|go_big_quiet_step (first|(go_at_call 133;exact ag _ (u.out _))|(go_at_call 134;exact ah _ (t.out _))|(go_at_call 135;exact ag _ (s.out _))|(go_at_call 136;exact ah _ (l.out _)))|(refine aj (by simp[Region.wanted,yielded]) 56 (.tmp 3) (by rfl) w.heap.size (0) (by rfl) [.int .i64 3,.int .i64 m.f,.int .i64 m.v,.int .i64 m.i,.int .i64 m.q,.int .i64 m.r,.slice Ab lb cb,.slice Ao m.o.length co,.slice Ac m.c.length cc,.slice Ap m.p.length cp] _ z.out Tryz.underlying56 rfl ax ?_;intro K hK;go_simp;refine hK _ ?_;clear hK K)|quiet_step (first|(go_at_call 133;exact ag _ (u.out _))|(go_at_call 134;exact ah _ (t.out _))|(go_at_call 135;exact ag _ (s.out _))|(go_at_call 136;exact ah _ (l.out _))))
        refine wpQuiet_nil ?_
        intro w3 a
        obtain⟨⟨wq,hbq⟩,a⟩:=a
        have hb2:Below w2.heap.size w2 w3:=by rw[a];exact hbq
        clear a hbq
        have y:=tt (d.out.below hb2)
        clear hb2
        go_wp2_with fail
        go_ret
        exact⟨by rw[g.out];rfl,y.out.be⟩
       |true=>
        refine ai (by kernel_rfl) (by kernel_rfl) ?_
        repeat (first|go_big_quiet_step (first|(go_at_call 133;exact ag _ (u.out _))|(go_at_call 134;exact ah _ (t.out _))|(go_at_call 135;exact ag _ (s.out _))|(go_at_call 136;exact ah _ (l.out _)))|(refine aj (by simp[Region.wanted,yielded]) 56 (.tmp 3) (by rfl) w.heap.size (0) (by rfl) [.int .i64 3,.int .i64 m.f,.int .i64 m.v,.int .i64 m.i,.int .i64 m.q,.int .i64 m.r,.slice Ab lb cb,.slice Ao m.o.length co,.slice Ac m.c.length cc,.slice Ap m.p.length cp] _ z.out Tryz.underlying56 rfl ax ?_;intro K hK;go_simp;refine hK _ ?_;clear hK K)|quiet_step (first|(go_at_call 133;exact ag _ (u.out _))|(go_at_call 134;exact ah _ (t.out _))|(go_at_call 135;exact ag _ (s.out _))|(go_at_call 136;exact ah _ (l.out _))))
        refine wpQuiet_nil ?_
        intro w3 a
        obtain⟨⟨wq,hbq⟩,a⟩:=a
        have hb2:Below w2.heap.size w2 w3:=by rw[a];exact hbq
        clear a hbq
        have y:=tt (d.out.below hb2)
        clear hb2
        go_wp2_with fail
        go_ret
        exact⟨by rw[g.out];rfl,y.out.be⟩
theorem qm (m:Psp.Msg) (vb vo vc vp:Value) (f cl:Int) (w:World) (P:Nat→Prop) (hx:MsgOk w P ⟨m,vb,vo,vc,vp⟩) (hw:cr m) (hf:Psp.may f=true) (hk:m.k=4):
 Calls Tryz.prog 105 #[.agg #[.int .i64 m.k,.int .i64 m.f,.int .i64 m.v,.int .i64 m.i,.int .i64 m.q,.int .i64 m.r,vb,vo,vc,vp],.int .i64 f,.int .i64 cl] w fun e w'=>e= .returned (.bool (Psp.aF m f cl))∧Below w.heap.size w w':=by
 obtain⟨Ab,Ao,Ac,Ap,cb,co,cc,cp,rfl,rfl,rfl,rfl⟩:=aG hx
 have HX:=tt hx
 have Hw:=tt hw
 obtain⟨nn,hnn⟩:∃q,Psp.aO f=q:=⟨_,rfl⟩
 have B:(nn==0)=false:=by rw[←hnn,bl,hf];rfl
 have HN:Hid (∀W:World,Calls Tryz.prog 13 #[.int .i64 f] W fun e w'=>e= .returned (.int .i64 nn)∧W=w'):=tt fun W=>by rw[←hnn];exact aM f W
 obtain⟨u,t⟩:=Psp.cd f
 rw[hnn] at u t
 obtain⟨g0,hg0⟩:∃x,decide (m.f < 0)=x:=⟨_,rfl⟩
 obtain⟨g1,hg1⟩:∃x,decide (m.f≥nn)=x:=⟨_,rfl⟩
 have hnb:Psp.bB m.f f=(!g0&& !g1):=by unfold Psp.bB;rw[hnn,←hg0,←hg1,Bool.eq_iff_iff,Psp.aN];simp;omega
 obtain⟨t0,ht0⟩:∃x,bx true true true false true false false false m.v m.i m.q m.r m.b.length m.o.length m.c.length m.p.length=x:=⟨_,rfl⟩
 obtain⟨t1,ht1⟩:∃x,Psp.cH m.v m.i m.q f=x:=⟨_,rfl⟩
 obtain⟨t2,ht2⟩:∃x,Psp.bn m.b cl 0 4=x:=⟨_,rfl⟩
 have l:Hid (Psp.aF m f cl=((!g0&& !g1)&&(t0&&(t1&&(t2))))):=tt (by
  unfold Psp.aF
  rw[hf,Bool.true_and,←hnb,hk]
  simp only[Int.reduceEq,if_false,if_true,true_or,or_true]
  congr 1
  rw[←ht0,←ht1,←ht2]
  simp only[Psp.noB,Psp.bZ,bx,Psp.win,Psp.bn,List.all_cons,List.all_nil,Bool.false_or,Bool.true_or,Bool.true_and,Bool.and_true]
  first
   |rfl
   |(rw[Bool.eq_iff_iff];simp[and_assoc];omega)
   |(rw[Bool.eq_iff_iff];simp[and_assoc,and_left_comm,and_comm];try omega))
 have A:=tt ht0
 have z:=tt ht1
 have y:=tt ht2
 clear hx hw hnn hf hnb ht0 ht1 ht2
 have Hk:=tt hk
 rw[hk]
 have s:=tt (Mk.new w #[.int .i64 4,.int .i64 m.f,.int .i64 m.v,.int .i64 m.i,.int .i64 m.q,.int .i64 m.r,.slice Ab m.b.length cb,.slice Ao m.o.length co,.slice Ac m.c.length cc,.slice Ap m.p.length cp])
 go_enter Tryz.func105,Tryz.ntmps105
 go_wp2_with fail
 obtain⟨W0,hW0⟩:∃W,w.alloc (.cells #[.int .i64 4,.int .i64 m.f,.int .i64 m.v,.int .i64 m.i,.int .i64 m.q,.int .i64 m.r,.slice Ab m.b.length cb,.slice Ao m.o.length co,.slice Ac m.c.length cc,.slice Ap m.p.length cp] 56)=W:=⟨_,rfl⟩
 rw[hW0] at s ⊢
 clear hW0 hk
 refine (HN.out _).mono ?_
 rintro e w' ⟨rfl,rfl⟩
 have y0:W0.cell? ⟨w.heap.size,0,none⟩=some (.int .i64 4):=s.out.cell (j:=0) rfl
 go_wp2_with fail
 have y1:=ab (show W0.cell? ⟨w.heap.size,1,none⟩=some (.int .i64 m.f) from s.out.cell (j:=1) rfl)
 have n:Hid (∀p:Later W0,Calls Tryz.prog 13 #[.int .i64 f] p.W fun e w'=>e= .returned (.int .i64 nn)∧p.W=w'):=tt fun p=>HN.out _
 cases g0 with
 |true=>
  refine ai (by kernel_rfl) (by kernel_rfl) ?_
  repeat (first|go_big_quiet_step ((go_at_call 13;exact ah _ (n.out _)))|quiet_step ((go_at_call 13;exact ah _ (n.out _))))
  refine wpQuiet_nil ?_
  intro w2 g
  obtain⟨⟨wq,hbq⟩,g⟩:=g
  have hb2:Below W0.heap.size W0 w2:=by rw[g];exact hbq
  clear g hbq
  have d:=tt (s.out.below hb2)
  clear hb2 y0 y1
  have y0:w2.cell? ⟨w.heap.size,0,none⟩=some (.int .i64 4):=d.out.cell (j:=0) rfl
  go_wp2_with fail
  go_ret
  exact⟨by rw[l.out];rfl,d.out.be⟩
 |false=>
  cases g1 with
  |true=>
   refine ai (by kernel_rfl) (by kernel_rfl) ?_
   repeat (first|go_big_quiet_step ((go_at_call 13;exact ah _ (n.out _)))|quiet_step ((go_at_call 13;exact ah _ (n.out _))))
   refine wpQuiet_nil ?_
   intro w2 g
   obtain⟨⟨wq,hbq⟩,g⟩:=g
   have hb2:Below W0.heap.size W0 w2:=by rw[g];exact hbq
   clear g hbq
   have d:=tt (s.out.below hb2)
   clear hb2 y0 y1
   have y0:w2.cell? ⟨w.heap.size,0,none⟩=some (.int .i64 4):=d.out.cell (j:=0) rfl
   go_wp2_with fail
   go_ret
   exact⟨by rw[l.out];rfl,d.out.be⟩
  |false=>
   refine ai (by kernel_rfl) (by kernel_rfl) ?_
   repeat (first|go_big_quiet_step ((go_at_call 13;exact ah _ (n.out _)))|quiet_step ((go_at_call 13;exact ah _ (n.out _))))
   refine wpQuiet_nil ?_
   intro w2 g
   obtain⟨⟨wq,hbq⟩,g⟩:=g
   have hb2:Below W0.heap.size W0 w2:=by rw[g];exact hbq
   clear g hbq
   have d:=tt (s.out.below hb2)
   clear hb2 y0 y1
   have y0:w2.cell? ⟨w.heap.size,0,none⟩=some (.int .i64 4):=d.out.cell (j:=0) rfl
   have y1:w2.cell? ⟨w.heap.size,1,none⟩=some (.int .i64 m.f):=d.out.cell (j:=1) rfl
   have y2:w2.cell? ⟨w.heap.size,2,none⟩=some (.int .i64 m.v):=d.out.cell (j:=2) rfl
   have y3:w2.cell? ⟨w.heap.size,3,none⟩=some (.int .i64 m.i):=d.out.cell (j:=3) rfl
   have y4:w2.cell? ⟨w.heap.size,4,none⟩=some (.int .i64 m.q):=d.out.cell (j:=4) rfl
   have y5:w2.cell? ⟨w.heap.size,5,none⟩=some (.int .i64 m.r):=d.out.cell (j:=5) rfl
   have y6:w2.cell? ⟨w.heap.size,6,none⟩=some (.slice Ab m.b.length cb):=d.out.cell (j:=6) rfl
   have y7:w2.cell? ⟨w.heap.size,7,none⟩=some (.slice Ao m.o.length co):=d.out.cell (j:=7) rfl
   have y8:w2.cell? ⟨w.heap.size,8,none⟩=some (.slice Ac m.c.length cc):=d.out.cell (j:=8) rfl
   have y9:w2.cell? ⟨w.heap.size,9,none⟩=some (.slice Ap m.p.length cp):=d.out.cell (j:=9) rfl
   go_wp2_with fail
   clear y0 y1 y2 y3 y4 y5 y6 y7 y8 y9
   refine (fX _ _ _ _ _ _ _ _ _ _ _ _ _ _ _ _ _ _ w2).mono ?_
   rw[A.out]
   rintro e v0 ⟨rfl,hb⟩
   have a:=tt (d.out.below hb)
   clear hb
   have y0:v0.cell? ⟨w.heap.size,0,none⟩=some (.int .i64 4):=a.out.cell (j:=0) rfl
   have y1:v0.cell? ⟨w.heap.size,1,none⟩=some (.int .i64 m.f):=a.out.cell (j:=1) rfl
   have y2:v0.cell? ⟨w.heap.size,2,none⟩=some (.int .i64 m.v):=a.out.cell (j:=2) rfl
   have y3:v0.cell? ⟨w.heap.size,3,none⟩=some (.int .i64 m.i):=a.out.cell (j:=3) rfl
   have y4:v0.cell? ⟨w.heap.size,4,none⟩=some (.int .i64 m.q):=a.out.cell (j:=4) rfl
   have y5:v0.cell? ⟨w.heap.size,5,none⟩=some (.int .i64 m.r):=a.out.cell (j:=5) rfl
   have y6:v0.cell? ⟨w.heap.size,6,none⟩=some (.slice Ab m.b.length cb):=a.out.cell (j:=6) rfl
   have y7:v0.cell? ⟨w.heap.size,7,none⟩=some (.slice Ao m.o.length co):=a.out.cell (j:=7) rfl
   have y8:v0.cell? ⟨w.heap.size,8,none⟩=some (.slice Ac m.c.length cc):=a.out.cell (j:=8) rfl
   have y9:v0.cell? ⟨w.heap.size,9,none⟩=some (.slice Ap m.p.length cp):=a.out.cell (j:=9) rfl
   cases t0 with
   |false=>
    go_wp2_with fail
    go_ret
    exact⟨by rw[l.out];rfl,a.out.be⟩
   |true=>
    go_wp2_with fail
    clear y0 y1 y2 y3 y4 y5 y6 y7 y8 y9
    refine (eP m.v m.i m.q f v0).mono ?_
    rw[z.out]
    rintro e w' ⟨rfl,rfl⟩
    have y0:v0.cell? ⟨w.heap.size,0,none⟩=some (.int .i64 4):=a.out.cell (j:=0) rfl
    have y1:v0.cell? ⟨w.heap.size,1,none⟩=some (.int .i64 m.f):=a.out.cell (j:=1) rfl
    have y2:v0.cell? ⟨w.heap.size,2,none⟩=some (.int .i64 m.v):=a.out.cell (j:=2) rfl
    have y3:v0.cell? ⟨w.heap.size,3,none⟩=some (.int .i64 m.i):=a.out.cell (j:=3) rfl
    have y4:v0.cell? ⟨w.heap.size,4,none⟩=some (.int .i64 m.q):=a.out.cell (j:=4) rfl
    have y5:v0.cell? ⟨w.heap.size,5,none⟩=some (.int .i64 m.r):=a.out.cell (j:=5) rfl
    have y6:v0.cell? ⟨w.heap.size,6,none⟩=some (.slice Ab m.b.length cb):=a.out.cell (j:=6) rfl
    have y7:v0.cell? ⟨w.heap.size,7,none⟩=some (.slice Ao m.o.length co):=a.out.cell (j:=7) rfl
    have y8:v0.cell? ⟨w.heap.size,8,none⟩=some (.slice Ac m.c.length cc):=a.out.cell (j:=8) rfl
    have y9:v0.cell? ⟨w.heap.size,9,none⟩=some (.slice Ap m.p.length cp):=a.out.cell (j:=9) rfl
    cases t1 with
    |false=>
     go_wp2_with fail
     go_ret
     exact⟨by rw[l.out];rfl,a.out.be⟩
    |true=>
     go_wp2_with fail
     clear y0 y1 y2 y3 y4 y5 y6 y7 y8 y9
     refine (gh m.b m.b.length (.slice Ab m.b.length cb) cl v0 _ (RdP.keeps HX.out.1 (Keeps.below a.out.be)) rfl).mono ?_
     rw[y.out]
     rintro e v2 ⟨rfl,hb⟩
     have h:=tt (a.out.below hb)
     clear hb
     have y0:v2.cell? ⟨w.heap.size,0,none⟩=some (.int .i64 4):=h.out.cell (j:=0) rfl
     have y1:v2.cell? ⟨w.heap.size,1,none⟩=some (.int .i64 m.f):=h.out.cell (j:=1) rfl
     have y2:v2.cell? ⟨w.heap.size,2,none⟩=some (.int .i64 m.v):=h.out.cell (j:=2) rfl
     have y3:v2.cell? ⟨w.heap.size,3,none⟩=some (.int .i64 m.i):=h.out.cell (j:=3) rfl
     have y4:v2.cell? ⟨w.heap.size,4,none⟩=some (.int .i64 m.q):=h.out.cell (j:=4) rfl
     have y5:v2.cell? ⟨w.heap.size,5,none⟩=some (.int .i64 m.r):=h.out.cell (j:=5) rfl
     have y6:v2.cell? ⟨w.heap.size,6,none⟩=some (.slice Ab m.b.length cb):=h.out.cell (j:=6) rfl
     have y7:v2.cell? ⟨w.heap.size,7,none⟩=some (.slice Ao m.o.length co):=h.out.cell (j:=7) rfl
     have y8:v2.cell? ⟨w.heap.size,8,none⟩=some (.slice Ac m.c.length cc):=h.out.cell (j:=8) rfl
     have y9:v2.cell? ⟨w.heap.size,9,none⟩=some (.slice Ap m.p.length cp):=h.out.cell (j:=9) rfl
     cases t2 with
     |false=>
      go_wp2_with fail
      go_ret
      exact⟨by rw[l.out];rfl,h.out.be⟩
     |true=>
      go_wp2_with fail
      go_ret
      exact⟨by rw[l.out];rfl,h.out.be⟩
theorem ql (m:Psp.Msg) (vb vo vc vp:Value) (f cl:Int) (w:World) (P:Nat→Prop) (hx:MsgOk w P ⟨m,vb,vo,vc,vp⟩) (hw:cr m) (hf:Psp.may f=true) (hk:m.k=5):
 Calls Tryz.prog 105 #[.agg #[.int .i64 m.k,.int .i64 m.f,.int .i64 m.v,.int .i64 m.i,.int .i64 m.q,.int .i64 m.r,vb,vo,vc,vp],.int .i64 f,.int .i64 cl] w fun e w'=>e= .returned (.bool (Psp.aF m f cl))∧Below w.heap.size w w':=by
 obtain⟨Ab,Ao,Ac,Ap,cb,co,cc,cp,rfl,rfl,rfl,rfl⟩:=aG hx
 have HX:=tt hx
 have Hw:=tt hw
 obtain⟨nn,hnn⟩:∃q,Psp.aO f=q:=⟨_,rfl⟩
 have B:(nn==0)=false:=by rw[←hnn,bl,hf];rfl
 have HN:Hid (∀W:World,Calls Tryz.prog 13 #[.int .i64 f] W fun e w'=>e= .returned (.int .i64 nn)∧W=w'):=tt fun W=>by rw[←hnn];exact aM f W
 obtain⟨u,t⟩:=Psp.cd f
 rw[hnn] at u t
 obtain⟨g0,hg0⟩:∃x,decide (m.f < 0)=x:=⟨_,rfl⟩
 obtain⟨g1,hg1⟩:∃x,decide (m.f≥nn)=x:=⟨_,rfl⟩
 have hnb:Psp.bB m.f f=(!g0&& !g1):=by unfold Psp.bB;rw[hnn,←hg0,←hg1,Bool.eq_iff_iff,Psp.aN];simp;omega
 obtain⟨t0,ht0⟩:∃x,bx true true true false true false false false m.v m.i m.q m.r m.b.length m.o.length m.c.length m.p.length=x:=⟨_,rfl⟩
 obtain⟨t1,ht1⟩:∃x,Psp.cH m.v m.i m.q f=x:=⟨_,rfl⟩
 obtain⟨t2,ht2⟩:∃x,Psp.bn m.b cl 0 4=x:=⟨_,rfl⟩
 have l:Hid (Psp.aF m f cl=((!g0&& !g1)&&(t0&&(t1&&(t2))))):=tt (by
  unfold Psp.aF
  rw[hf,Bool.true_and,←hnb,hk]
  simp only[Int.reduceEq,if_false,if_true,true_or,or_true]
  congr 1
  rw[←ht0,←ht1,←ht2]
  simp only[Psp.noB,Psp.bZ,bx,Psp.win,Psp.bn,List.all_cons,List.all_nil,Bool.false_or,Bool.true_or,Bool.true_and,Bool.and_true]
  first
   |rfl
   |(rw[Bool.eq_iff_iff];simp[and_assoc];omega)
   |(rw[Bool.eq_iff_iff];simp[and_assoc,and_left_comm,and_comm];try omega))
 have A:=tt ht0
 have z:=tt ht1
 have y:=tt ht2
 clear hx hw hnn hf hnb ht0 ht1 ht2
 have Hk:=tt hk
 rw[hk]
 have s:=tt (Mk.new w #[.int .i64 5,.int .i64 m.f,.int .i64 m.v,.int .i64 m.i,.int .i64 m.q,.int .i64 m.r,.slice Ab m.b.length cb,.slice Ao m.o.length co,.slice Ac m.c.length cc,.slice Ap m.p.length cp])
 go_enter Tryz.func105,Tryz.ntmps105
 go_wp2_with fail
 obtain⟨W0,hW0⟩:∃W,w.alloc (.cells #[.int .i64 5,.int .i64 m.f,.int .i64 m.v,.int .i64 m.i,.int .i64 m.q,.int .i64 m.r,.slice Ab m.b.length cb,.slice Ao m.o.length co,.slice Ac m.c.length cc,.slice Ap m.p.length cp] 56)=W:=⟨_,rfl⟩
 rw[hW0] at s ⊢
 clear hW0 hk
 refine (HN.out _).mono ?_
 rintro e w' ⟨rfl,rfl⟩
 have y0:W0.cell? ⟨w.heap.size,0,none⟩=some (.int .i64 5):=s.out.cell (j:=0) rfl
 go_wp2_with fail
 have y1:=ab (show W0.cell? ⟨w.heap.size,1,none⟩=some (.int .i64 m.f) from s.out.cell (j:=1) rfl)
 have n:Hid (∀p:Later W0,Calls Tryz.prog 13 #[.int .i64 f] p.W fun e w'=>e= .returned (.int .i64 nn)∧p.W=w'):=tt fun p=>HN.out _
 cases g0 with
 |true=>
  refine ai (by kernel_rfl) (by kernel_rfl) ?_
  repeat (first|go_big_quiet_step ((go_at_call 13;exact ah _ (n.out _)))|quiet_step ((go_at_call 13;exact ah _ (n.out _))))
  refine wpQuiet_nil ?_
  intro w2 g
  obtain⟨⟨wq,hbq⟩,g⟩:=g
  have hb2:Below W0.heap.size W0 w2:=by rw[g];exact hbq
  clear g hbq
  have d:=tt (s.out.below hb2)
  clear hb2 y0 y1
  have y0:w2.cell? ⟨w.heap.size,0,none⟩=some (.int .i64 5):=d.out.cell (j:=0) rfl
  go_wp2_with fail
  go_ret
  exact⟨by rw[l.out];rfl,d.out.be⟩
 |false=>
  cases g1 with
  |true=>
   refine ai (by kernel_rfl) (by kernel_rfl) ?_
   repeat (first|go_big_quiet_step ((go_at_call 13;exact ah _ (n.out _)))|quiet_step ((go_at_call 13;exact ah _ (n.out _))))
   refine wpQuiet_nil ?_
   intro w2 g
   obtain⟨⟨wq,hbq⟩,g⟩:=g
   have hb2:Below W0.heap.size W0 w2:=by rw[g];exact hbq
   clear g hbq
   have d:=tt (s.out.below hb2)
   clear hb2 y0 y1
   have y0:w2.cell? ⟨w.heap.size,0,none⟩=some (.int .i64 5):=d.out.cell (j:=0) rfl
   go_wp2_with fail
   go_ret
   exact⟨by rw[l.out];rfl,d.out.be⟩
  |false=>
   refine ai (by kernel_rfl) (by kernel_rfl) ?_
   repeat (first|go_big_quiet_step ((go_at_call 13;exact ah _ (n.out _)))|quiet_step ((go_at_call 13;exact ah _ (n.out _))))
   refine wpQuiet_nil ?_
   intro w2 g
   obtain⟨⟨wq,hbq⟩,g⟩:=g
   have hb2:Below W0.heap.size W0 w2:=by rw[g];exact hbq
   clear g hbq
   have d:=tt (s.out.below hb2)
   clear hb2 y0 y1
   have y0:w2.cell? ⟨w.heap.size,0,none⟩=some (.int .i64 5):=d.out.cell (j:=0) rfl
   have y1:w2.cell? ⟨w.heap.size,1,none⟩=some (.int .i64 m.f):=d.out.cell (j:=1) rfl
   have y2:w2.cell? ⟨w.heap.size,2,none⟩=some (.int .i64 m.v):=d.out.cell (j:=2) rfl
   have y3:w2.cell? ⟨w.heap.size,3,none⟩=some (.int .i64 m.i):=d.out.cell (j:=3) rfl
   have y4:w2.cell? ⟨w.heap.size,4,none⟩=some (.int .i64 m.q):=d.out.cell (j:=4) rfl
   have y5:w2.cell? ⟨w.heap.size,5,none⟩=some (.int .i64 m.r):=d.out.cell (j:=5) rfl
   have y6:w2.cell? ⟨w.heap.size,6,none⟩=some (.slice Ab m.b.length cb):=d.out.cell (j:=6) rfl
   have y7:w2.cell? ⟨w.heap.size,7,none⟩=some (.slice Ao m.o.length co):=d.out.cell (j:=7) rfl
   have y8:w2.cell? ⟨w.heap.size,8,none⟩=some (.slice Ac m.c.length cc):=d.out.cell (j:=8) rfl
   have y9:w2.cell? ⟨w.heap.size,9,none⟩=some (.slice Ap m.p.length cp):=d.out.cell (j:=9) rfl
   go_wp2_with fail
   clear y0 y1 y2 y3 y4 y5 y6 y7 y8 y9
   refine (fX _ _ _ _ _ _ _ _ _ _ _ _ _ _ _ _ _ _ w2).mono ?_
   rw[A.out]
   rintro e v0 ⟨rfl,hb⟩
   have a:=tt (d.out.below hb)
   clear hb
   have y0:v0.cell? ⟨w.heap.size,0,none⟩=some (.int .i64 5):=a.out.cell (j:=0) rfl
   have y1:v0.cell? ⟨w.heap.size,1,none⟩=some (.int .i64 m.f):=a.out.cell (j:=1) rfl
   have y2:v0.cell? ⟨w.heap.size,2,none⟩=some (.int .i64 m.v):=a.out.cell (j:=2) rfl
   have y3:v0.cell? ⟨w.heap.size,3,none⟩=some (.int .i64 m.i):=a.out.cell (j:=3) rfl
   have y4:v0.cell? ⟨w.heap.size,4,none⟩=some (.int .i64 m.q):=a.out.cell (j:=4) rfl
   have y5:v0.cell? ⟨w.heap.size,5,none⟩=some (.int .i64 m.r):=a.out.cell (j:=5) rfl
   have y6:v0.cell? ⟨w.heap.size,6,none⟩=some (.slice Ab m.b.length cb):=a.out.cell (j:=6) rfl
   have y7:v0.cell? ⟨w.heap.size,7,none⟩=some (.slice Ao m.o.length co):=a.out.cell (j:=7) rfl
   have y8:v0.cell? ⟨w.heap.size,8,none⟩=some (.slice Ac m.c.length cc):=a.out.cell (j:=8) rfl
   have y9:v0.cell? ⟨w.heap.size,9,none⟩=some (.slice Ap m.p.length cp):=a.out.cell (j:=9) rfl
   cases t0 with
   |false=>
    go_wp2_with fail
    go_ret
    exact⟨by rw[l.out];rfl,a.out.be⟩
   |true=>
    go_wp2_with fail
    clear y0 y1 y2 y3 y4 y5 y6 y7 y8 y9
    refine (eP m.v m.i m.q f v0).mono ?_
    rw[z.out]
    rintro e w' ⟨rfl,rfl⟩
    have y0:v0.cell? ⟨w.heap.size,0,none⟩=some (.int .i64 5):=a.out.cell (j:=0) rfl
    have y1:v0.cell? ⟨w.heap.size,1,none⟩=some (.int .i64 m.f):=a.out.cell (j:=1) rfl
    have y2:v0.cell? ⟨w.heap.size,2,none⟩=some (.int .i64 m.v):=a.out.cell (j:=2) rfl
    have y3:v0.cell? ⟨w.heap.size,3,none⟩=some (.int .i64 m.i):=a.out.cell (j:=3) rfl
    have y4:v0.cell? ⟨w.heap.size,4,none⟩=some (.int .i64 m.q):=a.out.cell (j:=4) rfl
    have y5:v0.cell? ⟨w.heap.size,5,none⟩=some (.int .i64 m.r):=a.out.cell (j:=5) rfl
    have y6:v0.cell? ⟨w.heap.size,6,none⟩=some (.slice Ab m.b.length cb):=a.out.cell (j:=6) rfl
    have y7:v0.cell? ⟨w.heap.size,7,none⟩=some (.slice Ao m.o.length co):=a.out.cell (j:=7) rfl
    have y8:v0.cell? ⟨w.heap.size,8,none⟩=some (.slice Ac m.c.length cc):=a.out.cell (j:=8) rfl
    have y9:v0.cell? ⟨w.heap.size,9,none⟩=some (.slice Ap m.p.length cp):=a.out.cell (j:=9) rfl
    cases t1 with
    |false=>
     go_wp2_with fail
     go_ret
     exact⟨by rw[l.out];rfl,a.out.be⟩
    |true=>
     go_wp2_with fail
     clear y0 y1 y2 y3 y4 y5 y6 y7 y8 y9
     refine (gh m.b m.b.length (.slice Ab m.b.length cb) cl v0 _ (RdP.keeps HX.out.1 (Keeps.below a.out.be)) rfl).mono ?_
     rw[y.out]
     rintro e v2 ⟨rfl,hb⟩
     have h:=tt (a.out.below hb)
     clear hb
     have y0:v2.cell? ⟨w.heap.size,0,none⟩=some (.int .i64 5):=h.out.cell (j:=0) rfl
     have y1:v2.cell? ⟨w.heap.size,1,none⟩=some (.int .i64 m.f):=h.out.cell (j:=1) rfl
     have y2:v2.cell? ⟨w.heap.size,2,none⟩=some (.int .i64 m.v):=h.out.cell (j:=2) rfl
     have y3:v2.cell? ⟨w.heap.size,3,none⟩=some (.int .i64 m.i):=h.out.cell (j:=3) rfl
     have y4:v2.cell? ⟨w.heap.size,4,none⟩=some (.int .i64 m.q):=h.out.cell (j:=4) rfl
     have y5:v2.cell? ⟨w.heap.size,5,none⟩=some (.int .i64 m.r):=h.out.cell (j:=5) rfl
     have y6:v2.cell? ⟨w.heap.size,6,none⟩=some (.slice Ab m.b.length cb):=h.out.cell (j:=6) rfl
     have y7:v2.cell? ⟨w.heap.size,7,none⟩=some (.slice Ao m.o.length co):=h.out.cell (j:=7) rfl
     have y8:v2.cell? ⟨w.heap.size,8,none⟩=some (.slice Ac m.c.length cc):=h.out.cell (j:=8) rfl
     have y9:v2.cell? ⟨w.heap.size,9,none⟩=some (.slice Ap m.p.length cp):=h.out.cell (j:=9) rfl
     cases t2 with
     |false=>
      go_wp2_with fail
      go_ret
      exact⟨by rw[l.out];rfl,h.out.be⟩
     |true=>
      go_wp2_with fail
      go_ret
      exact⟨by rw[l.out];rfl,h.out.be⟩
end Go.Proofs.YtipmjleohadoeaaGreat
end
