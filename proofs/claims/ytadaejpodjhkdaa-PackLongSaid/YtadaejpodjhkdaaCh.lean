/- What is taken one behind the other. Plain. Printed by gen_rd.py. -/
import Derived.Test.YtadaejpodjhkdaaRd
namespace Go.Proofs.Ytadaejpodjhkdaa
open Psp
theorem chain_V {b : List UInt8} {o : Option Int} {n : Int} {s : Int} (hn : Psp.Is dN b o n) (hs : Psp.Is dN b (Psp.nxt dN b o) s) :
    Psp.Is Psp.dV b o ⟨n, s⟩ ∧ Psp.nxt Psp.dV b o = (Psp.nxt dN b (Psp.nxt dN b o)) := by
  cases o with
  | none => exact ⟨Psp.is_none _ _ _, rfl⟩
  | some a0 =>
    cases g0 : dN b a0 with
    | none =>
      have hd : Psp.dV b a0 = none := by simp [Psp.dV, g0]
      refine ⟨Psp.is_no hd _, ?_⟩
      rw [Psp.nxt_no hd]
      simp [Psp.nxt, g0]
    | some p0 =>
      obtain ⟨y0, a1⟩ := p0
      have e0 : n = y0 := hn (y0, a1) (by simp [g0])
      subst e0
      cases g1 : dN b a1 with
      | none =>
        have hd : Psp.dV b a0 = none := by simp [Psp.dV, g0, g1]
        refine ⟨Psp.is_no hd _, ?_⟩
        rw [Psp.nxt_no hd]
        simp [Psp.nxt, g0, g1]
      | some p1 =>
        obtain ⟨y1, a2⟩ := p1
        have e1 : s = y1 := hs (y1, a2) (by simp [Psp.nxt, g0, g1])
        subst e1
        have hd : Psp.dV b a0 = some (⟨n, s⟩, a2) := by simp [Psp.dV, g0, g1]
        refine ⟨Psp.is_yes hd, ?_⟩
        rw [Psp.nxt_yes hd]
        simp [Psp.nxt, g0, g1]
theorem chain_R {b : List UInt8} {o : Option Int} {c : Int} {t : Int} {k : Int} {y : Int} {v : Int} {s : Int} (hc : Psp.Is dN b o c) (ht : Psp.Is dN b (Psp.nxt dN b o) t) (hk : Psp.Is dN b (Psp.nxt dN b (Psp.nxt dN b o)) k) (hy : Psp.Is Psp.dS b (Psp.nxt dN b (Psp.nxt dN b (Psp.nxt dN b o))) y) (hv : Psp.Is Psp.dS b (Psp.nxt Psp.dS b (Psp.nxt dN b (Psp.nxt dN b (Psp.nxt dN b o)))) v) (hs : Psp.Is dN b (Psp.nxt Psp.dS b (Psp.nxt Psp.dS b (Psp.nxt dN b (Psp.nxt dN b (Psp.nxt dN b o))))) s) :
    Psp.Is Psp.dR b o ⟨c, t, k, y, v, s⟩ ∧ Psp.nxt Psp.dR b o = (Psp.nxt dN b (Psp.nxt Psp.dS b (Psp.nxt Psp.dS b (Psp.nxt dN b (Psp.nxt dN b (Psp.nxt dN b o)))))) := by
  cases o with
  | none => exact ⟨Psp.is_none _ _ _, rfl⟩
  | some a0 =>
    cases g0 : dN b a0 with
    | none =>
      have hd : Psp.dR b a0 = none := by simp [Psp.dR, g0]
      refine ⟨Psp.is_no hd _, ?_⟩
      rw [Psp.nxt_no hd]
      simp [Psp.nxt, g0]
    | some p0 =>
      obtain ⟨y0, a1⟩ := p0
      have e0 : c = y0 := hc (y0, a1) (by simp [g0])
      subst e0
      cases g1 : dN b a1 with
      | none =>
        have hd : Psp.dR b a0 = none := by simp [Psp.dR, g0, g1]
        refine ⟨Psp.is_no hd _, ?_⟩
        rw [Psp.nxt_no hd]
        simp [Psp.nxt, g0, g1]
      | some p1 =>
        obtain ⟨y1, a2⟩ := p1
        have e1 : t = y1 := ht (y1, a2) (by simp [Psp.nxt, g0, g1])
        subst e1
        cases g2 : dN b a2 with
        | none =>
          have hd : Psp.dR b a0 = none := by simp [Psp.dR, g0, g1, g2]
          refine ⟨Psp.is_no hd _, ?_⟩
          rw [Psp.nxt_no hd]
          simp [Psp.nxt, g0, g1, g2]
        | some p2 =>
          obtain ⟨y2, a3⟩ := p2
          have e2 : k = y2 := hk (y2, a3) (by simp [Psp.nxt, g0, g1, g2])
          subst e2
          cases g3 : Psp.dS b a3 with
          | none =>
            have hd : Psp.dR b a0 = none := by simp [Psp.dR, g0, g1, g2, g3]
            refine ⟨Psp.is_no hd _, ?_⟩
            rw [Psp.nxt_no hd]
            simp [Psp.nxt, g0, g1, g2, g3]
          | some p3 =>
            obtain ⟨y3, a4⟩ := p3
            have e3 : y = y3 := hy (y3, a4) (by simp [Psp.nxt, g0, g1, g2, g3])
            subst e3
            cases g4 : Psp.dS b a4 with
            | none =>
              have hd : Psp.dR b a0 = none := by simp [Psp.dR, g0, g1, g2, g3, g4]
              refine ⟨Psp.is_no hd _, ?_⟩
              rw [Psp.nxt_no hd]
              simp [Psp.nxt, g0, g1, g2, g3, g4]
            | some p4 =>
              obtain ⟨y4, a5⟩ := p4
              have e4 : v = y4 := hv (y4, a5) (by simp [Psp.nxt, g0, g1, g2, g3, g4])
              subst e4
              cases g5 : dN b a5 with
              | none =>
                have hd : Psp.dR b a0 = none := by simp [Psp.dR, g0, g1, g2, g3, g4, g5]
                refine ⟨Psp.is_no hd _, ?_⟩
                rw [Psp.nxt_no hd]
                simp [Psp.nxt, g0, g1, g2, g3, g4, g5]
              | some p5 =>
                obtain ⟨y5, a6⟩ := p5
                have e5 : s = y5 := hs (y5, a6) (by simp [Psp.nxt, g0, g1, g2, g3, g4, g5])
                subst e5
                have hd : Psp.dR b a0 = some (⟨c, t, k, y, v, s⟩, a6) := by simp [Psp.dR, g0, g1, g2, g3, g4, g5]
                refine ⟨Psp.is_yes hd, ?_⟩
                rw [Psp.nxt_yes hd]
                simp [Psp.nxt, g0, g1, g2, g3, g4, g5]
theorem chain_C {b : List UInt8} {o : Option Int} {v : Int} {i : Int} {q : Int} {l : List Psp.Req} {m : List Psp.Vote} (hv : Psp.Is dN b o v) (hi : Psp.Is dN b (Psp.nxt dN b o) i) (hq : Psp.Is dN b (Psp.nxt dN b (Psp.nxt dN b o)) q) (hl : Psp.Is (Psp.dL Psp.dR) b (Psp.nxt dN b (Psp.nxt dN b (Psp.nxt dN b o))) l) (hm : Psp.Is (Psp.dL Psp.dV) b (Psp.nxt (Psp.dL Psp.dR) b (Psp.nxt dN b (Psp.nxt dN b (Psp.nxt dN b o)))) m) :
    Psp.Is Psp.dC b o ⟨v, i, q, l, m⟩ ∧ Psp.nxt Psp.dC b o = (Psp.nxt (Psp.dL Psp.dV) b (Psp.nxt (Psp.dL Psp.dR) b (Psp.nxt dN b (Psp.nxt dN b (Psp.nxt dN b o))))) := by
  cases o with
  | none => exact ⟨Psp.is_none _ _ _, rfl⟩
  | some a0 =>
    cases g0 : dN b a0 with
    | none =>
      have hd : Psp.dC b a0 = none := by simp [Psp.dC, g0]
      refine ⟨Psp.is_no hd _, ?_⟩
      rw [Psp.nxt_no hd]
      simp [Psp.nxt, g0]
    | some p0 =>
      obtain ⟨y0, a1⟩ := p0
      have e0 : v = y0 := hv (y0, a1) (by simp [g0])
      subst e0
      cases g1 : dN b a1 with
      | none =>
        have hd : Psp.dC b a0 = none := by simp [Psp.dC, g0, g1]
        refine ⟨Psp.is_no hd _, ?_⟩
        rw [Psp.nxt_no hd]
        simp [Psp.nxt, g0, g1]
      | some p1 =>
        obtain ⟨y1, a2⟩ := p1
        have e1 : i = y1 := hi (y1, a2) (by simp [Psp.nxt, g0, g1])
        subst e1
        cases g2 : dN b a2 with
        | none =>
          have hd : Psp.dC b a0 = none := by simp [Psp.dC, g0, g1, g2]
          refine ⟨Psp.is_no hd _, ?_⟩
          rw [Psp.nxt_no hd]
          simp [Psp.nxt, g0, g1, g2]
        | some p2 =>
          obtain ⟨y2, a3⟩ := p2
          have e2 : q = y2 := hq (y2, a3) (by simp [Psp.nxt, g0, g1, g2])
          subst e2
          cases g3 : (Psp.dL Psp.dR) b a3 with
          | none =>
            have hd : Psp.dC b a0 = none := by simp [Psp.dC, g0, g1, g2, g3]
            refine ⟨Psp.is_no hd _, ?_⟩
            rw [Psp.nxt_no hd]
            simp [Psp.nxt, g0, g1, g2, g3]
          | some p3 =>
            obtain ⟨y3, a4⟩ := p3
            have e3 : l = y3 := hl (y3, a4) (by simp [Psp.nxt, g0, g1, g2, g3])
            subst e3
            cases g4 : (Psp.dL Psp.dV) b a4 with
            | none =>
              have hd : Psp.dC b a0 = none := by simp [Psp.dC, g0, g1, g2, g3, g4]
              refine ⟨Psp.is_no hd _, ?_⟩
              rw [Psp.nxt_no hd]
              simp [Psp.nxt, g0, g1, g2, g3, g4]
            | some p4 =>
              obtain ⟨y4, a5⟩ := p4
              have e4 : m = y4 := hm (y4, a5) (by simp [Psp.nxt, g0, g1, g2, g3, g4])
              subst e4
              have hd : Psp.dC b a0 = some (⟨v, i, q, l, m⟩, a5) := by simp [Psp.dC, g0, g1, g2, g3, g4]
              refine ⟨Psp.is_yes hd, ?_⟩
              rw [Psp.nxt_yes hd]
              simp [Psp.nxt, g0, g1, g2, g3, g4]
theorem chain_P {b : List UInt8} {o : Option Int} {f : Int} {m : List Psp.Vote} {l : List Psp.Cert} {s : Int} (hf : Psp.Is dN b o f) (hm : Psp.Is (Psp.dL Psp.dV) b (Psp.nxt dN b o) m) (hl : Psp.Is (Psp.dL Psp.dC) b (Psp.nxt (Psp.dL Psp.dV) b (Psp.nxt dN b o)) l) (hs : Psp.Is dN b (Psp.nxt (Psp.dL Psp.dC) b (Psp.nxt (Psp.dL Psp.dV) b (Psp.nxt dN b o))) s) :
    Psp.Is Psp.dP b o ⟨f, m, l, s⟩ ∧ Psp.nxt Psp.dP b o = (Psp.nxt dN b (Psp.nxt (Psp.dL Psp.dC) b (Psp.nxt (Psp.dL Psp.dV) b (Psp.nxt dN b o)))) := by
  cases o with
  | none => exact ⟨Psp.is_none _ _ _, rfl⟩
  | some a0 =>
    cases g0 : dN b a0 with
    | none =>
      have hd : Psp.dP b a0 = none := by simp [Psp.dP, g0]
      refine ⟨Psp.is_no hd _, ?_⟩
      rw [Psp.nxt_no hd]
      simp [Psp.nxt, g0]
    | some p0 =>
      obtain ⟨y0, a1⟩ := p0
      have e0 : f = y0 := hf (y0, a1) (by simp [g0])
      subst e0
      cases g1 : (Psp.dL Psp.dV) b a1 with
      | none =>
        have hd : Psp.dP b a0 = none := by simp [Psp.dP, g0, g1]
        refine ⟨Psp.is_no hd _, ?_⟩
        rw [Psp.nxt_no hd]
        simp [Psp.nxt, g0, g1]
      | some p1 =>
        obtain ⟨y1, a2⟩ := p1
        have e1 : m = y1 := hm (y1, a2) (by simp [Psp.nxt, g0, g1])
        subst e1
        cases g2 : (Psp.dL Psp.dC) b a2 with
        | none =>
          have hd : Psp.dP b a0 = none := by simp [Psp.dP, g0, g1, g2]
          refine ⟨Psp.is_no hd _, ?_⟩
          rw [Psp.nxt_no hd]
          simp [Psp.nxt, g0, g1, g2]
        | some p2 =>
          obtain ⟨y2, a3⟩ := p2
          have e2 : l = y2 := hl (y2, a3) (by simp [Psp.nxt, g0, g1, g2])
          subst e2
          cases g3 : dN b a3 with
          | none =>
            have hd : Psp.dP b a0 = none := by simp [Psp.dP, g0, g1, g2, g3]
            refine ⟨Psp.is_no hd _, ?_⟩
            rw [Psp.nxt_no hd]
            simp [Psp.nxt, g0, g1, g2, g3]
          | some p3 =>
            obtain ⟨y3, a4⟩ := p3
            have e3 : s = y3 := hs (y3, a4) (by simp [Psp.nxt, g0, g1, g2, g3])
            subst e3
            have hd : Psp.dP b a0 = some (⟨f, m, l, s⟩, a4) := by simp [Psp.dP, g0, g1, g2, g3]
            refine ⟨Psp.is_yes hd, ?_⟩
            rw [Psp.nxt_yes hd]
            simp [Psp.nxt, g0, g1, g2, g3]
end Go.Proofs.Ytadaejpodjhkdaa
