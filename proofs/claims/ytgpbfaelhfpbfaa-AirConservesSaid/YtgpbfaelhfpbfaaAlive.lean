/- The chapter's examples hold: alive of law39 returns true. -/
import Derived.Test.YtgpbfaelhfpbfaaFor
namespace Go.Proofs.Ytgpbfaelhfpbfaa
open Go.RowKit

theorem Rd.lit (w : World) (l : List Pkt) (cs : Array Value) (g B : Nat) (hcs : cs.toList = row l) (hl : l.length ≤ 2000) (hg : w.heap.size = g) (hB : g < B) : Rd (w.alloc (.cells cs 28)) B (some ⟨g, 0, none⟩) l := by
  subst hg
  have hs : cs.size = l.length * 4 := by rw [← Array.length_toList, hcs, row_length]
  have h := World.ownsRow_lit (base := 0) (e := 28) (size := 4) w cs l.length (Nat.zero_le _) (by unfold maxLen; omega) hs
  rw [hcs] at h
  intro hn
  obtain ⟨b, off, e, hb, hc⟩ := Rd.of_own h hn
  simp at e
  obtain ⟨rfl, rfl⟩ := e
  exact ⟨_, _, rfl, hB, hc⟩
theorem RdI.lit (w : World) (l : List Int) (cs : Array Value) (t : TypeId) (g B : Nat) (hcs : cs.toList = l.map (Value.int .i64)) (hg : w.heap.size = g) (hB : g < B) : RdI (w.alloc (.cells cs t)) B (some ⟨g, 0, none⟩) l := fun _ => by
  subst hg
  refine ⟨_, _, rfl, hB, fun i z hz => ?_⟩
  rw [(Blk.new w t cs).cell, ← Array.getElem?_toList, hcs]
  simp [hz]

def E0 : ByteArray := ⟨#[]⟩
def pP : Pkt := ⟨1, 0, 0, E0⟩
def pQ : Pkt := ⟨2, 0, 0, E0⟩
def pR : Pkt := ⟨3, 5, 0, E0⟩
def pS : Pkt := ⟨4, 0, 0, E0⟩
def pZ : Pkt := ⟨0, 0, 0, E0⟩
def pO : Pkt := ⟨0, 0, 4, E0⟩
def zRow (n : Nat) : Array Value := (row (List.replicate n pZ)).toArray
theorem mk60 (W : World) : (Instr.makeSlice 22 (.int .i64 60) (.int .i64 60)).run Try.prog W = .ok (.slice (some ⟨W.heap.size, 0, none⟩) 60 60) (W.alloc (.cells (zRow 60) 28)) := by kernel_rfl
theorem mk9 (W : World) : (Instr.makeSlice 22 (.int .i64 9) (.int .i64 9)).run Try.prog W = .ok (.slice (some ⟨W.heap.size, 0, none⟩) 9 9) (W.alloc (.cells (zRow 9) 28)) := by kernel_rfl
theorem arr1 : arrF [0, 1, 2, 3] 0 [pP, pQ, pR, pS] = [pP, pS] := by rfl
theorem rem1 : remF [0, 1, 2, 3] 0 [pP, pQ, pR, pS] = [pR.older, pS.older] := by rfl
theorem arr2 : arrF [2, 3] 0 [pO, pO] = [pO] := by rfl
theorem rem2 : remF [2, 3] 0 [pO, pO] = [] := by rfl
theorem sel5 : sel [pP, pR] 5 = [pR] := by rfl
theorem push64 : (pushL (List.replicate 60 pZ) (List.replicate 9 pZ)).length = 64 := by rfl
end Go.Proofs.Ytgpbfaelhfpbfaa
