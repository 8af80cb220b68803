/- Disks, in plain Lean: what a crash leaves. -/
import Derived.Test.YtgmobpngcilgjaaDkP
namespace Go.Pl
open Go
/-- How many loose calls a crash keeps. -/
def Dk.keptI (d : Dk) (keep : Int) : Int := if (d.loose.length : Int) < (if (0 : Int) > keep then 0 else keep) then (d.loose.length : Int) else (if (0 : Int) > keep then 0 else keep)
def Dk.kept (d : Dk) (keep : Int) : Nat := (d.keptI keep).toNat
def Cl.piece : Cl → Int → Option Cl
  | .app n s, torn => if 0 < torn then some (.app n (s.extract 0 (if (s.size : Int) < torn then (s.size : Int) else torn).toNat)) else none
  | _, _ => none
def runO (c : Option Cl) (l : FS) : FS := match c with | some c => c.run l | none => l
def Dk.torn (d : Dk) (k : Nat) (torn : Int) : FS := runO (d.loose[k]?.bind (·.piece torn)) (play d.sure (d.loose.take k))
def Dk.crash (d : Dk) (keep torn : Int) : Dk := { d with files := d.torn (d.kept keep) torn, sure := d.torn (d.kept keep) torn, loose := [], fuse := -1, still := false }

theorem kept_le (d : Dk) (keep : Int) : d.kept keep ≤ d.loose.length ∧ d.keptI keep = (d.kept keep : Int) := by
  unfold Dk.kept Dk.keptI
  split <;> split <;> omega

theorem play_take_succ {l : FS} {cs : List Cl} {k : Nat} {c : Cl} (h : cs[k]? = some c) : play l (cs.take (k + 1)) = c.run (play l (cs.take k)) := by
  rw [List.take_add_one, h]
  show play l (cs.take k ++ [c]) = _
  rw [play_snoc]
def keptV (n : Nat) (keep : Int) : Int := if (n : Int) < (if (0 : Int) > keep then 0 else keep) then (n : Int) else (if (0 : Int) > keep then 0 else keep)
theorem keptI_eq (d : Dk) (keep : Int) : d.keptI keep = keptV d.loose.length keep := rfl

theorem play_nodup : ∀ (cs : List Cl) {l : FS}, (l.map (·.1)).Nodup → ((play l cs).map (·.1)).Nodup
  | [], _, h => h
  | c :: cs, _, h => play_nodup cs (c.nodup h)
theorem runO_nodup (c : Option Cl) {l : FS} (h : (l.map (·.1)).Nodup) : ((runO c l).map (·.1)).Nodup := by
  cases c with
  | none => exact h
  | some c => exact c.nodup h
theorem torn_used {d : Dk} (h : d.Ok) (k : Nat) (t : Int) : fused (d.torn k t) ≤ 16777216 := by
  unfold Dk.torn
  cases hc : d.loose[k]? with
  | none => exact h.few k
  | some c =>
    have hs := play_take_succ (l := d.sure) hc
    have hf := h.few (k + 1)
    rw [hs] at hf
    have h0 := h.few k
    cases c with
    | app n s =>
      by_cases ht : 0 < t
      · have e : (some (Cl.app n s)).bind (·.piece t) = some (.app n (s.extract 0 (if (s.size : Int) < t then (s.size : Int) else t).toNat)) := by simp [Cl.piece, ht]
        rw [e]
        show fused (fput n _ _) ≤ _
        have h1 := fused_put n (ftext n (play d.sure (d.loose.take k)) ++ s.extract 0 (if (s.size : Int) < t then (s.size : Int) else t).toNat) (play d.sure (d.loose.take k))
        have h2 := fused_put n (ftext n (play d.sure (d.loose.take k)) ++ s) (play d.sure (d.loose.take k))
        have hf' : fused (fput n (ftext n (play d.sure (d.loose.take k)) ++ s) (play d.sure (d.loose.take k))) ≤ 16777216 := hf
        rw [ByteArray.size_append] at h1 h2
        have h3 : (s.extract 0 (if (s.size : Int) < t then (s.size : Int) else t).toNat).size ≤ s.size := by rw [ByteArray.size_extract]; omega
        omega
      · have e : (some (Cl.app n s)).bind (·.piece t) = none := by simp [Cl.piece, ht]
        rw [e]; exact h0
    | trunc n s => exact h0
    | ren n s => exact h0
    | rem n => exact h0
theorem Dk.Ok.crash {d : Dk} (h : d.Ok) (keep torn : Int) : (d.crash keep torn).Ok :=
  { room0 := h.room0, roomM := h.roomM, fuse0 := by simp [Dk.crash], fuseM := by simp [Dk.crash], used := torn_used h _ _, play := rfl, seq := trivial,
    nd := runO_nodup _ (play_nodup _ h.nds), nds := runO_nodup _ (play_nodup _ h.nds), few := fun k => by simpa [Dk.crash, Pl.play] using torn_used h (d.kept keep) torn }

/-! ### The chapter's example -/
def sA : BA := ⟨#[97]⟩
def sB : BA := ⟨#[98]⟩
def D0 : Dk := newD 100
def D1 : Dk := (D0.append ⟨#[97]⟩ ⟨#[120, 121]⟩).1
def D2 : Dk := D1.sync.1
def D3 : Dk := (D2.append ⟨#[97]⟩ ⟨#[122, 119]⟩).1
def D4 : Dk := (D3.rename ⟨#[97]⟩ ⟨#[98]⟩).1
def D5 : Dk := D4.crash 0 1
def D6 : Dk := D5.fuseTo 1
def D7 : Dk := (D6.append ⟨#[97]⟩ ⟨#[120]⟩).1
def D8 : Dk := D7.sync.1
theorem D0_ok : D0.Ok := .new (by decide) (by decide)
theorem D1_ok : D1.Ok := D0_ok.append (by decide)
theorem D2_ok : D2.Ok := D1_ok.sync
theorem D3_ok : D3.Ok := D2_ok.append (by decide)
theorem D4_ok : D4.Ok := D3_ok.rename
theorem D5_ok : D5.Ok := D4_ok.crash 0 1
theorem D6_ok : D6.Ok := D5_ok.fuseTo (by decide)
theorem D7_ok : D7.Ok := D6_ok.append (by decide)
theorem D8_ok : D8.Ok := D7_ok.sync
theorem D_a1 : (D0.append ⟨#[97]⟩ ⟨#[120, 121]⟩).2 = 0 := by decide +kernel
theorem D_a2 : D1.sync.2 = 0 := by decide +kernel
theorem D_a3 : (D2.append ⟨#[97]⟩ ⟨#[122, 119]⟩).2 = 0 := by decide +kernel
theorem D_a4 : (D3.rename ⟨#[97]⟩ ⟨#[98]⟩).2 = 0 := by decide +kernel
theorem D_n : D4.loose.length = 2 := by decide +kernel
theorem D_r : (D5.read ⟨#[97]⟩ 0 9).2 = 0 := by decide +kernel
theorem D_s : ((D5.read ⟨#[97]⟩ 0 9).1.toList == (⟨#[120, 121, 122]⟩ : BA).toList) = true := by decide +kernel
theorem D_a6 : (D6.append ⟨#[97]⟩ ⟨#[120]⟩).2 = 0 := by decide +kernel
theorem D_a7 : D7.sync.2 = 20 := by decide +kernel
theorem D_r8 : (D8.read ⟨#[97]⟩ 0 1).2 = 20 := by decide +kernel
theorem D_u : fused D8.files = 4 := by decide +kernel
theorem D_l (d : Dk) (h : d.loose.length = 0 ∨ d.loose.length = 1 ∨ d.loose.length = 2) : d.loose.length ≤ 1099511627776 := by omega
theorem D1_l : D1.loose.length = 1 := by decide +kernel
theorem D2_l : D2.loose.length = 0 := by decide +kernel
theorem D3_l : D3.loose.length = 1 := by decide +kernel
theorem D6_l : D6.loose.length = 0 := by decide +kernel
/-- A step of a script. -/
structure St where
  op : Int
  name : ByteArray
  text : ByteArray
  n : Int
  m : Int
def stV (x : St) : List Value := [.int .i64 x.op, .string x.name, .string x.text, .int .i64 x.n, .int .i64 x.m]
def chg (x : St) : Bool := decide (1 ≤ x.op) && decide (x.op ≤ 4)

end Go.Pl
