/- The chapter's examples: the law's helper works() answers true. -/
import Derived.Test.YtjlcigdhhkfdiaaSumJoined
namespace Go.Proofs.Ytjlcigdhhkfdiaa
open Go.RowKit
open Go.Proofs.YtjlcigdhhkfdiaaW.PrintWords Go.Proofs.YtjlcigdhhkfdiaaW.PrintLast Go.Proofs.YtjlcigdhhkfdiaaW.PrintMore

def sum_Of.f (a0 : ByteArray) : Option Int := sum_More.f 1 a0
theorem sum_Of.calls (a0 : ByteArray) (r : Int) (w : World) (h : sum_Of.f a0 = some r) :
    Calls Try.prog 8 #[.string a0] w fun e w' => e = .returned (.int .u32 r) ∧ Below w.heap.size w w' := by
  go_enter Try.func8, Try.ntmps8
  go_wp2_with fail
  refine (sum_More.calls 1 a0 r _ h).mono ?_
  rintro e w1 ⟨rfl, h1⟩
  have H1 := Lib.hid h1; clear h1
  go_wp2
  go_ret
  exact ⟨rfl, H1.out⟩
theorem of_at (s : ByteArray) (v : Int) (hs : s.size ≤ 9223372036854775807) (hv : moreV 1 s.data.toList = v) (w : World) :
    Calls Try.prog 8 #[.string s] w fun e w' => e = .returned (.int .u32 v) ∧ Below w.heap.size w w' :=
  sum_Of.calls s v w (by simp [sum_Of.f, sum_More.f, hs, hv])
theorem e0 : moreV 1 (⟨#[]⟩ : ByteArray).data.toList = 1 := by decide
theorem e1 : moreV 1 (⟨#[97]⟩ : ByteArray).data.toList = 6422626 := by decide
theorem e2 : moreV 1 (⟨#[97, 98, 99]⟩ : ByteArray).data.toList = 38600999 := by decide
theorem e3 : moreV 1 (⟨#[87, 105, 107, 105, 112, 101, 100, 105, 97]⟩ : ByteArray).data.toList = 300286872 := by decide
theorem e4 : moreV 1 (⟨#[97, 98]⟩ : ByteArray).data.toList = 19267780 := by decide
theorem e5 : moreV 19267780 (⟨#[99]⟩ : ByteArray).data.toList = 38600999 := by decide
theorem e6 : moreV 1 (⟨#[99]⟩ : ByteArray).data.toList = 6553700 := by decide
theorem e7 : joinedV 19267780 6553700 1 = 38600999 := by decide

def foyerlaw03_works.f : Option Bool := some true
set_option maxRecDepth 100000 in
set_option maxHeartbeats 2000000 in
theorem works_walk (w : World) : Calls Try.prog 12 #[] w fun e w' => e = .returned (.bool true) ∧ Below w.heap.size w w' := by
  go_enter Try.func12, Try.ntmps12
  go_wp2_with fail
  refine (of_at _ 1 (by decide) e0 _).mono ?_
  rintro e w1 ⟨rfl, h1⟩
  have H1 := Lib.hid h1; clear h1
  go_wp2_with fail
  refine (of_at _ _ (by decide) e1 _).mono ?_
  rintro e w2 ⟨rfl, h2⟩
  have H2 := Lib.hid (H1.out.trans (h2.mono H1.out.size)); clear h2 H1
  go_wp2_with fail
  refine (of_at _ _ (by decide) e2 _).mono ?_
  rintro e w3 ⟨rfl, h3⟩
  have H3 := Lib.hid (H2.out.trans (h3.mono H2.out.size)); clear h3 H2
  go_wp2_with fail
  refine (of_at _ _ (by decide) e3 _).mono ?_
  rintro e w4 ⟨rfl, h4⟩
  have H4 := Lib.hid (H3.out.trans (h4.mono H3.out.size)); clear h4 H3
  go_wp2_with fail
  refine (of_at _ _ (by decide) e4 _).mono ?_
  rintro e w5 ⟨rfl, h5⟩
  have H5 := Lib.hid (H4.out.trans (h5.mono H4.out.size)); clear h5 H4
  go_wp2_with fail
  refine (sum_More.calls 19267780 ⟨#[99]⟩ 38600999 _ (by rw [sum_More.f, if_pos (by decide), e5])).mono ?_
  rintro e w6 ⟨rfl, h6⟩
  have H6 := Lib.hid (H5.out.trans (h6.mono H5.out.size)); clear h6 H5
  go_wp2_with fail
  refine (of_at _ _ (by decide) e4 _).mono ?_
  rintro e w7 ⟨rfl, h7⟩
  have H7 := Lib.hid (H6.out.trans (h7.mono H6.out.size)); clear h7 H6
  go_wp2_with fail
  refine (of_at _ _ (by decide) e6 _).mono ?_
  rintro e w8 ⟨rfl, h8⟩
  have H8 := Lib.hid (H7.out.trans (h8.mono H7.out.size)); clear h8 H7
  go_wp2_with fail
  refine (sum_Joined.calls 19267780 6553700 1 38600999 _ (by rw [sum_Joined.f, e7])).mono ?_
  rintro e w9 ⟨rfl, h9⟩
  have H9 := Lib.hid (H8.out.trans (h9.mono H8.out.size)); clear h9 H8
  go_wp2
  go_ret
  exact ⟨rfl, H9.out⟩
theorem foyerlaw03_works.calls (r : Bool) (w : World) (h : foyerlaw03_works.f = some r) : Calls Try.prog 12 #[] w fun e w' => e = .returned (.bool r) ∧ Below w.heap.size w w' := by
  obtain rfl := Option.some.inj h
  exact works_walk w
end Go.Proofs.Ytjlcigdhhkfdiaa
