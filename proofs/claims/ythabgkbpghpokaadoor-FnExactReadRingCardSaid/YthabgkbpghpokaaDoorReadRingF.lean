/- The functions that the law reaches, as the evaluator tells them, each with its contract. No condition. -/
import Derived.Test.YthabgkbpghpokaaDoorEvSplit
import Derived.Test.YthabgkbpghpokaaDoorProg
import Derived.Test.YthabgkbpghpokaaDoorShelf
set_option maxRecDepth 1000000
set_option linter.unusedVariables false
namespace Go.Proofs.YthabgkbpghpokaaDoor.Ev
open Go
variable [Mx]
noncomputable def gl_ : Nat → Option (List Value) := look [(3, Lib.pow10Tab.map (Value.int .u64)), (0, [.int .i64 Mx.mx])]
def ki_ (n : Nat) : List (K × Nat) := List.replicate n (.int .i64, 0)
def ap1_ (f : Int → Option (List D)) (ds : List D) : Option (List D) := f (gi ds 0)
def ap2_ (f : Int → Int → Option (List D)) (ds : List D) : Option (List D) := f (gi ds 0) (gi ds 1)
def ap3_ (f : Int → Int → Int → Option (List D)) (ds : List D) : Option (List D) := f (gi ds 0) (gi ds 1) (gi ds 2)
def ap4_ (f : Int → Int → Int → Int → Option (List D)) (ds : List D) : Option (List D) := f (gi ds 0) (gi ds 1) (gi ds 2) (gi ds 3)
abbrev SO_ (n : Nat) (sp : Spec) : Prop := SpecOk Tryd.prog gl_ n sp
noncomputable section
def T0 (k : Nat) : List (Nat × Spec) := []
theorem S0 (k : Nat) : Specs Tryd.prog gl_ (T0 k) := Specs.nil
noncomputable def strings_Split.sp (k : Nat) : Spec := splitA.sp 9
theorem strings_Split.spec (k : Nat) : SpecOk Tryd.prog gl_ 12 (strings_Split.sp k) := splitA_ok (fn := Tryd.f12) (by kernel_rfl) (by kernel_rfl) (by kernel_rfl) (t9 := Tryd.lays146M_ren.t 9) (g := Tryd.lays146M_ren.g 1) (mx := Mx.mx) (by kernel_rfl) (by kernel_rfl) (fun a b m w h0 h1 h2 => Any.strings_Split { Tryd.lays146M with } Tryd.lays146M.i9 a b m w h0 h1 h2)
noncomputable def strings_Cut.sp (k : Nat) : Spec := cutA.sp k
theorem strings_Cut.spec (k : Nat) : SpecOk Tryd.prog gl_ 22 (strings_Cut.sp k) := cutA_ok k (fn := Tryd.f22) (by kernel_rfl) (by kernel_rfl) (by kernel_rfl) (g := Tryd.lays145M_ren.g 1) (mx := Mx.mx) (by kernel_rfl) (fun a b m w h0 h1 => Any.strings_Cut { Tryd.lays145M with } a b m w h0 h1)
noncomputable def strings_Trim.sp (k : Nat) : Spec := trimA.sp k
theorem strings_Trim.spec (k : Nat) : SpecOk Tryd.prog gl_ 47 (strings_Trim.sp k) := trimA_ok k (fn := Tryd.f47) (by kernel_rfl) (by kernel_rfl) (by kernel_rfl) (fun a b w h0 h1 h2 => Any.strings_Trim_laid Tryd.lays160 (by kernel_rfl) a b w h0 h1 h2)
noncomputable def strconv_FormatInt.sp (k : Nat) : Spec := fmtInt.sp k
theorem strconv_FormatInt.spec (k : Nat) : SpecOk Tryd.prog gl_ 72 (strconv_FormatInt.sp k) := fmtInt_ok k (fn := Tryd.f72) (by kernel_rfl) (by kernel_rfl) (by kernel_rfl) (g := 3) (by kernel_rfl) (by kernel_rfl) (fun a h0 h1 w ht => (Any.strconv_FormatInt_10 Tryd.lays173M a h0 h1 w ht).mono fun _ _ he => he)
noncomputable def strings_Repeat.sp (k : Nat) : Spec := repA.sp k
theorem strings_Repeat.spec (k : Nat) : SpecOk Tryd.prog gl_ 65 (strings_Repeat.sp k) := repA_ok k (fn := Tryd.f65) (by kernel_rfl) (by kernel_rfl) (by kernel_rfl) (fun a n w h0 h1 => Any.strings_Repeat Tryd.lays105 Tryd.Builder_Extra_105 a n w (by omega) h1)
def T1 (k : Nat) : List (Nat × Spec) := (12, strings_Split.sp k) :: (22, strings_Cut.sp k) :: (47, strings_Trim.sp k) :: (72, strconv_FormatInt.sp k) :: (65, strings_Repeat.sp k) :: T0 k
theorem S1 (k : Nat) : Specs Tryd.prog gl_ (T1 k) := .cons (strings_Split.spec k) (.cons (strings_Cut.spec k) (.cons (strings_Trim.spec k) (.cons (strconv_FormatInt.spec k) (.cons (strings_Repeat.spec k) ((S0 k))))))
def spec_l01Split_l0 (k : Nat) : Nat → ByteArray → Int → List (List D) → List (List D) → Int → Int → Option (List D)
  | 0, _, _, _, _, _, _ => none
  | n + 1, x0, x1, x2, x3, x4, x5 => let v1 : Bool := (ltI x5 ((ByteArray.size x0 : Nat) : Int)); (bif v1 then (bif (inR x5 ((ByteArray.size x0 : Nat) : Int)) then (bif ((bt x0 x5) == x1) then (bif (inS x4 x5 ((ByteArray.size x0 : Nat) : Int)) then let v2 : ByteArray := ByteArray.extract x0 (Int.toNat x4) (Int.toNat x5); (bif (apOk (x3.length + (List.length (α := List D) [[.s v2]])) 16) then spec_l01Split_l0 k n x0 x1 x2 (x3 ++ [[.s v2]]) (IntKind.wrap .i64 (x5 + 1)) (IntKind.wrap .i64 (x5 + 1)) else none) else none) else spec_l01Split_l0 k n x0 x1 x2 x3 x4 (IntKind.wrap .i64 (x5 + 1))) else none) else some [.i 0, .s x0, .i x1, .l x2, .l x3, .i x4, .i x5])
def spec_l01Split (k : Nat) (a0 : ByteArray) (a1 : Int) : Option (List D) := (spec_l01Split_l0 k k a0 a1 [] [] 0 0).bind fun t3 => (bif (inS (gi t3 5) ((ByteArray.size (gs t3 1) : Nat) : Int) ((ByteArray.size (gs t3 1) : Nat) : Int)) then let v4 : ByteArray := ByteArray.extract (gs t3 1) (Int.toNat (gi t3 5)) (Int.toNat ((ByteArray.size (gs t3 1) : Nat) : Int)); (bif (apOk ((gl t3 4).length + (List.length (α := List D) [[.s v4]])) 16) then some [.l ((gl t3 4) ++ [[.s v4]])] else none) else none)
def spec_l01Split.sp (k : Nat) : Spec := ⟨[qs, (0, [.int .u8])], [(false, [(.sl 9, 1)])], fun ds => spec_l01Split k (gs ds 0) (gi ds 1)⟩
def spec_l01Split.lp0 (k : Nat) : Loop := ⟨[(0, 0, [(.str, 0)]), (1, 0, [(.int .u8, 0)]), (4, 0, [(.sl 9, 0)]), (5, 0, [(.sl 9, 1)]), (6, 0, [(.int .i64, 0)]), (7, 0, [(.int .i64, 0)])], [0], fun n ds => spec_l01Split_l0 k n (gs ds 0) (gi ds 1) (gl ds 2) (gl ds 3) (gi ds 4) (gi ds 5)⟩
def spec_l01Split.env (k : Nat) : Env := ⟨Tryd.prog, k, look (T1 k), look [(0, spec_l01Split.lp0 k)], gl_, 35, isIn []⟩
theorem spec_l01Split.ok0 (k : Nat) : LoopOk (spec_l01Split.env k) ((loopsOf ((Tryd.f9.body).getD .skip)).getD 0 (0, .skip)) := fun lp h => by
  obtain rfl := Option.some.inj ((show (spec_l01Split.env k).loop 0 = some (spec_l01Split.lp0 k) by kernel_rfl).symm.trans h)
  exact ⟨fun n ds => by kernel_rfl, fun ds => by kernel_rfl⟩
theorem spec_l01Split.spec (k : Nat) : SpecOk Tryd.prog gl_ 9 (spec_l01Split.sp k) := fn_spec (E := spec_l01Split.env k) (fn := Tryd.f9) (S1 k) rfl rfl (by kernel_rfl) (by kernel_rfl) (.cons (spec_l01Split.ok0 k) (.nil (by kernel_rfl))) (fun ds => by kernel_rfl)
def spec_l01Dec_l0 (k : Nat) : Nat → Int → ByteArray → List (List D) → Int → Option (List D)
  | 0, _, _, _, _ => none
  | n + 1, x0, x1, x2, x3 => (bif (x3 != 0) then (bif (ltI (Int.tmod x3 10) 0) then let v1 : Int := IntKind.wrap .i64 (48 + (IntKind.wrap .i64 (0 - (Int.tmod x3 10)))); (bif (apOk ((List.length (α := List D) [[.i (IntKind.wrap .u8 v1)]]) + x2.length) 1) then spec_l01Dec_l0 k n x0 x1 ([[.i (IntKind.wrap .u8 v1)]] ++ x2) (IntKind.wrap .i64 (Int.tdiv x3 10)) else none) else let v2 : Int := IntKind.wrap .i64 (48 + (Int.tmod x3 10)); (bif (apOk ((List.length (α := List D) [[.i (IntKind.wrap .u8 v2)]]) + x2.length) 1) then spec_l01Dec_l0 k n x0 x1 ([[.i (IntKind.wrap .u8 v2)]] ++ x2) (IntKind.wrap .i64 (Int.tdiv x3 10)) else none)) else some [.i 0, .i x0, .s x1, .l x2, .i x3])
def spec_l01Dec (k : Nat) (a0 : Int) : Option (List D) := (spec_l01Dec_l0 k k a0 (⟨#[]⟩ : ByteArray) [] a0).bind fun t3 => let v4 : Bool := (((List.length (gl t3 3) : Nat) : Int) == 0); (bif v4 then some [.s (⟨#[48]⟩ : ByteArray)] else (bif (ltI (gi t3 1) 0) then (bif (leN ((⟨#[45]⟩ : ByteArray).size + (bytesD (gl t3 3)).size) 140737488355328) then let v5 : ByteArray := ((⟨#[45]⟩ : ByteArray) ++ (bytesD (gl t3 3))); some [.s v5] else none) else some [.s (bytesD (gl t3 3))]))
def spec_l01Dec.sp (k : Nat) : Spec := ⟨[qi], [rs_], ap1_ (spec_l01Dec k)⟩
def spec_l01Dec.lp0 (k : Nat) : Loop := ⟨[(0, 0, [(.int .i64, 0)]), (2, 0, [(.str, 0)]), (3, 0, [(.sl 5, 1)]), (4, 0, [(.int .i64, 0)])], [0], fun n ds => spec_l01Dec_l0 k n (gi ds 0) (gs ds 1) (gl ds 2) (gi ds 3)⟩
def spec_l01Dec.env (k : Nat) : Env := ⟨Tryd.prog, k, look (T1 k), look [(0, spec_l01Dec.lp0 k)], gl_, 34, isIn []⟩
theorem spec_l01Dec.ok0 (k : Nat) : LoopOk (spec_l01Dec.env k) ((loopsOf ((Tryd.f40.body).getD .skip)).getD 0 (0, .skip)) := fun lp h => by
  obtain rfl := Option.some.inj ((show (spec_l01Dec.env k).loop 0 = some (spec_l01Dec.lp0 k) by kernel_rfl).symm.trans h)
  exact ⟨fun n ds => by kernel_rfl, fun ds => by kernel_rfl⟩
theorem spec_l01Dec.spec (k : Nat) : SpecOk Tryd.prog gl_ 40 (spec_l01Dec.sp k) := fn_spec (E := spec_l01Dec.env k) (fn := Tryd.f40) (S1 k) rfl rfl (by kernel_rfl) (by kernel_rfl) (.cons (spec_l01Dec.ok0 k) (.nil (by kernel_rfl))) (fun ds => by kernel_rfl)
def spec_l11Digits_l0 (k : Nat) : Nat → Int → Int → ByteArray → ByteArray → Option (List D)
  | 0, _, _, _, _ => none
  | n + 1, x0, x1, x2, x3 => (bif (ltI 0 x1) then let v1 : Int := IntKind.wrap .i64 (48 + (Int.tmod x0 10)); (bif (leN ((bytesD [[.i (IntKind.wrap .u8 v1)]]).size + x3.size) 140737488355328) then let v2 : ByteArray := ((bytesD [[.i (IntKind.wrap .u8 v1)]]) ++ x3); spec_l11Digits_l0 k n (IntKind.wrap .i64 (Int.tdiv x0 10)) (IntKind.wrap .i64 (x1 - 1)) x2 v2 else none) else some [.i 0, .i x0, .i x1, .s x2, .s x3])
def spec_l11Digits (k : Nat) (a0 a1 : Int) : Option (List D) := (spec_l11Digits_l0 k k a0 a1 (⟨#[]⟩ : ByteArray) (⟨#[]⟩ : ByteArray)).bind fun t3 => some [.s (gs t3 4)]
def spec_l11Digits.sp (k : Nat) : Spec := ⟨[qi, qi], [rs_], ap2_ (spec_l11Digits k)⟩
def spec_l11Digits.lp0 (k : Nat) : Loop := ⟨[(0, 0, [(.int .i64, 0)]), (1, 0, [(.int .i64, 0)]), (4, 0, [(.str, 0)]), (5, 0, [(.str, 0)])], [0], fun n ds => spec_l11Digits_l0 k n (gi ds 0) (gi ds 1) (gs ds 2) (gs ds 3)⟩
def spec_l11Digits.env (k : Nat) : Env := ⟨Tryd.prog, k, look (T1 k), look [(0, spec_l11Digits.lp0 k)], gl_, 21, isIn []⟩
theorem spec_l11Digits.ok0 (k : Nat) : LoopOk (spec_l11Digits.env k) ((loopsOf ((Tryd.f41.body).getD .skip)).getD 0 (0, .skip)) := fun lp h => by
  obtain rfl := Option.some.inj ((show (spec_l11Digits.env k).loop 0 = some (spec_l11Digits.lp0 k) by kernel_rfl).symm.trans h)
  exact ⟨fun n ds => by kernel_rfl, fun ds => by kernel_rfl⟩
theorem spec_l11Digits.spec (k : Nat) : SpecOk Tryd.prog gl_ 41 (spec_l11Digits.sp k) := fn_spec (E := spec_l11Digits.env k) (fn := Tryd.f41) (S1 k) rfl rfl (by kernel_rfl) (by kernel_rfl) (.cons (spec_l11Digits.ok0 k) (.nil (by kernel_rfl))) (fun ds => by kernel_rfl)
def spec_l00In (k : Nat) (a0 a1 a2 : Int) : Option (List D) := (bif (leI a1 a0) then some [.b (leI a0 a2)] else some [.b false])
def spec_l00In.sp (k : Nat) : Spec := ⟨[qi, qi, qi], [rb_], ap3_ (spec_l00In k)⟩
theorem spec_l00In.spec (k : Nat) : SO_ 18 (spec_l00In.sp k) := fs k 15 Tryd.f18 (S1 k) (by kernel_rfl)
def spec_l24Next (k : Nat) (a0 : List (List D)) (a1 : Int) : Option (List D) := (bif (eqI ((List.length a0 : Nat) : Int) 0) then none else let v1 : Int := Int.tmod (IntKind.wrap .i64 (a1 + 1)) ((List.length a0 : Nat) : Int); (bif (inR v1 ((List.length a0 : Nat) : Int)) then some [.i (ri a0 v1 0), .i (ri a0 v1 1)] else none))
def spec_l24Next.sp (k : Nat) : Spec := ⟨[(0, [.sl 31]), qi], [rn_ 2], fun ds => spec_l24Next k (gl ds 0) (gi ds 1)⟩
theorem spec_l24Next.spec (k : Nat) : SO_ 19 (spec_l24Next.sp k) := fs k 13 Tryd.f19 (S1 k) (by kernel_rfl)
def spec_l11Pole (k : Nat) (a0_0 a0_1 : Int) : Option (List D) := (bif (a0_0 == 900000000) then some [.b true] else some [.b (a0_0 == (-900000000))])
def spec_l11Pole.sp (k : Nat) : Spec := ⟨[qn 2], [rb_], ap2_ (spec_l11Pole k)⟩
theorem spec_l11Pole.spec (k : Nat) : SO_ 30 (spec_l11Pole.sp k) := fs k 11 Tryd.f30 (S1 k) (by kernel_rfl)
def spec_l11Wrap (k : Nat) (a0 : Int) : Option (List D) := let v1 : Bool := (ltI 1800000000 (Int.tmod a0 3600000000)); (bif v1 then let v2 : Int := IntKind.wrap .i64 ((Int.tmod a0 3600000000) - 3600000000); (bif (leI v2 (-1800000000)) then some [.i (IntKind.wrap .i64 (v2 + 3600000000))] else some [.i v2]) else let v3 : Bool := (leI (Int.tmod a0 3600000000) (-1800000000)); (bif v3 then let v4 : Int := IntKind.wrap .i64 ((Int.tmod a0 3600000000) + 3600000000); some [.i v4] else some [.i (Int.tmod a0 3600000000)]))
def spec_l11Wrap.sp (k : Nat) : Spec := ⟨[qi], [ri_], ap1_ (spec_l11Wrap k)⟩
theorem spec_l11Wrap.spec (k : Nat) : SO_ 31 (spec_l11Wrap.sp k) := fs k 15 Tryd.f31 (S1 k) (by kernel_rfl)
def impl_within (k : Nat) (a0 a1 a2 : Int) : Option (List D) := (bif (leI a1 a0) then some [.b (leI a0 a2)] else some [.b false])
def impl_within.sp (k : Nat) : Spec := ⟨[qi, qi, qi], [rb_], ap3_ (impl_within k)⟩
theorem impl_within.spec (k : Nat) : SO_ 27 (impl_within.sp k) := fs k 15 Tryd.f27 (S1 k) (by kernel_rfl)
def stringslite_HasPrefix (k : Nat) (a0 a1 : ByteArray) : Option (List D) := let v1 : Bool := (leI ((ByteArray.size a1 : Nat) : Int) ((ByteArray.size a0 : Nat) : Int)); (bif v1 then (bif (inS 0 ((ByteArray.size a1 : Nat) : Int) ((ByteArray.size a0 : Nat) : Int)) then let v2 : ByteArray := ByteArray.extract a0 (Int.toNat 0) (Int.toNat ((ByteArray.size a1 : Nat) : Int)); some [.b (v2.toList == a1.toList)] else none) else some [.b false])
def stringslite_HasPrefix.sp (k : Nat) : Spec := ⟨[qs, qs], [rb_], fun ds => stringslite_HasPrefix k (gs ds 0) (gs ds 1)⟩
theorem stringslite_HasPrefix.spec (k : Nat) : SO_ 68 (stringslite_HasPrefix.sp k) := fs k 18 Tryd.f68 (S1 k) (by kernel_rfl)
def impl_powerOfTen_l0 (k : Nat) : Nat → Int → Int → Int → Int → Option (List D)
  | 0, _, _, _, _ => none
  | n + 1, x0, x1, x2, x3 => (bif (ltI x3 x2) then impl_powerOfTen_l0 k n x0 (IntKind.wrap .i64 (x1 * 10)) x2 (IntKind.wrap .i64 (x3 + 1)) else some [.i 0, .i x0, .i x1, .i x2, .i x3])
def impl_powerOfTen (k : Nat) (a0 : Int) : Option (List D) := (impl_powerOfTen_l0 k k 0 1 a0 0).bind fun t1 => some [.i (gi t1 2)]
def impl_powerOfTen.sp (k : Nat) : Spec := ⟨[qi], [ri_], ap1_ (impl_powerOfTen k)⟩
def impl_powerOfTen.lp0 (k : Nat) : Loop := ⟨[(2, 0, [(.int .i64, 0)]), (3, 0, [(.int .i64, 0)]), (4, 0, [(.int .i64, 0)]), (5, 0, [(.int .i64, 0)])], [0], fun n => ap4_ (impl_powerOfTen_l0 k n)⟩
def impl_powerOfTen.env (k : Nat) : Env := ⟨Tryd.prog, k, look (T1 k), look [(0, impl_powerOfTen.lp0 k)], gl_, 11, isIn []⟩
theorem impl_powerOfTen.ok0 (k : Nat) : LoopOk (impl_powerOfTen.env k) ((loopsOf ((Tryd.f63.body).getD .skip)).getD 0 (0, .skip)) := fun lp h => by
  obtain rfl := Option.some.inj ((show (impl_powerOfTen.env k).loop 0 = some (impl_powerOfTen.lp0 k) by kernel_rfl).symm.trans h)
  exact ⟨fun n ds => by kernel_rfl, fun ds => by kernel_rfl⟩
theorem impl_powerOfTen.spec (k : Nat) : SpecOk Tryd.prog gl_ 63 (impl_powerOfTen.sp k) := fn_spec (E := impl_powerOfTen.env k) (fn := Tryd.f63) (S1 k) rfl rfl (by kernel_rfl) (by kernel_rfl) (.cons (impl_powerOfTen.ok0 k) (.nil (by kernel_rfl))) (fun ds => by kernel_rfl)
def impl_Decimal (k : Nat) (a0 : Int) : Option (List D) := (fmtInt a0 10).bind fun t1 => some [.s (gs t1 0)]
def impl_Decimal.sp (k : Nat) : Spec := ⟨[qi], [rs_], ap1_ (impl_Decimal k)⟩
theorem impl_Decimal.spec (k : Nat) : SO_ 64 (impl_Decimal.sp k) := fs k 5 Tryd.f64 (S1 k) (by kernel_rfl)
def impl_follower (k : Nat) (a0 : List (List D)) (a1 : Int) : Option (List D) := (bif (eqI ((List.length a0 : Nat) : Int) 0) then none else let v1 : Int := Int.tmod (IntKind.wrap .i64 (a1 + 1)) ((List.length a0 : Nat) : Int); (bif (inR v1 ((List.length a0 : Nat) : Int)) then some [.i (ri a0 v1 0), .i (ri a0 v1 1)] else none))
def impl_follower.sp (k : Nat) : Spec := ⟨[(0, [.sl 31]), qi], [rn_ 2], fun ds => impl_follower k (gl ds 0) (gi ds 1)⟩
theorem impl_follower.spec (k : Nat) : SO_ 25 (impl_follower.sp k) := fs k 13 Tryd.f25 (S1 k) (by kernel_rfl)
def impl_abs (k : Nat) (a0 : Int) : Option (List D) := some [.i (mxI a0 (IntKind.wrap .i64 (0 - a0)))]
def impl_abs.sp (k : Nat) : Spec := ⟨[qi], [ri_], ap1_ (impl_abs k)⟩
theorem impl_abs.spec (k : Nat) : SO_ 49 (impl_abs.sp k) := fs k 7 Tryd.f49 (S1 k) (by kernel_rfl)
def impl_WrapLon (k : Nat) (a0 : Int) : Option (List D) := let v1 : Bool := (ltI 1800000000 (Int.tmod a0 3600000000)); (bif v1 then let v2 : Int := IntKind.wrap .i64 ((Int.tmod a0 3600000000) - 3600000000); some [.i v2] else let v3 : Bool := (leI (Int.tmod a0 3600000000) (-1800000000)); (bif v3 then let v4 : Int := IntKind.wrap .i64 ((Int.tmod a0 3600000000) + 3600000000); some [.i v4] else some [.i (Int.tmod a0 3600000000)]))
def impl_WrapLon.sp (k : Nat) : Spec := ⟨[qi], [ri_], ap1_ (impl_WrapLon k)⟩
theorem impl_WrapLon.spec (k : Nat) : SO_ 39 (impl_WrapLon.sp k) := fs k 16 Tryd.f39 (S1 k) (by kernel_rfl)
def impl_length (k : Nat) (a0 : List (List D)) : Option (List D) := some [.i ((List.length a0 : Nat) : Int)]
def impl_length.sp (k : Nat) : Spec := ⟨[(0, [.sl 31])], [ri_], fun ds => impl_length k (gl ds 0)⟩
theorem impl_length.spec (k : Nat) : SO_ 28 (impl_length.sp k) := fs k 5 Tryd.f28 (S1 k) (by kernel_rfl)
def laws_eqPoint (k : Nat) (a0_0 a0_1 a1_0 a1_1 : Int) : Option (List D) := (bif (a0_0 != a1_0) then some [.b false] else (bif (a0_1 != a1_1) then some [.b false] else some [.b true]))
def laws_eqPoint.sp (k : Nat) : Spec := ⟨[qn 2, qn 2], [rb_], ap4_ (laws_eqPoint k)⟩
theorem laws_eqPoint.spec (k : Nat) : SO_ 15 (laws_eqPoint.sp k) := fs k 15 Tryd.f15 (S1 k) (by kernel_rfl)
def laws_markPointS_l0 (k : Nat) : Nat → List (List D) → Int → Int → Int → Option (List D)
  | 0, _, _, _, _ => none
  | n + 1, x0, x1, x2, x3 => (bif (ltI x3 ((List.length x0 : Nat) : Int)) then (bif (inR x3 ((List.length x0 : Nat) : Int)) then (bif (inR x3 ((List.length (setc x0 x3 2 0 1 [.i x1]) : Nat) : Int)) then let v1 : List (List D) := setc (setc x0 x3 2 0 1 [.i x1]) x3 2 1 1 [.i (IntKind.wrap .i64 (x1 + 1))]; let v2 : Int := IntKind.wrap .i64 ((IntKind.wrap .i64 (x1 + 1)) + 1); laws_markPointS_l0 k n v1 v2 x2 (IntKind.wrap .i64 (x3 + 1)) else none) else none) else some [.i 0, .l x0, .i x1, .i x2, .i x3])
def laws_markPointS (k : Nat) (a0 : List (List D)) (a1 : Int) : Option (List D) := (laws_markPointS_l0 k k a0 a1 0 0).bind fun t3 => some [.i (gi t3 2), .l (gl t3 1)]
def laws_markPointS.sp (k : Nat) : Spec := ⟨[(3, [.sl 31]), qi], [ri_], fun ds => laws_markPointS k (gl ds 0) (gi ds 1)⟩
def laws_markPointS.lp0 (k : Nat) : Loop := ⟨[(0, 0, [(.sl 31, 2)]), (1, 0, [(.int .i64, 0)]), (4, 0, [(.int .i64, 0)]), (5, 0, [(.int .i64, 0)])], [0], fun n ds => laws_markPointS_l0 k n (gl ds 0) (gi ds 1) (gi ds 2) (gi ds 3)⟩
def laws_markPointS.env (k : Nat) : Env := ⟨Tryd.prog, k, look (T1 k), look [(0, laws_markPointS.lp0 k)], gl_, 27, isIn []⟩
theorem laws_markPointS.ok0 (k : Nat) : LoopOk (laws_markPointS.env k) ((loopsOf ((Tryd.f7.body).getD .skip)).getD 0 (0, .skip)) := fun lp h => by
  obtain rfl := Option.some.inj ((show (laws_markPointS.env k).loop 0 = some (laws_markPointS.lp0 k) by kernel_rfl).symm.trans h)
  exact ⟨fun n ds => by kernel_rfl, fun ds => by kernel_rfl⟩
theorem laws_markPointS.spec (k : Nat) : SpecOk Tryd.prog gl_ 7 (laws_markPointS.sp k) := fn_spec (E := laws_markPointS.env k) (fn := Tryd.f7) (S1 k) rfl rfl (by kernel_rfl) (by kernel_rfl) (.cons (laws_markPointS.ok0 k) (.nil (by kernel_rfl))) (fun ds => by kernel_rfl)
def laws_heldPointS_l0 (k : Nat) : Nat → List (List D) → Int → Int → Int → Option (List D)
  | 0, _, _, _, _ => none
  | n + 1, x0, x1, x2, x3 => (bif (ltI x3 ((List.length x0 : Nat) : Int)) then (bif (inR x3 ((List.length x0 : Nat) : Int)) then (bif ((ri x0 x3 0) != x1) then some [.i 1, .l x0, .i x1, .i (-1), .i x3] else (bif (inR x3 ((List.length x0 : Nat) : Int)) then let v1 : Bool := ((ri x0 x3 1) != (IntKind.wrap .i64 (x1 + 1))); (bif v1 then some [.i 1, .l x0, .i (IntKind.wrap .i64 (x1 + 1)), .i (-1), .i x3] else let v2 : Int := IntKind.wrap .i64 ((IntKind.wrap .i64 (x1 + 1)) + 1); laws_heldPointS_l0 k n x0 v2 x2 (IntKind.wrap .i64 (x3 + 1))) else none)) else none) else some [.i 0, .l x0, .i x1, .i x2, .i x3])
def laws_heldPointS (k : Nat) (a0 : List (List D)) (a1 : Int) : Option (List D) := (laws_heldPointS_l0 k k a0 a1 0 0).bind fun t3 => (bif (eqI (gi t3 0) 0) then some [.i (gi t3 2)] else some [.i (gi t3 3)])
def laws_heldPointS.sp (k : Nat) : Spec := ⟨[(0, [.sl 31]), qi], [ri_], fun ds => laws_heldPointS k (gl ds 0) (gi ds 1)⟩
def laws_heldPointS.lp0 (k : Nat) : Loop := ⟨[(0, 0, [(.sl 31, 0)]), (1, 0, [(.int .i64, 0)]), (4, 0, [(.int .i64, 0)]), (5, 0, [(.int .i64, 0)])], [0, 1], fun n ds => laws_heldPointS_l0 k n (gl ds 0) (gi ds 1) (gi ds 2) (gi ds 3)⟩
def laws_heldPointS.env (k : Nat) : Env := ⟨Tryd.prog, k, look (T1 k), look [(0, laws_heldPointS.lp0 k)], gl_, 31, isIn []⟩
theorem laws_heldPointS.ok0 (k : Nat) : LoopOk (laws_heldPointS.env k) ((loopsOf ((Tryd.f8.body).getD .skip)).getD 0 (0, .skip)) := fun lp h => by
  obtain rfl := Option.some.inj ((show (laws_heldPointS.env k).loop 0 = some (laws_heldPointS.lp0 k) by kernel_rfl).symm.trans h)
  exact ⟨fun n ds => by kernel_rfl, fun ds => by kernel_rfl⟩
theorem laws_heldPointS.spec (k : Nat) : SpecOk Tryd.prog gl_ 8 (laws_heldPointS.sp k) := fn_spec (E := laws_heldPointS.env k) (fn := Tryd.f8) (S1 k) rfl rfl (by kernel_rfl) (by kernel_rfl) (.cons (laws_heldPointS.ok0 k) (.nil (by kernel_rfl))) (fun ds => by kernel_rfl)
def T2 (k : Nat) : List (Nat × Spec) := (9, spec_l01Split.sp k) :: (40, spec_l01Dec.sp k) :: (41, spec_l11Digits.sp k) :: (18, spec_l00In.sp k) :: (19, spec_l24Next.sp k) :: (30, spec_l11Pole.sp k) :: (31, spec_l11Wrap.sp k) :: (27, impl_within.sp k) :: (68, stringslite_HasPrefix.sp k) :: (63, impl_powerOfTen.sp k) :: (64, impl_Decimal.sp k) :: (25, impl_follower.sp k) :: (49, impl_abs.sp k) :: (39, impl_WrapLon.sp k) :: (28, impl_length.sp k) :: (15, laws_eqPoint.sp k) :: (7, laws_markPointS.sp k) :: (8, laws_heldPointS.sp k) :: T1 k
theorem S2 (k : Nat) : Specs Tryd.prog gl_ (T2 k) := .cons (spec_l01Split.spec k) (.cons (spec_l01Dec.spec k) (.cons (spec_l11Digits.spec k) (.cons (spec_l00In.spec k) (.cons (spec_l24Next.spec k) (.cons (spec_l11Pole.spec k) (.cons (spec_l11Wrap.spec k) (.cons (impl_within.spec k) (.cons (stringslite_HasPrefix.spec k) (.cons (impl_powerOfTen.spec k) (.cons (impl_Decimal.spec k) (.cons (impl_follower.spec k) (.cons (impl_abs.spec k) (.cons (impl_WrapLon.spec k) (.cons (impl_length.spec k) (.cons (laws_eqPoint.spec k) (.cons (laws_markPointS.spec k) (.cons (laws_heldPointS.spec k) ((S1 k)))))))))))))))))))
def spec_l11Text (k : Nat) (a0 : Int) : Option (List D) := (bif (ltI a0 0) then let v1 : Int := IntKind.wrap .i64 (Int.tdiv (IntKind.wrap .i64 (0 - a0)) 10000000); (spec_l01Dec k v1).bind fun t2 => (bif (leN ((⟨#[45]⟩ : ByteArray).size + (gs t2 0).size) 140737488355328) then (bif (leN (((⟨#[45]⟩ : ByteArray) ++ (gs t2 0)).size + (⟨#[46]⟩ : ByteArray).size) 140737488355328) then let v3 : ByteArray := (((⟨#[45]⟩ : ByteArray) ++ (gs t2 0)) ++ (⟨#[46]⟩ : ByteArray)); let v4 : Int := Int.tmod (IntKind.wrap .i64 (0 - a0)) 10000000; (spec_l11Digits k v4 7).bind fun t5 => (bif (leN (v3.size + (gs t5 0).size) 140737488355328) then some [.s (v3 ++ (gs t5 0))] else none) else none) else none) else (spec_l01Dec k (IntKind.wrap .i64 (Int.tdiv a0 10000000))).bind fun t6 => (bif (leN ((⟨#[]⟩ : ByteArray).size + (gs t6 0).size) 140737488355328) then (bif (leN (((⟨#[]⟩ : ByteArray) ++ (gs t6 0)).size + (⟨#[46]⟩ : ByteArray).size) 140737488355328) then let v7 : ByteArray := (((⟨#[]⟩ : ByteArray) ++ (gs t6 0)) ++ (⟨#[46]⟩ : ByteArray)); (spec_l11Digits k (Int.tmod a0 10000000) 7).bind fun t8 => (bif (leN (v7.size + (gs t8 0).size) 140737488355328) then some [.s (v7 ++ (gs t8 0))] else none) else none) else none))
def spec_l11Text.sp (k : Nat) : Spec := ⟨[qi], [rs_], ap1_ (spec_l11Text k)⟩
theorem spec_l11Text.spec (k : Nat) : SO_ 29 (spec_l11Text.sp k) := fs k 18 Tryd.f29 (S2 k) (by kernel_rfl)
def spec_l11Ok (k : Nat) (a0_0 a0_1 : Int) : Option (List D) := (spec_l00In k a0_0 (-900000000) 900000000).bind fun t1 => (bif (gb t1 0) then (spec_l00In k a0_1 (-1799999999) 1800000000).bind fun t2 => some [.b (gb t2 0)] else some [.b false])
def spec_l11Ok.sp (k : Nat) : Spec := ⟨[qn 2], [rb_], ap2_ (spec_l11Ok k)⟩
theorem spec_l11Ok.spec (k : Nat) : SO_ 17 (spec_l11Ok.sp k) := fs k 11 Tryd.f17 (S2 k) (by kernel_rfl)
def stringslite_TrimPrefix (k : Nat) (a0 a1 : ByteArray) : Option (List D) := (stringslite_HasPrefix k a0 a1).bind fun t1 => (bif (gb t1 0) then (bif (inS ((ByteArray.size a1 : Nat) : Int) ((ByteArray.size a0 : Nat) : Int) ((ByteArray.size a0 : Nat) : Int)) then let v2 : ByteArray := ByteArray.extract a0 (Int.toNat ((ByteArray.size a1 : Nat) : Int)) (Int.toNat ((ByteArray.size a0 : Nat) : Int)); some [.s v2] else none) else some [.s a0])
def stringslite_TrimPrefix.sp (k : Nat) : Spec := ⟨[qs, qs], [rs_], fun ds => stringslite_TrimPrefix k (gs ds 0) (gs ds 1)⟩
theorem stringslite_TrimPrefix.spec (k : Nat) : SO_ 55 (stringslite_TrimPrefix.sp k) := fs k 13 Tryd.f55 (S2 k) (by kernel_rfl)
def impl_digitsText (k : Nat) (a0 a1 : Int) : Option (List D) := (bif (ltI a0 0) then (impl_powerOfTen k a1).bind fun t1 => (bif (eqI (gi t1 0) 0) then none else let v2 : Int := IntKind.wrap .i64 (Int.tdiv (IntKind.wrap .i64 (0 - a0)) (gi t1 0)); (impl_Decimal k v2).bind fun t3 => (bif (leN ((⟨#[45]⟩ : ByteArray).size + (gs t3 0).size) 140737488355328) then (bif (a1 == 0) then some [.s ((⟨#[45]⟩ : ByteArray) ++ (gs t3 0))] else (bif (eqI (gi t1 0) 0) then none else let v4 : Int := Int.tmod (IntKind.wrap .i64 (0 - a0)) (gi t1 0); (impl_Decimal k v4).bind fun t5 => (bif (leN (((⟨#[45]⟩ : ByteArray) ++ (gs t3 0)).size + (⟨#[46]⟩ : ByteArray).size) 140737488355328) then let v6 : ByteArray := (((⟨#[45]⟩ : ByteArray) ++ (gs t3 0)) ++ (⟨#[46]⟩ : ByteArray)); let v7 : Int := IntKind.wrap .i64 (a1 - ((ByteArray.size (gs t5 0) : Nat) : Int)); (repA (⟨#[48]⟩ : ByteArray) v7).bind fun t8 => (bif (leN (v6.size + (gs t8 0).size) 140737488355328) then (bif (leN ((v6 ++ (gs t8 0)).size + (gs t5 0).size) 140737488355328) then some [.s ((v6 ++ (gs t8 0)) ++ (gs t5 0))] else none) else none) else none))) else none)) else (impl_powerOfTen k a1).bind fun t9 => (bif (eqI (gi t9 0) 0) then none else let v10 : Int := IntKind.wrap .i64 (Int.tdiv a0 (gi t9 0)); (impl_Decimal k v10).bind fun t11 => (bif (leN ((⟨#[]⟩ : ByteArray).size + (gs t11 0).size) 140737488355328) then (bif (a1 == 0) then some [.s ((⟨#[]⟩ : ByteArray) ++ (gs t11 0))] else (bif (eqI (gi t9 0) 0) then none else (impl_Decimal k (Int.tmod a0 (gi t9 0))).bind fun t12 => (bif (leN (((⟨#[]⟩ : ByteArray) ++ (gs t11 0)).size + (⟨#[46]⟩ : ByteArray).size) 140737488355328) then let v13 : ByteArray := (((⟨#[]⟩ : ByteArray) ++ (gs t11 0)) ++ (⟨#[46]⟩ : ByteArray)); let v14 : Int := ((ByteArray.size (gs t12 0) : Nat) : Int); (repA (⟨#[48]⟩ : ByteArray) (IntKind.wrap .i64 (a1 - v14))).bind fun t15 => (bif (leN (v13.size + (gs t15 0).size) 140737488355328) then (bif (leN ((v13 ++ (gs t15 0)).size + (gs t12 0).size) 140737488355328) then some [.s ((v13 ++ (gs t15 0)) ++ (gs t12 0))] else none) else none) else none))) else none)))
def impl_digitsText.sp (k : Nat) : Spec := ⟨[qi, qi], [rs_], ap2_ (impl_digitsText k)⟩
theorem impl_digitsText.spec (k : Nat) : SO_ 48 (impl_digitsText.sp k) := fs k 38 Tryd.f48 (S2 k) (by kernel_rfl)
def impl_ValidPoint (k : Nat) (a0_0 a0_1 : Int) : Option (List D) := (impl_within k a0_0 (-900000000) 900000000).bind fun t1 => (bif (gb t1 0) then (bif (ltI (-1800000000) a0_1) then some [.b (leI a0_1 1800000000)] else some [.b false]) else some [.b false])
def impl_ValidPoint.sp (k : Nat) : Spec := ⟨[qn 2], [rb_], ap2_ (impl_ValidPoint k)⟩
theorem impl_ValidPoint.spec (k : Nat) : SO_ 24 (impl_ValidPoint.sp k) := fs k 16 Tryd.f24 (S2 k) (by kernel_rfl)
def impl_isPole (k : Nat) (a0_0 a0_1 : Int) : Option (List D) := (impl_abs k a0_0).bind fun t1 => some [.b ((gi t1 0) == 900000000)]
def impl_isPole.sp (k : Nat) : Spec := ⟨[qn 2], [rb_], ap2_ (impl_isPole k)⟩
theorem impl_isPole.spec (k : Nat) : SO_ 38 (impl_isPole.sp k) := fs k 7 Tryd.f38 (S2 k) (by kernel_rfl)
def laws_eqPointS_l0 (k : Nat) : Nat → List (List D) → List (List D) → Bool → Int → Option (List D)
  | 0, _, _, _, _ => none
  | n + 1, x0, x1, x2, x3 => (bif (ltI x3 ((List.length x0 : Nat) : Int)) then (bif (inR x3 ((List.length x0 : Nat) : Int)) then (bif (inR x3 ((List.length x1 : Nat) : Int)) then (laws_eqPoint k (ri x0 x3 0) (ri x0 x3 1) (ri x1 x3 0) (ri x1 x3 1)).bind fun t2 => (bif (!(gb t2 0)) then some [.i 1, .l x0, .l x1, .b false, .i x3] else laws_eqPointS_l0 k n x0 x1 x2 (IntKind.wrap .i64 (x3 + 1))) else none) else none) else some [.i 0, .l x0, .l x1, .b x2, .i x3])
def laws_eqPointS (k : Nat) (a0 a1 : List (List D)) : Option (List D) := let v1 : Bool := (((List.length a0 : Nat) : Int) != ((List.length a1 : Nat) : Int)); (bif v1 then some [.b false] else (laws_eqPointS_l0 k k a0 a1 false 0).bind fun t3 => (bif (eqI (gi t3 0) 0) then some [.b true] else some [.b (gb t3 3)]))
def laws_eqPointS.sp (k : Nat) : Spec := ⟨[(0, [.sl 31]), (0, [.sl 31])], [rb_], fun ds => laws_eqPointS k (gl ds 0) (gl ds 1)⟩
def laws_eqPointS.lp0 (k : Nat) : Loop := ⟨[(0, 0, [(.sl 31, 0)]), (1, 0, [(.sl 31, 0)]), (4, 0, [(.bool, 0)]), (5, 0, [(.int .i64, 0)])], [0, 1], fun n ds => laws_eqPointS_l0 k n (gl ds 0) (gl ds 1) (gb ds 2) (gi ds 3)⟩
def laws_eqPointS.env (k : Nat) : Env := ⟨Tryd.prog, k, look (T2 k), look [(0, laws_eqPointS.lp0 k)], gl_, 27, isIn []⟩
theorem laws_eqPointS.ok0 (k : Nat) : LoopOk (laws_eqPointS.env k) ((loopsOf ((Tryd.f6.body).getD .skip)).getD 0 (0, .skip)) := fun lp h => by
  obtain rfl := Option.some.inj ((show (laws_eqPointS.env k).loop 0 = some (laws_eqPointS.lp0 k) by kernel_rfl).symm.trans h)
  exact ⟨fun n ds => by kernel_rfl, fun ds => by kernel_rfl⟩
theorem laws_eqPointS.spec (k : Nat) : SpecOk Tryd.prog gl_ 6 (laws_eqPointS.sp k) := fn_spec (E := laws_eqPointS.env k) (fn := Tryd.f6) (S2 k) rfl rfl (by kernel_rfl) (by kernel_rfl) (.cons (laws_eqPointS.ok0 k) (.nil (by kernel_rfl))) (fun ds => by kernel_rfl)
def T3 (k : Nat) : List (Nat × Spec) := (29, spec_l11Text.sp k) :: (17, spec_l11Ok.sp k) :: (55, stringslite_TrimPrefix.sp k) :: (48, impl_digitsText.sp k) :: (24, impl_ValidPoint.sp k) :: (38, impl_isPole.sp k) :: (6, laws_eqPointS.sp k) :: T2 k
theorem S3 (k : Nat) : Specs Tryd.prog gl_ (T3 k) := .cons (spec_l11Text.spec k) (.cons (spec_l11Ok.spec k) (.cons (stringslite_TrimPrefix.spec k) (.cons (impl_digitsText.spec k) (.cons (impl_ValidPoint.spec k) (.cons (impl_isPole.spec k) (.cons (laws_eqPointS.spec k) ((S2 k))))))))
def spec_l11Read_l0 (k : Nat) : Nat → ByteArray → Int → Bool → Int → Int → Int → Option (List D)
  | 0, _, _, _, _, _, _ => none
  | n + 1, x0, x1, x2, x3, x4, x5 => let v1 : Bool := (ltI x5 ((ByteArray.size x0 : Nat) : Int)); (bif v1 then (bif (ltI x5 14) then (bif (inR x5 ((ByteArray.size x0 : Nat) : Int)) then (bif (leI 48 (bt x0 x5)) then (bif (inR x5 ((ByteArray.size x0 : Nat) : Int)) then (bif (leI (bt x0 x5) 57) then (bif (inR x5 ((ByteArray.size x0 : Nat) : Int)) then let v2 : Int := IntKind.wrap .i64 (IntKind.wrap .u8 ((bt x0 x5) - 48)); let v3 : Int := IntKind.wrap .i64 ((IntKind.wrap .i64 (10 * x3)) + v2); spec_l11Read_l0 k n x0 x1 x2 v3 (IntKind.wrap .i64 (x4 + 1)) (IntKind.wrap .i64 (x5 + 1)) else none) else spec_l11Read_l0 k n x0 x1 x2 x3 x4 (IntKind.wrap .i64 (x5 + 1))) else none) else spec_l11Read_l0 k n x0 x1 x2 x3 x4 (IntKind.wrap .i64 (x5 + 1))) else none) else some [.i 0, .s x0, .i x1, .b x2, .i x3, .i x4, .i x5]) else some [.i 0, .s x0, .i x1, .b x2, .i x3, .i x4, .i x5])
def spec_l11Read (k : Nat) (a0 : ByteArray) : Option (List D) := (spec_l11Read_l0 k k a0 0 false 0 0 0).bind fun t4 => (bif ((gi t4 5) == 0) then some [.i 0, .b false] else (bif (inR 0 ((ByteArray.size (gs t4 1) : Nat) : Int)) then (bif ((bt (gs t4 1) 0) == 45) then (spec_l11Text k (IntKind.wrap .i64 (0 - (gi t4 4)))).bind fun t5 => some [.i (IntKind.wrap .i64 (0 - (gi t4 4))), .b ((gs t5 0).toList == (gs t4 1).toList)] else (spec_l11Text k (gi t4 4)).bind fun t6 => some [.i (gi t4 4), .b ((gs t6 0).toList == (gs t4 1).toList)]) else none))
def spec_l11Read.sp (k : Nat) : Spec := ⟨[qs], [ri_, rb_], fun ds => spec_l11Read k (gs ds 0)⟩
def spec_l11Read.lp0 (k : Nat) : Loop := ⟨[(0, 0, [(.str, 0)]), (2, 0, [(.int .i64, 0)]), (3, 0, [(.bool, 0)]), (4, 0, [(.int .i64, 0)]), (5, 0, [(.int .i64, 0)]), (6, 0, [(.int .i64, 0)])], [0], fun n ds => spec_l11Read_l0 k n (gs ds 0) (gi ds 1) (gb ds 2) (gi ds 3) (gi ds 4) (gi ds 5)⟩
def spec_l11Read.env (k : Nat) : Env := ⟨Tryd.prog, k, look (T3 k), look [(0, spec_l11Read.lp0 k)], gl_, 49, isIn []⟩
theorem spec_l11Read.ok0 (k : Nat) : LoopOk (spec_l11Read.env k) ((loopsOf ((Tryd.f16.body).getD .skip)).getD 0 (0, .skip)) := fun lp h => by
  obtain rfl := Option.some.inj ((show (spec_l11Read.env k).loop 0 = some (spec_l11Read.lp0 k) by kernel_rfl).symm.trans h)
  exact ⟨fun n ds => by kernel_rfl, fun ds => by kernel_rfl⟩
theorem spec_l11Read.spec (k : Nat) : SpecOk Tryd.prog gl_ 16 (spec_l11Read.sp k) := fn_spec (E := spec_l11Read.env k) (fn := Tryd.f16) (S3 k) rfl rfl (by kernel_rfl) (by kernel_rfl) (.cons (spec_l11Read.ok0 k) (.nil (by kernel_rfl))) (fun ds => by kernel_rfl)
def spec_l24Edge (k : Nat) (a0_0 a0_1 a1_0 a1_1 : Int) : Option (List D) := (spec_l11Ok k a0_0 a0_1).bind fun t1 => (bif (gb t1 0) then (spec_l11Ok k a1_0 a1_1).bind fun t2 => (bif (gb t2 0) then (spec_l11Pole k a0_0 a0_1).bind fun t3 => (bif (!(gb t3 0)) then (spec_l11Pole k a1_0 a1_1).bind fun t4 => (bif (!(gb t4 0)) then (spec_l11Wrap k (IntKind.wrap .i64 (a1_1 - a0_1))).bind fun t5 => some [.b ((gi t5 0) != 1800000000)] else some [.b false]) else some [.b false]) else some [.b false]) else some [.b false])
def spec_l24Edge.sp (k : Nat) : Spec := ⟨[qn 2, qn 2], [rb_], ap4_ (spec_l24Edge k)⟩
theorem spec_l24Edge.spec (k : Nat) : SO_ 20 (spec_l24Edge.sp k) := fs k 30 Tryd.f20 (S3 k) (by kernel_rfl)
def strings_TrimPrefix (k : Nat) (a0 a1 : ByteArray) : Option (List D) := (stringslite_TrimPrefix k a0 a1).bind fun t1 => some [.s (gs t1 0)]
def strings_TrimPrefix.sp (k : Nat) : Spec := ⟨[qs, qs], [rs_], fun ds => strings_TrimPrefix k (gs ds 0) (gs ds 1)⟩
theorem strings_TrimPrefix.spec (k : Nat) : SO_ 46 (strings_TrimPrefix.sp k) := fs k 8 Tryd.f46 (S3 k) (by kernel_rfl)
def impl_areValid (k : Nat) (a0_0 a0_1 a1_0 a1_1 : Int) : Option (List D) := (impl_ValidPoint k a0_0 a0_1).bind fun t1 => (bif (gb t1 0) then (impl_ValidPoint k a1_0 a1_1).bind fun t2 => some [.b (gb t2 0)] else some [.b false])
def impl_areValid.sp (k : Nat) : Spec := ⟨[qn 2, qn 2], [rb_], ap4_ (impl_areValid k)⟩
theorem impl_areValid.spec (k : Nat) : SO_ 37 (impl_areValid.sp k) := fs k 11 Tryd.f37 (S3 k) (by kernel_rfl)
def T4 (k : Nat) : List (Nat × Spec) := (16, spec_l11Read.sp k) :: (20, spec_l24Edge.sp k) :: (46, strings_TrimPrefix.sp k) :: (37, impl_areValid.sp k) :: T3 k
theorem S4 (k : Nat) : Specs Tryd.prog gl_ (T4 k) := .cons (spec_l11Read.spec k) (.cons (spec_l24Edge.spec k) (.cons (strings_TrimPrefix.spec k) (.cons (impl_areValid.spec k) ((S3 k)))))
def spec_ReadPoint (k : Nat) (a0 : ByteArray) : Option (List D) := (spec_l01Split k a0 32).bind fun t1 => let v2 : Bool := (((List.length (gl t1 0) : Nat) : Int) != 2); (bif v2 then some [.i 0, .i 0, .b false] else (bif (inR 0 ((List.length (gl t1 0) : Nat) : Int)) then (spec_l11Read k (rs (gl t1 0) 0 0)).bind fun t3 => (bif (inR 1 ((List.length (gl t1 0) : Nat) : Int)) then (spec_l11Read k (rs (gl t1 0) 1 0)).bind fun t4 => (bif (!(gb t3 1)) then some [.i 0, .i 0, .b false] else (bif (!(gb t4 1)) then some [.i 0, .i 0, .b false] else (spec_l11Ok k (gi t3 0) (gi t4 0)).bind fun t5 => (bif (!(gb t5 0)) then some [.i 0, .i 0, .b false] else some [.i (gi t3 0), .i (gi t4 0), .b true]))) else none) else none))
def spec_ReadPoint.sp (k : Nat) : Spec := ⟨[qs], [rn_ 2, rb_], fun ds => spec_ReadPoint k (gs ds 0)⟩
theorem spec_ReadPoint.spec (k : Nat) : SO_ 10 (spec_ReadPoint.sp k) := fs k 46 Tryd.f10 (S4 k) (by kernel_rfl)
def spec_l24Ok_l0 (k : Nat) : Nat → List (List D) → Bool → Int → Option (List D)
  | 0, _, _, _ => none
  | n + 1, x0, x1, x2 => (bif (ltI x2 ((List.length x0 : Nat) : Int)) then (spec_l24Next k x0 x2).bind fun t2 => (bif (inR x2 ((List.length x0 : Nat) : Int)) then (spec_l24Edge k (ri x0 x2 0) (ri x0 x2 1) (gi t2 0) (gi t2 1)).bind fun t3 => (bif (!(gb t3 0)) then some [.i 1, .l x0, .b false, .i x2] else (bif (inR x2 ((List.length x0 : Nat) : Int)) then let v4 : Bool := (((ri x0 x2 0) == (gi t2 0)) && (((ri x0 x2 1) == (gi t2 1)) && true)); (bif v4 then some [.i 1, .l x0, .b false, .i x2] else spec_l24Ok_l0 k n x0 x1 (IntKind.wrap .i64 (x2 + 1))) else none)) else none) else some [.i 0, .l x0, .b x1, .i x2])
def spec_l24Ok (k : Nat) (a0 : List (List D)) : Option (List D) := (spec_l00In k ((List.length a0 : Nat) : Int) 3 24).bind fun t1 => (bif (!(gb t1 0)) then some [.b false] else (spec_l24Ok_l0 k k a0 false 0).bind fun t5 => (bif (eqI (gi t5 0) 0) then some [.b true] else some [.b (gb t5 2)]))
def spec_l24Ok.sp (k : Nat) : Spec := ⟨[(0, [.sl 31])], [rb_], fun ds => spec_l24Ok k (gl ds 0)⟩
def spec_l24Ok.lp0 (k : Nat) : Loop := ⟨[(0, 0, [(.sl 31, 0)]), (2, 0, [(.bool, 0)]), (3, 0, [(.int .i64, 0)])], [0, 1], fun n ds => spec_l24Ok_l0 k n (gl ds 0) (gb ds 1) (gi ds 2)⟩
def spec_l24Ok.env (k : Nat) : Env := ⟨Tryd.prog, k, look (T4 k), look [(0, spec_l24Ok.lp0 k)], gl_, 33, isIn []⟩
theorem spec_l24Ok.ok0 (k : Nat) : LoopOk (spec_l24Ok.env k) ((loopsOf ((Tryd.f11.body).getD .skip)).getD 0 (0, .skip)) := fun lp h => by
  obtain rfl := Option.some.inj ((show (spec_l24Ok.env k).loop 0 = some (spec_l24Ok.lp0 k) by kernel_rfl).symm.trans h)
  exact ⟨fun n ds => by kernel_rfl, fun ds => by kernel_rfl⟩
theorem spec_l24Ok.spec (k : Nat) : SpecOk Tryd.prog gl_ 11 (spec_l24Ok.sp k) := fn_spec (E := spec_l24Ok.env k) (fn := Tryd.f11) (S4 k) rfl rfl (by kernel_rfl) (by kernel_rfl) (.cons (spec_l24Ok.ok0 k) (.nil (by kernel_rfl))) (fun ds => by kernel_rfl)
def impl_readDigits_l0 (k : Nat) : Nat → ByteArray → Int → Int → Bool → ByteArray → Int → ByteArray → Int → List (List D) → Int → Int → Option (List D)
  | 0, _, _, _, _, _, _, _, _, _, _, _ => none
  | n + 1, x0, x1, x2, x3, x4, x5, x6, x7, x8, x9, x10 => (bif (ltI x10 x9) then (bif (inR x10 ((List.length x8 : Nat) : Int)) then let v9 : Int := IntKind.wrap .i64 (IntKind.wrap .u8 ((ri x8 x10 0) - 48)); let v10 : Int := IntKind.wrap .i64 ((IntKind.wrap .i64 (10 * x7)) + v9); impl_readDigits_l0 k n x0 x1 x2 x3 x4 x5 x6 v10 x8 x9 (IntKind.wrap .i64 (x10 + 1)) else none) else some [.i 0, .s x0, .i x1, .i x2, .b x3, .s x4, .i x5, .s x6, .i x7, .l x8, .i x9, .i x10])
def impl_readDigits (k : Nat) (a0 : ByteArray) : Option (List D) := (cutA a0 (⟨#[46]⟩ : ByteArray)).bind fun t1 => (strings_TrimPrefix k (gs t1 0) (⟨#[45]⟩ : ByteArray)).bind fun t2 => let v3 : Bool := (ltI 0 ((ByteArray.size (gs t1 1) : Nat) : Int)); (bif (!((gb t1 2) == v3)) then some [.i 0, .i 0, .b false] else let v4 : Bool := (ltI 9 ((ByteArray.size (gs t1 1) : Nat) : Int)); (bif v4 then some [.i 0, .i 0, .b false] else (impl_within k ((ByteArray.size (gs t2 0) : Nat) : Int) 1 9).bind fun t5 => (bif (!(gb t5 0)) then some [.i 0, .i 0, .b false] else (bif (leN ((gs t2 0).size + (gs t1 1).size) 140737488355328) then (trimA ((gs t2 0) ++ (gs t1 1)) (⟨#[48, 49, 50, 51, 52, 53, 54, 55, 56, 57]⟩ : ByteArray)).bind fun t6 => let v7 : Bool := (!((gs t6 0).toList == (⟨#[]⟩ : ByteArray).toList)); (bif v7 then some [.i 0, .i 0, .b false] else (bif (leN ((gs t2 0).size + (gs t1 1).size) 140737488355328) then let v8 : Int := ((List.length (bytesR ((gs t2 0) ++ (gs t1 1))) : Nat) : Int); (impl_readDigits_l0 k k a0 0 0 false (gs t1 0) ((ByteArray.size (gs t1 1) : Nat) : Int) (gs t2 0) 0 (bytesR ((gs t2 0) ++ (gs t1 1))) v8 0).bind fun t11 => let v12 : Bool := (!((gs t11 7).toList == (gs t11 5).toList)); (bif v12 then (impl_digitsText k (IntKind.wrap .i64 (0 - (gi t11 8))) (gi t11 6)).bind fun t13 => some [.i (IntKind.wrap .i64 (0 - (gi t11 8))), .i (gi t11 6), .b ((gs t13 0).toList == (gs t11 1).toList)] else (impl_digitsText k (gi t11 8) (gi t11 6)).bind fun t14 => some [.i (gi t11 8), .i (gi t11 6), .b ((gs t14 0).toList == (gs t11 1).toList)]) else none)) else none))))
def impl_readDigits.sp (k : Nat) : Spec := ⟨[qs], [ri_, ri_, rb_], fun ds => impl_readDigits k (gs ds 0)⟩
def impl_readDigits.lp0 (k : Nat) : Loop := ⟨[(0, 0, [(.str, 0)]), (2, 0, [(.int .i64, 0)]), (3, 0, [(.int .i64, 0)]), (4, 0, [(.bool, 0)]), (5, 0, [(.str, 0)]), (8, 0, [(.int .i64, 0)]), (9, 0, [(.str, 0)]), (10, 0, [(.int .i64, 0)]), (47, 0, [(.sl 5, 0)]), (48, 0, [(.int .i64, 0)]), (49, 0, [(.int .i64, 0)])], [0], fun n ds => impl_readDigits_l0 k n (gs ds 0) (gi ds 1) (gi ds 2) (gb ds 3) (gs ds 4) (gi ds 5) (gs ds 6) (gi ds 7) (gl ds 8) (gi ds 9) (gi ds 10)⟩
def impl_readDigits.env (k : Nat) : Env := ⟨Tryd.prog, k, look (T4 k), look [(0, impl_readDigits.lp0 k)], gl_, 72, isIn []⟩
theorem impl_readDigits.ok0 (k : Nat) : LoopOk (impl_readDigits.env k) ((loopsOf ((Tryd.f36.body).getD .skip)).getD 0 (0, .skip)) := fun lp h => by
  obtain rfl := Option.some.inj ((show (impl_readDigits.env k).loop 0 = some (impl_readDigits.lp0 k) by kernel_rfl).symm.trans h)
  exact ⟨fun n ds => by kernel_rfl, fun ds => by kernel_rfl⟩
theorem impl_readDigits.spec (k : Nat) : SpecOk Tryd.prog gl_ 36 (impl_readDigits.sp k) := fn_spec (E := impl_readDigits.env k) (fn := Tryd.f36) (S4 k) rfl rfl (by kernel_rfl) (by kernel_rfl) (.cons (impl_readDigits.ok0 k) (.nil (by kernel_rfl))) (fun ds => by kernel_rfl)
def impl_isEdge (k : Nat) (a0_0 a0_1 a1_0 a1_1 : Int) : Option (List D) := (impl_areValid k a0_0 a0_1 a1_0 a1_1).bind fun t1 => (bif (gb t1 0) then (impl_isPole k a0_0 a0_1).bind fun t2 => (bif (!(gb t2 0)) then (impl_isPole k a1_0 a1_1).bind fun t3 => (bif (!(gb t3 0)) then (impl_WrapLon k (IntKind.wrap .i64 (a1_1 - a0_1))).bind fun t4 => some [.b ((gi t4 0) != 1800000000)] else some [.b false]) else some [.b false]) else some [.b false])
def impl_isEdge.sp (k : Nat) : Spec := ⟨[qn 2, qn 2], [rb_], ap4_ (impl_isEdge k)⟩
theorem impl_isEdge.spec (k : Nat) : SO_ 26 (impl_isEdge.sp k) := fs k 27 Tryd.f26 (S4 k) (by kernel_rfl)
def T5 (k : Nat) : List (Nat × Spec) := (10, spec_ReadPoint.sp k) :: (11, spec_l24Ok.sp k) :: (36, impl_readDigits.sp k) :: (26, impl_isEdge.sp k) :: T4 k
theorem S5 (k : Nat) : Specs Tryd.prog gl_ (T5 k) := .cons (spec_ReadPoint.spec k) (.cons (spec_l24Ok.spec k) (.cons (impl_readDigits.spec k) (.cons (impl_isEdge.spec k) ((S4 k)))))
def spec_ReadRing_l0 (k : Nat) : Nat → List (List D) → Bool → List (List D) → List (List D) → Int → Option (List D)
  | 0, _, _, _, _, _ => none
  | n + 1, x0, x1, x2, x3, x4 => (bif (ltI x4 ((List.length x2 : Nat) : Int)) then (bif (inR x4 ((List.length x2 : Nat) : Int)) then (bif (ltI 0 x4) then let v3 : Bool := ((rs x2 x4 0).toList == (⟨#[]⟩ : ByteArray).toList); (bif v3 then some [.i 1, .l [], .b false, .l x2, .l x3, .i x4] else (bif (inR 0 ((ByteArray.size (rs x2 x4 0) : Nat) : Int)) then (bif ((bt (rs x2 x4 0) 0) != 32) then some [.i 1, .l [], .b false, .l x2, .l x3, .i x4] else (bif (inS 1 ((ByteArray.size (rs x2 x4 0) : Nat) : Int) ((ByteArray.size (rs x2 x4 0) : Nat) : Int)) then let v4 : ByteArray := ByteArray.extract (rs x2 x4 0) (Int.toNat 1) (Int.toNat ((ByteArray.size (rs x2 x4 0) : Nat) : Int)); (spec_ReadPoint k v4).bind fun t5 => (bif (!(gb t5 2)) then some [.i 1, .l [], .b false, .l x2, .l x3, .i x4] else (bif (apOk (x3.length + (List.length (α := List D) [[.i (gi t5 0), .i (gi t5 1)]])) 16) then spec_ReadRing_l0 k n x0 x1 x2 (x3 ++ [[.i (gi t5 0), .i (gi t5 1)]]) (IntKind.wrap .i64 (x4 + 1)) else none)) else none)) else none)) else (spec_ReadPoint k (rs x2 x4 0)).bind fun t6 => (bif (!(gb t6 2)) then some [.i 1, .l [], .b false, .l x2, .l x3, .i x4] else (bif (apOk (x3.length + (List.length (α := List D) [[.i (gi t6 0), .i (gi t6 1)]])) 16) then spec_ReadRing_l0 k n x0 x1 x2 (x3 ++ [[.i (gi t6 0), .i (gi t6 1)]]) (IntKind.wrap .i64 (x4 + 1)) else none))) else none) else some [.i 0, .l x0, .b x1, .l x2, .l x3, .i x4])
def spec_ReadRing (k : Nat) (a0 : ByteArray) : Option (List D) := (spec_l01Split k a0 59).bind fun t1 => let v2 : Bool := (ltI 24 ((List.length (gl t1 0) : Nat) : Int)); (bif v2 then some [.l [], .b false] else (spec_ReadRing_l0 k k [] false (gl t1 0) [] 0).bind fun t7 => (bif (eqI (gi t7 0) 0) then (spec_l24Ok k (gl t7 4)).bind fun t8 => (bif (!(gb t8 0)) then some [.l [], .b false] else some [.l (gl t7 4), .b true]) else some [.l (gl t7 1), .b (gb t7 2)]))
def spec_ReadRing.sp (k : Nat) : Spec := ⟨[qs], [(false, [(.sl 31, 1)]), rb_], fun ds => spec_ReadRing k (gs ds 0)⟩
def spec_ReadRing.lp0 (k : Nat) : Loop := ⟨[(2, 0, [(.sl 31, 1)]), (3, 0, [(.bool, 0)]), (4, 0, [(.sl 9, 1)]), (5, 0, [(.sl 31, 1)]), (6, 0, [(.int .i64, 0)])], [0, 1], fun n ds => spec_ReadRing_l0 k n (gl ds 0) (gb ds 1) (gl ds 2) (gl ds 3) (gi ds 4)⟩
def spec_ReadRing.env (k : Nat) : Env := ⟨Tryd.prog, k, look (T5 k), look [(0, spec_ReadRing.lp0 k)], gl_, 52, isIn []⟩
theorem spec_ReadRing.ok0 (k : Nat) : LoopOk (spec_ReadRing.env k) ((loopsOf ((Tryd.f4.body).getD .skip)).getD 0 (0, .skip)) := fun lp h => by
  obtain rfl := Option.some.inj ((show (spec_ReadRing.env k).loop 0 = some (spec_ReadRing.lp0 k) by kernel_rfl).symm.trans h)
  exact ⟨fun n ds => by kernel_rfl, fun ds => by kernel_rfl⟩
theorem spec_ReadRing.spec (k : Nat) : SpecOk Tryd.prog gl_ 4 (spec_ReadRing.sp k) := fn_spec (E := spec_ReadRing.env k) (fn := Tryd.f4) (S5 k) rfl rfl (by kernel_rfl) (by kernel_rfl) (.cons (spec_ReadRing.ok0 k) (.nil (by kernel_rfl))) (fun ds => by kernel_rfl)
def impl_readDegrees (k : Nat) (a0 : ByteArray) : Option (List D) := (impl_readDigits k a0).bind fun t1 => (bif (!(gb t1 2)) then some [.i 0, .b false] else (bif ((gi t1 1) != 7) then some [.i 0, .b false] else some [.i (gi t1 0), .b true]))
def impl_readDegrees.sp (k : Nat) : Spec := ⟨[qs], [ri_, rb_], fun ds => impl_readDegrees k (gs ds 0)⟩
theorem impl_readDegrees.spec (k : Nat) : SO_ 23 (impl_readDegrees.sp k) := fs k 20 Tryd.f23 (S5 k) (by kernel_rfl)
def impl_ValidRing_l0 (k : Nat) : Nat → List (List D) → Bool → List (List D) → Int → Int → Option (List D)
  | 0, _, _, _, _, _ => none
  | n + 1, x0, x1, x2, x3, x4 => (bif (ltI x4 x3) then (bif (inR x4 ((List.length x2 : Nat) : Int)) then (impl_follower k x0 x4).bind fun t1 => (impl_isEdge k (ri x2 x4 0) (ri x2 x4 1) (gi t1 0) (gi t1 1)).bind fun t2 => (bif (!(gb t2 0)) then some [.i 1, .l x0, .b false, .l x2, .i x3, .i x4] else let v3 : Bool := (((ri x2 x4 0) == (gi t1 0)) && (((ri x2 x4 1) == (gi t1 1)) && true)); (bif v3 then some [.i 1, .l x0, .b false, .l x2, .i x3, .i x4] else impl_ValidRing_l0 k n x0 x1 x2 x3 (IntKind.wrap .i64 (x4 + 1)))) else none) else some [.i 0, .l x0, .b x1, .l x2, .i x3, .i x4])
def impl_ValidRing (k : Nat) (a0 : List (List D)) : Option (List D) := (impl_ValidRing_l0 k k a0 false a0 ((List.length a0 : Nat) : Int) 0).bind fun t4 => (bif (eqI (gi t4 0) 0) then (impl_length k (gl t4 1)).bind fun t5 => (impl_within k (gi t5 0) 3 24).bind fun t6 => some [.b (gb t6 0)] else some [.b (gb t4 2)])
def impl_ValidRing.sp (k : Nat) : Spec := ⟨[(0, [.sl 31])], [rb_], fun ds => impl_ValidRing k (gl ds 0)⟩
def impl_ValidRing.lp0 (k : Nat) : Loop := ⟨[(0, 0, [(.sl 31, 0)]), (2, 0, [(.bool, 0)]), (6, 0, [(.sl 31, 0)]), (7, 0, [(.int .i64, 0)]), (8, 0, [(.int .i64, 0)])], [0, 1], fun n ds => impl_ValidRing_l0 k n (gl ds 0) (gb ds 1) (gl ds 2) (gi ds 3) (gi ds 4)⟩
def impl_ValidRing.env (k : Nat) : Env := ⟨Tryd.prog, k, look (T5 k), look [(0, impl_ValidRing.lp0 k)], gl_, 29, isIn []⟩
theorem impl_ValidRing.ok0 (k : Nat) : LoopOk (impl_ValidRing.env k) ((loopsOf ((Tryd.f14.body).getD .skip)).getD 0 (0, .skip)) := fun lp h => by
  obtain rfl := Option.some.inj ((show (impl_ValidRing.env k).loop 0 = some (impl_ValidRing.lp0 k) by kernel_rfl).symm.trans h)
  exact ⟨fun n ds => by kernel_rfl, fun ds => by kernel_rfl⟩
theorem impl_ValidRing.spec (k : Nat) : SpecOk Tryd.prog gl_ 14 (impl_ValidRing.sp k) := fn_spec (E := impl_ValidRing.env k) (fn := Tryd.f14) (S5 k) rfl rfl (by kernel_rfl) (by kernel_rfl) (.cons (impl_ValidRing.ok0 k) (.nil (by kernel_rfl))) (fun ds => by kernel_rfl)
def T6 (k : Nat) : List (Nat × Spec) := (4, spec_ReadRing.sp k) :: (23, impl_readDegrees.sp k) :: (14, impl_ValidRing.sp k) :: T5 k
theorem S6 (k : Nat) : Specs Tryd.prog gl_ (T6 k) := .cons (spec_ReadRing.spec k) (.cons (impl_readDegrees.spec k) (.cons (impl_ValidRing.spec k) ((S5 k))))
def impl_ReadPoint (k : Nat) (a0 : ByteArray) : Option (List D) := (cutA a0 (⟨#[32]⟩ : ByteArray)).bind fun t1 => (impl_readDegrees k (gs t1 0)).bind fun t2 => (impl_readDegrees k (gs t1 1)).bind fun t3 => (bif (!(gb t2 1)) then some [.i 0, .i 0, .b false] else (bif (!(gb t3 1)) then some [.i 0, .i 0, .b false] else (impl_ValidPoint k (gi t2 0) (gi t3 0)).bind fun t4 => (bif (!(gb t4 0)) then some [.i 0, .i 0, .b false] else some [.i (gi t2 0), .i (gi t3 0), .b true])))
def impl_ReadPoint.sp (k : Nat) : Spec := ⟨[qs], [rn_ 2, rb_], fun ds => impl_ReadPoint k (gs ds 0)⟩
theorem impl_ReadPoint.spec (k : Nat) : SO_ 13 (impl_ReadPoint.sp k) := fs k 44 Tryd.f13 (S6 k) (by kernel_rfl)
def T7 (k : Nat) : List (Nat × Spec) := (13, impl_ReadPoint.sp k) :: T6 k
theorem S7 (k : Nat) : Specs Tryd.prog gl_ (T7 k) := .cons (impl_ReadPoint.spec k) ((S6 k))
def impl_ReadRing_l0 (k : Nat) : Nat → List (List D) → Bool → List (List D) → List (List D) → Int → Int → Option (List D)
  | 0, _, _, _, _, _, _ => none
  | n + 1, x0, x1, x2, x3, x4, x5 => (bif (ltI x5 x4) then (bif (inR x5 ((List.length x3 : Nat) : Int)) then (impl_ReadPoint k (rs x3 x5 0)).bind fun t2 => (bif (!(gb t2 2)) then some [.i 1, .l [], .b false, .l x2, .l x3, .i x4, .i x5] else (bif (apOk (x2.length + (List.length (α := List D) [[.i (gi t2 0), .i (gi t2 1)]])) 16) then impl_ReadRing_l0 k n x0 x1 (x2 ++ [[.i (gi t2 0), .i (gi t2 1)]]) x3 x4 (IntKind.wrap .i64 (x5 + 1)) else none)) else none) else some [.i 0, .l x0, .b x1, .l x2, .l x3, .i x4, .i x5])
def impl_ReadRing (k : Nat) (a0 : ByteArray) : Option (List D) := (splitA a0 (⟨#[59, 32]⟩ : ByteArray)).bind fun t1 => (impl_ReadRing_l0 k k [] false [] (gl t1 0) ((List.length (gl t1 0) : Nat) : Int) 0).bind fun t3 => (bif (eqI (gi t3 0) 0) then (impl_ValidRing k (gl t3 3)).bind fun t4 => (bif (!(gb t4 0)) then some [.l [], .b false] else some [.l (gl t3 3), .b true]) else some [.l (gl t3 1), .b (gb t3 2)])
def impl_ReadRing.sp (k : Nat) : Spec := ⟨[qs], [(false, [(.sl 31, 1)]), rb_], fun ds => impl_ReadRing k (gs ds 0)⟩
def impl_ReadRing.lp0 (k : Nat) : Loop := ⟨[(2, 0, [(.sl 31, 1)]), (3, 0, [(.bool, 0)]), (4, 0, [(.sl 31, 1)]), (10, 0, [(.sl 9, 0)]), (11, 0, [(.int .i64, 0)]), (12, 0, [(.int .i64, 0)])], [0, 1], fun n ds => impl_ReadRing_l0 k n (gl ds 0) (gb ds 1) (gl ds 2) (gl ds 3) (gi ds 4) (gi ds 5)⟩
def impl_ReadRing.env (k : Nat) : Env := ⟨Tryd.prog, k, look (T7 k), look [(0, impl_ReadRing.lp0 k)], gl_, 32, isIn []⟩
theorem impl_ReadRing.ok0 (k : Nat) : LoopOk (impl_ReadRing.env k) ((loopsOf ((Tryd.f5.body).getD .skip)).getD 0 (0, .skip)) := fun lp h => by
  obtain rfl := Option.some.inj ((show (impl_ReadRing.env k).loop 0 = some (impl_ReadRing.lp0 k) by kernel_rfl).symm.trans h)
  exact ⟨fun n ds => by kernel_rfl, fun ds => by kernel_rfl⟩
theorem impl_ReadRing.spec (k : Nat) : SpecOk Tryd.prog gl_ 5 (impl_ReadRing.sp k) := fn_spec (E := impl_ReadRing.env k) (fn := Tryd.f5) (S7 k) rfl rfl (by kernel_rfl) (by kernel_rfl) (.cons (impl_ReadRing.ok0 k) (.nil (by kernel_rfl))) (fun ds => by kernel_rfl)
def T8 (k : Nat) : List (Nat × Spec) := (5, impl_ReadRing.sp k) :: T7 k
theorem S8 (k : Nat) : Specs Tryd.prog gl_ (T8 k) := .cons (impl_ReadRing.spec k) ((S7 k))
def laws_FnExactReadRing (k : Nat) (a0 : ByteArray) : Option (List D) := let v1 : Bool := (ltI 1048576 ((ByteArray.size a0 : Nat) : Int)); (bif v1 then some [.b true] else (spec_ReadRing k a0).bind fun t2 => (impl_ReadRing k a0).bind fun t3 => (laws_eqPointS k (gl t3 0) (gl t2 0)).bind fun t4 => (bif (!(gb t4 0)) then some [.b false] else (bif (!((gb t3 1) == (gb t2 1))) then some [.b false] else (laws_markPointS k (gl t3 0) 1).bind fun t5 => (laws_heldPointS k (gl t5 1) 1).bind fun t6 => (bif (ltI (gi t6 0) 0) then some [.b false] else (bif ((gi t6 0) != (gi t5 0)) then some [.b false] else (impl_ReadRing k a0).bind fun t7 => (laws_eqPointS k (gl t7 0) (gl t2 0)).bind fun t8 => (bif (!(gb t8 0)) then some [.b false] else (bif (!((gb t7 1) == (gb t2 1))) then some [.b false] else (laws_heldPointS k (gl t5 1) 1).bind fun t9 => (bif (ltI (gi t9 0) 0) then some [.b false] else (bif ((gi t9 0) != (gi t5 0)) then some [.b false] else some [.b true])))))))))
def laws_FnExactReadRing.sp (k : Nat) : Spec := ⟨[qs], [rb_], fun ds => laws_FnExactReadRing k (gs ds 0)⟩
theorem laws_FnExactReadRing.spec (k : Nat) : SO_ 3 (laws_FnExactReadRing.sp k) := fs k 66 Tryd.f3 (S8 k) (by kernel_rfl)
def T9 (k : Nat) : List (Nat × Spec) := (3, laws_FnExactReadRing.sp k) :: T8 k
theorem S9 (k : Nat) : Specs Tryd.prog gl_ (T9 k) := .cons (laws_FnExactReadRing.spec k) ((S8 k))
end
end Go.Proofs.YthabgkbpghpokaaDoor.Ev
