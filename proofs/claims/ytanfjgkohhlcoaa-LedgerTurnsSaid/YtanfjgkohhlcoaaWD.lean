/-
  What functions hand back, reckoned from their text.
-/
import Derived.Test.YtanfjgkohhlcoaaProg
import Derived.Test.YtanfjgkohhlcoaaWC
namespace Go.Proofs.Ytanfjgkohhlcoaa
open Go Go.RowKit
def cost_of_0 (n_ : Int) (times_ : Int) : Int := wide_Mul_0 0 (IntKind.u64.wrap (max n_ 0)) times_
def cost_of_1 (n_ : Int) (times_ : Int) : Int := wide_Mul_1 0 (IntKind.u64.wrap (max n_ 0)) times_
def s_cost_of (n_ : Int) (times_ : Int) : AV := AV.agg [AV.val (Value.int IntKind.u64 (cost_of_0 n_ times_)), AV.val (Value.int IntKind.u64 (cost_of_1 n_ times_))]
def c_cost_of (n_ : Int) (times_ : Int) : Bool := bif c_wide_Mul 0 (IntKind.u64.wrap (max n_ 0)) times_ then true else false
theorem t_cost_of (n_ : Int) (times_ : Int) : c_cost_of n_ times_ = true → F_ Try.prog L_haymowref01_Mul Try.f77 [] [] 99 [AV.val (Value.int IntKind.i64 n_), AV.val (Value.int IntKind.u64 times_)] noMem = some (.ret (s_cost_of n_ times_) { bl := [], nx := 99 } true) := by
  have h : F_ Try.prog L_haymowref01_Mul Try.f77 [] [] 99 [AV.val (Value.int IntKind.i64 n_), AV.val (Value.int IntKind.u64 times_)] noMem = some (Fin_.ret (AV.agg [AV.val (Value.int IntKind.u64 (wide_Mul_0 0 (IntKind.u64.wrap (max n_ 0)) times_)), AV.val (Value.int IntKind.u64 (wide_Mul_1 0 (IntKind.u64.wrap (max n_ 0)) times_))]) { bl := [], nx := 99 } (bif c_wide_Mul 0 (IntKind.u64.wrap (max n_ 0)) times_ then true else false)) := by kernel_rfl
  rw [h]
  clear h
  unfold s_cost_of cost_of_0 cost_of_1 c_cost_of
  generalize (c_wide_Mul 0 (IntKind.u64.wrap (max n_ 0)) times_) = b0_
  cases b0_ <;> (first | rfl | (intro h_; cases h_; done) | (intro _; rfl))
def e_cost_of : Spec := fun _ args => match args with
  | [.val (.int .i64 n_), .val (.int .u64 times_)] => some (s_cost_of n_ times_, none, [c_cost_of n_ times_])
  | _ => none
theorem ok_cost_of : SpecOk Try.prog 77 e_cost_of := fun m args v mo bs h hb => by
  unfold e_cost_of at h
  split at h
  · cases h
    exact pure_fn (c := bodyOf Try.f77) hE_haymowref01_Mul mixed (fun xs w => Try.call77 xs w) Try.func77 rfl (t_cost_of _ _ (by simpa using hb)) rfl rfl
  · cases h
def L_cost_of : List (FuncId × Spec) := (77, e_cost_of) :: L_haymowref01_Mul
theorem hE_cost_of : ESound Try.prog (envOf L_cost_of) := env_cons ok_cost_of hE_haymowref01_Mul
def cost_Held_0 (limit_ : Int) : Int := bif decide (384307168202282325 < max limit_ 0) then 4611686018427387904 else IntKind.i64.wrap (IntKind.i64.wrap (12 * max limit_ 0) + 256)
def s_cost_Held (limit_ : Int) : AV := AV.val (Value.int IntKind.i64 (cost_Held_0 limit_))
theorem t_cost_Held (limit_ : Int) : F_ Try.prog L_cost_of Try.f44 [] [] 99 [AV.val (Value.int IntKind.i64 limit_)] noMem = some (.ret (s_cost_Held limit_) { bl := [], nx := 99 } true) := by
  have h : F_ Try.prog L_cost_of Try.f44 [] [] 99 [AV.val (Value.int IntKind.i64 limit_)] noMem = bif decide (384307168202282325 < max limit_ 0) then some (Fin_.ret (AV.val (Value.int IntKind.i64 4611686018427387904)) { bl := [], nx := 99 } true) else some (Fin_.ret (AV.val (Value.int IntKind.i64 (IntKind.i64.wrap (IntKind.i64.wrap (12 * max limit_ 0) + 256)))) { bl := [], nx := 99 } true) := by kernel_rfl
  rw [h]
  clear h
  unfold s_cost_Held cost_Held_0
  generalize (decide (384307168202282325 < max limit_ 0)) = b0_
  cases b0_
  ·
    rfl
  ·
    rfl
def e_cost_Held : Spec := fun _ args => match args with
  | [.val (.int .i64 limit_)] => some (s_cost_Held limit_, none, [])
  | _ => none
theorem ok_cost_Held : SpecOk Try.prog 44 e_cost_Held := fun m args v mo bs h hb => by
  unfold e_cost_Held at h
  split at h
  · cases h
    exact pure_fn (c := bodyOf Try.f44) hE_cost_of mixed (fun xs w => Try.call44 xs w) Try.func44 rfl (t_cost_Held _) rfl rfl
  · cases h
def L_cost_Held : List (FuncId × Spec) := (44, e_cost_Held) :: L_cost_of
theorem hE_cost_Held : ESound Try.prog (envOf L_cost_Held) := env_cons ok_cost_Held hE_cost_of
def haymowref25_Times_0 (n_ : Int) (by_ : Int) : Int := bif decide (n_ < 0) then 0 else haymowref01_Mul_0 0 (IntKind.u64.wrap n_) by_
def haymowref25_Times_1 (n_ : Int) (by_ : Int) : Int := bif decide (n_ < 0) then 0 else haymowref01_Mul_1 0 (IntKind.u64.wrap n_) by_
def s_haymowref25_Times (n_ : Int) (by_ : Int) : AV := AV.agg [AV.val (Value.int IntKind.u64 (haymowref25_Times_0 n_ by_)), AV.val (Value.int IntKind.u64 (haymowref25_Times_1 n_ by_))]
theorem t_haymowref25_Times (n_ : Int) (by_ : Int) : F_ Try.prog L_cost_Held Try.f47 [] [] 99 [AV.val (Value.int IntKind.i64 n_), AV.val (Value.int IntKind.u64 by_)] noMem = some (.ret (s_haymowref25_Times n_ by_) { bl := [], nx := 99 } true) := by
  have h : F_ Try.prog L_cost_Held Try.f47 [] [] 99 [AV.val (Value.int IntKind.i64 n_), AV.val (Value.int IntKind.u64 by_)] noMem = bif decide (n_ < 0) then some (Fin_.ret (AV.agg [AV.val (Value.int IntKind.u64 0), AV.val (Value.int IntKind.u64 0)]) { bl := [], nx := 99 } true) else some (Fin_.ret (AV.agg [AV.val (Value.int IntKind.u64 (haymowref01_Mul_0 0 (IntKind.u64.wrap n_) by_)), AV.val (Value.int IntKind.u64 (haymowref01_Mul_1 0 (IntKind.u64.wrap n_) by_))]) { bl := [], nx := 99 } true) := by kernel_rfl
  rw [h]
  clear h
  unfold s_haymowref25_Times haymowref25_Times_0 haymowref25_Times_1
  generalize (decide (n_ < 0)) = b0_
  cases b0_
  ·
    rfl
  ·
    rfl
def e_haymowref25_Times : Spec := fun _ args => match args with
  | [.val (.int .i64 n_), .val (.int .u64 by_)] => some (s_haymowref25_Times n_ by_, none, [])
  | _ => none
theorem ok_haymowref25_Times : SpecOk Try.prog 47 e_haymowref25_Times := fun m args v mo bs h hb => by
  unfold e_haymowref25_Times at h
  split at h
  · cases h
    exact pure_fn (c := bodyOf Try.f47) hE_cost_Held mixed (fun xs w => Try.call47 xs w) Try.func47 rfl (t_haymowref25_Times _ _) rfl rfl
  · cases h
def L_haymowref25_Times : List (FuncId × Spec) := (47, e_haymowref25_Times) :: L_cost_Held
theorem hE_haymowref25_Times : ESound Try.prog (envOf L_haymowref25_Times) := env_cons ok_haymowref25_Times hE_cost_Held
def haymowref25_Plus_0 (a_0 : Int) (a_1 : Int) (b_0 : Int) (b_1 : Int) : Int := haymowref01_Add_0 a_0 a_1 b_0 b_1
def haymowref25_Plus_1 (a_0 : Int) (a_1 : Int) (b_0 : Int) (b_1 : Int) : Int := haymowref01_Add_1 a_0 a_1 b_0 b_1
def s_haymowref25_Plus (a_0 : Int) (a_1 : Int) (b_0 : Int) (b_1 : Int) : AV := AV.agg [AV.val (Value.int IntKind.u64 (haymowref25_Plus_0 a_0 a_1 b_0 b_1)), AV.val (Value.int IntKind.u64 (haymowref25_Plus_1 a_0 a_1 b_0 b_1))]
theorem t_haymowref25_Plus (a_0 : Int) (a_1 : Int) (b_0 : Int) (b_1 : Int) : F_ Try.prog L_haymowref25_Times Try.f46 [] [] 99 [AV.agg [AV.val (Value.int IntKind.u64 a_0), AV.val (Value.int IntKind.u64 a_1)], AV.agg [AV.val (Value.int IntKind.u64 b_0), AV.val (Value.int IntKind.u64 b_1)]] noMem = some (.ret (s_haymowref25_Plus a_0 a_1 b_0 b_1) { bl := [], nx := 99 } true) := by kernel_rfl
def e_haymowref25_Plus : Spec := fun _ args => match args with
  | [.agg [.val (.int .u64 a_0), .val (.int .u64 a_1)], .agg [.val (.int .u64 b_0), .val (.int .u64 b_1)]] => some (s_haymowref25_Plus a_0 a_1 b_0 b_1, none, [])
  | _ => none
theorem ok_haymowref25_Plus : SpecOk Try.prog 46 e_haymowref25_Plus := fun m args v mo bs h hb => by
  unfold e_haymowref25_Plus at h
  split at h
  · cases h
    exact pure_fn (c := bodyOf Try.f46) hE_haymowref25_Times mixed (fun xs w => Try.call46 xs w) Try.func46 rfl (t_haymowref25_Plus _ _ _ _) rfl rfl
  · cases h
def L_haymowref25_Plus : List (FuncId × Spec) := (46, e_haymowref25_Plus) :: L_haymowref25_Times
theorem hE_haymowref25_Plus : ESound Try.prog (envOf L_haymowref25_Plus) := env_cons ok_haymowref25_Plus hE_haymowref25_Times
def haymowref25_Collection_0 (live_ : Int) (dead_ : Int) : Int := haymowref25_Plus_0 (haymowref25_Plus_0 (haymowref25_Times_0 live_ 12) (haymowref25_Times_1 live_ 12) (haymowref25_Times_0 dead_ 16) (haymowref25_Times_1 dead_ 16)) (haymowref25_Plus_1 (haymowref25_Times_0 live_ 12) (haymowref25_Times_1 live_ 12) (haymowref25_Times_0 dead_ 16) (haymowref25_Times_1 dead_ 16)) 0 16
def haymowref25_Collection_1 (live_ : Int) (dead_ : Int) : Int := haymowref25_Plus_1 (haymowref25_Plus_0 (haymowref25_Times_0 live_ 12) (haymowref25_Times_1 live_ 12) (haymowref25_Times_0 dead_ 16) (haymowref25_Times_1 dead_ 16)) (haymowref25_Plus_1 (haymowref25_Times_0 live_ 12) (haymowref25_Times_1 live_ 12) (haymowref25_Times_0 dead_ 16) (haymowref25_Times_1 dead_ 16)) 0 16
def s_haymowref25_Collection (live_ : Int) (dead_ : Int) : AV := AV.agg [AV.val (Value.int IntKind.u64 (haymowref25_Collection_0 live_ dead_)), AV.val (Value.int IntKind.u64 (haymowref25_Collection_1 live_ dead_))]
theorem t_haymowref25_Collection (live_ : Int) (dead_ : Int) : F_ Try.prog L_haymowref25_Plus Try.f37 [] [] 99 [AV.val (Value.int IntKind.i64 live_), AV.val (Value.int IntKind.i64 dead_)] noMem = some (.ret (s_haymowref25_Collection live_ dead_) { bl := [], nx := 99 } true) := by kernel_rfl
def e_haymowref25_Collection : Spec := fun _ args => match args with
  | [.val (.int .i64 live_), .val (.int .i64 dead_)] => some (s_haymowref25_Collection live_ dead_, none, [])
  | _ => none
theorem ok_haymowref25_Collection : SpecOk Try.prog 37 e_haymowref25_Collection := fun m args v mo bs h hb => by
  unfold e_haymowref25_Collection at h
  split at h
  · cases h
    exact pure_fn (c := bodyOf Try.f37) hE_haymowref25_Plus mixed (fun xs w => Try.call37 xs w) Try.func37 rfl (t_haymowref25_Collection _ _) rfl rfl
  · cases h
def L_haymowref25_Collection : List (FuncId × Spec) := (37, e_haymowref25_Collection) :: L_haymowref25_Plus
theorem hE_haymowref25_Collection : ESound Try.prog (envOf L_haymowref25_Collection) := env_cons ok_haymowref25_Collection hE_haymowref25_Plus
def haymowref25_Deposit_0 (words_ : Int) (ops_ : Int) : Int := haymowref25_Plus_0 (haymowref25_Times_0 words_ 64) (haymowref25_Times_1 words_ 64) (haymowref25_Times_0 ops_ 64) (haymowref25_Times_1 ops_ 64)
def haymowref25_Deposit_1 (words_ : Int) (ops_ : Int) : Int := haymowref25_Plus_1 (haymowref25_Times_0 words_ 64) (haymowref25_Times_1 words_ 64) (haymowref25_Times_0 ops_ 64) (haymowref25_Times_1 ops_ 64)
def s_haymowref25_Deposit (words_ : Int) (ops_ : Int) : AV := AV.agg [AV.val (Value.int IntKind.u64 (haymowref25_Deposit_0 words_ ops_)), AV.val (Value.int IntKind.u64 (haymowref25_Deposit_1 words_ ops_))]
theorem t_haymowref25_Deposit (words_ : Int) (ops_ : Int) : F_ Try.prog L_haymowref25_Collection Try.f39 [] [] 99 [AV.val (Value.int IntKind.i64 words_), AV.val (Value.int IntKind.i64 ops_)] noMem = some (.ret (s_haymowref25_Deposit words_ ops_) { bl := [], nx := 99 } true) := by kernel_rfl
def e_haymowref25_Deposit : Spec := fun _ args => match args with
  | [.val (.int .i64 words_), .val (.int .i64 ops_)] => some (s_haymowref25_Deposit words_ ops_, none, [])
  | _ => none
theorem ok_haymowref25_Deposit : SpecOk Try.prog 39 e_haymowref25_Deposit := fun m args v mo bs h hb => by
  unfold e_haymowref25_Deposit at h
  split at h
  · cases h
    exact pure_fn (c := bodyOf Try.f39) hE_haymowref25_Collection mixed (fun xs w => Try.call39 xs w) Try.func39 rfl (t_haymowref25_Deposit _ _) rfl rfl
  · cases h
def L_haymowref25_Deposit : List (FuncId × Spec) := (39, e_haymowref25_Deposit) :: L_haymowref25_Collection
theorem hE_haymowref25_Deposit : ESound Try.prog (envOf L_haymowref25_Deposit) := env_cons ok_haymowref25_Deposit hE_haymowref25_Collection
def haymowref25_Grant_0 (live_ : Int) : Int := haymowref25_Plus_0 (haymowref25_Times_0 live_ 12) (haymowref25_Times_1 live_ 12) 0 16
def haymowref25_Grant_1 (live_ : Int) : Int := haymowref25_Plus_1 (haymowref25_Times_0 live_ 12) (haymowref25_Times_1 live_ 12) 0 16
def s_haymowref25_Grant (live_ : Int) : AV := AV.agg [AV.val (Value.int IntKind.u64 (haymowref25_Grant_0 live_)), AV.val (Value.int IntKind.u64 (haymowref25_Grant_1 live_))]
theorem t_haymowref25_Grant (live_ : Int) : F_ Try.prog L_haymowref25_Deposit Try.f41 [] [] 99 [AV.val (Value.int IntKind.i64 live_)] noMem = some (.ret (s_haymowref25_Grant live_) { bl := [], nx := 99 } true) := by kernel_rfl
def e_haymowref25_Grant : Spec := fun _ args => match args with
  | [.val (.int .i64 live_)] => some (s_haymowref25_Grant live_, none, [])
  | _ => none
theorem ok_haymowref25_Grant : SpecOk Try.prog 41 e_haymowref25_Grant := fun m args v mo bs h hb => by
  unfold e_haymowref25_Grant at h
  split at h
  · cases h
    exact pure_fn (c := bodyOf Try.f41) hE_haymowref25_Deposit mixed (fun xs w => Try.call41 xs w) Try.func41 rfl (t_haymowref25_Grant _) rfl rfl
  · cases h
def L_haymowref25_Grant : List (FuncId × Spec) := (41, e_haymowref25_Grant) :: L_haymowref25_Deposit
theorem hE_haymowref25_Grant : ESound Try.prog (envOf L_haymowref25_Grant) := env_cons ok_haymowref25_Grant hE_haymowref25_Deposit
def haymowref25_Bound_0 (words_ : Int) (ops_ : Int) (forced_ : Int) : Int := haymowref25_Plus_0 (haymowref25_Plus_0 (haymowref25_Times_0 words_ 80) (haymowref25_Times_1 words_ 80) (haymowref25_Times_0 ops_ 80) (haymowref25_Times_1 ops_ 80)) (haymowref25_Plus_1 (haymowref25_Times_0 words_ 80) (haymowref25_Times_1 words_ 80) (haymowref25_Times_0 ops_ 80) (haymowref25_Times_1 ops_ 80)) (haymowref25_Times_0 forced_ 80) (haymowref25_Times_1 forced_ 80)
def haymowref25_Bound_1 (words_ : Int) (ops_ : Int) (forced_ : Int) : Int := haymowref25_Plus_1 (haymowref25_Plus_0 (haymowref25_Times_0 words_ 80) (haymowref25_Times_1 words_ 80) (haymowref25_Times_0 ops_ 80) (haymowref25_Times_1 ops_ 80)) (haymowref25_Plus_1 (haymowref25_Times_0 words_ 80) (haymowref25_Times_1 words_ 80) (haymowref25_Times_0 ops_ 80) (haymowref25_Times_1 ops_ 80)) (haymowref25_Times_0 forced_ 80) (haymowref25_Times_1 forced_ 80)
def s_haymowref25_Bound (words_ : Int) (ops_ : Int) (forced_ : Int) : AV := AV.agg [AV.val (Value.int IntKind.u64 (haymowref25_Bound_0 words_ ops_ forced_)), AV.val (Value.int IntKind.u64 (haymowref25_Bound_1 words_ ops_ forced_))]
theorem t_haymowref25_Bound (words_ : Int) (ops_ : Int) (forced_ : Int) : F_ Try.prog L_haymowref25_Grant Try.f43 [] [] 99 [AV.val (Value.int IntKind.i64 words_), AV.val (Value.int IntKind.i64 ops_), AV.val (Value.int IntKind.i64 forced_)] noMem = some (.ret (s_haymowref25_Bound words_ ops_ forced_) { bl := [], nx := 99 } true) := by kernel_rfl
def e_haymowref25_Bound : Spec := fun _ args => match args with
  | [.val (.int .i64 words_), .val (.int .i64 ops_), .val (.int .i64 forced_)] => some (s_haymowref25_Bound words_ ops_ forced_, none, [])
  | _ => none
theorem ok_haymowref25_Bound : SpecOk Try.prog 43 e_haymowref25_Bound := fun m args v mo bs h hb => by
  unfold e_haymowref25_Bound at h
  split at h
  · cases h
    exact pure_fn (c := bodyOf Try.f43) hE_haymowref25_Grant mixed (fun xs w => Try.call43 xs w) Try.func43 rfl (t_haymowref25_Bound _ _ _) rfl rfl
  · cases h
def L_haymowref25_Bound : List (FuncId × Spec) := (43, e_haymowref25_Bound) :: L_haymowref25_Grant
theorem hE_haymowref25_Bound : ESound Try.prog (envOf L_haymowref25_Bound) := env_cons ok_haymowref25_Bound hE_haymowref25_Grant
def haymowref25_Held_0 (limit_ : Int) : Int := bif decide (limit_ < 0) then 256 else bif decide (384307168202282325 < limit_) then 4611686018427387904 else IntKind.i64.wrap (IntKind.i64.wrap (12 * limit_) + 256)
def s_haymowref25_Held (limit_ : Int) : AV := AV.val (Value.int IntKind.i64 (haymowref25_Held_0 limit_))
theorem t_haymowref25_Held (limit_ : Int) : F_ Try.prog L_haymowref25_Bound Try.f45 [] [] 99 [AV.val (Value.int IntKind.i64 limit_)] noMem = some (.ret (s_haymowref25_Held limit_) { bl := [], nx := 99 } true) := by
  have h : F_ Try.prog L_haymowref25_Bound Try.f45 [] [] 99 [AV.val (Value.int IntKind.i64 limit_)] noMem = bif decide (limit_ < 0) then some (Fin_.ret (AV.val (Value.int IntKind.i64 256)) { bl := [], nx := 99 } true) else bif decide (384307168202282325 < limit_) then some (Fin_.ret (AV.val (Value.int IntKind.i64 4611686018427387904)) { bl := [], nx := 99 } true) else some (Fin_.ret (AV.val (Value.int IntKind.i64 (IntKind.i64.wrap (IntKind.i64.wrap (12 * limit_) + 256)))) { bl := [], nx := 99 } true) := by kernel_rfl
  rw [h]
  clear h
  unfold s_haymowref25_Held haymowref25_Held_0
  generalize (decide (384307168202282325 < limit_)) = b0_
  generalize (decide (limit_ < 0)) = b1_
  cases b1_
  ·
    cases b0_
    ·
      rfl
    ·
      rfl
  ·
    rfl
def e_haymowref25_Held : Spec := fun _ args => match args with
  | [.val (.int .i64 limit_)] => some (s_haymowref25_Held limit_, none, [])
  | _ => none
theorem ok_haymowref25_Held : SpecOk Try.prog 45 e_haymowref25_Held := fun m args v mo bs h hb => by
  unfold e_haymowref25_Held at h
  split at h
  · cases h
    exact pure_fn (c := bodyOf Try.f45) hE_haymowref25_Bound mixed (fun xs w => Try.call45 xs w) Try.func45 rfl (t_haymowref25_Held _) rfl rfl
  · cases h
def L_haymowref25_Held : List (FuncId × Spec) := (45, e_haymowref25_Held) :: L_haymowref25_Bound
theorem hE_haymowref25_Held : ESound Try.prog (envOf L_haymowref25_Held) := env_cons ok_haymowref25_Held hE_haymowref25_Bound
end Go.Proofs.Ytanfjgkohhlcoaa
