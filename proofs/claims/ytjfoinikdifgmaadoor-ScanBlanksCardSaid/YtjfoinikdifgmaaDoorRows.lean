/-
  NARROWER THAN 'FOR EVERY INPUT', by the rows' own cells (each row's printed sentence says how): TreeCalls: laid · ScanWords: laid · ScanTells: laid · ScanPlaces: laid · ScanBlanks: laid · ScanKinds: laid · ScanBack: laid.
  DERIVED. THE GIVEN ROWS OF THIS SEAT. 7 by the template 'for every input the law returns true; each argument reads behind the call as it read before'; 0 by the template 'total and deterministic' (their statements: YtjfoinikdifgmaaDoorTotals.lean).
  GIVEN WITH THE SEED: the statements are not yours to turn. If you find one false, say at which input.
  Laid BY PROGRAM, IN A SANDBOX (cutbox-rows.mjs): the forced cells as the released guide's own fill.sh prints them over the translation 9c7e7e8869ed63aa… (all of the seat's roots in one cut). By AI agents, Wed Nov 11 2026. No macro, syntax, notation, axiom, sorry.
-/
import Derived.Test.YtjfoinikdifgmaaDoorChecked
import GoSem.Claim
import GoSem.ClaimJoined
import GoSem.ClaimMapViews
import Derived.JoinedTies
import Derived.KernelRfl
namespace Go.Proofs.YtjfoinikdifgmaaDoor
/- THE CELL 'sum', in the pinned program and in every row, IS THE sha256 OF THE DUMP (.gsa) THAT YtjfoinikdifgmaaDoorProg.lean LOADS. Nothing in Lean hashes anything: it is a label: what it is worth is what the hold of that sum in a sandbox is worth. -/
noncomputable def Tryd.pinned : Pinned := { name := "ytjfoinikdifgmaadoor", sum := "9c7e7e8869ed63aab22bb07983f915b25d621a105a98d0fb1858aaa7e2729054", checked := Tryd.checked }
namespace Rows
def none {H : Type} : Left H := { results := [], args := [] }

/- WHAT THE LISTED PACKAGE-LEVEL VARIABLES READ AS WHEN THE CALL BEGINS. Each datum BY PROGRAM (the guide's laid-datum.mjs) off the statement by which the dump's own 'gosem.cut.vars' lays the variable. In a bare row this is a premise. The card (YtjfoinikdifgmaaDoorCards.lean) ties it to the program's text. -/
def laid_dispatcher_tree_calls {H : Type} : DataW H := .agg [.lit (.string [115, 101, 110, 100]), .lit (.string [115, 115, 101, 110, 100]), .lit (.string [98, 115, 101, 110, 100]), .lit (.string [105, 115, 101, 110, 100]), .lit (.string [105, 115, 115, 101, 110, 100]), .lit (.string [114, 101, 99, 118]), .lit (.string [105, 114, 101, 99, 118]), .lit (.string [119, 97, 105, 116]), .lit (.string [119, 97, 105, 116, 97, 108, 108]), .lit (.string [119, 97, 105, 116, 97, 110, 121]), .lit (.string [116, 101, 115, 116]), .lit (.string [116, 101, 115, 116, 97, 110, 121]), .lit (.string [112, 114, 111, 98, 101]), .lit (.string [105, 112, 114, 111, 98, 101]), .lit (.string [98, 97, 114, 114, 105, 101, 114]), .lit (.string [98, 99, 97, 115, 116]), .lit (.string [114, 101, 100, 117, 99, 101]), .lit (.string [97, 108, 108, 114, 101, 100, 117, 99, 101]), .lit (.string [103, 97, 116, 104, 101, 114]), .lit (.string [100, 117, 112]), .lit (.string [115, 112, 108, 105, 116]), .lit (.string [102, 114, 101, 101])]
def laid_dispatcher_tree_args {H : Type} : DataW H := .agg [.lit (.int .i64 5), .lit (.int .i64 5), .lit (.int .i64 5), .lit (.int .i64 5), .lit (.int .i64 5), .lit (.int .i64 3), .lit (.int .i64 3), .lit (.int .i64 1), .lit (.int .i64 (-1)), .lit (.int .i64 (-1)), .lit (.int .i64 1), .lit (.int .i64 (-1)), .lit (.int .i64 3), .lit (.int .i64 3), .lit (.int .i64 1), .lit (.int .i64 3), .lit (.int .i64 3), .lit (.int .i64 2), .lit (.int .i64 3), .lit (.int .i64 1), .lit (.int .i64 3), .lit (.int .i64 1)]
def laid_dispatcher_scan_words {H : Type} : DataW H := .agg [.lit (.string [105, 110, 116]), .lit (.string [105, 102]), .lit (.string [101, 108, 115, 101]), .lit (.string [119, 104, 105, 108, 101]), .lit (.string [102, 111, 114]), .lit (.string [97, 115, 115, 101, 114, 116]), .lit (.string [115, 116, 111, 112]), .lit (.string [114, 97, 110, 107]), .lit (.string [115, 105, 122, 101]), .lit (.string [97, 110, 121]), .lit (.string [118, 97, 108, 117, 101]), .lit (.string [112, 101, 101, 114]), .lit (.string [116, 97, 103]), .lit (.string [102, 108, 97, 103]), .lit (.string [105, 110, 100, 101, 120]), .lit (.string [114, 101, 113]), .lit (.string [99, 111, 109, 109]), .lit (.string [114, 111, 119]), .lit (.string [115, 117, 109]), .lit (.string [109, 97, 120]), .lit (.string [109, 105, 110]), .lit (.string [115, 101, 110, 100]), .lit (.string [115, 115, 101, 110, 100]), .lit (.string [98, 115, 101, 110, 100]), .lit (.string [105, 115, 101, 110, 100]), .lit (.string [105, 115, 115, 101, 110, 100]), .lit (.string [114, 101, 99, 118]), .lit (.string [105, 114, 101, 99, 118]), .lit (.string [112, 114, 111, 98, 101]), .lit (.string [105, 112, 114, 111, 98, 101]), .lit (.string [119, 97, 105, 116]), .lit (.string [119, 97, 105, 116, 97, 108, 108]), .lit (.string [119, 97, 105, 116, 97, 110, 121]), .lit (.string [116, 101, 115, 116]), .lit (.string [116, 101, 115, 116, 97, 110, 121]), .lit (.string [98, 97, 114, 114, 105, 101, 114]), .lit (.string [98, 99, 97, 115, 116]), .lit (.string [114, 101, 100, 117, 99, 101]), .lit (.string [97, 108, 108, 114, 101, 100, 117, 99, 101]), .lit (.string [103, 97, 116, 104, 101, 114]), .lit (.string [100, 117, 112]), .lit (.string [115, 112, 108, 105, 116]), .lit (.string [102, 114, 101, 101])]
def laid_dispatcher_scan_signs {H : Type} : DataW H := .agg [.lit (.string [60, 61]), .lit (.string [62, 61]), .lit (.string [61, 61]), .lit (.string [33, 61]), .lit (.string [38, 38]), .lit (.string [124, 124]), .lit (.string [40]), .lit (.string [41]), .lit (.string [123]), .lit (.string [125]), .lit (.string [91]), .lit (.string [93]), .lit (.string [59]), .lit (.string [44]), .lit (.string [61]), .lit (.string [43]), .lit (.string [45]), .lit (.string [42]), .lit (.string [47]), .lit (.string [37]), .lit (.string [60]), .lit (.string [62]), .lit (.string [33])]
def laid_math_bits_deBruijn32tab {H : Type} : DataW H := .agg [.lit (.int .u8 0), .lit (.int .u8 1), .lit (.int .u8 28), .lit (.int .u8 2), .lit (.int .u8 29), .lit (.int .u8 14), .lit (.int .u8 24), .lit (.int .u8 3), .lit (.int .u8 30), .lit (.int .u8 22), .lit (.int .u8 20), .lit (.int .u8 15), .lit (.int .u8 25), .lit (.int .u8 17), .lit (.int .u8 4), .lit (.int .u8 8), .lit (.int .u8 31), .lit (.int .u8 27), .lit (.int .u8 13), .lit (.int .u8 23), .lit (.int .u8 21), .lit (.int .u8 19), .lit (.int .u8 16), .lit (.int .u8 7), .lit (.int .u8 26), .lit (.int .u8 12), .lit (.int .u8 18), .lit (.int .u8 6), .lit (.int .u8 11), .lit (.int .u8 5), .lit (.int .u8 10), .lit (.int .u8 9)]
def laid_math_bits_deBruijn64tab {H : Type} : DataW H := .agg [.lit (.int .u8 0), .lit (.int .u8 1), .lit (.int .u8 56), .lit (.int .u8 2), .lit (.int .u8 57), .lit (.int .u8 49), .lit (.int .u8 28), .lit (.int .u8 3), .lit (.int .u8 61), .lit (.int .u8 58), .lit (.int .u8 42), .lit (.int .u8 50), .lit (.int .u8 38), .lit (.int .u8 29), .lit (.int .u8 17), .lit (.int .u8 4), .lit (.int .u8 62), .lit (.int .u8 47), .lit (.int .u8 59), .lit (.int .u8 36), .lit (.int .u8 45), .lit (.int .u8 43), .lit (.int .u8 51), .lit (.int .u8 22), .lit (.int .u8 53), .lit (.int .u8 39), .lit (.int .u8 33), .lit (.int .u8 30), .lit (.int .u8 24), .lit (.int .u8 18), .lit (.int .u8 12), .lit (.int .u8 5), .lit (.int .u8 63), .lit (.int .u8 55), .lit (.int .u8 48), .lit (.int .u8 27), .lit (.int .u8 60), .lit (.int .u8 41), .lit (.int .u8 37), .lit (.int .u8 16), .lit (.int .u8 46), .lit (.int .u8 35), .lit (.int .u8 44), .lit (.int .u8 21), .lit (.int .u8 52), .lit (.int .u8 32), .lit (.int .u8 23), .lit (.int .u8 11), .lit (.int .u8 54), .lit (.int .u8 26), .lit (.int .u8 40), .lit (.int .u8 15), .lit (.int .u8 34), .lit (.int .u8 20), .lit (.int .u8 31), .lit (.int .u8 10), .lit (.int .u8 25), .lit (.int .u8 14), .lit (.int .u8 19), .lit (.int .u8 9), .lit (.int .u8 13), .lit (.int .u8 8), .lit (.int .u8 7), .lit (.int .u8 6)]
def laid_internal_strconv_uint64pow10 {H : Type} : DataW H := .agg [.lit (.int .u64 1), .lit (.int .u64 10), .lit (.int .u64 100), .lit (.int .u64 1000), .lit (.int .u64 10000), .lit (.int .u64 100000), .lit (.int .u64 1000000), .lit (.int .u64 10000000), .lit (.int .u64 100000000), .lit (.int .u64 1000000000), .lit (.int .u64 10000000000), .lit (.int .u64 100000000000), .lit (.int .u64 1000000000000), .lit (.int .u64 10000000000000), .lit (.int .u64 100000000000000), .lit (.int .u64 1000000000000000), .lit (.int .u64 10000000000000000), .lit (.int .u64 100000000000000000), .lit (.int .u64 1000000000000000000), .lit (.int .u64 10000000000000000000)]
def laid_strconv_ErrRange {H : Type} : DataW H := .iface "*errors.errorString" (.ptr (.agg [.lit (.string [118, 97, 108, 117, 101, 32, 111, 117, 116, 32, 111, 102, 32, 114, 97, 110, 103, 101])]))
def laid_strconv_ErrSyntax {H : Type} : DataW H := .iface "*errors.errorString" (.ptr (.agg [.lit (.string [105, 110, 118, 97, 108, 105, 100, 32, 115, 121, 110, 116, 97, 120])]))

/-- 'dispatcherlaw02.TreeCalls': WHATEVER THE INPUT: true; the input reads as it did. -/
def treeCallsSpec : ChangeSpec := { name := "treeCalls", fn := fun _ => fun
  | [d1, d2] => { results := [.lit (.bool true)], args := [d1, d2] }
  | _ => none }
def treeCallsRow : OpenClaim := { program := "ytjfoinikdifgmaadoor", sum := "9c7e7e8869ed63aab22bb07983f915b25d621a105a98d0fb1858aaa7e2729054", func := "dispatcher/dispatcherlaw02.TreeCalls", spec := "treeCalls", named := ["dispatcher/tree.args", "dispatcher/tree.calls"], apart := false, laid := [("dispatcher/tree.calls", laid_dispatcher_tree_calls), ("dispatcher/tree.args", laid_dispatcher_tree_args)] }
def TreeCallsSaid : Prop := treeCallsRow.holds Tryd.pinned (OpenSpec.ofChange treeCallsSpec)

/-- ITS FALSE NEIGHBOUR: 'it returns false'. Refute it at one input. -/
def treeCallsWrong : ChangeSpec := { name := "treeCalls", fn := fun _ => fun
  | [d1, d2] => { results := [.lit (.bool false)], args := [d1, d2] }
  | _ => none }
def TreeCallsWrongFalsely : Prop := treeCallsRow.holds Tryd.pinned (OpenSpec.ofChange treeCallsWrong)

/-- 'dispatcherlaw01.ScanWords': WHATEVER THE INPUT: true; the input reads as it did. -/
def scanWordsSpec : ChangeSpec := { name := "scanWords", fn := fun _ => fun
  | [d] => { results := [.lit (.bool true)], args := [d] }
  | _ => none }
def scanWordsRow : OpenClaim := { program := "ytjfoinikdifgmaadoor", sum := "9c7e7e8869ed63aab22bb07983f915b25d621a105a98d0fb1858aaa7e2729054", func := "dispatcher/dispatcherlaw01.ScanWords", spec := "scanWords", unfollowed := true, recurses := true, named := ["dispatcher/scan.words", "dispatcher/scan.signs"], apart := false, laid := [("dispatcher/scan.words", laid_dispatcher_scan_words), ("dispatcher/scan.signs", laid_dispatcher_scan_signs)] }
def ScanWordsSaid : Prop := scanWordsRow.holds Tryd.pinned (OpenSpec.ofChange scanWordsSpec)

/-- ITS FALSE NEIGHBOUR: 'it returns false'. Refute it at one input. -/
def scanWordsWrong : ChangeSpec := { name := "scanWords", fn := fun _ => fun
  | [d] => { results := [.lit (.bool false)], args := [d] }
  | _ => none }
def ScanWordsWrongFalsely : Prop := scanWordsRow.holds Tryd.pinned (OpenSpec.ofChange scanWordsWrong)

/-- 'dispatcherlaw01.ScanTells': WHATEVER THE INPUT: true; the input reads as it did. -/
def scanTellsSpec : ChangeSpec := { name := "scanTells", fn := fun _ => fun
  | [d] => { results := [.lit (.bool true)], args := [d] }
  | _ => none }
def scanTellsRow : OpenClaim := { program := "ytjfoinikdifgmaadoor", sum := "9c7e7e8869ed63aab22bb07983f915b25d621a105a98d0fb1858aaa7e2729054", func := "dispatcher/dispatcherlaw01.ScanTells", spec := "scanTells", inPlace := ["internal/bytealg.IndexByteString", "internal/bytealg.CountString", "internal/bytealg.IndexString"], unfollowed := true, recurses := true, named := ["internal/bytealg.MaxLen", "dispatcher/scan.signs", "dispatcher/scan.words", "strconv.ErrSyntax", "strconv.ErrRange", "internal/strconv.uint64pow10", "math/bits.deBruijn32tab", "math/bits.deBruijn64tab"], apart := false, laid := [("math/bits.deBruijn32tab", laid_math_bits_deBruijn32tab), ("math/bits.deBruijn64tab", laid_math_bits_deBruijn64tab), ("internal/strconv.uint64pow10", laid_internal_strconv_uint64pow10), ("strconv.ErrRange", laid_strconv_ErrRange), ("strconv.ErrSyntax", laid_strconv_ErrSyntax), ("dispatcher/scan.words", laid_dispatcher_scan_words), ("dispatcher/scan.signs", laid_dispatcher_scan_signs)] }
def ScanTellsSaid : Prop := scanTellsRow.holds Tryd.pinned (OpenSpec.ofChange scanTellsSpec)

/-- ITS FALSE NEIGHBOUR: 'it returns false'. Refute it at one input. -/
def scanTellsWrong : ChangeSpec := { name := "scanTells", fn := fun _ => fun
  | [d] => { results := [.lit (.bool false)], args := [d] }
  | _ => none }
def ScanTellsWrongFalsely : Prop := scanTellsRow.holds Tryd.pinned (OpenSpec.ofChange scanTellsWrong)

/-- 'dispatcherlaw01.ScanPlaces': WHATEVER THE INPUT: true; the input reads as it did. -/
def scanPlacesSpec : ChangeSpec := { name := "scanPlaces", fn := fun _ => fun
  | [d] => { results := [.lit (.bool true)], args := [d] }
  | _ => none }
def scanPlacesRow : OpenClaim := { program := "ytjfoinikdifgmaadoor", sum := "9c7e7e8869ed63aab22bb07983f915b25d621a105a98d0fb1858aaa7e2729054", func := "dispatcher/dispatcherlaw01.ScanPlaces", spec := "scanPlaces", inPlace := ["internal/bytealg.IndexByteString", "internal/bytealg.CountString", "internal/bytealg.IndexString"], unfollowed := true, recurses := true, named := ["internal/bytealg.MaxLen", "dispatcher/scan.signs", "dispatcher/scan.words", "strconv.ErrSyntax", "strconv.ErrRange", "internal/strconv.uint64pow10", "math/bits.deBruijn32tab", "math/bits.deBruijn64tab"], apart := false, laid := [("math/bits.deBruijn32tab", laid_math_bits_deBruijn32tab), ("math/bits.deBruijn64tab", laid_math_bits_deBruijn64tab), ("internal/strconv.uint64pow10", laid_internal_strconv_uint64pow10), ("strconv.ErrRange", laid_strconv_ErrRange), ("strconv.ErrSyntax", laid_strconv_ErrSyntax), ("dispatcher/scan.words", laid_dispatcher_scan_words), ("dispatcher/scan.signs", laid_dispatcher_scan_signs)] }
def ScanPlacesSaid : Prop := scanPlacesRow.holds Tryd.pinned (OpenSpec.ofChange scanPlacesSpec)

/-- ITS FALSE NEIGHBOUR: 'it returns false'. Refute it at one input. -/
def scanPlacesWrong : ChangeSpec := { name := "scanPlaces", fn := fun _ => fun
  | [d] => { results := [.lit (.bool false)], args := [d] }
  | _ => none }
def ScanPlacesWrongFalsely : Prop := scanPlacesRow.holds Tryd.pinned (OpenSpec.ofChange scanPlacesWrong)

/-- 'dispatcherlaw01.ScanBlanks': WHATEVER THE INPUT: true; the input reads as it did. -/
def scanBlanksSpec : ChangeSpec := { name := "scanBlanks", fn := fun _ => fun
  | [d1, d2, d3] => { results := [.lit (.bool true)], args := [d1, d2, d3] }
  | _ => none }
def scanBlanksRow : OpenClaim := { program := "ytjfoinikdifgmaadoor", sum := "9c7e7e8869ed63aab22bb07983f915b25d621a105a98d0fb1858aaa7e2729054", func := "dispatcher/dispatcherlaw01.ScanBlanks", spec := "scanBlanks", inPlace := ["internal/bytealg.IndexByteString", "internal/bytealg.CountString", "internal/bytealg.IndexString"], unfollowed := true, recurses := true, named := ["internal/bytealg.MaxLen", "dispatcher/scan.signs", "dispatcher/scan.words", "strconv.ErrSyntax", "strconv.ErrRange", "internal/strconv.uint64pow10", "math/bits.deBruijn32tab", "math/bits.deBruijn64tab"], apart := false, laid := [("math/bits.deBruijn32tab", laid_math_bits_deBruijn32tab), ("math/bits.deBruijn64tab", laid_math_bits_deBruijn64tab), ("internal/strconv.uint64pow10", laid_internal_strconv_uint64pow10), ("strconv.ErrRange", laid_strconv_ErrRange), ("strconv.ErrSyntax", laid_strconv_ErrSyntax), ("dispatcher/scan.words", laid_dispatcher_scan_words), ("dispatcher/scan.signs", laid_dispatcher_scan_signs)] }
def ScanBlanksSaid : Prop := scanBlanksRow.holds Tryd.pinned (OpenSpec.ofChange scanBlanksSpec)

/-- ITS FALSE NEIGHBOUR: 'it returns false'. Refute it at one input. -/
def scanBlanksWrong : ChangeSpec := { name := "scanBlanks", fn := fun _ => fun
  | [d1, d2, d3] => { results := [.lit (.bool false)], args := [d1, d2, d3] }
  | _ => none }
def ScanBlanksWrongFalsely : Prop := scanBlanksRow.holds Tryd.pinned (OpenSpec.ofChange scanBlanksWrong)

/-- 'dispatcherlaw01.ScanKinds': WHATEVER THE INPUT: true; the input reads as it did. -/
def scanKindsSpec : ChangeSpec := { name := "scanKinds", fn := fun _ => fun
  | [d1, d2] => { results := [.lit (.bool true)], args := [d1, d2] }
  | _ => none }
def scanKindsRow : OpenClaim := { program := "ytjfoinikdifgmaadoor", sum := "9c7e7e8869ed63aab22bb07983f915b25d621a105a98d0fb1858aaa7e2729054", func := "dispatcher/dispatcherlaw01.ScanKinds", spec := "scanKinds", inPlace := ["internal/bytealg.IndexByteString", "internal/bytealg.CountString", "internal/bytealg.IndexString"], unfollowed := true, recurses := true, named := ["internal/bytealg.MaxLen", "dispatcher/scan.signs", "dispatcher/scan.words", "strconv.ErrSyntax", "strconv.ErrRange", "internal/strconv.uint64pow10", "math/bits.deBruijn32tab", "math/bits.deBruijn64tab"], apart := false, laid := [("math/bits.deBruijn32tab", laid_math_bits_deBruijn32tab), ("math/bits.deBruijn64tab", laid_math_bits_deBruijn64tab), ("internal/strconv.uint64pow10", laid_internal_strconv_uint64pow10), ("strconv.ErrRange", laid_strconv_ErrRange), ("strconv.ErrSyntax", laid_strconv_ErrSyntax), ("dispatcher/scan.words", laid_dispatcher_scan_words), ("dispatcher/scan.signs", laid_dispatcher_scan_signs)] }
def ScanKindsSaid : Prop := scanKindsRow.holds Tryd.pinned (OpenSpec.ofChange scanKindsSpec)

/-- ITS FALSE NEIGHBOUR: 'it returns false'. Refute it at one input. -/
def scanKindsWrong : ChangeSpec := { name := "scanKinds", fn := fun _ => fun
  | [d1, d2] => { results := [.lit (.bool false)], args := [d1, d2] }
  | _ => none }
def ScanKindsWrongFalsely : Prop := scanKindsRow.holds Tryd.pinned (OpenSpec.ofChange scanKindsWrong)

/-- 'dispatcherlaw01.ScanBack': WHATEVER THE INPUT: true; the input reads as it did. -/
def scanBackSpec : ChangeSpec := { name := "scanBack", fn := fun _ => fun
  | [d] => { results := [.lit (.bool true)], args := [d] }
  | _ => none }
def scanBackRow : OpenClaim := { program := "ytjfoinikdifgmaadoor", sum := "9c7e7e8869ed63aab22bb07983f915b25d621a105a98d0fb1858aaa7e2729054", func := "dispatcher/dispatcherlaw01.ScanBack", spec := "scanBack", inPlace := ["internal/bytealg.IndexByteString", "internal/bytealg.CountString", "internal/bytealg.IndexString", "internal/abi.NoEscape"], unfollowed := true, recurses := true, named := ["internal/bytealg.MaxLen", "dispatcher/scan.signs", "dispatcher/scan.words", "strconv.ErrSyntax", "strconv.ErrRange", "internal/strconv.uint64pow10", "math/bits.deBruijn32tab", "math/bits.deBruijn64tab"], apart := false, laid := [("math/bits.deBruijn32tab", laid_math_bits_deBruijn32tab), ("math/bits.deBruijn64tab", laid_math_bits_deBruijn64tab), ("internal/strconv.uint64pow10", laid_internal_strconv_uint64pow10), ("strconv.ErrRange", laid_strconv_ErrRange), ("strconv.ErrSyntax", laid_strconv_ErrSyntax), ("dispatcher/scan.words", laid_dispatcher_scan_words), ("dispatcher/scan.signs", laid_dispatcher_scan_signs)] }
def ScanBackSaid : Prop := scanBackRow.holds Tryd.pinned (OpenSpec.ofChange scanBackSpec)

/-- ITS FALSE NEIGHBOUR: 'it returns false'. Refute it at one input. -/
def scanBackWrong : ChangeSpec := { name := "scanBack", fn := fun _ => fun
  | [d] => { results := [.lit (.bool false)], args := [d] }
  | _ => none }
def ScanBackWrongFalsely : Prop := scanBackRow.holds Tryd.pinned (OpenSpec.ofChange scanBackWrong)

/- THE SECOND FORM. 'bulk': how many values and letters a reading holds, each counted each time it is reached (what is shared counts as often as it is met; a slice's spare places count too). A statement '..UptoSaid' is the law's where the arguments, and the package variables that the reading takes, are together of bulk at most 1048576: NARROWER than '..Said'. Prove '..Said' where nothing that the law and all that it calls make is longer than what came in: it says more and counts as full. Else prove '..UptoSaid'. A law counts once. -/
mutual
def uptoBulk {H : Type} : DataW H → Nat
  | .lit (.string bytes) => bytes.length + 1
  | .lit _ => 1
  | .nil => 1
  | .ptr d => uptoBulk d + 1
  | .slice elems spare => uptoBulkAll elems + uptoBulkAll spare + 1
  | .agg parts => uptoBulkAll parts + 1
  | .iface _ d => uptoBulk d + 1
  | .map entries => uptoBulkEntries entries + 1
  | .held _ => 1
def uptoBulkAll {H : Type} : List (DataW H) → Nat
  | [] => 0
  | d :: r => uptoBulk d + uptoBulkAll r
def uptoBulkEntries {H : Type} : List (Lit × DataW H) → Nat
  | [] => 0
  | x :: r => uptoBulkEntry x + uptoBulkEntries r
def uptoBulkEntry {H : Type} : Lit × DataW H → Nat
  | (.string bytes, d) => bytes.length + uptoBulk d + 1
  | (_, d) => uptoBulk d + 1
 end
def uptoSmall : (H : Type) → List (DataW H) → Bool := fun _ ds => decide (uptoBulkAll ds ≤ 1048576)
def OpenSpec.upto (s : _root_.Go.ChangeSpec) : _root_.Go.OpenSpec := { _root_.Go.OpenSpec.ofChange s with cond := some uptoSmall }

/-- 'dispatcherlaw02.TreeCalls', WHERE WHAT IT READS IS OF BULK AT MOST 1048576: true; the input reads as it did. -/
def treeCallsUptoRow : OpenClaim := { program := "ytjfoinikdifgmaadoor", sum := "9c7e7e8869ed63aab22bb07983f915b25d621a105a98d0fb1858aaa7e2729054", func := "dispatcher/dispatcherlaw02.TreeCalls", spec := "treeCalls", named := ["dispatcher/tree.args", "dispatcher/tree.calls"], apart := false, laid := [("dispatcher/tree.calls", laid_dispatcher_tree_calls), ("dispatcher/tree.args", laid_dispatcher_tree_args)], narrowed := true }
def TreeCallsUptoSaid : Prop := treeCallsUptoRow.holds Tryd.pinned (OpenSpec.upto treeCallsSpec)

/-- 'dispatcherlaw01.ScanWords', WHERE WHAT IT READS IS OF BULK AT MOST 1048576: true; the input reads as it did. -/
def scanWordsUptoRow : OpenClaim := { program := "ytjfoinikdifgmaadoor", sum := "9c7e7e8869ed63aab22bb07983f915b25d621a105a98d0fb1858aaa7e2729054", func := "dispatcher/dispatcherlaw01.ScanWords", spec := "scanWords", unfollowed := true, recurses := true, named := ["dispatcher/scan.words", "dispatcher/scan.signs"], apart := false, laid := [("dispatcher/scan.words", laid_dispatcher_scan_words), ("dispatcher/scan.signs", laid_dispatcher_scan_signs)], narrowed := true }
def ScanWordsUptoSaid : Prop := scanWordsUptoRow.holds Tryd.pinned (OpenSpec.upto scanWordsSpec)

/-- 'dispatcherlaw01.ScanTells', WHERE WHAT IT READS IS OF BULK AT MOST 1048576: true; the input reads as it did. -/
def scanTellsUptoRow : OpenClaim := { program := "ytjfoinikdifgmaadoor", sum := "9c7e7e8869ed63aab22bb07983f915b25d621a105a98d0fb1858aaa7e2729054", func := "dispatcher/dispatcherlaw01.ScanTells", spec := "scanTells", inPlace := ["internal/bytealg.IndexByteString", "internal/bytealg.CountString", "internal/bytealg.IndexString"], unfollowed := true, recurses := true, named := ["internal/bytealg.MaxLen", "dispatcher/scan.signs", "dispatcher/scan.words", "strconv.ErrSyntax", "strconv.ErrRange", "internal/strconv.uint64pow10", "math/bits.deBruijn32tab", "math/bits.deBruijn64tab"], apart := false, laid := [("math/bits.deBruijn32tab", laid_math_bits_deBruijn32tab), ("math/bits.deBruijn64tab", laid_math_bits_deBruijn64tab), ("internal/strconv.uint64pow10", laid_internal_strconv_uint64pow10), ("strconv.ErrRange", laid_strconv_ErrRange), ("strconv.ErrSyntax", laid_strconv_ErrSyntax), ("dispatcher/scan.words", laid_dispatcher_scan_words), ("dispatcher/scan.signs", laid_dispatcher_scan_signs)], narrowed := true }
def ScanTellsUptoSaid : Prop := scanTellsUptoRow.holds Tryd.pinned (OpenSpec.upto scanTellsSpec)

/-- 'dispatcherlaw01.ScanPlaces', WHERE WHAT IT READS IS OF BULK AT MOST 1048576: true; the input reads as it did. -/
def scanPlacesUptoRow : OpenClaim := { program := "ytjfoinikdifgmaadoor", sum := "9c7e7e8869ed63aab22bb07983f915b25d621a105a98d0fb1858aaa7e2729054", func := "dispatcher/dispatcherlaw01.ScanPlaces", spec := "scanPlaces", inPlace := ["internal/bytealg.IndexByteString", "internal/bytealg.CountString", "internal/bytealg.IndexString"], unfollowed := true, recurses := true, named := ["internal/bytealg.MaxLen", "dispatcher/scan.signs", "dispatcher/scan.words", "strconv.ErrSyntax", "strconv.ErrRange", "internal/strconv.uint64pow10", "math/bits.deBruijn32tab", "math/bits.deBruijn64tab"], apart := false, laid := [("math/bits.deBruijn32tab", laid_math_bits_deBruijn32tab), ("math/bits.deBruijn64tab", laid_math_bits_deBruijn64tab), ("internal/strconv.uint64pow10", laid_internal_strconv_uint64pow10), ("strconv.ErrRange", laid_strconv_ErrRange), ("strconv.ErrSyntax", laid_strconv_ErrSyntax), ("dispatcher/scan.words", laid_dispatcher_scan_words), ("dispatcher/scan.signs", laid_dispatcher_scan_signs)], narrowed := true }
def ScanPlacesUptoSaid : Prop := scanPlacesUptoRow.holds Tryd.pinned (OpenSpec.upto scanPlacesSpec)

/-- 'dispatcherlaw01.ScanBlanks', WHERE WHAT IT READS IS OF BULK AT MOST 1048576: true; the input reads as it did. -/
def scanBlanksUptoRow : OpenClaim := { program := "ytjfoinikdifgmaadoor", sum := "9c7e7e8869ed63aab22bb07983f915b25d621a105a98d0fb1858aaa7e2729054", func := "dispatcher/dispatcherlaw01.ScanBlanks", spec := "scanBlanks", inPlace := ["internal/bytealg.IndexByteString", "internal/bytealg.CountString", "internal/bytealg.IndexString"], unfollowed := true, recurses := true, named := ["internal/bytealg.MaxLen", "dispatcher/scan.signs", "dispatcher/scan.words", "strconv.ErrSyntax", "strconv.ErrRange", "internal/strconv.uint64pow10", "math/bits.deBruijn32tab", "math/bits.deBruijn64tab"], apart := false, laid := [("math/bits.deBruijn32tab", laid_math_bits_deBruijn32tab), ("math/bits.deBruijn64tab", laid_math_bits_deBruijn64tab), ("internal/strconv.uint64pow10", laid_internal_strconv_uint64pow10), ("strconv.ErrRange", laid_strconv_ErrRange), ("strconv.ErrSyntax", laid_strconv_ErrSyntax), ("dispatcher/scan.words", laid_dispatcher_scan_words), ("dispatcher/scan.signs", laid_dispatcher_scan_signs)], narrowed := true }
def ScanBlanksUptoSaid : Prop := scanBlanksUptoRow.holds Tryd.pinned (OpenSpec.upto scanBlanksSpec)

/-- 'dispatcherlaw01.ScanKinds', WHERE WHAT IT READS IS OF BULK AT MOST 1048576: true; the input reads as it did. -/
def scanKindsUptoRow : OpenClaim := { program := "ytjfoinikdifgmaadoor", sum := "9c7e7e8869ed63aab22bb07983f915b25d621a105a98d0fb1858aaa7e2729054", func := "dispatcher/dispatcherlaw01.ScanKinds", spec := "scanKinds", inPlace := ["internal/bytealg.IndexByteString", "internal/bytealg.CountString", "internal/bytealg.IndexString"], unfollowed := true, recurses := true, named := ["internal/bytealg.MaxLen", "dispatcher/scan.signs", "dispatcher/scan.words", "strconv.ErrSyntax", "strconv.ErrRange", "internal/strconv.uint64pow10", "math/bits.deBruijn32tab", "math/bits.deBruijn64tab"], apart := false, laid := [("math/bits.deBruijn32tab", laid_math_bits_deBruijn32tab), ("math/bits.deBruijn64tab", laid_math_bits_deBruijn64tab), ("internal/strconv.uint64pow10", laid_internal_strconv_uint64pow10), ("strconv.ErrRange", laid_strconv_ErrRange), ("strconv.ErrSyntax", laid_strconv_ErrSyntax), ("dispatcher/scan.words", laid_dispatcher_scan_words), ("dispatcher/scan.signs", laid_dispatcher_scan_signs)], narrowed := true }
def ScanKindsUptoSaid : Prop := scanKindsUptoRow.holds Tryd.pinned (OpenSpec.upto scanKindsSpec)

/-- 'dispatcherlaw01.ScanBack', WHERE WHAT IT READS IS OF BULK AT MOST 1048576: true; the input reads as it did. -/
def scanBackUptoRow : OpenClaim := { program := "ytjfoinikdifgmaadoor", sum := "9c7e7e8869ed63aab22bb07983f915b25d621a105a98d0fb1858aaa7e2729054", func := "dispatcher/dispatcherlaw01.ScanBack", spec := "scanBack", inPlace := ["internal/bytealg.IndexByteString", "internal/bytealg.CountString", "internal/bytealg.IndexString", "internal/abi.NoEscape"], unfollowed := true, recurses := true, named := ["internal/bytealg.MaxLen", "dispatcher/scan.signs", "dispatcher/scan.words", "strconv.ErrSyntax", "strconv.ErrRange", "internal/strconv.uint64pow10", "math/bits.deBruijn32tab", "math/bits.deBruijn64tab"], apart := false, laid := [("math/bits.deBruijn32tab", laid_math_bits_deBruijn32tab), ("math/bits.deBruijn64tab", laid_math_bits_deBruijn64tab), ("internal/strconv.uint64pow10", laid_internal_strconv_uint64pow10), ("strconv.ErrRange", laid_strconv_ErrRange), ("strconv.ErrSyntax", laid_strconv_ErrSyntax), ("dispatcher/scan.words", laid_dispatcher_scan_words), ("dispatcher/scan.signs", laid_dispatcher_scan_signs)], narrowed := true }
def ScanBackUptoSaid : Prop := scanBackUptoRow.holds Tryd.pinned (OpenSpec.upto scanBackSpec)

end Rows
end Go.Proofs.YtjfoinikdifgmaaDoor
