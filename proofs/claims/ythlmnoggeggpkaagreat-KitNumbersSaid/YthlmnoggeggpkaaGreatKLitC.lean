/- KitNumbers' literal lists: a case for each operation (printed by wip/gen/numlit.py). -/
import Derived.Test.YthlmnoggeggpkaaGreatKLitB
namespace Go.Proofs.YthlmnoggeggpkaaGreat
open Go.RowKit Tx

def opsOf : Code → Array Oper | .seq (.region _ ops _) _ => ops | _ => #[]
noncomputable def litOps : Array Oper := opsOf (dropC 1 (Tryz.f4.body.getD .skip))
theorem lit_code : dropC 1 (Tryz.f4.body.getD .skip) = .seq (.region 1 litOps true) (dropC 2 (Tryz.f4.body.getD .skip)) := by kernel_rfl
theorem lit_size : litOps.size = 75 := by kernel_rfl
theorem lit_ok : litOk 261 litOps = true := by kernel_rfl
def litS : List LS := [
  .item (bA [65] 0 []),
  .items [bA [65] 0 []],
  .item (bA [65] 2000 []),
  .items [bA [65] 2000 []],
  .item (bA [65] 2001 []),
  .items [bA [65] 2001 []],
  .item (bA [65] (-1) []),
  .items [bA [65] (-1) []],
  .item (bA [97] 1 []),
  .items [bA [97] 1 []],
  .item (bA [66] 1 []),
  .item (bA [65] 1 []),
  .items [bA [66] 1 [], bA [65] 1 []],
  .item (bA [65] 1 []),
  .item (bA [65] 1 []),
  .items [bA [65] 1 [], bA [65] 1 []],
  .part ([65], 1),
  .parts [([65], 1)],
  .item (bA [65] 1 [([65], 1)]),
  .items [bA [65] 1 [([65], 1)]],
  .part ([65], 1),
  .parts [([65], 1)],
  .item (bA [65] 0 [([65], 1)]),
  .items [bA [65] 0 [([65], 1)]],
  .part ([90], 1),
  .parts [([90], 1)],
  .item (bA [65] 0 [([90], 1)]),
  .items [bA [65] 0 [([90], 1)]],
  .item (bA [65] 1 []),
  .part ([65], 0),
  .parts [([65], 0)],
  .item (bA [75] 0 [([65], 0)]),
  .items [bA [65] 1 [], bA [75] 0 [([65], 0)]],
  .item (bA [65] 1 []),
  .part ([65], 1073741825),
  .parts [([65], 1073741825)],
  .item (bA [75] 0 [([65], 1073741825)]),
  .items [bA [65] 1 [], bA [75] 0 [([65], 1073741825)]],
  .item (bA [65] 1 []),
  .part ([65], 1),
  .part ([65], 1),
  .parts [([65], 1), ([65], 1)],
  .item (bA [75] 0 [([65], 1), ([65], 1)]),
  .items [bA [65] 1 [], bA [75] 0 [([65], 1), ([65], 1)]],
  .item (bA [65] 1 []),
  .parts (List.replicate 9 ([], 0)),
  .item (bA [75] 0 (List.replicate 9 ([], 0))),
  .items [bA [65] 1 [], bA [75] 0 (List.replicate 9 ([], 0))],
  .part ([90], 1),
  .parts [([90], 1)],
  .item (bA [65] 0 [([90], 1)]),
  .part ([66], 1),
  .parts [([66], 1)],
  .item (bA [66] 0 [([66], 1)]),
  .items [bA [65] 0 [([90], 1)], bA [66] 0 [([66], 1)]],
  .part ([76], 1),
  .parts [([76], 1)],
  .item (bA [75] 0 [([76], 1)]),
  .part ([75], 1),
  .parts [([75], 1)],
  .item (bA [76] 0 [([75], 1)]),
  .items [bA [75] 0 [([76], 1)], bA [76] 0 [([75], 1)]],
  .part ([66], 1),
  .parts [([66], 1)],
  .item (bA [65] 0 [([66], 1)]),
  .part ([67], 1),
  .parts [([67], 1)],
  .item (bA [66] 0 [([67], 1)]),
  .part ([66], 1),
  .parts [([66], 1)],
  .item (bA [67] 0 [([66], 1)]),
  .items [bA [65] 0 [([66], 1)], bA [66] 0 [([67], 1)], bA [67] 0 [([66], 1)]],
  .items (List.replicate 61 (bA [] 0 [])),
  .bad,
  .bad]
section
variable {w0 : World} {n : Nat} {listed : Array Bool} {a : Act} {w : World} {Q : Exit → Act → World → Prop}
theorem lit_case0 (h : LitI litOps litS 261 w0 (n + 1) listed a w) (hr : 0 ∈ Region.ready .any litOps listed) : wpOp Tryz.prog litOps Q 0 (LitI litOps litS 261 w0 n (listed.setIfInBounds 0 true)) a w := 
  lit_item0 lit_ok h hr [(0, .const (.string ⟨#[65]⟩))] [65] 0 (by kernel_rfl) (by kernel_rfl) (by kernel_rfl)
theorem lit_case1 (h : LitI litOps litS 261 w0 (n + 1) listed a w) (hr : 1 ∈ Region.ready .any litOps listed) : wpOp Tryz.prog litOps Q 1 (LitI litOps litS 261 w0 n (listed.setIfInBounds 1 true)) a w := 
  lit_items1 lit_ok h hr (bA [65] 0 []) 0 12 (by kernel_rfl) (by kernel_rfl) (by kernel_rfl) (by kernel_rfl) (by kernel_rfl)
theorem lit_case2 (h : LitI litOps litS 261 w0 (n + 1) listed a w) (hr : 2 ∈ Region.ready .any litOps listed) : wpOp Tryz.prog litOps Q 2 (LitI litOps litS 261 w0 n (listed.setIfInBounds 2 true)) a w := 
  lit_item0 lit_ok h hr [(0, .const (.string ⟨#[65]⟩)), (1, .const (.int .i64 2000))] [65] 2000 (by kernel_rfl) (by kernel_rfl) (by kernel_rfl)
theorem lit_case3 (h : LitI litOps litS 261 w0 (n + 1) listed a w) (hr : 3 ∈ Region.ready .any litOps listed) : wpOp Tryz.prog litOps Q 3 (LitI litOps litS 261 w0 n (listed.setIfInBounds 3 true)) a w := 
  lit_items1 lit_ok h hr (bA [65] 2000 []) 2 14 (by kernel_rfl) (by kernel_rfl) (by kernel_rfl) (by kernel_rfl) (by kernel_rfl)
theorem lit_case4 (h : LitI litOps litS 261 w0 (n + 1) listed a w) (hr : 4 ∈ Region.ready .any litOps listed) : wpOp Tryz.prog litOps Q 4 (LitI litOps litS 261 w0 n (listed.setIfInBounds 4 true)) a w := 
  lit_item0 lit_ok h hr [(0, .const (.string ⟨#[65]⟩)), (1, .const (.int .i64 2001))] [65] 2001 (by kernel_rfl) (by kernel_rfl) (by kernel_rfl)
theorem lit_case5 (h : LitI litOps litS 261 w0 (n + 1) listed a w) (hr : 5 ∈ Region.ready .any litOps listed) : wpOp Tryz.prog litOps Q 5 (LitI litOps litS 261 w0 n (listed.setIfInBounds 5 true)) a w := 
  lit_items1 lit_ok h hr (bA [65] 2001 []) 4 16 (by kernel_rfl) (by kernel_rfl) (by kernel_rfl) (by kernel_rfl) (by kernel_rfl)
theorem lit_case6 (h : LitI litOps litS 261 w0 (n + 1) listed a w) (hr : 6 ∈ Region.ready .any litOps listed) : wpOp Tryz.prog litOps Q 6 (LitI litOps litS 261 w0 n (listed.setIfInBounds 6 true)) a w := 
  lit_item0 lit_ok h hr [(0, .const (.string ⟨#[65]⟩)), (1, .const (.int .i64 (-1)))] [65] (-1) (by kernel_rfl) (by kernel_rfl) (by kernel_rfl)
theorem lit_case7 (h : LitI litOps litS 261 w0 (n + 1) listed a w) (hr : 7 ∈ Region.ready .any litOps listed) : wpOp Tryz.prog litOps Q 7 (LitI litOps litS 261 w0 n (listed.setIfInBounds 7 true)) a w := 
  lit_items1 lit_ok h hr (bA [65] (-1) []) 6 18 (by kernel_rfl) (by kernel_rfl) (by kernel_rfl) (by kernel_rfl) (by kernel_rfl)
theorem lit_case8 (h : LitI litOps litS 261 w0 (n + 1) listed a w) (hr : 8 ∈ Region.ready .any litOps listed) : wpOp Tryz.prog litOps Q 8 (LitI litOps litS 261 w0 n (listed.setIfInBounds 8 true)) a w := 
  lit_item0 lit_ok h hr [(0, .const (.string ⟨#[97]⟩)), (1, .const (.int .i64 1))] [97] 1 (by kernel_rfl) (by kernel_rfl) (by kernel_rfl)
theorem lit_case9 (h : LitI litOps litS 261 w0 (n + 1) listed a w) (hr : 9 ∈ Region.ready .any litOps listed) : wpOp Tryz.prog litOps Q 9 (LitI litOps litS 261 w0 n (listed.setIfInBounds 9 true)) a w := 
  lit_items1 lit_ok h hr (bA [97] 1 []) 8 20 (by kernel_rfl) (by kernel_rfl) (by kernel_rfl) (by kernel_rfl) (by kernel_rfl)
theorem lit_case10 (h : LitI litOps litS 261 w0 (n + 1) listed a w) (hr : 10 ∈ Region.ready .any litOps listed) : wpOp Tryz.prog litOps Q 10 (LitI litOps litS 261 w0 n (listed.setIfInBounds 10 true)) a w := 
  lit_item0 lit_ok h hr [(0, .const (.string ⟨#[66]⟩)), (1, .const (.int .i64 1))] [66] 1 (by kernel_rfl) (by kernel_rfl) (by kernel_rfl)
theorem lit_case11 (h : LitI litOps litS 261 w0 (n + 1) listed a w) (hr : 11 ∈ Region.ready .any litOps listed) : wpOp Tryz.prog litOps Q 11 (LitI litOps litS 261 w0 n (listed.setIfInBounds 11 true)) a w := 
  lit_item0 lit_ok h hr [(0, .const (.string ⟨#[65]⟩)), (1, .const (.int .i64 1))] [65] 1 (by kernel_rfl) (by kernel_rfl) (by kernel_rfl)
theorem lit_case12 (h : LitI litOps litS 261 w0 (n + 1) listed a w) (hr : 12 ∈ Region.ready .any litOps listed) : wpOp Tryz.prog litOps Q 12 (LitI litOps litS 261 w0 n (listed.setIfInBounds 12 true)) a w := 
  lit_items2 lit_ok h hr (bA [66] 1 []) (bA [65] 1 []) 10 22 11 23 (by kernel_rfl) (by kernel_rfl) (by kernel_rfl) (by kernel_rfl) (by kernel_rfl) (by kernel_rfl) (by kernel_rfl) (by kernel_rfl)
theorem lit_case13 (h : LitI litOps litS 261 w0 (n + 1) listed a w) (hr : 13 ∈ Region.ready .any litOps listed) : wpOp Tryz.prog litOps Q 13 (LitI litOps litS 261 w0 n (listed.setIfInBounds 13 true)) a w := 
  lit_item0 lit_ok h hr [(0, .const (.string ⟨#[65]⟩)), (1, .const (.int .i64 1))] [65] 1 (by kernel_rfl) (by kernel_rfl) (by kernel_rfl)
theorem lit_case14 (h : LitI litOps litS 261 w0 (n + 1) listed a w) (hr : 14 ∈ Region.ready .any litOps listed) : wpOp Tryz.prog litOps Q 14 (LitI litOps litS 261 w0 n (listed.setIfInBounds 14 true)) a w := 
  lit_item0 lit_ok h hr [(0, .const (.string ⟨#[65]⟩)), (1, .const (.int .i64 1))] [65] 1 (by kernel_rfl) (by kernel_rfl) (by kernel_rfl)
theorem lit_case15 (h : LitI litOps litS 261 w0 (n + 1) listed a w) (hr : 15 ∈ Region.ready .any litOps listed) : wpOp Tryz.prog litOps Q 15 (LitI litOps litS 261 w0 n (listed.setIfInBounds 15 true)) a w := 
  lit_items2 lit_ok h hr (bA [65] 1 []) (bA [65] 1 []) 13 25 14 26 (by kernel_rfl) (by kernel_rfl) (by kernel_rfl) (by kernel_rfl) (by kernel_rfl) (by kernel_rfl) (by kernel_rfl) (by kernel_rfl)
theorem lit_case16 (h : LitI litOps litS 261 w0 (n + 1) listed a w) (hr : 16 ∈ Region.ready .any litOps listed) : wpOp Tryz.prog litOps Q 16 (LitI litOps litS 261 w0 n (listed.setIfInBounds 16 true)) a w := 
  lit_part lit_ok h hr [(0, .const (.string ⟨#[65]⟩)), (1, .const (.int .i64 1))] ([65], 1) (by kernel_rfl) (by kernel_rfl) (by kernel_rfl)
theorem lit_case17 (h : LitI litOps litS 261 w0 (n + 1) listed a w) (hr : 17 ∈ Region.ready .any litOps listed) : wpOp Tryz.prog litOps Q 17 (LitI litOps litS 261 w0 n (listed.setIfInBounds 17 true)) a w := 
  lit_parts1 lit_ok h hr ([65], 1) 16 28 (by kernel_rfl) (by kernel_rfl) (by kernel_rfl) (by kernel_rfl) (by kernel_rfl)
theorem lit_case18 (h : LitI litOps litS 261 w0 (n + 1) listed a w) (hr : 18 ∈ Region.ready .any litOps listed) : wpOp Tryz.prog litOps Q 18 (LitI litOps litS 261 w0 n (listed.setIfInBounds 18 true)) a w := 
  lit_item1 lit_ok h hr [(0, .const (.string ⟨#[65]⟩)), (1, .const (.int .i64 1)), (2, .tmp 29)] [65] 1 [([65], 1)] 17 29 (fun v => [(0, .string ⟨#[65]⟩), (1, .int .i64 1), (2, v)]) (by kernel_rfl) (by kernel_rfl) (by kernel_rfl) (by kernel_rfl) rfl (fun _ _ _ => by kernel_rfl) (by kernel_rfl)
theorem lit_case19 (h : LitI litOps litS 261 w0 (n + 1) listed a w) (hr : 19 ∈ Region.ready .any litOps listed) : wpOp Tryz.prog litOps Q 19 (LitI litOps litS 261 w0 n (listed.setIfInBounds 19 true)) a w := 
  lit_items1 lit_ok h hr (bA [65] 1 [([65], 1)]) 18 30 (by kernel_rfl) (by kernel_rfl) (by kernel_rfl) (by kernel_rfl) (by kernel_rfl)
theorem lit_case20 (h : LitI litOps litS 261 w0 (n + 1) listed a w) (hr : 20 ∈ Region.ready .any litOps listed) : wpOp Tryz.prog litOps Q 20 (LitI litOps litS 261 w0 n (listed.setIfInBounds 20 true)) a w := 
  lit_part lit_ok h hr [(0, .const (.string ⟨#[65]⟩)), (1, .const (.int .i64 1))] ([65], 1) (by kernel_rfl) (by kernel_rfl) (by kernel_rfl)
theorem lit_case21 (h : LitI litOps litS 261 w0 (n + 1) listed a w) (hr : 21 ∈ Region.ready .any litOps listed) : wpOp Tryz.prog litOps Q 21 (LitI litOps litS 261 w0 n (listed.setIfInBounds 21 true)) a w := 
  lit_parts1 lit_ok h hr ([65], 1) 20 32 (by kernel_rfl) (by kernel_rfl) (by kernel_rfl) (by kernel_rfl) (by kernel_rfl)
theorem lit_case22 (h : LitI litOps litS 261 w0 (n + 1) listed a w) (hr : 22 ∈ Region.ready .any litOps listed) : wpOp Tryz.prog litOps Q 22 (LitI litOps litS 261 w0 n (listed.setIfInBounds 22 true)) a w := 
  lit_item1 lit_ok h hr [(0, .const (.string ⟨#[65]⟩)), (2, .tmp 33)] [65] 0 [([65], 1)] 21 33 (fun v => [(0, .string ⟨#[65]⟩), (2, v)]) (by kernel_rfl) (by kernel_rfl) (by kernel_rfl) (by kernel_rfl) rfl (fun _ _ _ => by kernel_rfl) (by kernel_rfl)
theorem lit_case23 (h : LitI litOps litS 261 w0 (n + 1) listed a w) (hr : 23 ∈ Region.ready .any litOps listed) : wpOp Tryz.prog litOps Q 23 (LitI litOps litS 261 w0 n (listed.setIfInBounds 23 true)) a w := 
  lit_items1 lit_ok h hr (bA [65] 0 [([65], 1)]) 22 34 (by kernel_rfl) (by kernel_rfl) (by kernel_rfl) (by kernel_rfl) (by kernel_rfl)
theorem lit_case24 (h : LitI litOps litS 261 w0 (n + 1) listed a w) (hr : 24 ∈ Region.ready .any litOps listed) : wpOp Tryz.prog litOps Q 24 (LitI litOps litS 261 w0 n (listed.setIfInBounds 24 true)) a w := 
  lit_part lit_ok h hr [(0, .const (.string ⟨#[90]⟩)), (1, .const (.int .i64 1))] ([90], 1) (by kernel_rfl) (by kernel_rfl) (by kernel_rfl)
theorem lit_case25 (h : LitI litOps litS 261 w0 (n + 1) listed a w) (hr : 25 ∈ Region.ready .any litOps listed) : wpOp Tryz.prog litOps Q 25 (LitI litOps litS 261 w0 n (listed.setIfInBounds 25 true)) a w := 
  lit_parts1 lit_ok h hr ([90], 1) 24 36 (by kernel_rfl) (by kernel_rfl) (by kernel_rfl) (by kernel_rfl) (by kernel_rfl)
theorem lit_case26 (h : LitI litOps litS 261 w0 (n + 1) listed a w) (hr : 26 ∈ Region.ready .any litOps listed) : wpOp Tryz.prog litOps Q 26 (LitI litOps litS 261 w0 n (listed.setIfInBounds 26 true)) a w := 
  lit_item1 lit_ok h hr [(0, .const (.string ⟨#[65]⟩)), (2, .tmp 37)] [65] 0 [([90], 1)] 25 37 (fun v => [(0, .string ⟨#[65]⟩), (2, v)]) (by kernel_rfl) (by kernel_rfl) (by kernel_rfl) (by kernel_rfl) rfl (fun _ _ _ => by kernel_rfl) (by kernel_rfl)
theorem lit_case27 (h : LitI litOps litS 261 w0 (n + 1) listed a w) (hr : 27 ∈ Region.ready .any litOps listed) : wpOp Tryz.prog litOps Q 27 (LitI litOps litS 261 w0 n (listed.setIfInBounds 27 true)) a w := 
  lit_items1 lit_ok h hr (bA [65] 0 [([90], 1)]) 26 38 (by kernel_rfl) (by kernel_rfl) (by kernel_rfl) (by kernel_rfl) (by kernel_rfl)
theorem lit_case28 (h : LitI litOps litS 261 w0 (n + 1) listed a w) (hr : 28 ∈ Region.ready .any litOps listed) : wpOp Tryz.prog litOps Q 28 (LitI litOps litS 261 w0 n (listed.setIfInBounds 28 true)) a w := 
  lit_item0 lit_ok h hr [(0, .const (.string ⟨#[65]⟩)), (1, .const (.int .i64 1))] [65] 1 (by kernel_rfl) (by kernel_rfl) (by kernel_rfl)
theorem lit_case29 (h : LitI litOps litS 261 w0 (n + 1) listed a w) (hr : 29 ∈ Region.ready .any litOps listed) : wpOp Tryz.prog litOps Q 29 (LitI litOps litS 261 w0 n (listed.setIfInBounds 29 true)) a w := 
  lit_part lit_ok h hr [(0, .const (.string ⟨#[65]⟩))] ([65], 0) (by kernel_rfl) (by kernel_rfl) (by kernel_rfl)
theorem lit_case30 (h : LitI litOps litS 261 w0 (n + 1) listed a w) (hr : 30 ∈ Region.ready .any litOps listed) : wpOp Tryz.prog litOps Q 30 (LitI litOps litS 261 w0 n (listed.setIfInBounds 30 true)) a w := 
  lit_parts1 lit_ok h hr ([65], 0) 29 41 (by kernel_rfl) (by kernel_rfl) (by kernel_rfl) (by kernel_rfl) (by kernel_rfl)
theorem lit_case31 (h : LitI litOps litS 261 w0 (n + 1) listed a w) (hr : 31 ∈ Region.ready .any litOps listed) : wpOp Tryz.prog litOps Q 31 (LitI litOps litS 261 w0 n (listed.setIfInBounds 31 true)) a w := 
  lit_item1 lit_ok h hr [(0, .const (.string ⟨#[75]⟩)), (2, .tmp 42)] [75] 0 [([65], 0)] 30 42 (fun v => [(0, .string ⟨#[75]⟩), (2, v)]) (by kernel_rfl) (by kernel_rfl) (by kernel_rfl) (by kernel_rfl) rfl (fun _ _ _ => by kernel_rfl) (by kernel_rfl)
theorem lit_case32 (h : LitI litOps litS 261 w0 (n + 1) listed a w) (hr : 32 ∈ Region.ready .any litOps listed) : wpOp Tryz.prog litOps Q 32 (LitI litOps litS 261 w0 n (listed.setIfInBounds 32 true)) a w := 
  lit_items2 lit_ok h hr (bA [65] 1 []) (bA [75] 0 [([65], 0)]) 28 40 31 43 (by kernel_rfl) (by kernel_rfl) (by kernel_rfl) (by kernel_rfl) (by kernel_rfl) (by kernel_rfl) (by kernel_rfl) (by kernel_rfl)
theorem lit_case33 (h : LitI litOps litS 261 w0 (n + 1) listed a w) (hr : 33 ∈ Region.ready .any litOps listed) : wpOp Tryz.prog litOps Q 33 (LitI litOps litS 261 w0 n (listed.setIfInBounds 33 true)) a w := 
  lit_item0 lit_ok h hr [(0, .const (.string ⟨#[65]⟩)), (1, .const (.int .i64 1))] [65] 1 (by kernel_rfl) (by kernel_rfl) (by kernel_rfl)
theorem lit_case34 (h : LitI litOps litS 261 w0 (n + 1) listed a w) (hr : 34 ∈ Region.ready .any litOps listed) : wpOp Tryz.prog litOps Q 34 (LitI litOps litS 261 w0 n (listed.setIfInBounds 34 true)) a w := 
  lit_part lit_ok h hr [(0, .const (.string ⟨#[65]⟩)), (1, .const (.int .i64 1073741825))] ([65], 1073741825) (by kernel_rfl) (by kernel_rfl) (by kernel_rfl)
theorem lit_case35 (h : LitI litOps litS 261 w0 (n + 1) listed a w) (hr : 35 ∈ Region.ready .any litOps listed) : wpOp Tryz.prog litOps Q 35 (LitI litOps litS 261 w0 n (listed.setIfInBounds 35 true)) a w := 
  lit_parts1 lit_ok h hr ([65], 1073741825) 34 46 (by kernel_rfl) (by kernel_rfl) (by kernel_rfl) (by kernel_rfl) (by kernel_rfl)
theorem lit_case36 (h : LitI litOps litS 261 w0 (n + 1) listed a w) (hr : 36 ∈ Region.ready .any litOps listed) : wpOp Tryz.prog litOps Q 36 (LitI litOps litS 261 w0 n (listed.setIfInBounds 36 true)) a w := 
  lit_item1 lit_ok h hr [(0, .const (.string ⟨#[75]⟩)), (2, .tmp 47)] [75] 0 [([65], 1073741825)] 35 47 (fun v => [(0, .string ⟨#[75]⟩), (2, v)]) (by kernel_rfl) (by kernel_rfl) (by kernel_rfl) (by kernel_rfl) rfl (fun _ _ _ => by kernel_rfl) (by kernel_rfl)
theorem lit_case37 (h : LitI litOps litS 261 w0 (n + 1) listed a w) (hr : 37 ∈ Region.ready .any litOps listed) : wpOp Tryz.prog litOps Q 37 (LitI litOps litS 261 w0 n (listed.setIfInBounds 37 true)) a w := 
  lit_items2 lit_ok h hr (bA [65] 1 []) (bA [75] 0 [([65], 1073741825)]) 33 45 36 48 (by kernel_rfl) (by kernel_rfl) (by kernel_rfl) (by kernel_rfl) (by kernel_rfl) (by kernel_rfl) (by kernel_rfl) (by kernel_rfl)
theorem lit_case38 (h : LitI litOps litS 261 w0 (n + 1) listed a w) (hr : 38 ∈ Region.ready .any litOps listed) : wpOp Tryz.prog litOps Q 38 (LitI litOps litS 261 w0 n (listed.setIfInBounds 38 true)) a w := 
  lit_item0 lit_ok h hr [(0, .const (.string ⟨#[65]⟩)), (1, .const (.int .i64 1))] [65] 1 (by kernel_rfl) (by kernel_rfl) (by kernel_rfl)
theorem lit_case39 (h : LitI litOps litS 261 w0 (n + 1) listed a w) (hr : 39 ∈ Region.ready .any litOps listed) : wpOp Tryz.prog litOps Q 39 (LitI litOps litS 261 w0 n (listed.setIfInBounds 39 true)) a w := 
  lit_part lit_ok h hr [(0, .const (.string ⟨#[65]⟩)), (1, .const (.int .i64 1))] ([65], 1) (by kernel_rfl) (by kernel_rfl) (by kernel_rfl)
theorem lit_case40 (h : LitI litOps litS 261 w0 (n + 1) listed a w) (hr : 40 ∈ Region.ready .any litOps listed) : wpOp Tryz.prog litOps Q 40 (LitI litOps litS 261 w0 n (listed.setIfInBounds 40 true)) a w := 
  lit_part lit_ok h hr [(0, .const (.string ⟨#[65]⟩)), (1, .const (.int .i64 1))] ([65], 1) (by kernel_rfl) (by kernel_rfl) (by kernel_rfl)
theorem lit_case41 (h : LitI litOps litS 261 w0 (n + 1) listed a w) (hr : 41 ∈ Region.ready .any litOps listed) : wpOp Tryz.prog litOps Q 41 (LitI litOps litS 261 w0 n (listed.setIfInBounds 41 true)) a w := 
  lit_parts2 lit_ok h hr ([65], 1) ([65], 1) 39 51 40 52 (by kernel_rfl) (by kernel_rfl) (by kernel_rfl) (by kernel_rfl) (by kernel_rfl) (by kernel_rfl) (by kernel_rfl) (by kernel_rfl)
theorem lit_case42 (h : LitI litOps litS 261 w0 (n + 1) listed a w) (hr : 42 ∈ Region.ready .any litOps listed) : wpOp Tryz.prog litOps Q 42 (LitI litOps litS 261 w0 n (listed.setIfInBounds 42 true)) a w := 
  lit_item1 lit_ok h hr [(0, .const (.string ⟨#[75]⟩)), (2, .tmp 53)] [75] 0 [([65], 1), ([65], 1)] 41 53 (fun v => [(0, .string ⟨#[75]⟩), (2, v)]) (by kernel_rfl) (by kernel_rfl) (by kernel_rfl) (by kernel_rfl) rfl (fun _ _ _ => by kernel_rfl) (by kernel_rfl)
theorem lit_case43 (h : LitI litOps litS 261 w0 (n + 1) listed a w) (hr : 43 ∈ Region.ready .any litOps listed) : wpOp Tryz.prog litOps Q 43 (LitI litOps litS 261 w0 n (listed.setIfInBounds 43 true)) a w := 
  lit_items2 lit_ok h hr (bA [65] 1 []) (bA [75] 0 [([65], 1), ([65], 1)]) 38 50 42 54 (by kernel_rfl) (by kernel_rfl) (by kernel_rfl) (by kernel_rfl) (by kernel_rfl) (by kernel_rfl) (by kernel_rfl) (by kernel_rfl)
theorem lit_case44 (h : LitI litOps litS 261 w0 (n + 1) listed a w) (hr : 44 ∈ Region.ready .any litOps listed) : wpOp Tryz.prog litOps Q 44 (LitI litOps litS 261 w0 n (listed.setIfInBounds 44 true)) a w := 
  lit_item0 lit_ok h hr [(0, .const (.string ⟨#[65]⟩)), (1, .const (.int .i64 1))] [65] 1 (by kernel_rfl) (by kernel_rfl) (by kernel_rfl)
theorem lit_case45 (h : LitI litOps litS 261 w0 (n + 1) listed a w) (hr : 45 ∈ Region.ready .any litOps listed) : wpOp Tryz.prog litOps Q 45 (LitI litOps litS 261 w0 n (listed.setIfInBounds 45 true)) a w := 
  lit_make9 lit_ok h hr (by kernel_rfl) (by kernel_rfl)
theorem lit_case46 (h : LitI litOps litS 261 w0 (n + 1) listed a w) (hr : 46 ∈ Region.ready .any litOps listed) : wpOp Tryz.prog litOps Q 46 (LitI litOps litS 261 w0 n (listed.setIfInBounds 46 true)) a w := 
  lit_item1 lit_ok h hr [(0, .const (.string ⟨#[75]⟩)), (2, .tmp 57)] [75] 0 (List.replicate 9 ([], 0)) 45 57 (fun v => [(0, .string ⟨#[75]⟩), (2, v)]) (by kernel_rfl) (by kernel_rfl) (by kernel_rfl) (by kernel_rfl) rfl (fun _ _ _ => by kernel_rfl) (by kernel_rfl)
theorem lit_case47 (h : LitI litOps litS 261 w0 (n + 1) listed a w) (hr : 47 ∈ Region.ready .any litOps listed) : wpOp Tryz.prog litOps Q 47 (LitI litOps litS 261 w0 n (listed.setIfInBounds 47 true)) a w := 
  lit_items2 lit_ok h hr (bA [65] 1 []) (bA [75] 0 (List.replicate 9 ([], 0))) 44 56 46 58 (by kernel_rfl) (by kernel_rfl) (by kernel_rfl) (by kernel_rfl) (by kernel_rfl) (by kernel_rfl) (by kernel_rfl) (by kernel_rfl)
theorem lit_case48 (h : LitI litOps litS 261 w0 (n + 1) listed a w) (hr : 48 ∈ Region.ready .any litOps listed) : wpOp Tryz.prog litOps Q 48 (LitI litOps litS 261 w0 n (listed.setIfInBounds 48 true)) a w := 
  lit_part lit_ok h hr [(0, .const (.string ⟨#[90]⟩)), (1, .const (.int .i64 1))] ([90], 1) (by kernel_rfl) (by kernel_rfl) (by kernel_rfl)
theorem lit_case49 (h : LitI litOps litS 261 w0 (n + 1) listed a w) (hr : 49 ∈ Region.ready .any litOps listed) : wpOp Tryz.prog litOps Q 49 (LitI litOps litS 261 w0 n (listed.setIfInBounds 49 true)) a w := 
  lit_parts1 lit_ok h hr ([90], 1) 48 60 (by kernel_rfl) (by kernel_rfl) (by kernel_rfl) (by kernel_rfl) (by kernel_rfl)
theorem lit_case50 (h : LitI litOps litS 261 w0 (n + 1) listed a w) (hr : 50 ∈ Region.ready .any litOps listed) : wpOp Tryz.prog litOps Q 50 (LitI litOps litS 261 w0 n (listed.setIfInBounds 50 true)) a w := 
  lit_item1 lit_ok h hr [(0, .const (.string ⟨#[65]⟩)), (2, .tmp 61)] [65] 0 [([90], 1)] 49 61 (fun v => [(0, .string ⟨#[65]⟩), (2, v)]) (by kernel_rfl) (by kernel_rfl) (by kernel_rfl) (by kernel_rfl) rfl (fun _ _ _ => by kernel_rfl) (by kernel_rfl)
theorem lit_case51 (h : LitI litOps litS 261 w0 (n + 1) listed a w) (hr : 51 ∈ Region.ready .any litOps listed) : wpOp Tryz.prog litOps Q 51 (LitI litOps litS 261 w0 n (listed.setIfInBounds 51 true)) a w := 
  lit_part lit_ok h hr [(0, .const (.string ⟨#[66]⟩)), (1, .const (.int .i64 1))] ([66], 1) (by kernel_rfl) (by kernel_rfl) (by kernel_rfl)
theorem lit_case52 (h : LitI litOps litS 261 w0 (n + 1) listed a w) (hr : 52 ∈ Region.ready .any litOps listed) : wpOp Tryz.prog litOps Q 52 (LitI litOps litS 261 w0 n (listed.setIfInBounds 52 true)) a w := 
  lit_parts1 lit_ok h hr ([66], 1) 51 63 (by kernel_rfl) (by kernel_rfl) (by kernel_rfl) (by kernel_rfl) (by kernel_rfl)
theorem lit_case53 (h : LitI litOps litS 261 w0 (n + 1) listed a w) (hr : 53 ∈ Region.ready .any litOps listed) : wpOp Tryz.prog litOps Q 53 (LitI litOps litS 261 w0 n (listed.setIfInBounds 53 true)) a w := 
  lit_item1 lit_ok h hr [(0, .const (.string ⟨#[66]⟩)), (2, .tmp 64)] [66] 0 [([66], 1)] 52 64 (fun v => [(0, .string ⟨#[66]⟩), (2, v)]) (by kernel_rfl) (by kernel_rfl) (by kernel_rfl) (by kernel_rfl) rfl (fun _ _ _ => by kernel_rfl) (by kernel_rfl)
theorem lit_case54 (h : LitI litOps litS 261 w0 (n + 1) listed a w) (hr : 54 ∈ Region.ready .any litOps listed) : wpOp Tryz.prog litOps Q 54 (LitI litOps litS 261 w0 n (listed.setIfInBounds 54 true)) a w := 
  lit_items2 lit_ok h hr (bA [65] 0 [([90], 1)]) (bA [66] 0 [([66], 1)]) 50 62 53 65 (by kernel_rfl) (by kernel_rfl) (by kernel_rfl) (by kernel_rfl) (by kernel_rfl) (by kernel_rfl) (by kernel_rfl) (by kernel_rfl)
theorem lit_case55 (h : LitI litOps litS 261 w0 (n + 1) listed a w) (hr : 55 ∈ Region.ready .any litOps listed) : wpOp Tryz.prog litOps Q 55 (LitI litOps litS 261 w0 n (listed.setIfInBounds 55 true)) a w := 
  lit_part lit_ok h hr [(0, .const (.string ⟨#[76]⟩)), (1, .const (.int .i64 1))] ([76], 1) (by kernel_rfl) (by kernel_rfl) (by kernel_rfl)
theorem lit_case56 (h : LitI litOps litS 261 w0 (n + 1) listed a w) (hr : 56 ∈ Region.ready .any litOps listed) : wpOp Tryz.prog litOps Q 56 (LitI litOps litS 261 w0 n (listed.setIfInBounds 56 true)) a w := 
  lit_parts1 lit_ok h hr ([76], 1) 55 67 (by kernel_rfl) (by kernel_rfl) (by kernel_rfl) (by kernel_rfl) (by kernel_rfl)
theorem lit_case57 (h : LitI litOps litS 261 w0 (n + 1) listed a w) (hr : 57 ∈ Region.ready .any litOps listed) : wpOp Tryz.prog litOps Q 57 (LitI litOps litS 261 w0 n (listed.setIfInBounds 57 true)) a w := 
  lit_item1 lit_ok h hr [(0, .const (.string ⟨#[75]⟩)), (2, .tmp 68)] [75] 0 [([76], 1)] 56 68 (fun v => [(0, .string ⟨#[75]⟩), (2, v)]) (by kernel_rfl) (by kernel_rfl) (by kernel_rfl) (by kernel_rfl) rfl (fun _ _ _ => by kernel_rfl) (by kernel_rfl)
theorem lit_case58 (h : LitI litOps litS 261 w0 (n + 1) listed a w) (hr : 58 ∈ Region.ready .any litOps listed) : wpOp Tryz.prog litOps Q 58 (LitI litOps litS 261 w0 n (listed.setIfInBounds 58 true)) a w := 
  lit_part lit_ok h hr [(0, .const (.string ⟨#[75]⟩)), (1, .const (.int .i64 1))] ([75], 1) (by kernel_rfl) (by kernel_rfl) (by kernel_rfl)
theorem lit_case59 (h : LitI litOps litS 261 w0 (n + 1) listed a w) (hr : 59 ∈ Region.ready .any litOps listed) : wpOp Tryz.prog litOps Q 59 (LitI litOps litS 261 w0 n (listed.setIfInBounds 59 true)) a w := 
  lit_parts1 lit_ok h hr ([75], 1) 58 70 (by kernel_rfl) (by kernel_rfl) (by kernel_rfl) (by kernel_rfl) (by kernel_rfl)
theorem lit_case60 (h : LitI litOps litS 261 w0 (n + 1) listed a w) (hr : 60 ∈ Region.ready .any litOps listed) : wpOp Tryz.prog litOps Q 60 (LitI litOps litS 261 w0 n (listed.setIfInBounds 60 true)) a w := 
  lit_item1 lit_ok h hr [(0, .const (.string ⟨#[76]⟩)), (2, .tmp 71)] [76] 0 [([75], 1)] 59 71 (fun v => [(0, .string ⟨#[76]⟩), (2, v)]) (by kernel_rfl) (by kernel_rfl) (by kernel_rfl) (by kernel_rfl) rfl (fun _ _ _ => by kernel_rfl) (by kernel_rfl)
theorem lit_case61 (h : LitI litOps litS 261 w0 (n + 1) listed a w) (hr : 61 ∈ Region.ready .any litOps listed) : wpOp Tryz.prog litOps Q 61 (LitI litOps litS 261 w0 n (listed.setIfInBounds 61 true)) a w := 
  lit_items2 lit_ok h hr (bA [75] 0 [([76], 1)]) (bA [76] 0 [([75], 1)]) 57 69 60 72 (by kernel_rfl) (by kernel_rfl) (by kernel_rfl) (by kernel_rfl) (by kernel_rfl) (by kernel_rfl) (by kernel_rfl) (by kernel_rfl)
theorem lit_case62 (h : LitI litOps litS 261 w0 (n + 1) listed a w) (hr : 62 ∈ Region.ready .any litOps listed) : wpOp Tryz.prog litOps Q 62 (LitI litOps litS 261 w0 n (listed.setIfInBounds 62 true)) a w := 
  lit_part lit_ok h hr [(0, .const (.string ⟨#[66]⟩)), (1, .const (.int .i64 1))] ([66], 1) (by kernel_rfl) (by kernel_rfl) (by kernel_rfl)
theorem lit_case63 (h : LitI litOps litS 261 w0 (n + 1) listed a w) (hr : 63 ∈ Region.ready .any litOps listed) : wpOp Tryz.prog litOps Q 63 (LitI litOps litS 261 w0 n (listed.setIfInBounds 63 true)) a w := 
  lit_parts1 lit_ok h hr ([66], 1) 62 74 (by kernel_rfl) (by kernel_rfl) (by kernel_rfl) (by kernel_rfl) (by kernel_rfl)
theorem lit_case64 (h : LitI litOps litS 261 w0 (n + 1) listed a w) (hr : 64 ∈ Region.ready .any litOps listed) : wpOp Tryz.prog litOps Q 64 (LitI litOps litS 261 w0 n (listed.setIfInBounds 64 true)) a w := 
  lit_item1 lit_ok h hr [(0, .const (.string ⟨#[65]⟩)), (2, .tmp 75)] [65] 0 [([66], 1)] 63 75 (fun v => [(0, .string ⟨#[65]⟩), (2, v)]) (by kernel_rfl) (by kernel_rfl) (by kernel_rfl) (by kernel_rfl) rfl (fun _ _ _ => by kernel_rfl) (by kernel_rfl)
theorem lit_case65 (h : LitI litOps litS 261 w0 (n + 1) listed a w) (hr : 65 ∈ Region.ready .any litOps listed) : wpOp Tryz.prog litOps Q 65 (LitI litOps litS 261 w0 n (listed.setIfInBounds 65 true)) a w := 
  lit_part lit_ok h hr [(0, .const (.string ⟨#[67]⟩)), (1, .const (.int .i64 1))] ([67], 1) (by kernel_rfl) (by kernel_rfl) (by kernel_rfl)
theorem lit_case66 (h : LitI litOps litS 261 w0 (n + 1) listed a w) (hr : 66 ∈ Region.ready .any litOps listed) : wpOp Tryz.prog litOps Q 66 (LitI litOps litS 261 w0 n (listed.setIfInBounds 66 true)) a w := 
  lit_parts1 lit_ok h hr ([67], 1) 65 77 (by kernel_rfl) (by kernel_rfl) (by kernel_rfl) (by kernel_rfl) (by kernel_rfl)
theorem lit_case67 (h : LitI litOps litS 261 w0 (n + 1) listed a w) (hr : 67 ∈ Region.ready .any litOps listed) : wpOp Tryz.prog litOps Q 67 (LitI litOps litS 261 w0 n (listed.setIfInBounds 67 true)) a w := 
  lit_item1 lit_ok h hr [(0, .const (.string ⟨#[66]⟩)), (2, .tmp 78)] [66] 0 [([67], 1)] 66 78 (fun v => [(0, .string ⟨#[66]⟩), (2, v)]) (by kernel_rfl) (by kernel_rfl) (by kernel_rfl) (by kernel_rfl) rfl (fun _ _ _ => by kernel_rfl) (by kernel_rfl)
theorem lit_case68 (h : LitI litOps litS 261 w0 (n + 1) listed a w) (hr : 68 ∈ Region.ready .any litOps listed) : wpOp Tryz.prog litOps Q 68 (LitI litOps litS 261 w0 n (listed.setIfInBounds 68 true)) a w := 
  lit_part lit_ok h hr [(0, .const (.string ⟨#[66]⟩)), (1, .const (.int .i64 1))] ([66], 1) (by kernel_rfl) (by kernel_rfl) (by kernel_rfl)
theorem lit_case69 (h : LitI litOps litS 261 w0 (n + 1) listed a w) (hr : 69 ∈ Region.ready .any litOps listed) : wpOp Tryz.prog litOps Q 69 (LitI litOps litS 261 w0 n (listed.setIfInBounds 69 true)) a w := 
  lit_parts1 lit_ok h hr ([66], 1) 68 80 (by kernel_rfl) (by kernel_rfl) (by kernel_rfl) (by kernel_rfl) (by kernel_rfl)
theorem lit_case70 (h : LitI litOps litS 261 w0 (n + 1) listed a w) (hr : 70 ∈ Region.ready .any litOps listed) : wpOp Tryz.prog litOps Q 70 (LitI litOps litS 261 w0 n (listed.setIfInBounds 70 true)) a w := 
  lit_item1 lit_ok h hr [(0, .const (.string ⟨#[67]⟩)), (2, .tmp 81)] [67] 0 [([66], 1)] 69 81 (fun v => [(0, .string ⟨#[67]⟩), (2, v)]) (by kernel_rfl) (by kernel_rfl) (by kernel_rfl) (by kernel_rfl) rfl (fun _ _ _ => by kernel_rfl) (by kernel_rfl)
theorem lit_case71 (h : LitI litOps litS 261 w0 (n + 1) listed a w) (hr : 71 ∈ Region.ready .any litOps listed) : wpOp Tryz.prog litOps Q 71 (LitI litOps litS 261 w0 n (listed.setIfInBounds 71 true)) a w := 
  lit_items3 lit_ok h hr (bA [65] 0 [([66], 1)]) (bA [66] 0 [([67], 1)]) (bA [67] 0 [([66], 1)]) 64 76 67 79 70 82 (by kernel_rfl) (by kernel_rfl) (by kernel_rfl) (by kernel_rfl) (by kernel_rfl) (by kernel_rfl) (by kernel_rfl) (by kernel_rfl) (by kernel_rfl) (by kernel_rfl) (by kernel_rfl)
theorem lit_case72 (h : LitI litOps litS 261 w0 (n + 1) listed a w) (hr : 72 ∈ Region.ready .any litOps listed) : wpOp Tryz.prog litOps Q 72 (LitI litOps litS 261 w0 n (listed.setIfInBounds 72 true)) a w := 
  lit_make61 lit_ok h hr (by kernel_rfl) (by kernel_rfl)
theorem lit_case73 (h : LitI litOps litS 261 w0 (n + 1) listed a w) (hr : 73 ∈ Region.ready .any litOps listed) : wpOp Tryz.prog litOps Q 73 (LitI litOps litS 261 w0 n (listed.setIfInBounds 73 true)) a w := by
  refine lit_bad lit_ok h hr [.const (.slice none 0 0), .tmp 13, .tmp 15, .tmp 17, .tmp 19, .tmp 21, .tmp 24, .tmp 27, .tmp 31, .tmp 35, .tmp 39, .tmp 44, .tmp 49, .tmp 55, .tmp 59, .tmp 66, .tmp 73, .tmp 83, .tmp 84] rfl (by kernel_rfl) (fun k hk => ?_) (by kernel_rfl)
  rcases (show k = 0 ∨ k = 1 ∨ k = 2 ∨ k = 3 ∨ k = 4 ∨ k = 5 ∨ k = 6 ∨ k = 7 ∨ k = 8 ∨ k = 9 ∨ k = 10 ∨ k = 11 ∨ k = 12 ∨ k = 13 ∨ k = 14 ∨ k = 15 ∨ k = 16 ∨ k = 17 ∨ k = 18 by omega) with rfl | rfl | rfl | rfl | rfl | rfl | rfl | rfl | rfl | rfl | rfl | rfl | rfl | rfl | rfl | rfl | rfl | rfl | rfl
  · exact ⟨[], MY.nil _ _⟩
  · exact h.arg hr 1 13 (by kernel_rfl) (by kernel_rfl) (.items (badL.getD 1 [])) (by kernel_rfl)
  · exact h.arg hr 3 15 (by kernel_rfl) (by kernel_rfl) (.items (badL.getD 2 [])) (by kernel_rfl)
  · exact h.arg hr 5 17 (by kernel_rfl) (by kernel_rfl) (.items (badL.getD 3 [])) (by kernel_rfl)
  · exact h.arg hr 7 19 (by kernel_rfl) (by kernel_rfl) (.items (badL.getD 4 [])) (by kernel_rfl)
  · exact h.arg hr 9 21 (by kernel_rfl) (by kernel_rfl) (.items (badL.getD 5 [])) (by kernel_rfl)
  · exact h.arg hr 12 24 (by kernel_rfl) (by kernel_rfl) (.items (badL.getD 6 [])) (by kernel_rfl)
  · exact h.arg hr 15 27 (by kernel_rfl) (by kernel_rfl) (.items (badL.getD 7 [])) (by kernel_rfl)
  · exact h.arg hr 19 31 (by kernel_rfl) (by kernel_rfl) (.items (badL.getD 8 [])) (by kernel_rfl)
  · exact h.arg hr 23 35 (by kernel_rfl) (by kernel_rfl) (.items (badL.getD 9 [])) (by kernel_rfl)
  · exact h.arg hr 27 39 (by kernel_rfl) (by kernel_rfl) (.items (badL.getD 10 [])) (by kernel_rfl)
  · exact h.arg hr 32 44 (by kernel_rfl) (by kernel_rfl) (.items (badL.getD 11 [])) (by kernel_rfl)
  · exact h.arg hr 37 49 (by kernel_rfl) (by kernel_rfl) (.items (badL.getD 12 [])) (by kernel_rfl)
  · exact h.arg hr 43 55 (by kernel_rfl) (by kernel_rfl) (.items (badL.getD 13 [])) (by kernel_rfl)
  · exact h.arg hr 47 59 (by kernel_rfl) (by kernel_rfl) (.items (badL.getD 14 [])) (by kernel_rfl)
  · exact h.arg hr 54 66 (by kernel_rfl) (by kernel_rfl) (.items (badL.getD 15 [])) (by kernel_rfl)
  · exact h.arg hr 61 73 (by kernel_rfl) (by kernel_rfl) (.items (badL.getD 16 [])) (by kernel_rfl)
  · exact h.arg hr 71 83 (by kernel_rfl) (by kernel_rfl) (.items (badL.getD 17 [])) (by kernel_rfl)
  · exact h.arg hr 72 84 (by kernel_rfl) (by kernel_rfl) (.items (badL.getD 18 [])) (by kernel_rfl)
theorem lit_case74 (h : LitI litOps litS 261 w0 (n + 1) listed a w) (hr : 74 ∈ Region.ready .any litOps listed) : wpOp Tryz.prog litOps Q 74 (LitI litOps litS 261 w0 n (listed.setIfInBounds 74 true)) a w := 
  lit_assign lit_ok h hr 73 85 (by kernel_rfl) (by kernel_rfl) (by kernel_rfl) (.bad) (by kernel_rfl) (by kernel_rfl)
/-- One operation done, whichever is ready. -/
theorem lit_step : ∀ (i : Nat), i < 75 → LitI litOps litS 261 w0 (n + 1) listed a w → i ∈ Region.ready .any litOps listed → wpOp Tryz.prog litOps Q i (LitI litOps litS 261 w0 n (listed.setIfInBounds i true)) a w
  | 0, _, h, hr => lit_case0 h hr
  | 1, _, h, hr => lit_case1 h hr
  | 2, _, h, hr => lit_case2 h hr
  | 3, _, h, hr => lit_case3 h hr
  | 4, _, h, hr => lit_case4 h hr
  | 5, _, h, hr => lit_case5 h hr
  | 6, _, h, hr => lit_case6 h hr
  | 7, _, h, hr => lit_case7 h hr
  | 8, _, h, hr => lit_case8 h hr
  | 9, _, h, hr => lit_case9 h hr
  | 10, _, h, hr => lit_case10 h hr
  | 11, _, h, hr => lit_case11 h hr
  | 12, _, h, hr => lit_case12 h hr
  | 13, _, h, hr => lit_case13 h hr
  | 14, _, h, hr => lit_case14 h hr
  | 15, _, h, hr => lit_case15 h hr
  | 16, _, h, hr => lit_case16 h hr
  | 17, _, h, hr => lit_case17 h hr
  | 18, _, h, hr => lit_case18 h hr
  | 19, _, h, hr => lit_case19 h hr
  | 20, _, h, hr => lit_case20 h hr
  | 21, _, h, hr => lit_case21 h hr
  | 22, _, h, hr => lit_case22 h hr
  | 23, _, h, hr => lit_case23 h hr
  | 24, _, h, hr => lit_case24 h hr
  | 25, _, h, hr => lit_case25 h hr
  | 26, _, h, hr => lit_case26 h hr
  | 27, _, h, hr => lit_case27 h hr
  | 28, _, h, hr => lit_case28 h hr
  | 29, _, h, hr => lit_case29 h hr
  | 30, _, h, hr => lit_case30 h hr
  | 31, _, h, hr => lit_case31 h hr
  | 32, _, h, hr => lit_case32 h hr
  | 33, _, h, hr => lit_case33 h hr
  | 34, _, h, hr => lit_case34 h hr
  | 35, _, h, hr => lit_case35 h hr
  | 36, _, h, hr => lit_case36 h hr
  | 37, _, h, hr => lit_case37 h hr
  | 38, _, h, hr => lit_case38 h hr
  | 39, _, h, hr => lit_case39 h hr
  | 40, _, h, hr => lit_case40 h hr
  | 41, _, h, hr => lit_case41 h hr
  | 42, _, h, hr => lit_case42 h hr
  | 43, _, h, hr => lit_case43 h hr
  | 44, _, h, hr => lit_case44 h hr
  | 45, _, h, hr => lit_case45 h hr
  | 46, _, h, hr => lit_case46 h hr
  | 47, _, h, hr => lit_case47 h hr
  | 48, _, h, hr => lit_case48 h hr
  | 49, _, h, hr => lit_case49 h hr
  | 50, _, h, hr => lit_case50 h hr
  | 51, _, h, hr => lit_case51 h hr
  | 52, _, h, hr => lit_case52 h hr
  | 53, _, h, hr => lit_case53 h hr
  | 54, _, h, hr => lit_case54 h hr
  | 55, _, h, hr => lit_case55 h hr
  | 56, _, h, hr => lit_case56 h hr
  | 57, _, h, hr => lit_case57 h hr
  | 58, _, h, hr => lit_case58 h hr
  | 59, _, h, hr => lit_case59 h hr
  | 60, _, h, hr => lit_case60 h hr
  | 61, _, h, hr => lit_case61 h hr
  | 62, _, h, hr => lit_case62 h hr
  | 63, _, h, hr => lit_case63 h hr
  | 64, _, h, hr => lit_case64 h hr
  | 65, _, h, hr => lit_case65 h hr
  | 66, _, h, hr => lit_case66 h hr
  | 67, _, h, hr => lit_case67 h hr
  | 68, _, h, hr => lit_case68 h hr
  | 69, _, h, hr => lit_case69 h hr
  | 70, _, h, hr => lit_case70 h hr
  | 71, _, h, hr => lit_case71 h hr
  | 72, _, h, hr => lit_case72 h hr
  | 73, _, h, hr => lit_case73 h hr
  | 74, _, h, hr => lit_case74 h hr
  | _ + 75, hi, _, _ => absurd hi (by omega)
end
end Go.Proofs.YthlmnoggeggpkaaGreat
