-- WQPut (what this claim uses of them)
import Derived.Test.YtehgfpfmpkmdmaaDoorYv0
import Derived.Test.YtehgfpfmpkmdmaaDoorYv1
